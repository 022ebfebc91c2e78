/-
  Copy of tags, over slices.Clone. Condition: none beside the map's own.
-/
import Derived.Maps.AppendAt
import Derived.WalkSpells
import Derived.Lib.SliceRun
import Derived.RangeFuncNested
import Derived.RangeFuncBound
import Derived.RangeFuncCalls
import Derived.RangeFuncLeaves
import Derived.Shelf.Abstract
import Derived.Shelf.RegionOpen
import Derived.OwnWalkIn
import Derived.TacticsInMore
import Derived.LoopNIn
import Derived.LoopIn
import Derived.StillTailTactics
import Derived.Test.YthjbnbimfpbccaaGreatDoorJ2


set_option linter.unusedVariables false
namespace Go.Proofs.YthjbnbimfpbccaaGreatDoor
open Go.ChangeShapes Go.WideShapes Go.ChangeAt Go.RowKit
theorem infoU64c : (Tryz.prog.info? 28).map (fun i => (i.zero, i.size, i.bytes)) = some (some (.int .u64 0), 1, 8) := by kernel_rfl
theorem own_empty (w : World) (e : TypeId) (size : Nat) : (w.alloc (.cells #[] e)).ownsRow w.heap.size e size (.slice (some ⟨w.heap.size, 0, none⟩) 0 0) 0 [] :=
  ⟨by simp, .inr ⟨w.heap.size, 0, #[], rfl, Nat.le_refl _, heap_alloc_new w _, Nat.le_refl _, Nat.zero_le _, by simp, by simp⟩⟩
theorem own_out {w : World} {base : Nat} {e : TypeId} {v : Value} {n : Nat} {xs : List Value} (h : w.ownsRow base e 1 v n xs) (hv : v ≠ .slice none 0 0) :
    ∃ (g c : Nat) (cs : Array Value), v = .slice (some ⟨g, 0, none⟩) n c ∧ n ≤ c ∧ base ≤ g ∧ At w g e cs ∧ ∀ k, k < xs.length → cs[k]? = xs[k]? := by
  obtain ⟨hl, ⟨h1, _⟩ | ⟨g, c, cs, h1, h2, h3, h4, h5, h6, h7⟩⟩ := h
  · exact (hv h1).elim
  · refine ⟨g, c, cs, h1, h4, h2, h3, fun k hk => ?_⟩
    rw [← h7, List.getElem?_take, if_pos (by omega)]
    simp
set_option maxRecDepth 100000 in
/-- slices.Clone of n words: a new slice over new memory. -/
theorem clone_any (w : World) (g n c : Nat) (cs : Array Value) (h : At w g 28 cs) (hn : n ≤ 16384) (hc : n ≤ c) (hcs : ∀ k, k < n → ∃ x : Nat, cs[k]? = some (.int .u64 x)) :
    Calls Tryz.prog 145 #[.slice (some ⟨g, 0, none⟩) n c] w fun r w' => ∃ (g' c' : Nat) (cs' : Array Value), r = .returned (.slice (some ⟨g', 0, none⟩) n c') ∧ n ≤ c' ∧ w.heap.size ≤ g' ∧ At w' g' 28 cs' ∧ (∀ k, k < n → cs'[k]? = cs[k]?) ∧ Fr [] w w' := by
  obtain ⟨i0, hi, hz0, hz1, hz2⟩ := info_parts infoU64c
  have hlen : n ≤ cs.size := by
    rcases Nat.eq_zero_or_pos n with e | e
    · omega
    · obtain ⟨x, hx⟩ := hcs (n - 1) (by omega)
      rcases Nat.lt_or_ge (n - 1) cs.size with h1 | h1
      · omega
      · rw [Array.getElem?_eq_none h1] at hx; cases hx
  have hcell := Lib.hid fun (W : World) (f : Fr [] w W) j u (hu : (cs.toList.take n)[j]? = some u) => show W.cell? ((⟨g, 0, none⟩ : Addr).add j) = some u by
    have hj : j < n := by
      rcases Nat.lt_or_ge j n with h1 | h1
      · exact h1
      · rw [List.getElem?_eq_none (by simp; omega)] at hu; cases hu
    rw [Go.WideShapes.add_plain, Nat.zero_add, (h.fr f (by simp)).cell j]
    rw [List.getElem?_take] at hu
    simpa [hj] using hu
  have hone : Hid (∀ u ∈ cs.toList.take n, u.oneCell' = true) := Lib.hid fun u hu => by
    obtain ⟨j, hj, e⟩ := List.getElem_of_mem hu
    have hjn : j < n := by simp at hj; omega
    obtain ⟨x, hx⟩ := hcs j hjn
    simp at e
    have : cs[j]? = some u := by rw [← e]; simp
    rw [this] at hx; injection hx with hx; subst hx; rfl
  have hl1 : Hid ((cs.toList.take n).length = n * 1) := Lib.hid (by simp; omega)
  have H := Lib.hid h
  have Hcs := Lib.hid hcs
  clear h hcs
  have heq := fun W : World => Lib.run_eql_slice_nil (P := Tryz.prog) W 177 28 (some ⟨g, 0, none⟩) n c 0 0 Tryz.underlying177
  simp only [Option.isNone_some] at heq
  go_enter Tryz.func145, Tryz.ntmps145
  have hown0 := Lib.hid (own_empty w 28 1)
  have hnews := Lib.hid (hcell.out (w.alloc (.cells #[] 28)) ((Fr.refl _ _).alloc _))
  go_wp2_with (at_builtin; refine wpList_append_own_at _ rfl (.tmp 5) (.tmp 6) 177 rfl w.heap.size 28 i0 (.int .u64 0) 1 8 Tryz.underlying177 hi hz0 hz1 hz2 rfl (by omega) (.slice (some ⟨w.heap.size, 0, none⟩) 0 0) 0 [] rfl hown0.out ⟨g, 0, none⟩ n c (cs.toList.take n) rfl hl1.out hnews.out hone.out (by unfold maxLen; omega) (by omega) (by simp) ?_; intro v1 w1 hown1 hg1 hnil hat1)
  go_ret
  obtain ⟨g', c', cs', e1, e2, e3, e4, e5⟩ := own_out hown1 (fun e => by have := hnil.1 e; simp at this)
  refine ⟨g', c', cs', by rw [← Nat.zero_add n]; exact congrArg Ending.returned e1, by omega, e3, e4, fun k hk => ?_, ?_⟩
  · rw [e5 k (by simp; omega)]
    simp [hk]
  · exact ((Fr.refl [] w).alloc _).trans (Fr.grown hg1) (by simp [Value.ownBlock])
theorem copy_nil (w : World) : Calls Tryz.prog 126 #[.pointer none] w fun r w' => r = .returned (.pointer none) ∧ w = w' := by
  go_enter Tryz.func126, Tryz.ntmps126
  go_wp2
  go_ret
  exact ⟨rfl, rfl⟩
theorem copy_any (w : World) (p g n : Nat) (f : Nat → Bool) (h : Tg w p g n f) :
    Calls Tryz.prog 126 #[.pointer (some ⟨p, 0, none⟩)] w fun r w' => ∃ p' g', r = .returned (.pointer (some ⟨p', 0, none⟩)) ∧ Tg w' p' g' n f ∧ w.heap.size ≤ p' ∧ w.heap.size ≤ g' ∧ Fr [] w w' := by
  obtain ⟨h1, h2, h3, c, cs, h4, h5, h6, h7⟩ := h
  have c0 := h5.cell 0
  have c1 := h5.cell 1
  simp only [List.getElem?_toArray, List.getElem?_cons_zero, List.getElem?_cons_succ] at c0 c1
  have C := Lib.hid fun (W : World) (hW : W.heap = w.heap) => clone_any W g ((n + 63) / 64) c cs (by unfold At; rw [hW]; exact h6) (by omega) h4 (fun k hk => ⟨_, h7 k hk⟩)
  have H5 := Lib.hid h5
  have H7 := Lib.hid h7
  have H3 := Lib.hid h3
  have hpl := h5.lt
  clear h5 h6 h7 h3
  go_enter Tryz.func126, Tryz.ntmps126
  go_wp2
  go_region_with (go_at_call 145; refine (C.out w.drew rfl).mono ?_; rintro e w1 ⟨g', c', cs', rfl, e2, e3, e4, e5, hf1⟩; have d0 := (H5.out.frh hf1 rfl (by simp)).cell 0; simp only [List.getElem?_toArray, List.getElem?_cons_zero] at d0)
  all_goals go_wp2
  all_goals go_ret
  all_goals
    have hlt := e4.lt
    have hs := hf1.size
    have hs : w.heap.size ≤ w1.heap.size := hs
    have e3 : w.heap.size ≤ g' := e3
    exact ⟨w1.heap.size, g', rfl, ⟨by omega, h2, H3.out, c', cs', e2, At.new _ _ _, e4.old _, fun k hk => (e5 k hk).trans (H7.out k hk)⟩, hs, e3, (Fr.hd (w := w) hf1 rfl rfl rfl rfl).alloc _⟩
end Go.Proofs.YthjbnbimfpbccaaGreatDoor
/-
  What the small functions of paint compute: a paint at block pp over a map of tags. Condition: at most 16384 granules.
-/



set_option linter.unusedVariables false
namespace Go.Proofs.YthjbnbimfpbccaaGreatDoor
open Go.ChangeShapes Go.WideShapes Go.ChangeAt Go.RowKit
def Pt (w : World) (pp p g n : Nat) (f : Nat → Bool) : Prop := At w pp 204 #[.pointer (some ⟨p, 0, none⟩)] ∧ Tg w p g n f ∧ pp ≠ p ∧ pp ≠ g ∧ n ≤ 16384
section
variable {w w' v : World} {pp p g n : Nat} {f f' : Nat → Bool} {S : List Nat}
theorem Pt.c (h : Pt w pp p g n f) : w.cell? ⟨pp, 0, none⟩ = some (.pointer (some ⟨p, 0, none⟩)) := h.1.cell 0
theorem Pt.fr (h : Pt w pp p g n f) (hf : Fr S w w') (h1 : pp ∉ S) (h2 : p ∉ S) (h3 : g ∉ S) : Pt w' pp p g n f := ⟨h.1.fr hf h1, h.2.1.fr hf h2 h3, h.2.2⟩
theorem Pt.put (h : Pt w pp p g n f) (hf : Fr [g] w w') (ht : Tg w' p g n f') : Pt w' pp p g n f' := ⟨h.1.fr hf (by simp; exact h.2.2.2.1), ht, h.2.2⟩
theorem Pt.heap (h : Pt w pp p g n f) (hv : w'.heap = w.heap) : Pt w' pp p g n f := by unfold Pt Tg At at *; rw [hv]; exact h
theorem Pt.drewN (h : Pt w pp p g n f) (m : Nat) : Pt (w.drewN m) pp p g n f := h.heap rfl
theorem Pt.lt (h : Pt w pp p g n f) : pp < w.heap.size ∧ p < w.heap.size ∧ g < w.heap.size := ⟨h.1.lt, h.2.1.lt⟩
end
theorem ptnone_any (w : World) (pp p g n : Nat) (f : Nat → Bool) (h : Pt w pp p g n f) :
    Calls Tryz.prog 125 #[.pointer (some ⟨pp, 0, none⟩)] w fun r w' => r = .returned (.bool false) ∧ w = w' := by
  have c := h.c
  go_enter Tryz.func125, Tryz.ntmps125
  go_wp2
  go_ret
  exact ⟨rfl, rfl⟩
theorem ptnone_nil (w : World) : Calls Tryz.prog 125 #[.pointer none] w fun r w' => r = .returned (.bool true) ∧ w = w' := by
  go_enter Tryz.func125, Tryz.ntmps125
  go_wp2
  go_ret
  exact ⟨rfl, rfl⟩
theorem ptnew_any (n : Nat) (w : World) (hn : n ≤ 16384) :
    Calls Tryz.prog 110 #[.int .i64 (16 * n : Nat)] w fun r w' => ∃ pp p g, r = .returned (.pointer (some ⟨pp, 0, none⟩)) ∧ Pt w' pp p g n (fun _ => false) ∧ w.heap.size ≤ pp ∧ w.heap.size ≤ p ∧ w.heap.size ≤ g ∧ Fr [] w w' := by
  obtain ⟨b, hb⟩ : ∃ b, 16 * n = b := ⟨_, rfl⟩
  have C := Lib.hid fun w => new_any n w (by omega)
  have e1 : (b : Int) / 16 = n := by omega
  have e2 : ((b : Int) % 16 != 0) = false := by simp; omega
  rw [hb]
  have hb2 : b ≤ 262144 := by omega
  clear hb
  go_enter Tryz.func110, Tryz.ntmps110
  go_wp2_with (go_at_call 69; refine (C.out _).mono ?_; rintro e w2 ⟨p, g, rfl, h2, hp, hg, hf2⟩)
  go_ret
  have hs := hf2.size
  have hl := h2.lt
  exact ⟨w2.heap.size, p, g, rfl, ⟨At.new _ _ _, h2.fr (S := []) ((Fr.refl _ _).alloc _) (by simp) (by simp), by omega, by omega, hn⟩, hs, hp, hg, hf2.alloc _⟩
theorem ptnew_bad (n : Int) (w : World) (hn : n < 0 ∨ ¬ n % 16 = 0 ∨ 262144 < n) :
    Calls Tryz.prog 110 #[.int .i64 n] w fun r w' => r = .returned (.pointer none) ∧ w = w' := by
  by_cases h0 : n < 0
  · clear hn
    go_enter Tryz.func110, Tryz.ntmps110
    go_wp2
    go_ret
    exact ⟨rfl, rfl⟩
  · by_cases h1 : n % 16 = 0
    · have h2 : 262144 < n := by omega
      have h0' : 0 ≤ n := by omega
      have e1 : (n % 16 != 0) = false := by simp; omega
      clear hn h1
      go_enter Tryz.func110, Tryz.ntmps110
      go_wp2
      go_ret
      exact ⟨rfl, rfl⟩
    · have h0' : 0 ≤ n := by omega
      have e1 : (n % 16 != 0) = true := by simp; omega
      clear hn h1
      go_enter Tryz.func110, Tryz.ntmps110
      go_wp2
      go_ret
      exact ⟨rfl, rfl⟩
def hasP (n : Nat) (f : Nat → Bool) (a : Int) : Bool := inR (a / 16) n && f (a / 16).toNat
theorem pthas_any (w : World) (pp p g n : Nat) (f : Nat → Bool) (h : Pt w pp p g n f) (a : Int) (ha : 0 ≤ a) (ha2 : a ≤ 4294967295) :
    Calls Tryz.prog 99 #[.pointer (some ⟨pp, 0, none⟩), .int .u32 a] w fun r w' => r = .returned (.bool (hasP n f a)) ∧ w = w' := by
  have c := h.c
  have C := Lib.hid (get_any w p g n f h.2.1 (a / 16))
  have H := Lib.hid h
  unfold hasP
  clear h
  generalize (inR (a / 16) n && f (a / 16).toNat) = b at *
  go_enter Tryz.func99, Tryz.ntmps99
  go_wp2_with (first | (go_at_call 125; refine (ptnone_any _ _ _ _ _ _ H.out).mono ?_; rintro e w' ⟨rfl, rfl⟩) | (go_at_call 67; refine (C.out).mono ?_; rintro e w' ⟨rfl, rfl⟩))
  go_ret
  exact ⟨rfl, rfl⟩
theorem pthas_nil (w : World) (a : Int) :
    Calls Tryz.prog 99 #[.pointer none, .int .u32 a] w fun r w' => r = .returned (.bool false) ∧ w = w' := by
  go_enter Tryz.func99, Tryz.ntmps99
  go_wp2_with (go_at_call 125; refine (ptnone_nil _).mono ?_; rintro e w' ⟨rfl, rfl⟩)
  go_ret
  exact ⟨rfl, rfl⟩
theorem ptcopy_nil (w : World) : Calls Tryz.prog 91 #[.pointer none] w fun r w' => r = .returned (.pointer none) ∧ w = w' := by
  go_enter Tryz.func91, Tryz.ntmps91
  go_wp2_with (go_at_call 125; refine (ptnone_nil _).mono ?_; rintro e w' ⟨rfl, rfl⟩)
  go_ret
  exact ⟨rfl, rfl⟩
theorem ptcopy_any (w : World) (pp p g n : Nat) (f : Nat → Bool) (h : Pt w pp p g n f) :
    Calls Tryz.prog 91 #[.pointer (some ⟨pp, 0, none⟩)] w fun r w' => ∃ pp' p' g', r = .returned (.pointer (some ⟨pp', 0, none⟩)) ∧ Pt w' pp' p' g' n f ∧ w.heap.size ≤ pp' ∧ w.heap.size ≤ p' ∧ w.heap.size ≤ g' ∧ Fr [] w w' := by
  have c := h.c
  have H := Lib.hid h
  have C := Lib.hid (copy_any w p g n f h.2.1)
  clear h
  go_enter Tryz.func91, Tryz.ntmps91
  go_wp2_with (first | (go_at_call 125; refine (ptnone_any _ _ _ _ _ _ H.out).mono ?_; rintro e w' ⟨rfl, rfl⟩) | (go_at_call 126; refine (C.out).mono ?_; rintro e w2 ⟨p', g', rfl, h2, hp, hg, hf2⟩))
  go_ret
  have hs := hf2.size
  have hl := h2.lt
  exact ⟨w2.heap.size, p', g', rfl, ⟨At.new _ _ _, h2.fr (S := []) ((Fr.refl _ _).alloc _) (by simp) (by simp), by omega, by omega, H.out.2.2.2.2⟩, hs, hp, hg, hf2.alloc _⟩
/-! ### all -/
def allB : List Bool → Bool
  | [] => true
  | b :: l => b && allB l
theorem allB_drop (l : List Bool) (k : Nat) (h : k < l.length) : allB (l.drop k) = (l[k] && allB (l.drop (k + 1))) := by
  rw [List.drop_eq_getElem_cons h]; rfl
theorem all_any (w : World) (b : Nat) (l : List Bool) (h : At w b 4 (l.map Value.bool).toArray) (hl : l.length ≤ 1000) :
    Calls Tryz.prog 148 #[.slice (some ⟨b, 0, none⟩) l.length l.length] w fun r w' => r = .returned (.bool (allB l)) ∧ w = w' := by
  have hc := Lib.hid fun k (hk : k < l.length) => show w.cell? ⟨b, k, none⟩ = some (.bool l[k]) by rw [h.cell k]; simp [hk]
  have H0 := Lib.hid (show allB (l.drop 0) = allB l by simp)
  obtain ⟨n, hn⟩ : ∃ n, l.length = n := ⟨_, rfl⟩
  have HN := Lib.hid hn
  rw [hn] at hl ⊢
  clear h hn
  go_enter Tryz.func148, Tryz.ntmps148
  go_wp2
  go_loop [7] (fun i => ∃ k : Nat, k ≤ n ∧ i = .int .i64 k ∧ allB (l.drop k) = allB l) (fun i => n - (intOf i).toNat)
  case atStart => exact ⟨0, by omega, rfl, H0.out⟩
  case round =>
    obtain ⟨k, hk, rfl, ha⟩ := hrel
    have HA := Lib.hid ha
    clear ha
    by_cases hkn : k < n
    · have hc1 := hc.out k (by rw [HN.out]; exact hkn)
      have HD := Lib.hid (allB_drop l k (by rw [HN.out]; exact hkn))
      obtain ⟨x, hx⟩ : ∃ x, l[k]'(by rw [HN.out]; exact hkn) = x := ⟨_, rfl⟩
      rw [hx] at hc1 HD
      clear hx
      cases x
      · go_wp2
        go_ret
        refine ⟨ret_bool ?_, rfl⟩
        rw [← HA.out, HD.out]; rfl
      · go_wp2
        go_round
        case rel => exact ⟨k + 1, by omega, by go_num, by rw [← HA.out, HD.out]; simp⟩
        case measure => simp [intOf]; omega
    · have hkn2 : n ≤ k := by omega
      have HE : Hid (allB (l.drop k) = true) := Lib.hid (by rw [List.drop_of_length_le (by rw [HN.out]; exact hkn2)]; rfl)
      go_wp2
      go_ret
      exact ⟨ret_bool (by rw [← HA.out, HE.out]), rfl⟩
theorem gran_any (w : World) (a s : Int) :
    Calls Tryz.prog 149 #[.agg #[.int .u32 a, .int .u32 s]] w fun r w' => r = .returned (.func (.func 157) #[] #[.pointer (some ⟨w.heap.size, 0, none⟩)]) ∧ w' = w.alloc (.cells #[.int .u32 a, .int .u32 s] 45) := by
  go_enter Tryz.func149, Tryz.ntmps149
  go_wp2
  go_ret
  exact ⟨rfl, rfl⟩
end Go.Proofs.YthjbnbimfpbccaaGreatDoor
/-
  Small words for a range over a function: what a caller's invariant abides (blocks of cells that are known whole; the frame), what a body has to keep. No condition.
-/

set_option linter.unusedVariables false
namespace Go.Proofs.YthjbnbimfpbccaaGreatDoor
open Go.ChangeShapes Go.WideShapes Go.ChangeAt Go.RowKit
/-- Whatever block of cells is known whole abides. -/
def AtK (W W' : World) : Prop := ∀ q t cs, At W q t cs → At W' q t cs
theorem atK_grown {W W' : World} {row : Option Nat} (hg : W.grownBy W' row) (hr : ∀ r, row = some r → ∃ o : Obj, W.heap[r]? = some o ∧ o.isCells = false) : AtK W W' := fun _ _ _ h => by
  unfold At at *
  rw [grownBy_keeps_cells hg hr h rfl]; exact h
/-- One block of cells abides: what an iterator asks that reads that block between two rounds. -/
def KpAt (q : Nat) (W W' : World) : Prop := ∀ t cs, At W q t cs → At W' q t cs
theorem kpAt_t {q : Nat} {A B C : World} (h : KpAt q A B) (k : KpAt q B C) : KpAt q A C := fun t cs x => k t cs (h t cs x)
theorem kpAt_b {q : Nat} {w : World} (W : World) (l : Nat) (o o' : Obj) (_ : w.heap.size ≤ l) (h : W.heap[l]? = some o) (hc : o.isCells = false) (_ : o.isWalk = false) : KpAt q W (W.putObj l o') := fun t cs x => by
  have hne : q ≠ l := by
    intro e
    subst e
    unfold At at x
    rw [h] at x
    injection x with x
    subst x
    cases hc
  unfold At at *
  rw [World.putObj_heap_other hne]; exact x
theorem kpAt_fr {q : Nat} {S : List Nat} {W W' : World} (f : Fr S W W') (h : q ∉ S) : KpAt q W W' := fun _ _ x => x.fr f h
/-- Some blocks of cells abide. -/
def KpB (bs : List Nat) (W W' : World) : Prop := ∀ b ∈ bs, ∀ cs t r, W.heap[b]? = some (.cells cs t r) → W'.heap[b]? = some (.cells cs t r)
theorem kpB_t {bs : List Nat} {A B C : World} (h : KpB bs A B) (k : KpB bs B C) : KpB bs A C := fun b hb cs t r x => k b hb cs t r (h b hb cs t r x)
theorem kpB_b {bs : List Nat} {w : World} (W : World) (l : Nat) (o o' : Obj) (_ : w.heap.size ≤ l) (h : W.heap[l]? = some o) (hc : o.isCells = false) (_ : o.isWalk = false) : KpB bs W (W.putObj l o') := fun b _ cs t r x => by
  have hne : b ≠ l := by
    rintro rfl
    rw [h] at x
    injection x with x
    subst x
    cases hc
  rw [World.putObj_heap_other hne]; exact x
theorem kpB_fr {bs S : List Nat} {W W' : World} (f : Fr S W W') (h : ∀ b ∈ bs, b ∉ S) : KpB bs W W' := fun b hb _ _ _ x => (f.keep b (Array.getElem?_eq_some_iff.1 x).1 (h b hb)).trans x
theorem KpB.at_ {bs : List Nat} {W W' : World} (h : KpB bs W W') {q : Nat} {t : TypeId} {cs : Array Value} (hq : q ∈ bs) (ha : At W q t cs) : At W' q t cs := h q hq _ _ _ ha
/-- A frame abides the turn of a block that lies beyond. -/
theorem Fr.row {S : List Nat} {w W W' : World} {row : Option Nat} (f : Fr S w W) (hg : W.grownBy W' row) {B : Nat} (hB : w.heap.size ≤ B) (hr : ∀ r, row = some r → B ≤ r ∧ ∃ o : Obj, W.heap[r]? = some o ∧ o.isCells = false) : Fr S w W' :=
  f.trans (Fr.grown hg) (fun k hk => by
    cases row with
    | none => simp at hk
    | some r => simp at hk; subst hk; exact .inr (Nat.le_trans hB (hr _ rfl).1))
theorem Fr.keepsFrom {S : List Nat} {W W' : World} (f : Fr S W W') (hS : ∀ k ∈ S, ∃ t cs, At W k t cs) : KeepsOthers W W' :=
  ⟨f.size, fun k o hk hc => by
    rw [f.keep k (Array.getElem?_eq_some_iff.1 hk).1 (fun hkS => by
      obtain ⟨t, cs, h⟩ := hS k hkS
      unfold At at h
      rw [hk] at h
      injection h with h
      subst h
      cases hc)]
    exact hk⟩
theorem Fr.putObj {S : List Nat} {w W : World} (f : Fr S w W) (l : Nat) (o : Obj) (hl : w.heap.size ≤ l) : Fr S w (W.putObj l o) :=
  f.trans (Fr.grown (grownBy_putObj' W l o)) (fun k hk => by simp at hk; subst hk; exact .inr hl)
theorem At.putObj {W : World} {q : Nat} {t : TypeId} {cs : Array Value} {l : Nat} (o : Obj) (h : At W q t cs) (hl : q ≠ l) : At (W.putObj l o) q t cs := by
  unfold At at *
  rw [World.putObj_heap_other hl]; exact h
theorem At.ne {V : World} {q D : Nat} {t : TypeId} {cs : Array Value} {o : Obj} (h : At V q t cs) (hK : V.heap[D]? = some o) (ho : o.isCells = false) : q ≠ D := by
  rintro rfl
  unfold At at h
  rw [hK] at h
  injection h with h
  subst h
  cases ho
theorem atK_put {V : World} {D : Nat} {o : Obj} (o' : Obj) (hK : V.heap[D]? = some o) (ho : o.isCells = false) : AtK V (V.putObj D o') := fun _ _ _ h => h.putObj _ (h.ne hK ho)
theorem atK_fr {V V' : World} (f : Fr [] V V') : AtK V V' := fun _ _ _ h => h.fr f (by simp)
/-! ### a region that draws its order, in a round -/
def noDefer (ops : Array Oper) : Bool := ops.all fun o => match o.op with | .defer _ => false | _ => true
theorem noDefer_spec {ops : Array Oper} (h : noDefer ops = true) {i : Nat} {o : Oper} (ho : ops[i]? = some o) (c : Call) : o.op ≠ .defer c := fun e => by
  unfold noDefer at h
  rw [Array.all_eq_true] at h
  obtain ⟨hi, he⟩ := Array.getElem?_eq_some_iff.1 ho
  have := h i hi
  rw [he, e] at this
  cases this
theorem oper_round {r n : Nat} {P : Program} {o : Oper} {a : Act} {w : World} {K K' : Act → World → Prop} {Q : Exit → Act → World → Prop} (hd : ∀ c, o.op ≠ .defer c) (hQ : ¬ LetsOut Q) (hK : ∀ a w, K a w → K' a w)
    (h : o.wp P a w K Q) : o.wpIn (Fence.wide.inRound r) n P a w K' Q := by
  unfold Oper.wp at h
  refine ⟨fun _ _ => trivial, ?_⟩
  rw [Oper.semAt_eq _ _ _ hd]
  generalize (execOp a.eval o).run P w = res at *
  cases res with
  | ok x w' =>
    cases x with
    | value v => exact hK _ _ h
    | skip => exact hK _ _ h
    | defer d => exact hK _ _ h
    | enter f args =>
      refine ⟨fun q => (by cases q), CallsIn.inRound r ((callsIn_wide (n := n - 1)).2 (Calls.mono h ?_))⟩
      intro e w'' he
      cases e with
      | returned v => exact hK _ _ he
      | panicked ch => exact he
      | outgrown => exact (hQ he).elim
    | row row args => exact ⟨fun q => (by cases q), fun c cs _ => let ⟨v, w2, h1, h2⟩ := h c cs; ⟨v, w2, hK _ _ h1, stepsIn_wide.2 h2⟩⟩
    | _ => exact h.elim
  | halt x w' =>
    cases x with
    | panic v => exact h
    | _ => exact h.elim
theorem wpAnyIn_of_wpAny {r n : Nat} {P : Program} {md : Region.Mode} {ops : Array Oper} {Q : Exit → Act → World → Prop} (hd : noDefer ops = true) (hQ : ¬ LetsOut Q) :
    ∀ (fuel : Nat) (listed : Array Bool) (a : Act) (w : World), wpAny P md ops Q fuel listed a w → wpAnyIn (Fence.wide.inRound r) n P md ops Q fuel listed a w
  | 0, _, _, _, h => h
  | fuel + 1, listed, a, w, h => ⟨h.1, fun i hi => by
      have h2 := h.2 i hi
      unfold wpOp at h2
      unfold wpOpIn
      split
      · rename_i ho
        simp only [ho] at h2
        exact wpAnyIn_of_wpAny hd hQ fuel _ _ _ h2
      · rename_i o ho
        simp only [ho] at h2
        split
        · rename_i hw
          rw [if_pos hw] at h2
          rcases h2 with h2 | h2
          · exact oper_round (noDefer_spec hd ho) hQ (fun a w => wpAnyIn_of_wpAny hd hQ fuel _ a w) h2
          · exact (hQ h2.2).elim
        · rename_i hw
          rw [if_neg hw] at h2
          exact ⟨fun _ _ => trivial, wpAnyIn_of_wpAny hd hQ fuel _ _ _ h2⟩⟩
/-- In a round: a region that draws its order, all of whose operations read or call quietly. -/
theorem wpIn_round_quiet {r n id : Nat} {P : Program} {Q : Exit → Act → World → Prop} {a : Act} {w : World} {l : List Oper} (hQ : ¬ LetsOut Q) (hm : P.follows .mixedOrders = true) (hd : noDefer l.toArray = true) (hB : Region.lexB .any l.toArray = true)
    (h : wpQuiet P l.toArray (fun w' => ∃ n, w' = w.drewN n) (fun a' => ∀ w', (∃ n, w' = w.drewN n) → Q .normal a' w') l a) : (Code.region id l.toArray true).wpIn (Fence.wide.inRound r) n P Q a w := by
  simp only [Region.lexB, Bool.and_eq_true] at hB
  refine wpIn_region_any hm (wpAnyIn_of_wpAny hd hQ _ _ _ _ (wpAny_of_quiet (C := fun w' => ∃ n, w' = w.drewN n) (Q := fun a' => ∀ w', (∃ n, w' = w.drewN n) → Q .normal a' w') (fun _ w' hw' h => h w' hw') _ _ _ _ ⟨1, rfl⟩ ?_))
  have := wpAnyQ_lex (C := fun w' => ∃ n, w' = w.drewN n) (md := .any) hB.1 l 0 (Array.replicate l.toArray.size false) a (by simp) (by simpa using hB.2) h
  simpa using this
/-- In a round: a region that draws its order, of which the first m operations only read, the others stand in one forced order behind them. -/
theorem wpIn_round_still {r n id : Nat} {P : Program} {Q : Exit → Act → World → Prop} {a : Act} {w : World} {l : List Oper} (m : Nat) (hQ : ¬ LetsOut Q) (hm : P.follows .mixedOrders = true) (hd : noDefer l.toArray = true) (hB : Region.lexTailB .any l.toArray m = true)
    (h : wpStill P l.toArray { w with drawn := w.drawn + 1 } (fun a' => wpList P l.toArray Q (l.drop m) a' { w with drawn := w.drawn + 1 }) (l.take m) a) : (Code.region id l.toArray true).wpIn (Fence.wide.inRound r) n P Q a w := by
  simp only [Region.lexTailB, Bool.and_eq_true, decide_eq_true_eq] at hB
  obtain ⟨⟨⟨⟨hsel, hn⟩, hs⟩, hc⟩, hlex⟩ := hB
  have hn' : m < l.length := by simpa using hn
  have htl : (l.take m).length = m := by simp; omega
  have hdl : (l.drop m).length = l.toArray.size - m := by simp
  have inv0 : HeadInv .any l.toArray m (Array.replicate l.toArray.size false) :=
    ⟨by simp, fun j oj _ hl => (by rw [getD_replicate_false] at hl; cases hl), fun t _ ht => getD_in (by simpa using ht) (getD_replicate_false _ _)⟩
  have H := wpAnyL_lex (md := .any) (g := l.toArray.size - m) hsel hs hc hn (l.take m) 0 _ a (fun j hj => by
    have hj' : j < m := by rw [htl] at hj; exact hj
    simp [hj']) (by simpa using htl) inv0 (by rw [htl]; exact hlex) h
  refine wpIn_region_any hm (wpAnyIn_of_wpAny hd hQ _ _ _ _ ?_)
  have := wpAny_of_head (Q' := Q) (g := l.toArray.size - m) (fun listed a' hL => by
    have := wpAny_of_seq (md := .any) (Q' := Q) (l.drop m) m listed a' { w with drawn := w.drawn + 1 } (fun j => by simp [List.getElem?_drop]) (by rw [hdl]; exact hL.1) hL.2
    rwa [hdl] at this) _ _ _ H
  rw [htl, show m + (l.toArray.size - m) = l.toArray.size by omega] at this
  exact this
end Go.Proofs.YthjbnbimfpbccaaGreatDoor
