/-
  What the functions of barrier compute: a book at block gp over a map of tags. Condition: the table of math/bits is as the library lays it (Next alone).
-/



import Derived.Test.YtechmgnoaillmaaDoorAll
set_option linter.unusedVariables false
namespace Go.Proofs.YtechmgnoaillmaaDoor
open Go.ChangeShapes Go.WideShapes Go.ChangeAt Go.RowKit
attribute [local go_sem] Oper.semAt_some
def Gn (w : World) (gp p g n : Nat) (f : Nat → Bool) (ep : Int) : Prop := At w gp 54 #[.pointer (some ⟨p, 0, none⟩), .int .u64 ep] ∧ Tg w p g n f ∧ gp ≠ p ∧ gp ≠ g ∧ n ≤ 1024
section
variable {w w' v : World} {gp p g n : Nat} {f f' : Nat → Bool} {S : List Nat} {ep : Int}
theorem Gn.c (h : Gn w gp p g n f ep) : w.cell? ⟨gp, 0, none⟩ = some (.pointer (some ⟨p, 0, none⟩)) := h.1.cell 0
theorem Gn.c1 (h : Gn w gp p g n f ep) : w.cell? ⟨gp, 1, none⟩ = some (.int .u64 ep) := h.1.cell 1
theorem Gn.fr (h : Gn w gp p g n f ep) (hf : Fr S w w') (h1 : gp ∉ S) (h2 : p ∉ S) (h3 : g ∉ S) : Gn w' gp p g n f ep := ⟨h.1.fr hf h1, h.2.1.fr hf h2 h3, h.2.2⟩
theorem Gn.put (h : Gn w gp p g n f ep) (hf : Fr [g] w w') (ht : Tg w' p g n f') : Gn w' gp p g n f' ep := ⟨h.1.fr hf (by simp; exact h.2.2.2.1), ht, h.2.2⟩
theorem Gn.heap (h : Gn w gp p g n f ep) (hv : w'.heap = w.heap) : Gn w' gp p g n f ep := by unfold Gn Tg At at *; rw [hv]; exact h
theorem Gn.lt (h : Gn w gp p g n f ep) : gp < w.heap.size ∧ p < w.heap.size ∧ g < w.heap.size := ⟨h.1.lt, h.2.1.lt⟩
end
theorem gnone_any (w : World) (gp p g n : Nat) (f : Nat → Bool) (ep : Int) (h : Gn w gp p g n f ep) :
    Calls Tryd.prog 22 #[.pointer (some ⟨gp, 0, none⟩)] w fun r w' => r = .returned (.bool false) ∧ w = w' := by
  have c := h.c
  go_enter Tryd.func22, Tryd.ntmps22
  go_wp2
  go_ret
  exact ⟨rfl, rfl⟩
theorem gnone_nil (w : World) : Calls Tryd.prog 22 #[.pointer none] w fun r w' => r = .returned (.bool true) ∧ w = w' := by
  go_enter Tryd.func22, Tryd.ntmps22
  go_wp2
  go_ret
  exact ⟨rfl, rfl⟩
theorem gnew_any (n : Nat) (w : World) (hn : n ≤ 1024) :
    Calls Tryd.prog 8 #[.int .i64 n] w fun r w' => ∃ gp p g, r = .returned (.pointer (some ⟨gp, 0, none⟩)) ∧ Gn w' gp p g n (fun _ => false) 0 ∧ w.heap.size ≤ gp ∧ w.heap.size ≤ p ∧ w.heap.size ≤ g ∧ Fr [] w w' := by
  go_enter Tryd.func8, Tryd.ntmps8
  go_wp2_with (go_at_call 21; refine (new_any n _ (by omega)).mono ?_; rintro e w2 ⟨p, g, rfl, h2, hp, hg, hf2⟩)
  go_ret
  have hs := hf2.size
  have hl := h2.lt
  exact ⟨w2.heap.size, p, g, rfl, ⟨At.new _ _ _, h2.fr (S := []) ((Fr.refl _ _).alloc _) (by simp) (by simp), by omega, by omega, hn⟩, hs, hp, hg, hf2.alloc _⟩
theorem gnew_bad (n : Int) (w : World) (hn : n < 0 ∨ 1024 < n) :
    Calls Tryd.prog 8 #[.int .i64 n] w fun r w' => r = .returned (.pointer none) ∧ w = w' := by
  rcases hn with h | h
  · go_enter Tryd.func8, Tryd.ntmps8
    go_wp2
    go_ret
    exact ⟨rfl, rfl⟩
  · have h2 : 0 ≤ n := by omega
    go_enter Tryd.func8, Tryd.ntmps8
    go_wp2
    go_ret
    exact ⟨rfl, rfl⟩
theorem gold_any (w : World) (gp p g n : Nat) (f : Nat → Bool) (ep : Int) (h : Gn w gp p g n f ep) (i : Int) :
    Calls Tryd.prog 13 #[.pointer (some ⟨gp, 0, none⟩), .int .i64 i] w fun r w' => r = .returned (.bool (inR i n && f i.toNat)) ∧ w = w' := by
  have c := h.c
  have H := Lib.hid h
  have C := Lib.hid (get_any w p g n f h.2.1 i)
  clear h
  generalize (inR i n && f i.toNat) = b at *
  go_enter Tryd.func13, Tryd.ntmps13
  go_wp2_with (first | (go_at_call 22; refine (gnone_any _ _ _ _ _ _ _ H.out).mono ?_; rintro e w' ⟨rfl, rfl⟩) | (go_at_call 27; refine (C.out).mono ?_; rintro e w' ⟨rfl, rfl⟩))
  go_ret
  exact ⟨rfl, rfl⟩
theorem gold_nil (w : World) (i : Int) : Calls Tryd.prog 13 #[.pointer none, .int .i64 i] w fun r w' => r = .returned (.bool false) ∧ w = w' := by
  go_enter Tryd.func13, Tryd.ntmps13
  go_wp2_with (go_at_call 22; refine (gnone_nil _).mono ?_; rintro e w' ⟨rfl, rfl⟩)
  go_ret
  exact ⟨rfl, rfl⟩
theorem gleft_any (w : World) (gp p g n : Nat) (f : Nat → Bool) (ep : Int) (h : Gn w gp p g n f ep) :
    Calls Tryd.prog 10 #[.pointer (some ⟨gp, 0, none⟩)] w fun r w' => r = .returned (.int .i64 (cnt f n)) ∧ w = w' := by
  have c := h.c
  have H := Lib.hid h
  have C := Lib.hid (count_any w p g n f h.2.1)
  clear h
  go_enter Tryd.func10, Tryd.ntmps10
  go_wp2_with (first | (go_at_call 22; refine (gnone_any _ _ _ _ _ _ _ H.out).mono ?_; rintro e w' ⟨rfl, rfl⟩) | (go_at_call 23; refine (C.out).mono ?_; rintro e w' ⟨rfl, rfl⟩))
  go_ret
  exact ⟨rfl, rfl⟩
theorem gleft_nil (w : World) : Calls Tryd.prog 10 #[.pointer none] w fun r w' => r = .returned (.int .i64 0) ∧ w = w' := by
  go_enter Tryd.func10, Tryd.ntmps10
  go_wp2_with (go_at_call 22; refine (gnone_nil _).mono ?_; rintro e w' ⟨rfl, rfl⟩)
  go_ret
  exact ⟨rfl, rfl⟩
theorem gmark_no (w : World) (gp p g n : Nat) (f : Nat → Bool) (ep : Int) (h : Gn w gp p g n f ep) (i : Int) (hi : (inR i n && f i.toNat) = false) :
    Calls Tryd.prog 11 #[.pointer (some ⟨gp, 0, none⟩), .int .i64 i] w fun r w' => r = .returned (.bool false) ∧ w = w' := by
  have C := Lib.hid (gold_any w gp p g n f ep h i)
  rw [hi] at C
  clear hi h
  go_enter Tryd.func11, Tryd.ntmps11
  go_wp2_with (go_at_call 13; refine (C.out).mono ?_; rintro e w' ⟨rfl, rfl⟩)
  go_ret
  exact ⟨rfl, rfl⟩
theorem gmark_yes (w : World) (gp p g n : Nat) (f : Nat → Bool) (ep : Int) (h : Gn w gp p g n f ep) (i : Nat) (hi : i < n) (hf : f i = true) :
    Calls Tryd.prog 11 #[.pointer (some ⟨gp, 0, none⟩), .int .i64 i] w fun r w' => r = .returned (.bool true) ∧ Gn w' gp p g n (upd f i false) ep ∧ Fr [g] w w' := by
  have C := Lib.hid (gold_any w gp p g n f ep h i)
  rw [inR_nat _ _ hi, Int.toNat_natCast, hf] at C
  have C2 := Lib.hid (put_yes w p g n f h.2.1 i false hi)
  have c := h.c
  have H := Lib.hid h
  clear hf h
  go_enter Tryd.func11, Tryd.ntmps11
  go_wp2_with (first | (go_at_call 13; refine (C.out).mono ?_; rintro e w' ⟨rfl, rfl⟩) | (go_at_call 25; refine (C2.out).mono ?_; rintro e w2 ⟨rfl, h2, hf2⟩))
  go_ret
  exact ⟨rfl, H.out.put hf2 h2, hf2⟩
theorem gmark_nil (w : World) (i : Int) : Calls Tryd.prog 11 #[.pointer none, .int .i64 i] w fun r w' => r = .returned (.bool false) ∧ w = w' := by
  go_enter Tryd.func11, Tryd.ntmps11
  go_wp2_with (go_at_call 13; refine (gold_nil _ i).mono ?_; rintro e w' ⟨rfl, rfl⟩)
  go_ret
  exact ⟨rfl, rfl⟩
theorem gcopy_nil (w : World) : Calls Tryd.prog 18 #[.pointer none] w fun r w' => r = .returned (.pointer none) ∧ w = w' := by
  go_enter Tryd.func18, Tryd.ntmps18
  go_wp2_with (go_at_call 22; refine (gnone_nil _).mono ?_; rintro e w' ⟨rfl, rfl⟩)
  go_ret
  exact ⟨rfl, rfl⟩
theorem gcopy_any (w : World) (gp p g n : Nat) (f : Nat → Bool) (ep : Int) (h : Gn w gp p g n f ep) :
    Calls Tryd.prog 18 #[.pointer (some ⟨gp, 0, none⟩)] w fun r w' => ∃ gp' p' g', r = .returned (.pointer (some ⟨gp', 0, none⟩)) ∧ Gn w' gp' p' g' n f ep ∧ w.heap.size ≤ gp' ∧ w.heap.size ≤ p' ∧ w.heap.size ≤ g' ∧ Fr [] w w' := by
  have c := h.c
  have c1 := h.c1
  have H := Lib.hid h
  have C := Lib.hid fun W (hW : W.heap = w.heap) => copy_any W p g n f (h.heap hW).2.1
  clear h
  go_enter Tryd.func18, Tryd.ntmps18
  go_wp2_with (first | (go_at_call 22; refine (gnone_any _ _ _ _ _ _ _ H.out).mono ?_; rintro e w' ⟨rfl, rfl⟩))
  go_region_with (go_at_call 28; refine (C.out w.drew rfl).mono ?_; rintro e w2 ⟨p', g', rfl, h2, hp, hg, hf2⟩; have d1 := (H.out.1.frh hf2 rfl (by simp)).cell 1; simp only [List.getElem?_toArray, List.getElem?_cons_zero, List.getElem?_cons_succ] at d1)
  all_goals go_wp2
  all_goals go_ret
  all_goals
    have hs : w.heap.size ≤ w2.heap.size := hf2.size
    have hl := h2.lt
    have hp : w.heap.size ≤ p' := hp
    have hg : w.heap.size ≤ g' := hg
    exact ⟨w2.heap.size, p', g', rfl, ⟨At.new _ _ _, h2.fr (S := []) ((Fr.refl _ _).alloc _) (by simp) (by simp), by omega, by omega, H.out.2.2.2.2⟩, hs, hp, hg, (Fr.hd (w := w) hf2 rfl rfl rfl rfl).alloc _⟩
theorem gstart_nil (w : World) (e : Int) : Calls Tryd.prog 9 #[.pointer none, .int .u64 e] w fun r w' => r = .returned (.bool false) ∧ w = w' := by
  go_enter Tryd.func9, Tryd.ntmps9
  go_wp2_with (go_at_call 22; refine (gnone_nil _).mono ?_; rintro e w' ⟨rfl, rfl⟩)
  go_ret
  exact ⟨rfl, rfl⟩
theorem gstart_no (w : World) (gp p g n : Nat) (f : Nat → Bool) (ep : Int) (h : Gn w gp p g n f ep) (e : Int) (he : e ≤ ep ∨ 0 < cnt f n) :
    Calls Tryd.prog 9 #[.pointer (some ⟨gp, 0, none⟩), .int .u64 e] w fun r w' => r = .returned (.bool false) ∧ w = w' := by
  have c := h.c
  have c1 := h.c1
  have H := Lib.hid h
  have C := Lib.hid (count_any w p g n f h.2.1)
  clear h
  by_cases h1 : e ≤ ep
  · clear he
    go_enter Tryd.func9, Tryd.ntmps9
    go_wp2_with (first | (go_at_call 22; refine (gnone_any _ _ _ _ _ _ _ H.out).mono ?_; rintro e w' ⟨rfl, rfl⟩))
    go_ret
    exact ⟨rfl, rfl⟩
  · have h2 : 0 < cnt f n := by omega
    clear he
    go_enter Tryd.func9, Tryd.ntmps9
    go_wp2_with (first | (go_at_call 22; refine (gnone_any _ _ _ _ _ _ _ H.out).mono ?_; rintro e w' ⟨rfl, rfl⟩) | (go_at_call 23; refine (C.out).mono ?_; rintro e w' ⟨rfl, rfl⟩))
    go_ret
    exact ⟨rfl, rfl⟩
def allF (n : Nat) : Nat → Bool := fun i => decide (i < n)
def fstF (t : Nat) : Nat → Bool := fun i => decide (i < t)
set_option maxHeartbeats 1000000 in
theorem gstart_yes (w : World) (gp p g n : Nat) (f : Nat → Bool) (ep : Int) (h : Gn w gp p g n f ep) (e : Int) (he : ep < e) (h0 : cnt f n = 0) :
    Calls Tryd.prog 9 #[.pointer (some ⟨gp, 0, none⟩), .int .u64 e] w fun r w' => r = .returned (.bool true) ∧ Gn w' gp p g n (fstF n) e ∧ Fr [gp, g] w w' := by
  have c := h.c
  have c1 := h.c1
  have fz := h.1.froz 1
  have hn := h.2.2.2.2
  have H := Lib.hid h
  have C := Lib.hid (count_any w p g n f h.2.1)
  rw [h0] at C
  have hz : Hid (f = fstF 0) := Lib.hid (funext fun i => by
    unfold fstF
    cases hfi : f i with
    | false => simp
    | true =>
      have hin : i < n := by
        rcases Nat.lt_or_ge i n with h1 | h1
        · exact h1
        · rw [h.2.1.2.2.1 i h1] at hfi; cases hfi
      have := cnt_pos f n i hin hfi
      omega)
  have h1 : ¬ e ≤ ep := by omega
  have hW : Gn (w.setCell ⟨gp, 1, none⟩ (.int .u64 e)) gp p g n (fstF 0) e := ⟨h.1.set 1 _, by rw [← hz.out]; exact h.2.1.fr (S := [gp]) ((Fr.refl _ _).set (.inl (by simp)) _) (by simp; exact h.2.2.1.symm) (by simp; exact h.2.2.2.1.symm), h.2.2⟩
  have HW := Lib.hid hW
  clear h h0 hW hz
  go_enter Tryd.func9, Tryd.ntmps9
  go_wp2_with (first | (go_at_call 22; refine (gnone_any _ _ _ _ _ _ _ H.out).mono ?_; rintro e w' ⟨rfl, rfl⟩) | (go_at_call 23; refine (C.out).mono ?_; rintro e w' ⟨rfl, rfl⟩) | (go_at_call 24; refine (len_any _ p g n _ HW.out.2.1).mono ?_; rintro e w' ⟨rfl, rfl⟩))
  clear C
  go_loopw [33] (fun i wr => ∃ t : Nat, t ≤ n ∧ i = .int .i64 t ∧ Gn wr gp p g n (fstF t) e ∧ Fr [gp, g] w wr) (fun i _ => n - (intOf i).toNat)
  case atStart => exact ⟨0, by omega, rfl, HW.out, (Fr.refl _ _).set (.inl (by simp)) _⟩
  case round =>
    obtain ⟨t, ht, rfl, hG, hf⟩ := hrel
    have HG := Lib.hid hG
    have cr := hG.c
    clear hG
    by_cases htn : t < n
    · have C2 := Lib.hid (put_yes wr p g n _ HG.out.2.1 t true htn)
      rw [show upd (fstF t) t true = fstF (t + 1) from funext fun i => by unfold upd fstF; by_cases e : i = t <;> simp [e]; omega] at C2
      go_wp2_with (go_at_call 25; refine (C2.out).mono ?_; rintro e w5 ⟨rfl, h5, hf5⟩)
      go_roundw
      case rel => exact ⟨t + 1, by omega, by go_num, HG.out.put hf5 h5, hf.trans hf5 (by simp)⟩
      case measure => simp [intOf]; omega
    · obtain rfl : t = n := by omega
      go_wp2
      go_ret
      exact ⟨rfl, HG.out, hf⟩
/-- The lowest place that is set. -/
def nxtP (f : Nat → Bool) (n : Nat) : Int := match told f n with | [] => 0 | x :: _ => (x : Nat)
def nxtB (f : Nat → Bool) (n : Nat) : Bool := match told f n with | [] => false | _ :: _ => true
theorem nxt_nil {f : Nat → Bool} {n : Nat} (h : told f n = []) : nxtP f n = 0 ∧ nxtB f n = false := by unfold nxtP nxtB; rw [h]; exact ⟨rfl, rfl⟩
theorem nxt_one {f : Nat → Bool} {n x : Nat} (h : [x] <+: told f n) : nxtP f n = x ∧ nxtB f n = true := by
  obtain ⟨r, hr⟩ := h
  unfold nxtP nxtB
  rw [← hr]
  exact ⟨rfl, rfl⟩
theorem gnext_nil (w : World) : Calls Tryd.prog 12 #[.pointer none] w fun r w' => r = .returned (.tuple #[.int .i64 0, .bool false]) ∧ Fr [] w w' := by
  go_enter Tryd.func12, Tryd.ntmps12
  go_wp2_with (go_at_call 22; refine (gnone_nil _).mono ?_; rintro e w' ⟨rfl, rfl⟩)
  exact bodyPost_ret (v := .tuple #[.int .i64 0, .bool false]) (by simp [results, Tryd.results12, go_sem]) rfl ⟨rfl, (by repeat (first | exact Fr.refl _ _ | assumption | refine Fr.trans0 ?_ (by assumption) | refine Fr.drewN ?_ _ | refine Fr.alloc ?_ _ | refine Fr.drew ?_))⟩
set_option maxHeartbeats 2000000 in
set_option maxRecDepth 100000 in
theorem gnext_any (w : World) (gp p g n : Nat) (f : Nat → Bool) (ep : Int) (h : Gn w gp p g n f ep) (hT : Tab w) :
    Calls Tryd.prog 12 #[.pointer (some ⟨gp, 0, none⟩)] w fun r w' => r = .returned (.tuple #[.int .i64 (nxtP f n), .bool (nxtB f n)]) ∧ Fr [] w w' := by
  have hf0 : Fr [] w ((w.alloc (.cells #[.int .i64 0] 3)).alloc (.cells #[.bool false] 4)) := (by repeat (first | exact Fr.refl _ _ | assumption | refine Fr.trans0 ?_ (by assumption) | refine Fr.drewN ?_ _ | refine Fr.alloc ?_ _ | refine Fr.drew ?_))
  have a0 := (At.new w 3 #[.int .i64 0]).old (.cells #[.bool false] 4)
  have a1 := At.new (w.alloc (.cells #[.int .i64 0] 3)) 4 #[.bool false]
  simp only [World.size_alloc] at a1
  have H := Lib.hid (h.fr hf0 (by simp) (by simp) (by simp))
  have C := Lib.hid (all_any _ p g n f (h.fr hf0 (by simp) (by simp) (by simp)).2.1)
  have cc := H.out.c
  have A0 := Lib.hid a0
  have A1 := Lib.hid a1
  have HF0 := Lib.hid hf0
  have HT := Lib.hid (hT.fr hf0 (by simp))
  have hTl := hT.lt
  clear h a0 a1 hf0 hT
  refine (callsIn_wide (n := 3)).1 ?_
  refine callsIn_of_wp_marks Tryd.func12 rfl trivial ?_ rfl
  simp only [Tryd.ntmps12, List.size_toArray, List.length_cons, List.length_nil, Nat.reduceAdd, Nat.reduceSub, Array.replicate_succ, Array.replicate_zero, List.push_toArray, List.append_toArray, List.nil_append, List.cons_append]
  refine wpIn_wide.2 ?_
  go_wp2_with (first | (go_at_call 22; refine (gnone_any _ _ _ _ _ _ _ H.out).mono ?_; rintro e w' ⟨rfl, rfl⟩) | (go_at_call 26; refine (C.out).mono ?_; rintro e w2 ⟨q, p', g', rfl, hq, ht, hq1, hp1, hg1, hqp, hqg, hf2⟩))
  have A0' := Lib.hid (A0.out.fr hf2 (by simp))
  have A1' := Lib.hid (A1.out.fr hf2 (by simp))
  have HF2 := Lib.hid (HF0.out.trans0 hf2)
  have HT2 := Lib.hid (HT.out.fr hf2 (by simp))
  have hst := all_stops (3 - 1) q p' g' n f w2 hq ht HT2.out
  clear C A0 A1 HT cc H
  refine (wpIn_wide (n := 3)).1 ?_
  refine wpIn_rangeFunc_ownF rfl (by omega) (gf := 31) (lb := #[.pointer (some ⟨q, 0, none⟩)]) rfl trivial (enters_of Tryd.func31 (by kernel_rfl) rfl) hst kpB_t kpB_b (Below.refl _ _) (fun _ => rfl)
    (fun pre V => pre = [] ∧ At V w.heap.size 3 #[.int .i64 0] ∧ At V (w.heap.size + 1) 4 #[.bool false] ∧ Fr [] w V)
    (fun c pre V => c = .ret ∧ ∃ x : Nat, pre = [x] ∧ At V w.heap.size 3 #[.int .i64 x] ∧ At V (w.heap.size + 1) 4 #[.bool true] ∧ Fr [] w V)
    (fun x A B row hs hg hr => ⟨hs.1, atK_grown hg (fun r e => (hr r e).2) _ _ _ hs.2.1, atK_grown hg (fun r e => (hr r e).2) _ _ _ hs.2.2.1, hs.2.2.2.row hg HF2.out.size hr⟩)
    (fun c x A B row hs hg hr => ⟨hs.1, hs.2.choose, hs.2.choose_spec.1, atK_grown hg (fun r e => (hr r e).2) _ _ _ hs.2.choose_spec.2.1, atK_grown hg (fun r e => (hr r e).2) _ _ _ hs.2.choose_spec.2.2.1, hs.2.choose_spec.2.2.2.row hg HF2.out.size hr⟩)
    ⟨rfl, A0'.out, A1'.out, HF2.out⟩ ?a1 ?assign ?body ?done ?stop
  case assign =>
    intro l x V K hK
    gi_wp2
    exact hK
  case body =>
    rintro l pre x V ⟨rfl, h0, h1, hF⟩ _
    have c0 := h0.cell 0
    have c1 := h1.cell 0
    have f0 := h0.froz 0
    have f1 := h1.froz 0
    simp only [List.getElem?_toArray, List.getElem?_cons_zero] at c0 c1
    have H0 := Lib.hid h0
    have H1 := Lib.hid h1
    clear h0 h1
    gi_wp2
    have hfs : Fr [w.heap.size, w.heap.size + 1] V ((V.setCell ⟨w.heap.size, 0, none⟩ (.int .i64 (x : Nat))).setCell ⟨w.heap.size + 1, 0, none⟩ (.bool true)) := ((Fr.refl _ _).set (.inl (by simp)) _).set (.inl (by simp)) _
    refine ⟨hfs.keepsFrom (by simp; exact ⟨⟨_, _, H0.out⟩, _, _, H1.out⟩), rfl, x, rfl, (H0.out.set 0 _).far (show w.heap.size ≠ w.heap.size + 1 by omega) _, (H1.out.far (show w.heap.size + 1 ≠ w.heap.size by omega) _).set 0 _, hF.trans hfs (by simp)⟩
  case done =>
    rintro D xs V hD hxs ⟨hx, h0, h1, hF⟩ hK
    have HN := Lib.hid (nxt_nil (f := f) (n := n) (by rw [← hxs, hx]))
    have c0 := h0.cell 0
    have c1 := h1.cell 0
    have f0 := h0.froz 0
    have f1 := h1.froz 0
    simp only [List.getElem?_toArray, List.getElem?_cons_zero] at c0 c1
    have H0 := Lib.hid h0
    have H1 := Lib.hid h1
    have HK := Lib.hid hK
    have hDw : w.heap.size ≤ D := by have := HF2.out.size; omega
    clear hxs hx h0 h1 hK
    go_wp2
    have hk1 := ((KeepsOthers.setCell V ⟨w.heap.size, 0, none⟩ (.int .i64 0)).trans (KeepsOthers.setCell _ ⟨w.heap.size + 1, 0, none⟩ (.bool false))).same D _ HK.out rfl
    refine ⟨by simp, .inl ⟨_, _, rfl, run_takeDeferred hk1, ?_⟩⟩
    have hk := atK_put (.deferred none) hk1 rfl
    have b0 := (hk _ _ _ ((H0.out.set 0 (.int .i64 0)).far (show w.heap.size ≠ w.heap.size + 1 by omega) (.bool false))).cell 0
    have b1 := (hk _ _ _ ((H1.out.far (show w.heap.size + 1 ≠ w.heap.size by omega) (.int .i64 0)).set 0 (.bool false))).cell 0
    rw [HN.out.1, HN.out.2]
    exact ⟨.tuple #[.int .i64 0, .bool false], by simp [results, Tryd.results12, go_sem, b0, b1], rfl, ((hF.set (.inr (Nat.le_refl _)) _).set (.inr (by show w.heap.size ≤ w.heap.size + 1; omega)) _).putObj D _ hDw⟩
  case stop =>
    rintro D c pre V hD hpre ⟨rfl, x, rfl, h0, h1, hF⟩ hK
    have HN := nxt_one hpre
    have hDw : w.heap.size ≤ D := by have := HF2.out.size; omega
    gi_wp2
    refine ⟨by simp, .inl ⟨_, _, rfl, run_takeDeferred hK, ?_⟩⟩
    have hk := atK_put (.deferred none) hK rfl
    have b0 := (hk _ _ _ h0).cell 0
    have b1 := (hk _ _ _ h1).cell 0
    rw [HN.1, HN.2]
    exact ⟨.tuple #[.int .i64 (x : Nat), .bool true], by simp [results, Tryd.results12, go_sem, b0, b1], rfl, hF.putObj D _ hDw⟩
end Go.Proofs.YtechmgnoaillmaaDoor
