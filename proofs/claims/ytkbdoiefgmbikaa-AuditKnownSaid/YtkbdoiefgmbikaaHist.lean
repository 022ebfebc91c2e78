/-
  The faults of a history. Condition: a thousand events at most.
-/


import Derived.Test.YtkbdoiefgmbikaaSee
import Derived.Test.YtkbdoiefgmbikaaLists
set_option linter.unusedVariables false
namespace Go.Proofs.Ytkbdoiefgmbikaa
open Go.ChangeShapes Go.WideShapes Go.ChangeAt Go.RowKit
def evl (e : Ev) : List Value := [.int .i64 e.kind, .int .i64 e.hart, .int .u32 e.val, .int .u64 e.num, .int .u32 e.a, .int .u32 e.s]
def EvIn (w : World) (a : Option Addr) (l : List Ev) : Prop :=
  l = [] ∨ ∃ b off, a = some ⟨b, off, none⟩ ∧ b < w.heap.size ∧ ∀ k e, l[k]? = some e → ∀ j v, (evl e)[j]? = some v → w.cell? ((⟨b, off + k * 6, none⟩ : Addr).add j) = some v
theorem EvIn.fr {w w' : World} {a : Option Addr} {l : List Ev} {S : List Nat} (h : EvIn w a l) (f : Fr S w w') (hS : ∀ b off, a = some ⟨b, off, none⟩ → b ∉ S) : EvIn w' a l := by
  rcases h with h | ⟨b, off, rfl, hb, hc⟩
  · exact .inl h
  · refine .inr ⟨b, off, rfl, Nat.lt_of_lt_of_le hb f.size, fun k e hk j v hv => ?_⟩
    have := hc k e hk j v hv
    rw [Go.WideShapes.add_plain] at this ⊢
    rw [f.cell hb (hS b off rfl)]
    exact this
theorem EvIn.fr0 {w w' : World} {a : Option Addr} {l : List Ev} (h : EvIn w a l) (f : Fr [] w w') : EvIn w' a l := h.fr f (by simp)
theorem EvIn.take {w : World} {a : Option Addr} {l : List Ev} (h : EvIn w a l) (k : Nat) : EvIn w a (l.take k) := by
  rcases h with h | ⟨b, off, rfl, hb, hc⟩
  · exact .inl (by rw [h]; simp)
  · refine .inr ⟨b, off, rfl, hb, fun i e hi => hc i e ?_⟩
    rw [List.getElem?_take] at hi
    split at hi
    · exact hi
    · cases hi
def flt (l : List (Nat × Nat)) : List Value := l.flatMap fun p => [.int .i64 p.1, .int .i64 p.2]
theorem flt_len (l : List (Nat × Nat)) : (flt l).length = l.length * 2 := by
  unfold flt
  induction l with
  | nil => rfl
  | cons a l ih => rw [List.flatMap_cons, List.length_append, ih]; simp; omega
theorem flt_app (l m : List (Nat × Nat)) : flt (l ++ m) = flt l ++ flt m := by unfold flt; rw [List.flatMap_append]
theorem flt_get : ∀ (l : List (Nat × Nat)) (k : Nat) (p : Nat × Nat), l[k]? = some p → (flt l)[k * 2]? = some (.int .i64 p.1) ∧ (flt l)[k * 2 + 1]? = some (.int .i64 p.2)
  | [], k, p, h => by cases h
  | a :: l, 0, p, h => by simp at h; subst h; exact ⟨rfl, rfl⟩
  | a :: l, k + 1, p, h => by
    have := flt_get l k p (by simpa using h)
    have e1 : (k + 1) * 2 = k * 2 + 1 + 1 := by omega
    have e2 : (k + 1) * 2 + 1 = k * 2 + 1 + 1 + 1 := by omega
    rw [e1]
    exact ⟨this.1, this.2⟩
theorem infoFault : (Try.prog.info? 46).map (fun i => (i.zero, i.size, i.bytes)) = some (some (.agg #[.int .i64 0, .int .i64 0]), 2, 16) := by kernel_rfl
set_option maxHeartbeats 4000000 in
set_option maxRecDepth 100000 in
theorem hist_any (w : World) (ha hs : Nat) (h1 : ha < 4294967296) (h2 : hs < 4294967296) (a : Option Addr) (cap : Nat) (l : List Ev) (hl : EvIn w a l) (hok : ∀ e ∈ l, e.Ok) (hn : l.length ≤ 1000) :
    Calls Try.prog 16 #[.agg #[.int .u32 ha, .int .u32 hs], .slice a l.length cap] w fun r w' => ∃ v, r = .returned v ∧ w'.ownsRow w.heap.size 46 2 v (histF ha hs l 0 sx0).length (flt (histF ha hs l 0 sx0)) ∧ Fr [] w w' := by
  obtain ⟨i0, hi, hz0, hz1, hz2⟩ := info_parts infoFault
  have hmm := @run_makeMap Try.prog
  have HIR := Lib.hid (show (Try.prog.info? 27).map (·.size) = some 2 by kernel_rfl)
  have HL := Lib.hid hl
  have HO := Lib.hid hok
  obtain ⟨n, hnn⟩ : ∃ n, l.length = n := ⟨_, rfl⟩
  have HN := Lib.hid hnn
  rw [hnn] at hn ⊢
  clear hl hok hnn
  obtain ⟨W0, hW0⟩ : ∃ W, (((w.alloc (.cells #[.int .u32 ha, .int .u32 hs] 27)).alloc (.map #[] 0)).alloc (.map #[] 0)).alloc (.cells (Sx.cells sx0 ha hs (w.heap.size + 1) (w.heap.size + 1 + 1)) 76) = W := ⟨_, rfl⟩
  have hF0 : Fr [] w W0 := by rw [← hW0]; exact (by repeat (first | exact Fr.refl _ _ | assumption | refine Fr.trans0 ?_ (by assumption) | refine Fr.drewN ?_ _ | refine Fr.alloc ?_ _ | refine Fr.drew ?_))
  have hs0 : W0.heap.size = w.heap.size + 4 := by rw [← hW0]; simp
  have hP0 : Past W0 (w.heap.size + 1 + 1 + 1) (w.heap.size + 1) (w.heap.size + 1 + 1) ha hs sx0 0 := by
    have g1 := Mp.made Try.prog 39 .u64 (w.alloc (.cells #[.int .u32 ha, .int .u32 hs] 27))
    have g2 := Mp.made Try.prog 3 .i64 ((w.alloc (.cells #[.int .u32 ha, .int .u32 hs] 27)).alloc (.map #[] 0))
    have g3 := At.new (((w.alloc (.cells #[.int .u32 ha, .int .u32 hs] 27)).alloc (.map #[] 0)).alloc (.map #[] 0)) 76 (Sx.cells sx0 ha hs (w.heap.size + 1) (w.heap.size + 1 + 1))
    simp only [World.size_alloc] at g1 g2 g3
    rw [hW0] at g3
    refine ⟨g3, (g1.fr0 ?_).congr (fun _ => rfl), (g2.fr0 ?_).congr (fun _ => rfl), by omega, good0, h1, h2⟩
    · rw [← hW0]; exact ((Fr.refl _ _).alloc _).alloc _
    · rw [← hW0]; exact (Fr.refl _ _).alloc _
  have P0 := Lib.hid hP0
  have F0 := Lib.hid hF0
  clear hP0 hF0
  go_enter Try.func16, Try.ntmps16
  go_wp2_with fail
  unfold Sx.cells sx0 at hW0
  simp only [Int.natCast_zero] at hW0
  rw [hW0]
  clear hW0 hmm
  go_loopw [6, 17] (fun s i wr => ∃ k : Nat, k ≤ n ∧ i = .int .i64 k ∧ wr.ownsRow (w.heap.size + 4) 46 2 s (histF ha hs (l.take k) 0 sx0).length (flt (histF ha hs (l.take k) 0 sx0)) ∧ Past wr (w.heap.size + 1 + 1 + 1) (w.heap.size + 1) (w.heap.size + 1 + 1) ha hs (histX ha hs (l.take k) 0 sx0) k ∧ Fr [] w wr) (fun _ i _ => n - (intOf i).toNat)
  case atStart =>
    exact ⟨0, by omega, rfl, World.ownsRow_nil _ _ _ _, P0.out, F0.out⟩
  case round =>
    clear P0 F0
    obtain ⟨k, hk, rfl, hown, hP, hf⟩ := hrel
    have FR := Lib.hid hf
    have HOW := Lib.hid hown
    have HP := Lib.hid hP
    have hsz := hf.size
    have hpl := hP.at_.lt
    clear hown hP hf
    by_cases hlt : k < n
    · obtain ⟨e, hek⟩ : ∃ e, l[k]? = some e := ⟨_, List.getElem?_eq_getElem (by rw [HN.out]; exact hlt)⟩
      have heo := HO.out e (List.mem_of_getElem? hek)
      have hin := HL.out.fr0 FR.out
      rcases hin with h0 | ⟨b, off, rfl, hb, hc⟩
      · rw [h0] at hek; cases hek
      have HC := Lib.hid (hc k e hek)
      have hsF := histF_snoc ha hs e (l.take k) 0 sx0
      have hsX := histX_snoc ha hs e (l.take k) 0 sx0
      have htk : l.take k ++ [e] = l.take (k + 1) := by rw [List.take_add_one, hek]; rfl
      have hlk : (l.take k).length = k := by rw [List.length_take]; have := HN.out; omega
      have hfl := histF_len ha hs (l.take k) 0 sx0
      rw [htk, hlk, Nat.zero_add] at hsF hsX
      rw [hlk] at hfl
      obtain ⟨F, hF⟩ : ∃ F, histF ha hs (l.take k) 0 sx0 = F := ⟨_, rfl⟩
      obtain ⟨X, hX⟩ : ∃ X, histX ha hs (l.take k) 0 sx0 = X := ⟨_, rfl⟩
      rw [hX] at hsX
      rw [hF, hX] at hsF
      rw [hF] at hfl
      have HOW := HOW.out
      have HP := HP.out
      rw [hF] at HOW
      rw [hX] at HP
      have HOW := Lib.hid HOW
      have HP := Lib.hid HP
      have HSF := Lib.hid hsF
      have HSX := Lib.hid hsX
      have HEO := Lib.hid heo
      have hkI : (k : Int) < (n : Int) := by omega
      clear hF hX hsF hsX htk hc hek heo
      go_wp2_with (refine wpList_load_at rfl 41 (.tmp 20) rfl ⟨b, off + k * 6, none⟩ rfl [.int .i64 e.kind, .int .i64 e.hart, .int .u32 e.val, .int .u64 e.num, .int .u32 e.a, .int .u32 e.s] _ HC.out Try.underlying41 rfl infoEv ?_)
      refine (psee_any _ (w.heap.size + 1 + 1 + 1) (w.heap.size + 1) (w.heap.size + 1 + 1) ha hs X k (HP.out.fr0 (by repeat (first | exact Fr.refl _ _ | assumption | refine Fr.trans0 ?_ (by assumption) | refine Fr.drewN ?_ _ | refine Fr.alloc ?_ _ | refine Fr.drew ?_))) (by omega) e HEO.out).mono ?_
      rintro e9 w6 ⟨rfl, h6, hf6⟩
      obtain ⟨C, hC⟩ : ∃ C, (seeS ha hs X e k).1 = C := ⟨_, rfl⟩
      rw [hC]
      rw [hC] at HSF
      have hf6' : Fr [w.heap.size + 1 + 1 + 1, w.heap.size + 1, w.heap.size + 1 + 1] (wr.alloc (.cells (evl e).toArray 41)) w6 := hf6
      have F6 := Lib.hid (((FR.out.alloc (.cells (evl e).toArray 41)).trans hf6' (by simp; omega)))
      have P6 := Lib.hid h6
      have hown6 := own_fr ((HOW.out.alloc (.cells (evl e).toArray 41))) hf6' (fun g hg hm => by have := (HOW.out.lt g hg).1; simp at hm; omega)
      have O6 := Lib.hid hown6
      have hs6 := F6.out.size
      have hs66 := hf6'.size
      rw [World.size_alloc] at hs66
      clear hf6 hf6' h6 hown6 hC
      obtain ⟨B, hB⟩ : ∃ B, ((C : Int) != 0) = B := ⟨_, rfl⟩
      have hBN : B = true ↔ C ≠ 0 := by rw [← hB, bne_iff_ne]; omega
      cases B
      · have hC0 : C = 0 := by
          have := hBN
          simp at this
          exact this
        have hft : ft C k = [] := by unfold ft; rw [if_pos hC0]
        rw [hft, List.append_nil] at HSF
        clear hBN hC0 hft
        go_wp2_with fail
        go_roundw
        case rel =>
          refine ⟨k + 1, by omega, by go_num, ?_, ?_, F6.out⟩
          · rw [HSF.out]; exact O6.out
          · rw [HSX.out]; exact P6.out
        case measure => simp [intOf]; omega
      · have hC0 : C ≠ 0 := hBN.1 rfl
        have hft : ft C k = [(C, k)] := by unfold ft; rw [if_neg hC0]
        rw [hft] at HSF
        have HNW := Lib.hid ((At.new w6 46 #[.int .i64 C, .int .i64 k]).two 0 (.int .i64 C) (.int .i64 k) rfl rfl)
        clear hBN hC0 hft
        go_wp2_with (at_builtin; refine wpList_append_own_at _ rfl (.tmp 28) (.tmp 32) 37 rfl (w.heap.size + 4) 46 i0 (.agg #[.int .i64 0, .int .i64 0]) 2 16 Try.underlying37 hi hz0 hz1 hz2 rfl (by omega) u6 F.length (flt F) rfl (O6.out.alloc _) ⟨w6.heap.size, 0, none⟩ 1 1 [.int .i64 C, .int .i64 k] rfl rfl HNW.out (by simp [Value.oneCell']) (by unfold maxLen; omega) (by omega) (by simp; omega) ?_; intro v1 w7 hown7 hg7 hnil7 hat7)
        have O7 := O6.out.alloc (.cells #[.int .i64 C, .int .i64 k] 46)
        have F7 := Lib.hid ((F6.out.alloc (.cells #[.int .i64 C, .int .i64 k] 46)).app hg7 O7 (by omega))
        have P7 := Lib.hid ((P6.out.fr0 ((Fr.refl [] w6).alloc (.cells #[.int .i64 C, .int .i64 k] 46))).fr (Fr.grown hg7) (fun hm => by
          cases hv : u6.ownBlock with
          | none => rw [hv] at hm; simp at hm
          | some g => rw [hv] at hm; have := (O7.lt g hv).1; simp at hm; omega) (fun hm => by
          cases hv : u6.ownBlock with
          | none => rw [hv] at hm; simp at hm
          | some g => rw [hv] at hm; have := (O7.lt g hv).1; simp at hm; omega) (fun hm => by
          cases hv : u6.ownBlock with
          | none => rw [hv] at hm; simp at hm
          | some g => rw [hv] at hm; have := (O7.lt g hv).1; simp at hm; omega))
        have O8 := Lib.hid hown7
        clear hg7 hown7 O7
        go_roundw
        case rel =>
          refine ⟨k + 1, by omega, by go_num, ?_, ?_, F7.out⟩
          · rw [HSF.out, List.length_append, flt_app]; exact O8.out
          · rw [HSX.out]; exact P7.out
        case measure => simp [intOf]; omega
    · obtain rfl : k = n := by omega
      go_wp2_with fail
      go_ret
      have e1 : l.take k = l := by rw [← HN.out, List.take_length]
      rw [e1] at HOW
      exact ⟨_, rfl, own_base HOW.out (by omega), FR.out⟩
end Go.Proofs.Ytkbdoiefgmbikaa
