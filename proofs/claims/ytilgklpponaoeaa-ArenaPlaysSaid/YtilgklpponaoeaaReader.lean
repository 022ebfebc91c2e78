/-
  What a reader of bytes does. Condition: widths 1, 2 and 4, and as many bytes left.
-/


import Derived.Test.YtilgklpponaoeaaOctet
set_option linter.unusedVariables false
namespace Go.Proofs.Ytilgklpponaoeaa
open Go.ChangeShapes Go.WideShapes Go.ChangeAt Go.RowKit
/-- A reader at block rp: the bytes l are left, in block g. -/
def Rd (w : World) (rp g : Nat) (l : List Nat) : Prop := rp ≠ g ∧ l.length ≤ 1000000 ∧ Byt l ∧ ∃ off cap, At w rp 170 #[.slice (some ⟨g, off, none⟩) l.length cap] ∧ l.length ≤ cap ∧ cap ≤ 9223372036854775807 ∧ g < w.heap.size ∧ ∀ j v, (bys l)[j]? = some v → w.cell? ⟨g, off + j, none⟩ = some v
theorem Rd.fr {w w' : World} {rp g : Nat} {l : List Nat} {S : List Nat} (h : Rd w rp g l) (f : Fr S w w') (h1 : rp ∉ S) (h2 : g ∉ S) : Rd w' rp g l := by
  obtain ⟨hne, hl, hb, off, cap, hA, hc, hc2, hg, hi⟩ := h
  exact ⟨hne, hl, hb, off, cap, hA.fr f h1, hc, hc2, Nat.lt_of_lt_of_le hg f.size, fun j v hv => (f.cell (a := ⟨g, off + j, none⟩) hg h2).trans (hi j v hv)⟩
theorem onew_any (w : World) (l : List Nat) (hb : Byt l) (hl : l.length ≤ 1000000) :
    Calls Try.prog 92 #[strV l] w fun r w' => ∃ rp g, r = .returned (.pointer (some ⟨rp, 0, none⟩)) ∧ Rd w' rp g l ∧ w.heap.size ≤ rp ∧ w.heap.size ≤ g ∧ Fr [] w w' := by
  have HB := Lib.hid hb
  obtain ⟨s, hs⟩ : ∃ s, strV l = s := ⟨_, rfl⟩
  have HS := Lib.hid hs
  have HL := Lib.hid hl
  rw [hs]
  clear hb hs hl
  go_enter Try.func92, Try.ntmps92
  go_wp2_with (refine wpList_bytes rfl Try.underlying9 ⟨5, Try.underlying31, Try.underlying5⟩ (.tmp 3) rfl l HB.out HL.out HS.out.symm ?_; intro w2 g cap hg hcap hcm hc hf hgl)
  go_ret
  have F := (show Fr [] w2 (w2.alloc (.cells #[.slice (some ⟨g, 0, none⟩) l.length cap] 170)) from (by repeat (first | exact Fr.refl _ _ | assumption | refine Fr.trans0 ?_ (by assumption) | refine Fr.drewN ?_ _ | refine Fr.alloc ?_ _ | refine Fr.drew ?_)))
  exact ⟨_, g, rfl, ⟨by omega, HL.out, HB.out, 0, cap, At.new _ _ _, hcap, hcm, by simp; omega, fun j v hv => by rw [Nat.zero_add]; exact (F.cell (a := ⟨g, j, none⟩) hgl (by simp)).trans (hc j v hv)⟩, hf.size, hg, hf.trans0 F⟩
theorem oleft_any (w : World) (rp g : Nat) (l : List Nat) (h : Rd w rp g l) : Calls Try.prog 109 #[.pointer (some ⟨rp, 0, none⟩)] w fun r w' => r = .returned (.int .i64 l.length) ∧ w = w' := by
  obtain ⟨hne, hl, hb, off, cap, hA, hc, hc2, hg, hi⟩ := h
  have c0 := hA.cell 0
  simp only [List.getElem?_toArray, List.getElem?_cons_zero] at c0
  clear hi hA
  go_enter Try.func109, Try.ntmps109
  go_wp2_with fail
  go_ret
  exact ⟨rfl, rfl⟩
theorem otake_any (w : World) (rp g : Nat) (l : List Nat) (h : Rd w rp g l) (k : Nat) (hk : k ≤ l.length) : Calls Try.prog 106 #[.pointer (some ⟨rp, 0, none⟩), .int .i64 k] w fun r w' => r = .returned (.tuple #[strV (l.take k), .bool true]) ∧ Rd w' rp g (l.drop k) ∧ Fr [rp] w w' := by
  have C := Lib.hid (oleft_any w rp g l h)
  obtain ⟨hne, hl, hb, off, cap, hA, hc, hc2, hg, hi⟩ := h
  have c0 := hA.cell 0
  have z0 := hA.froz 0
  simp only [List.getElem?_toArray, List.getElem?_cons_zero] at c0
  obtain ⟨n, hn⟩ : ∃ n, l.length = n := ⟨_, rfl⟩
  have HI := Lib.hid (show BIn w (some ⟨g, off, none⟩) (l.take k) from .inr ⟨g, off, rfl, hg, fun j v hv => by
    rw [← bys_take] at hv
    rw [List.getElem?_take] at hv
    split at hv
    · exact hi j v hv
    · cases hv⟩)
  have HBT := Lib.hid (hb.take k)
  have HLT := Lib.hid (show (l.take k).length = k by rw [List.length_take]; omega)
  have HA := Lib.hid hA
  have HE := Lib.hid hi
  have HB := Lib.hid hb
  have HN := Lib.hid hn
  have hgt : ¬ (k : Int) > (n : Int) := by omega
  have hk0 : ¬ (k : Int) < 0 := by omega
  rw [hn] at C c0 hl hc hk
  unfold strV
  obtain ⟨S, hS⟩ : ∃ S, BS (l.take k) = S := ⟨_, rfl⟩
  have HS := Lib.hid (show strV (l.take k) = .string S by unfold strV; rw [hS])
  rw [hS]
  clear hA hb hi hn hS
  go_enter Try.func106, Try.ntmps106
  go_wp2_with fail
  refine (C.out).mono ?_
  rintro e w' ⟨rfl, rfl⟩
  go_wp2_with (refine wpList_str rfl ⟨5, Try.underlying31, Try.underlying5⟩ Try.underlying9 (.tmp 25) rfl _ k k rfl (l.take k) HLT.out HBT.out HI.out (fun h => by cases h) ?_; rw [HS.out])
  case inl =>
    go_ret2
    have F : Fr [rp] w (w.setCell ⟨rp, 0, none⟩ (.slice (some ⟨g, off, none⟩) (n - k) 0)) := (Fr.refl _ _).set (.inl (by simp)) _
    have hdl : (l.drop k).length = n - k := by rw [List.length_drop, HN.out]
    have hnk : n - k = 0 := by omega
    refine ⟨rfl, ⟨hne, by rw [hdl]; omega, HB.out.drop k, off, 0, ?_, by rw [hdl]; omega, by omega, Nat.lt_of_lt_of_le hg F.size, fun j v hv => ?_⟩, F⟩
    · have := HA.out.set 0 (.slice (some ⟨g, off, none⟩) (n - k) 0)
      rw [hdl]; exact this
    · have hj := (List.getElem?_eq_some_iff.1 hv).1
      rw [bys_len, hdl] at hj
      omega
  case inr =>
    go_ret2
    have F : Fr [rp] w (w.setCell ⟨rp, 0, none⟩ (.slice (some ⟨g, off + k, none⟩) (n - k) (cap - k))) := (Fr.refl _ _).set (.inl (by simp)) _
    have hdl : (l.drop k).length = n - k := by rw [List.length_drop, HN.out]
    refine ⟨rfl, ⟨hne, by rw [hdl]; omega, HB.out.drop k, off + k, cap - k, ?_, by rw [hdl]; omega, by omega, Nat.lt_of_lt_of_le hg F.size, fun j v hv => ?_⟩, F⟩
    · have := HA.out.set 0 (.slice (some ⟨g, off + k, none⟩) (n - k) (cap - k))
      rw [hdl]; exact this
    · rw [← bys_drop, List.getElem?_drop] at hv
      have := HE.out (k + j) v hv
      rw [show off + k + j = off + (k + j) by omega]
      exact (F.cell (a := ⟨g, off + (k + j), none⟩) hg (by simp; omega)).trans this
theorem onumber_any (w : World) (rp g : Nat) (l : List Nat) (h : Rd w rp g l) (k : Nat) (hk : k = 1 ∨ k = 2 ∨ k = 4) (hkl : k ≤ l.length) : Calls Try.prog 94 #[.pointer (some ⟨rp, 0, none⟩), .int .i64 k] w fun r w' => r = .returned (.tuple #[.int .u32 (unle (l.take k)), .bool true]) ∧ Rd w' rp g (l.drop k) ∧ Fr [rp] w w' := by
  have H := Lib.hid h
  obtain ⟨hne, hl, hb, off, cap, hA, hc, hc2, hg, hi⟩ := h
  have CG := Lib.hid (oget_any w g off l.length cap 0 k hk (by omega) hl hc hc2 (l.take k) (by rw [List.length_take]; omega) (hb.take k) (fun j v hv => by
    rw [← bys_take, List.getElem?_take] at hv
    split at hv
    · exact hi j v hv
    · cases hv))
  have CT := Lib.hid fun W hW => otake_any W rp g l (H.out.fr (S := []) hW (by simp) (by simp)) k hkl
  have c0 := hA.cell 0
  simp only [List.getElem?_toArray, List.getElem?_cons_zero] at c0
  obtain ⟨N, hN⟩ : ∃ N, unle (l.take k) = N := ⟨_, rfl⟩
  rw [hN] at CG ⊢
  clear hA hb hi hN hk
  go_enter Try.func94, Try.ntmps94
  go_wp2_with fail
  refine (CG.out).mono ?_
  rintro e w' ⟨rfl, m, rfl⟩
  go_wp2_with fail
  refine (CT.out _ ((Fr.refl _ _).drewN m)).mono ?_
  rintro e w3 ⟨rfl, h3, hf3⟩
  have H3 := Lib.hid h3
  go_wp2_with fail
  go_ret2
  exact ⟨rfl, H3.out, hf3.hd rfl rfl rfl rfl⟩
end Go.Proofs.Ytilgklpponaoeaa
