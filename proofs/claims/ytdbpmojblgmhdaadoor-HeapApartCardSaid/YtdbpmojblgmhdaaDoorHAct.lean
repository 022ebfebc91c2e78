/-
  A choice: act. Condition: the table of math/bits is as the library lays it.
-/



import Derived.Test.YtdbpmojblgmhdaaDoorHWorks
set_option linter.unusedVariables false
namespace Go.Proofs.YtdbpmojblgmhdaaDoor
open Go.ChangeShapes Go.WideShapes Go.ChangeAt Go.RowKit
section
variable {w : World} {I : HId} {own : Rg} {L R : List Rg}
/-- The row of a list, opened. -/
theorem row_at {W : World} {b : Nat} {v : Value} {l : List Rg} (h : W.ownsRow b 31 2 v l.length (rgv l)) (hl : l ≠ []) : ∃ g c, v = .slice (some ⟨g, 0, none⟩) l.length c ∧ b ≤ g ∧ ∀ i r, l[i]? = some r → W.cell? ⟨g, i * 2, none⟩ = some (.int .u32 r.1) ∧ W.cell? ⟨g, i * 2 + 1, none⟩ = some (.int .u32 r.2) := by
  rcases rows_open h with ⟨_, h0⟩ | ⟨g, c, cur, rfl, hb, hA, _, _, _, h4⟩
  · exact absurd (List.eq_nil_of_length_eq_zero h0) hl
  · refine ⟨g, c, rfl, hb, fun i r hr => ?_⟩
    have h2 := rgv_get l i r hr
    have k0 := rows_at (n := l.length) (cap := c) hA h4 (i * 2) 0 _ (by rw [List.getElem?_drop]; exact h2.1)
    have k1 := rows_at (n := l.length) (cap := c) hA h4 (i * 2) 1 _ (by rw [List.getElem?_drop]; exact h2.2)
    exact ⟨k0, k1⟩
def Acted (w : World) (I : HId) (own : Rg) (w' : World) : Prop := ∃ L' R', Hp w' I own L' R' ∧ Fr I.foot w w'
theorem act_any (h : Hp w I own L R) (hT : Tab32 w) (x n : Nat) (hx : x < 256) (hn : n < 256) :
    Calls Tryd.prog 10 #[.pointer (some ⟨I.hp, 0, none⟩), .int .u8 x, .int .u8 n] w fun e w' => e = .returned (.tuple #[]) ∧ Acted w I own w' := by
  have HT := Lib.hid hT
  clear hT
  by_cases h1 : x % 8 < 4
  · have q1 : (x : Int) % 8 < 4 := by omega
    have CL := Lib.hid (live_any h)
    have HH := Lib.hid h
    clear h
    go_enter Tryd.func10, Tryd.ntmps10
    go_wp2_with fail
    refine (CL.out).mono ?_
    rintro e w1 ⟨vl, rfl, hol, hf1⟩
    have H1 := Lib.hid (HH.out.fr0 hf1)
    have CR := Lib.hid (rest_any H1.out)
    have HOL := Lib.hid hol
    have HF1 := Lib.hid hf1
    clear hol hf1
    go_wp2_with fail
    refine (CR.out).mono ?_
    rintro e w2 ⟨vr, rfl, hor, hf2⟩
    have H2 := Lib.hid (H1.out.fr0 hf2)
    have HOL2 := Lib.hid (own_fr0 HOL.out hf2)
    have HOR := Lib.hid hor
    have HF2 := Lib.hid (HF1.out.trans0 hf2)
    clear hor hf2
    go_wp2_with fail
    have hz : (1 + (n : Int) * (1 + (x : Int) % 8)) % 4294967296 = ((1 + n * (1 + x % 8) : Nat) : Int) := by
      have hb : n * (1 + x % 8) ≤ 255 * 8 := Nat.mul_le_mul (by omega) (by omega)
      have e1 : ((n * (1 + x % 8) : Nat) : Int) = (n : Int) * (1 + (x : Int) % 8) := by rw [Int.natCast_mul, Int.natCast_add, Int.natCast_emod]; rfl
      rw [← e1]
      omega
    have hb : n * (1 + x % 8) ≤ 255 * 8 := Nat.mul_le_mul (by omega) (by omega)
    rw [hz]
    have CM := malloc_any H2.out (HT.out.fr HF2.out (by simp)) (size := 1 + n * (1 + x % 8)) (by omega)
    refine CM.mono ?_
    rintro e w3 ⟨rfl, h3, hf3⟩
    have H3 := Lib.hid h3
    have HF3 := Lib.hid ((HF2.out.more (T := I.foot) (by simp)).trans hf3 (fun k hk => .inl hk))
    clear h3 hf3 CM hz hb
    go_wp2
    go_end0
    exact ⟨rfl, _, _, H3.out, HF3.out⟩
  by_cases h2 : x % 8 < 6 ∧ L ≠ []
  · have q1 : ¬ ((x : Int) % 8 < 4) := by omega
    have q2 : (x : Int) % 8 < 6 := by omega
    obtain ⟨_, hL⟩ := h2
    have q3 : (0 : Int) < (L.length : Int) := by have := List.length_pos_iff.2 hL; omega
    have CL := Lib.hid (live_any h)
    have HH := Lib.hid h
    clear h
    go_enter Tryd.func10, Tryd.ntmps10
    go_wp2_with fail
    refine (CL.out).mono ?_
    rintro e w1 ⟨vl, rfl, hol, hf1⟩
    have H1 := Lib.hid (HH.out.fr0 hf1)
    have CR := Lib.hid (rest_any H1.out)
    have HOL := Lib.hid hol
    have HF1 := Lib.hid hf1
    clear hol hf1
    go_wp2_with fail
    refine (CR.out).mono ?_
    rintro e w2 ⟨vr, rfl, hor, hf2⟩
    have H2 := Lib.hid (H1.out.fr0 hf2)
    have HOL2 := Lib.hid (own_fr0 HOL.out hf2)
    have HOR := Lib.hid hor
    have HF2 := Lib.hid (HF1.out.trans0 hf2)
    clear hor hf2
    obtain ⟨g, c, rfl, _, hrow⟩ := row_at HOL2.out hL
    have hi : n % L.length < L.length := Nat.mod_lt _ (by omega)
    obtain ⟨⟨r1, r2⟩, hr⟩ : ∃ r, L[n % L.length]? = some r := ⟨_, List.getElem?_eq_getElem hi⟩
    obtain ⟨k0, k1⟩ := hrow _ _ hr
    have HRM := Lib.hid (List.mem_of_getElem? hr)
    have q4 : (n : Int).tmod (L.length : Int) = ((n % L.length : Nat) : Int) := by rw [Int.tmod_eq_emod_of_nonneg (by omega)]; rfl
    obtain ⟨N, hN⟩ : ∃ N, L.length = N := ⟨_, rfl⟩
    rw [hN] at q3 q4 k0 k1 hi
    clear hrow hr h1
    go_wp2_with fail
    have CM := free_yes (r := (r1, r2)) H2.out HRM.out
    refine CM.mono ?_
    rintro e w3 ⟨rfl, h3, hf3⟩
    have H3 := Lib.hid h3
    have HF3 := Lib.hid ((HF2.out.more (T := I.foot) (by simp)).trans hf3 (fun k hk => .inl hk))
    clear h3 hf3 CM
    go_wp2
    go_end0
    exact ⟨rfl, _, _, H3.out, HF3.out⟩
  have q1 : ¬ ((x : Int) % 8 < 4) := by omega
  by_cases hR : R = []
  · subst hR
    by_cases h6 : x % 8 < 6
    · have q2 : (x : Int) % 8 < 6 := by omega
      have hL : L = [] := Classical.byContradiction fun hL => h2 ⟨h6, hL⟩
      subst hL
      clear h1 h2 h6
      have CL := Lib.hid (live_any h)
      have HH := Lib.hid h
      clear h
      go_enter Tryd.func10, Tryd.ntmps10
      go_wp2_with fail
      refine (CL.out).mono ?_
      rintro e w1 ⟨vl, rfl, hol, hf1⟩
      have H1 := Lib.hid (HH.out.fr0 hf1)
      have CR := Lib.hid (rest_any H1.out)
      have HOL := Lib.hid hol
      have HF1 := Lib.hid hf1
      clear hol hf1
      go_wp2_with fail
      refine (CR.out).mono ?_
      rintro e w2 ⟨vr, rfl, hor, hf2⟩
      have H2 := Lib.hid (H1.out.fr0 hf2)
      have HOL2 := Lib.hid (own_fr0 HOL.out hf2)
      have HOR := Lib.hid hor
      have HF2 := Lib.hid (HF1.out.trans0 hf2)
      clear hor hf2
      obtain ⟨a, c, rfl, _⟩ := own_slice HOL2.out
      obtain ⟨a2, c2, rfl, _⟩ := own_slice HOR.out
      simp only [List.length_nil]
      go_wp2
      go_end0
      exact ⟨rfl, _, _, H2.out, HF2.out.more (by simp)⟩
    · have q2 : ¬ ((x : Int) % 8 < 6) := by omega
      clear h1 h2 h6
      have CL := Lib.hid (live_any h)
      have HH := Lib.hid h
      clear h
      go_enter Tryd.func10, Tryd.ntmps10
      go_wp2_with fail
      refine (CL.out).mono ?_
      rintro e w1 ⟨vl, rfl, hol, hf1⟩
      have H1 := Lib.hid (HH.out.fr0 hf1)
      have CR := Lib.hid (rest_any H1.out)
      have HOL := Lib.hid hol
      have HF1 := Lib.hid hf1
      clear hol hf1
      go_wp2_with fail
      refine (CR.out).mono ?_
      rintro e w2 ⟨vr, rfl, hor, hf2⟩
      have H2 := Lib.hid (H1.out.fr0 hf2)
      have HOL2 := Lib.hid (own_fr0 HOL.out hf2)
      have HOR := Lib.hid hor
      have HF2 := Lib.hid (HF1.out.trans0 hf2)
      clear hor hf2
      obtain ⟨a2, c2, rfl, _⟩ := own_slice HOR.out
      simp only [List.length_nil]
      go_wp2
      go_end0
      exact ⟨rfl, _, _, H2.out, HF2.out.more (by simp)⟩
  have q3 : (0 : Int) < (R.length : Int) := by have := List.length_pos_iff.2 hR; omega
  by_cases h6 : x % 8 < 6
  · have q2 : (x : Int) % 8 < 6 := by omega
    have hL : L = [] := Classical.byContradiction fun hL => h2 ⟨h6, hL⟩
    subst hL
    clear h1 h2 h6
    have CL := Lib.hid (live_any h)
    have HH := Lib.hid h
    clear h
    go_enter Tryd.func10, Tryd.ntmps10
    go_wp2_with fail
    refine (CL.out).mono ?_
    rintro e w1 ⟨vl, rfl, hol, hf1⟩
    have H1 := Lib.hid (HH.out.fr0 hf1)
    have CR := Lib.hid (rest_any H1.out)
    have HOL := Lib.hid hol
    have HF1 := Lib.hid hf1
    clear hol hf1
    go_wp2_with fail
    refine (CR.out).mono ?_
    rintro e w2 ⟨vr, rfl, hor, hf2⟩
    have H2 := Lib.hid (H1.out.fr0 hf2)
    have HOL2 := Lib.hid (own_fr0 HOL.out hf2)
    have HOR := Lib.hid hor
    have HF2 := Lib.hid (HF1.out.trans0 hf2)
    clear hor hf2
    obtain ⟨a, c9, rfl, _⟩ := own_slice HOL2.out
    simp only [List.length_nil]
    obtain ⟨g, c, rfl, _, hrow⟩ := row_at HOR.out hR
    have hi : n % R.length < R.length := Nat.mod_lt _ (by omega)
    obtain ⟨⟨r1, r2⟩, hr⟩ : ∃ r, R[n % R.length]? = some r := ⟨_, List.getElem?_eq_getElem hi⟩
    obtain ⟨k0, k1⟩ := hrow _ _ hr
    have HRM := Lib.hid (List.mem_of_getElem? hr)
    have q4 : (n : Int).tmod (R.length : Int) = ((n % R.length : Nat) : Int) := by rw [Int.tmod_eq_emod_of_nonneg (by omega)]; rfl
    obtain ⟨N, hN⟩ : ∃ N, R.length = N := ⟨_, rfl⟩
    rw [hN] at q3 q4 k0 k1 hi ⊢
    clear hrow hr
    go_wp2_with fail
    have CM := release_yes (r := (r1, r2)) H2.out HRM.out
    refine CM.mono ?_
    rintro e w3 ⟨rfl, h3, hf3⟩
    have H3 := Lib.hid h3
    have HF3 := Lib.hid ((HF2.out.more (T := I.foot) (by simp)).trans hf3 (fun k hk => .inl hk))
    clear h3 hf3 CM
    go_wp2
    go_end0
    exact ⟨rfl, _, _, H3.out, HF3.out⟩
  · have q2 : ¬ ((x : Int) % 8 < 6) := by omega
    clear h1 h2 h6
    have CL := Lib.hid (live_any h)
    have HH := Lib.hid h
    clear h
    go_enter Tryd.func10, Tryd.ntmps10
    go_wp2_with fail
    refine (CL.out).mono ?_
    rintro e w1 ⟨vl, rfl, hol, hf1⟩
    have H1 := Lib.hid (HH.out.fr0 hf1)
    have CR := Lib.hid (rest_any H1.out)
    have HOL := Lib.hid hol
    have HF1 := Lib.hid hf1
    clear hol hf1
    go_wp2_with fail
    refine (CR.out).mono ?_
    rintro e w2 ⟨vr, rfl, hor, hf2⟩
    have H2 := Lib.hid (H1.out.fr0 hf2)
    have HOL2 := Lib.hid (own_fr0 HOL.out hf2)
    have HOR := Lib.hid hor
    have HF2 := Lib.hid (HF1.out.trans0 hf2)
    clear hor hf2
    obtain ⟨g, c, rfl, _, hrow⟩ := row_at HOR.out hR
    have hi : n % R.length < R.length := Nat.mod_lt _ (by omega)
    obtain ⟨⟨r1, r2⟩, hr⟩ : ∃ r, R[n % R.length]? = some r := ⟨_, List.getElem?_eq_getElem hi⟩
    obtain ⟨k0, k1⟩ := hrow _ _ hr
    have HRM := Lib.hid (List.mem_of_getElem? hr)
    have q4 : (n : Int).tmod (R.length : Int) = ((n % R.length : Nat) : Int) := by rw [Int.tmod_eq_emod_of_nonneg (by omega)]; rfl
    obtain ⟨N, hN⟩ : ∃ N, R.length = N := ⟨_, rfl⟩
    rw [hN] at q3 q4 k0 k1 hi ⊢
    clear hrow hr
    go_wp2_with fail
    have CM := release_yes (r := (r1, r2)) H2.out HRM.out
    refine CM.mono ?_
    rintro e w3 ⟨rfl, h3, hf3⟩
    have H3 := Lib.hid h3
    have HF3 := Lib.hid ((HF2.out.more (T := I.foot) (by simp)).trans hf3 (fun k hk => .inl hk))
    clear h3 hf3 CM
    go_wp2
    go_end0
    exact ⟨rfl, _, _, H3.out, HF3.out⟩
end
end Go.Proofs.YtdbpmojblgmhdaaDoor
