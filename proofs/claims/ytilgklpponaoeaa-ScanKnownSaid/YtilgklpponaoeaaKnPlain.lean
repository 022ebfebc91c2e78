/-
  The states that the closed statement of layer 17 comes through, in plain words. Condition: two capabilities, of which just the first is stale.
-/







import Derived.Test.YtilgklpponaoeaaPage
import Derived.Test.YtilgklpponaoeaaClean
set_option linter.unusedVariables false
namespace Go.Proofs.Ytilgklpponaoeaa
open Go.ChangeShapes Go.WideShapes Go.ChangeAt Go.RowKit
def tgs (L : List Nat) : Nat → Bool := fun i => decide (i ∈ L)
theorem tgs_nil : (fun _ => false) = tgs [] := by funext i; unfold tgs; simp
theorem scF_tgs (bs : List Nat) (L : List Nat) (i : Nat) (c : Cp) (hb : bs.length = 4096) (hi : i < 256) (hv : (c.v && soundB c) = true) : scF bs (tgs L) (16 * i) c = tgs (i :: L) := by
  have hw : whB bs.length (16 * i) = true := by unfold whB; rw [hb]; simp; omega
  unfold scF stF wrF
  rw [if_pos hw, bytesC_len, if_pos ⟨by omega, by omega⟩, hv]
  funext j
  unfold upd putF
  rw [clr_get, show 16 * i / 16 = i by omega, show (16 * i + 16 - 1) / 16 = i by omega]
  by_cases h : j = i
  · rw [if_pos h]; unfold tgs; simp [h]
  · rw [if_neg h]
    unfold tgs
    by_cases h2 : i ≤ j
    · rw [decide_eq_false (show ¬ j < i + 1 by omega)]; simp [h]
    · rw [decide_eq_false h2]; simp [h]
theorem scL_sub (bs : List Nat) (i : Nat) (c : Cp) (hb : bs.length = 4096) (hi : i < 256) : sub (scL bs (16 * i) c) (16 * i) 16 = bytesC c := by
  have hw : whB bs.length (16 * i) = true := by unfold whB; rw [hb]; simp; omega
  unfold scL
  rw [if_pos hw]
  exact wrL_sub bs (16 * i) (bytesC c) (by rw [bytesC_len]; omega) 16 (bytesC_len c).symm
theorem scL_far (bs : List Nat) (i j : Nat) (c : Cp) (h : i ≠ j) : sub (scL bs (16 * i) c) (16 * j) 16 = sub bs (16 * j) 16 := by
  unfold scL
  split
  · exact wrL_sub_far bs (16 * i) (bytesC c) (16 * j) 16 (by rw [bytesC_len]; omega)
  · rfl
theorem pgT_tgs (bs : List Nat) (hs : Int → Bool) (L l L' : List Nat) (h : ∀ i, i ∈ L' ↔ i ∈ L ∧ ¬ (16 * i ∈ l ∧ sU bs hs (16 * i) = true)) : pgT bs hs (tgs L) l = tgs L' := by
  funext i
  unfold pgT tgs
  rw [Bool.eq_iff_iff]
  simp [h i]
structure Good2 (c d : Cp) (hs : Int → Bool) : Prop where
  cok : c.Ok
  dok : d.Ok
  cr : c.rs < 16777216
  dr : d.rs < 16777216
  cv : c.v = true
  dv : d.v = true
  cs : soundB c = true
  ds : soundB d = true
  ch : stB hs c = true
  dh : stB hs d = false
theorem ofB_self (c : Cp) (hok : c.Ok) (hr : c.rs < 16777216) (hv : c.v = true) (hs : soundB c = true) : ofB (bytesC c) true = c ∧ ofB (bytesC c) false = c.off := by
  have h1 := ofB_bytes c hok true hr
  have h2 := ofB_bytes c hok false hr
  rw [hs] at h1
  constructor
  · rw [h1]; rw [show (true && true) = c.v by rw [hv]; rfl]
  · rw [h2]; rfl
theorem sU_nohs (bs : List Nat) (a : Nat) : sU bs nohs a = false := by unfold sU stB nohs; exact Bool.and_false _
theorem states (c d : Cp) (hs : Int → Bool) (h : Good2 c d hs) (bs0 : List Nat) (h0 : bs0.length = 4096) : ∃ bs1 bs2 bs3 bs4 bs5 : List Nat,
    bs1.length = 4096 ∧ bs2.length = 4096 ∧ bs3.length = 4096 ∧ bs4.length = 4096 ∧ bs5.length = 4096 ∧
    scL bs0 32 c = bs1 ∧ scF bs0 (fun _ => false) 32 c = tgs [2] ∧ scL bs1 48 d = bs2 ∧ scF bs1 (tgs [2]) 48 d = tgs [3, 2] ∧
    pgN bs2 nohs (tgP 4096 (tgs [3, 2]) 0) = 0 ∧ pgT bs2 nohs (tgs [3, 2]) (tgP 4096 (tgs [3, 2]) 0) = tgs [3, 2] ∧
    pgN bs2 hs (tgP 4096 (tgs [3, 2]) 1) = 0 ∧ pgT bs2 hs (tgs [3, 2]) (tgP 4096 (tgs [3, 2]) 1) = tgs [3, 2] ∧
    pgN bs2 hs (tgP 4096 (tgs [3, 2]) 0) = 1 ∧ pgT bs2 hs (tgs [3, 2]) (tgP 4096 (tgs [3, 2]) 0) = tgs [3] ∧
    pgN bs2 hs (tgP 4096 (tgs [3]) 0) = 0 ∧ pgT bs2 hs (tgs [3]) (tgP 4096 (tgs [3]) 0) = tgs [3] ∧
    pgN bs2 hs (tgP 4096 (tgs [3]) (-1)) = 0 ∧ pgT bs2 hs (tgs [3]) (tgP 4096 (tgs [3]) (-1)) = tgs [3] ∧
    pgN bs2 hs (tgP 4096 (tgs [3]) 16) = 0 ∧ pgT bs2 hs (tgs [3]) (tgP 4096 (tgs [3]) 16) = tgs [3] ∧
    scL bs2 512 c = bs3 ∧ scF bs2 (tgs [3]) 512 c = tgs [32, 3] ∧ scL bs3 528 d = bs4 ∧ scF bs3 (tgs [32, 3]) 528 d = tgs [33, 32, 3] ∧ scL bs4 544 c = bs5 ∧ scF bs4 (tgs [33, 32, 3]) 544 c = tgs [34, 33, 32, 3] ∧
    pgN bs5 hs (tgP 4096 (tgs [34, 33, 32, 3]) 2) = 2 ∧ pgT bs5 hs (tgs [34, 33, 32, 3]) (tgP 4096 (tgs [34, 33, 32, 3]) 2) = tgs [33, 3] ∧
    tgP 4096 (tgs [33, 3]) 2 = [528] ∧ ldC bs5 (tgs [33, 3]) 32 = c.off ∧ ldC bs5 (tgs [33, 3]) 48 = d := by
  have hvc : (c.v && soundB c) = true := by rw [h.cv, h.cs]; rfl
  have hvd : (d.v && soundB d) = true := by rw [h.dv, h.ds]; rfl
  obtain ⟨oc, oc'⟩ := ofB_self c h.cok h.cr h.cv h.cs
  obtain ⟨od, -⟩ := ofB_self d h.dok h.dr h.dv h.ds
  have l1 : (scL bs0 (16 * 2) c).length = 4096 := by rw [scL_len, h0]
  have a1 := scL_sub bs0 2 c h0 (by omega)
  obtain ⟨bs1, e1⟩ : ∃ x, scL bs0 (16 * 2) c = x := ⟨_, rfl⟩
  rw [e1] at l1 a1
  have l2 : (scL bs1 (16 * 3) d).length = 4096 := by rw [scL_len, l1]
  have a2 := scL_sub bs1 3 d l1 (by omega)
  have a3 := (scL_far bs1 3 2 d (by omega)).trans a1
  obtain ⟨bs2, e2⟩ : ∃ x, scL bs1 (16 * 3) d = x := ⟨_, rfl⟩
  rw [e2] at l2 a2 a3
  have u2 : sU bs2 hs 32 = true := by unfold sU; rw [show (32 : Nat) = 16 * 2 from rfl, a3, oc]; exact h.ch
  have u3 : sU bs2 hs 48 = false := by unfold sU; rw [show (48 : Nat) = 16 * 3 from rfl, a2, od]; exact h.dh
  have l3 : (scL bs2 (16 * 32) c).length = 4096 := by rw [scL_len, l2]
  have b1 := scL_sub bs2 32 c l2 (by omega)
  have b2 := (scL_far bs2 32 2 c (by omega)).trans a3
  have b3 := (scL_far bs2 32 3 c (by omega)).trans a2
  obtain ⟨bs3, e3⟩ : ∃ x, scL bs2 (16 * 32) c = x := ⟨_, rfl⟩
  rw [e3] at l3 b1 b2 b3
  have l4 : (scL bs3 (16 * 33) d).length = 4096 := by rw [scL_len, l3]
  have c1 := scL_sub bs3 33 d l3 (by omega)
  have c2 := (scL_far bs3 33 32 d (by omega)).trans b1
  have c3 := (scL_far bs3 33 2 d (by omega)).trans b2
  have c4 := (scL_far bs3 33 3 d (by omega)).trans b3
  obtain ⟨bs4, e4⟩ : ∃ x, scL bs3 (16 * 33) d = x := ⟨_, rfl⟩
  rw [e4] at l4 c1 c2 c3 c4
  have l5 : (scL bs4 (16 * 34) c).length = 4096 := by rw [scL_len, l4]
  have d1 := scL_sub bs4 34 c l4 (by omega)
  have d2 := (scL_far bs4 34 33 c (by omega)).trans c1
  have d3 := (scL_far bs4 34 32 c (by omega)).trans c2
  have d4 := (scL_far bs4 34 2 c (by omega)).trans c3
  have d5 := (scL_far bs4 34 3 c (by omega)).trans c4
  obtain ⟨bs5, e5⟩ : ∃ x, scL bs4 (16 * 34) c = x := ⟨_, rfl⟩
  rw [e5] at l5 d1 d2 d3 d4 d5
  have v1 : sU bs5 hs 512 = true := by unfold sU; rw [show (512 : Nat) = 16 * 32 from rfl, d3, oc]; exact h.ch
  have v2 : sU bs5 hs 528 = false := by unfold sU; rw [show (528 : Nat) = 16 * 33 from rfl, d2, od]; exact h.dh
  have v3 : sU bs5 hs 544 = true := by unfold sU; rw [show (544 : Nat) = 16 * 34 from rfl, d1, oc]; exact h.ch
  have t1 : tgP 4096 (tgs [3, 2]) 0 = [32, 48] := by decide +kernel
  have t2 : tgP 4096 (tgs [3, 2]) 1 = [] := by decide +kernel
  have t3 : tgP 4096 (tgs [3]) 0 = [48] := by decide +kernel
  have t4 : tgP 4096 (tgs [3]) (-1) = [] := by decide +kernel
  have t5 : tgP 4096 (tgs [3]) 16 = [] := by decide +kernel
  have t6 : tgP 4096 (tgs [34, 33, 32, 3]) 2 = [512, 528, 544] := by decide +kernel
  have t7 : tgP 4096 (tgs [33, 3]) 2 = [528] := by decide +kernel
  have n0 : ∀ bs hs, pgN bs hs [] = 0 := fun _ _ => rfl
  refine ⟨bs1, bs2, bs3, bs4, bs5, l1, l2, l3, l4, l5, e1, ?_, e2, scF_tgs bs1 [2] 3 d l1 (by omega) hvd, ?_, ?_, ?_, ?_, ?_, ?_, ?_, ?_, ?_, ?_, ?_, ?_, e3, scF_tgs bs2 [3] 32 c l2 (by omega) hvc, e4, scF_tgs bs3 [32, 3] 33 d l3 (by omega) hvd, e5, scF_tgs bs4 [33, 32, 3] 34 c l4 (by omega) hvc, ?_, ?_, t7, ?_, ?_⟩
  · rw [tgs_nil]; exact scF_tgs bs0 [] 2 c h0 (by omega) hvc
  · rw [t1]; unfold pgN; simp [sU_nohs]
  · refine pgT_tgs bs2 nohs _ _ _ fun i => ?_
    rw [sU_nohs]; simp
  · rw [t2]; rfl
  · rw [t2, pgT_nil]
  · rw [t1]; unfold pgN; simp [u2, u3]
  · rw [t1]
    refine pgT_tgs bs2 hs _ _ _ fun i => ?_
    simp only [List.mem_cons, List.not_mem_nil, or_false]
    constructor
    · rintro rfl
      exact ⟨.inl rfl, fun hx => by rw [show 16 * 3 = 48 from rfl, u3] at hx; exact absurd hx.2 (by simp)⟩
    · rintro ⟨rfl | rfl, h2⟩
      · rfl
      · exact absurd ⟨.inl rfl, u2⟩ h2
  · rw [t3]; unfold pgN; simp [u3]
  · rw [t3]
    refine pgT_tgs bs2 hs _ _ _ fun i => ?_
    simp only [List.mem_cons, List.not_mem_nil, or_false]
    constructor
    · rintro rfl
      exact ⟨rfl, fun hx => by rw [show 16 * 3 = 48 from rfl, u3] at hx; exact absurd hx.2 (by simp)⟩
    · rintro ⟨rfl, h2⟩; rfl
  · rw [t4]; rfl
  · rw [t4, pgT_nil]
  · rw [t5]; rfl
  · rw [t5, pgT_nil]
  · rw [t6]; unfold pgN; simp [v1, v2, v3]
  · rw [t6]
    refine pgT_tgs bs5 hs _ _ _ fun i => ?_
    simp only [List.mem_cons, List.not_mem_nil, or_false]
    constructor
    · rintro (rfl | rfl)
      · exact ⟨.inr (.inl rfl), fun hx => by rw [show 16 * 33 = 528 from rfl, v2] at hx; exact absurd hx.2 (by simp)⟩
      · exact ⟨.inr (.inr (.inr rfl)), fun hx => by omega⟩
    · rintro ⟨rfl | rfl | rfl | rfl, h2⟩
      · exact absurd ⟨.inr (.inr rfl), v3⟩ h2
      · exact .inl rfl
      · exact absurd ⟨.inl rfl, v1⟩ h2
      · exact .inr rfl
  · unfold ldC
    rw [if_pos (by unfold whB; rw [l5]; decide), show (32 : Nat) = 16 * 2 from rfl, d4, show tgs [33, 3] (16 * 2 / 16) = false from by decide]
    exact oc'
  · unfold ldC
    rw [if_pos (by unfold whB; rw [l5]; decide), show (48 : Nat) = 16 * 3 from rfl, d5, show tgs [33, 3] (16 * 3 / 16) = true from by decide]
    exact od
end Go.Proofs.Ytilgklpponaoeaa
