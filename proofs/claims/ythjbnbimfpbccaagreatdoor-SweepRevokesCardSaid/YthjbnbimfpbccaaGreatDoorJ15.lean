/-
  The states that the closed statement of layer 17 comes through, in plain words. Condition: two capabilities, of which just the first is stale.
-/
import Derived.Test.YthjbnbimfpbccaaGreatDoorTie
import Derived.Test.YthjbnbimfpbccaaGreatDoorCards
import Derived.LaidLaws
import Derived.LaidHandle
import Derived.JoinedOf
import Derived.Stop.Joined
import Derived.RowKitTokens
import Derived.SevenTiedAt
import Derived.Test.YthjbnbimfpbccaaGreatDoorJ14







set_option linter.unusedVariables false
namespace Go.Proofs.YthjbnbimfpbccaaGreatDoor
open Go.ChangeShapes Go.WideShapes Go.ChangeAt Go.RowKit
def tgs (L : List Nat) : Nat → Bool := fun i => decide (i ∈ L)
theorem tgs_nil : (fun _ => false) = tgs [] := by funext i; unfold tgs; simp
theorem scF_tgs (bs : List Nat) (L : List Nat) (i : Nat) (c : Cp) (hb : bs.length = 4096) (hi : i < 256) (hv : (c.v && soundB c) = true) : scF bs (tgs L) (16 * i) c = tgs (i :: L) := by
  have hw : whB bs.length (16 * i) = true := by unfold whB; rw [hb]; simp; omega
  unfold scF stF wrF
  rw [if_pos hw, bytesC_len, if_pos ⟨by omega, by omega⟩, hv]
  funext j
  unfold upd putF
  rw [clr_get, show 16 * i / 16 = i by omega, show (16 * i + 16 - 1) / 16 = i by omega]
  by_cases h : j = i
  · rw [if_pos h]; unfold tgs; simp [h]
  · rw [if_neg h]
    unfold tgs
    by_cases h2 : i ≤ j
    · rw [decide_eq_false (show ¬ j < i + 1 by omega)]; simp [h]
    · rw [decide_eq_false h2]; simp [h]
theorem scL_sub (bs : List Nat) (i : Nat) (c : Cp) (hb : bs.length = 4096) (hi : i < 256) : sub (scL bs (16 * i) c) (16 * i) 16 = bytesC c := by
  have hw : whB bs.length (16 * i) = true := by unfold whB; rw [hb]; simp; omega
  unfold scL
  rw [if_pos hw]
  exact wrL_sub bs (16 * i) (bytesC c) (by rw [bytesC_len]; omega) 16 (bytesC_len c).symm
theorem scL_far (bs : List Nat) (i j : Nat) (c : Cp) (h : i ≠ j) : sub (scL bs (16 * i) c) (16 * j) 16 = sub bs (16 * j) 16 := by
  unfold scL
  split
  · exact wrL_sub_far bs (16 * i) (bytesC c) (16 * j) 16 (by rw [bytesC_len]; omega)
  · rfl
theorem pgT_tgs (bs : List Nat) (hs : Int → Bool) (L l L' : List Nat) (h : ∀ i, i ∈ L' ↔ i ∈ L ∧ ¬ (16 * i ∈ l ∧ sU bs hs (16 * i) = true)) : pgT bs hs (tgs L) l = tgs L' := by
  funext i
  unfold pgT tgs
  rw [Bool.eq_iff_iff]
  simp [h i]
structure Good2 (c d : Cp) (hs : Int → Bool) : Prop where
  cok : c.Ok
  dok : d.Ok
  cr : c.rs < 16777216
  dr : d.rs < 16777216
  cv : c.v = true
  dv : d.v = true
  cs : soundB c = true
  ds : soundB d = true
  ch : stB hs c = true
  dh : stB hs d = false
theorem ofB_self (c : Cp) (hok : c.Ok) (hr : c.rs < 16777216) (hv : c.v = true) (hs : soundB c = true) : ofB (bytesC c) true = c ∧ ofB (bytesC c) false = c.off := by
  have h1 := ofB_bytes c hok true hr
  have h2 := ofB_bytes c hok false hr
  rw [hs] at h1
  constructor
  · rw [h1]; rw [show (true && true) = c.v by rw [hv]; rfl]
  · rw [h2]; rfl
theorem sU_nohs (bs : List Nat) (a : Nat) : sU bs nohs a = false := by unfold sU stB nohs; exact Bool.and_false _
theorem states (c d : Cp) (hs : Int → Bool) (h : Good2 c d hs) (bs0 : List Nat) (h0 : bs0.length = 4096) : ∃ bs1 bs2 bs3 bs4 bs5 : List Nat,
    bs1.length = 4096 ∧ bs2.length = 4096 ∧ bs3.length = 4096 ∧ bs4.length = 4096 ∧ bs5.length = 4096 ∧
    scL bs0 32 c = bs1 ∧ scF bs0 (fun _ => false) 32 c = tgs [2] ∧ scL bs1 48 d = bs2 ∧ scF bs1 (tgs [2]) 48 d = tgs [3, 2] ∧
    pgN bs2 nohs (tgP 4096 (tgs [3, 2]) 0) = 0 ∧ pgT bs2 nohs (tgs [3, 2]) (tgP 4096 (tgs [3, 2]) 0) = tgs [3, 2] ∧
    pgN bs2 hs (tgP 4096 (tgs [3, 2]) 1) = 0 ∧ pgT bs2 hs (tgs [3, 2]) (tgP 4096 (tgs [3, 2]) 1) = tgs [3, 2] ∧
    pgN bs2 hs (tgP 4096 (tgs [3, 2]) 0) = 1 ∧ pgT bs2 hs (tgs [3, 2]) (tgP 4096 (tgs [3, 2]) 0) = tgs [3] ∧
    pgN bs2 hs (tgP 4096 (tgs [3]) 0) = 0 ∧ pgT bs2 hs (tgs [3]) (tgP 4096 (tgs [3]) 0) = tgs [3] ∧
    pgN bs2 hs (tgP 4096 (tgs [3]) (-1)) = 0 ∧ pgT bs2 hs (tgs [3]) (tgP 4096 (tgs [3]) (-1)) = tgs [3] ∧
    pgN bs2 hs (tgP 4096 (tgs [3]) 16) = 0 ∧ pgT bs2 hs (tgs [3]) (tgP 4096 (tgs [3]) 16) = tgs [3] ∧
    scL bs2 512 c = bs3 ∧ scF bs2 (tgs [3]) 512 c = tgs [32, 3] ∧ scL bs3 528 d = bs4 ∧ scF bs3 (tgs [32, 3]) 528 d = tgs [33, 32, 3] ∧ scL bs4 544 c = bs5 ∧ scF bs4 (tgs [33, 32, 3]) 544 c = tgs [34, 33, 32, 3] ∧
    pgN bs5 hs (tgP 4096 (tgs [34, 33, 32, 3]) 2) = 2 ∧ pgT bs5 hs (tgs [34, 33, 32, 3]) (tgP 4096 (tgs [34, 33, 32, 3]) 2) = tgs [33, 3] ∧
    tgP 4096 (tgs [33, 3]) 2 = [528] ∧ ldC bs5 (tgs [33, 3]) 32 = c.off ∧ ldC bs5 (tgs [33, 3]) 48 = d := by
  have hvc : (c.v && soundB c) = true := by rw [h.cv, h.cs]; rfl
  have hvd : (d.v && soundB d) = true := by rw [h.dv, h.ds]; rfl
  obtain ⟨oc, oc'⟩ := ofB_self c h.cok h.cr h.cv h.cs
  obtain ⟨od, -⟩ := ofB_self d h.dok h.dr h.dv h.ds
  have l1 : (scL bs0 (16 * 2) c).length = 4096 := by rw [scL_len, h0]
  have a1 := scL_sub bs0 2 c h0 (by omega)
  obtain ⟨bs1, e1⟩ : ∃ x, scL bs0 (16 * 2) c = x := ⟨_, rfl⟩
  rw [e1] at l1 a1
  have l2 : (scL bs1 (16 * 3) d).length = 4096 := by rw [scL_len, l1]
  have a2 := scL_sub bs1 3 d l1 (by omega)
  have a3 := (scL_far bs1 3 2 d (by omega)).trans a1
  obtain ⟨bs2, e2⟩ : ∃ x, scL bs1 (16 * 3) d = x := ⟨_, rfl⟩
  rw [e2] at l2 a2 a3
  have u2 : sU bs2 hs 32 = true := by unfold sU; rw [show (32 : Nat) = 16 * 2 from rfl, a3, oc]; exact h.ch
  have u3 : sU bs2 hs 48 = false := by unfold sU; rw [show (48 : Nat) = 16 * 3 from rfl, a2, od]; exact h.dh
  have l3 : (scL bs2 (16 * 32) c).length = 4096 := by rw [scL_len, l2]
  have b1 := scL_sub bs2 32 c l2 (by omega)
  have b2 := (scL_far bs2 32 2 c (by omega)).trans a3
  have b3 := (scL_far bs2 32 3 c (by omega)).trans a2
  obtain ⟨bs3, e3⟩ : ∃ x, scL bs2 (16 * 32) c = x := ⟨_, rfl⟩
  rw [e3] at l3 b1 b2 b3
  have l4 : (scL bs3 (16 * 33) d).length = 4096 := by rw [scL_len, l3]
  have c1 := scL_sub bs3 33 d l3 (by omega)
  have c2 := (scL_far bs3 33 32 d (by omega)).trans b1
  have c3 := (scL_far bs3 33 2 d (by omega)).trans b2
  have c4 := (scL_far bs3 33 3 d (by omega)).trans b3
  obtain ⟨bs4, e4⟩ : ∃ x, scL bs3 (16 * 33) d = x := ⟨_, rfl⟩
  rw [e4] at l4 c1 c2 c3 c4
  have l5 : (scL bs4 (16 * 34) c).length = 4096 := by rw [scL_len, l4]
  have d1 := scL_sub bs4 34 c l4 (by omega)
  have d2 := (scL_far bs4 34 33 c (by omega)).trans c1
  have d3 := (scL_far bs4 34 32 c (by omega)).trans c2
  have d4 := (scL_far bs4 34 2 c (by omega)).trans c3
  have d5 := (scL_far bs4 34 3 c (by omega)).trans c4
  obtain ⟨bs5, e5⟩ : ∃ x, scL bs4 (16 * 34) c = x := ⟨_, rfl⟩
  rw [e5] at l5 d1 d2 d3 d4 d5
  have v1 : sU bs5 hs 512 = true := by unfold sU; rw [show (512 : Nat) = 16 * 32 from rfl, d3, oc]; exact h.ch
  have v2 : sU bs5 hs 528 = false := by unfold sU; rw [show (528 : Nat) = 16 * 33 from rfl, d2, od]; exact h.dh
  have v3 : sU bs5 hs 544 = true := by unfold sU; rw [show (544 : Nat) = 16 * 34 from rfl, d1, oc]; exact h.ch
  have t1 : tgP 4096 (tgs [3, 2]) 0 = [32, 48] := by decide +kernel
  have t2 : tgP 4096 (tgs [3, 2]) 1 = [] := by decide +kernel
  have t3 : tgP 4096 (tgs [3]) 0 = [48] := by decide +kernel
  have t4 : tgP 4096 (tgs [3]) (-1) = [] := by decide +kernel
  have t5 : tgP 4096 (tgs [3]) 16 = [] := by decide +kernel
  have t6 : tgP 4096 (tgs [34, 33, 32, 3]) 2 = [512, 528, 544] := by decide +kernel
  have t7 : tgP 4096 (tgs [33, 3]) 2 = [528] := by decide +kernel
  have n0 : ∀ bs hs, pgN bs hs [] = 0 := fun _ _ => rfl
  refine ⟨bs1, bs2, bs3, bs4, bs5, l1, l2, l3, l4, l5, e1, ?_, e2, scF_tgs bs1 [2] 3 d l1 (by omega) hvd, ?_, ?_, ?_, ?_, ?_, ?_, ?_, ?_, ?_, ?_, ?_, ?_, e3, scF_tgs bs2 [3] 32 c l2 (by omega) hvc, e4, scF_tgs bs3 [32, 3] 33 d l3 (by omega) hvd, e5, scF_tgs bs4 [33, 32, 3] 34 c l4 (by omega) hvc, ?_, ?_, t7, ?_, ?_⟩
  · rw [tgs_nil]; exact scF_tgs bs0 [] 2 c h0 (by omega) hvc
  · rw [t1]; unfold pgN; simp [sU_nohs]
  · refine pgT_tgs bs2 nohs _ _ _ fun i => ?_
    rw [sU_nohs]; simp
  · rw [t2]; rfl
  · rw [t2, pgT_nil]
  · rw [t1]; unfold pgN; simp [u2, u3]
  · rw [t1]
    refine pgT_tgs bs2 hs _ _ _ fun i => ?_
    simp only [List.mem_cons, List.not_mem_nil, or_false]
    constructor
    · rintro rfl
      exact ⟨.inl rfl, fun hx => by rw [show 16 * 3 = 48 from rfl, u3] at hx; exact absurd hx.2 (by simp)⟩
    · rintro ⟨rfl | rfl, h2⟩
      · rfl
      · exact absurd ⟨.inl rfl, u2⟩ h2
  · rw [t3]; unfold pgN; simp [u3]
  · rw [t3]
    refine pgT_tgs bs2 hs _ _ _ fun i => ?_
    simp only [List.mem_cons, List.not_mem_nil, or_false]
    constructor
    · rintro rfl
      exact ⟨rfl, fun hx => by rw [show 16 * 3 = 48 from rfl, u3] at hx; exact absurd hx.2 (by simp)⟩
    · rintro ⟨rfl, h2⟩; rfl
  · rw [t4]; rfl
  · rw [t4, pgT_nil]
  · rw [t5]; rfl
  · rw [t5, pgT_nil]
  · rw [t6]; unfold pgN; simp [v1, v2, v3]
  · rw [t6]
    refine pgT_tgs bs5 hs _ _ _ fun i => ?_
    simp only [List.mem_cons, List.not_mem_nil, or_false]
    constructor
    · rintro (rfl | rfl)
      · exact ⟨.inr (.inl rfl), fun hx => by rw [show 16 * 33 = 528 from rfl, v2] at hx; exact absurd hx.2 (by simp)⟩
      · exact ⟨.inr (.inr (.inr rfl)), fun hx => by omega⟩
    · rintro ⟨rfl | rfl | rfl | rfl, h2⟩
      · exact absurd ⟨.inr (.inr rfl), v3⟩ h2
      · exact .inl rfl
      · exact absurd ⟨.inl rfl, v1⟩ h2
      · exact .inr rfl
  · unfold ldC
    rw [if_pos (by unfold whB; rw [l5]; decide), show (32 : Nat) = 16 * 2 from rfl, d4, show tgs [33, 3] (16 * 2 / 16) = false from by decide]
    exact oc'
  · unfold ldC
    rw [if_pos (by unfold whB; rw [l5]; decide), show (48 : Nat) = 16 * 3 from rfl, d5, show tgs [33, 3] (16 * 3 / 16) = true from by decide]
    exact od
end Go.Proofs.YthjbnbimfpbccaaGreatDoor
/-
  The sweeper of layer 19's statements; which pages are old, which tags go, in plain words. Condition: the table of math/bits is as the library lays it.
-/










set_option linter.unusedVariables false
namespace Go.Proofs.YthjbnbimfpbccaaGreatDoor
open Go.ChangeShapes Go.WideShapes Go.ChangeAt Go.RowKit
theorem cnt_none (f : Nat → Bool) : ∀ n, (∀ j, j < n → f j = false) → cnt f n = 0
  | 0, _ => rfl
  | n + 1, h => by simp [cnt, cnt_none f n (fun j hj => h j (by omega)), h n (by omega)]
theorem least (f : Nat → Bool) : ∀ n, (∀ j, j < n → f j = false) ∨ ∃ P, P < n ∧ f P = true ∧ ∀ j, j < P → f j = false
  | 0 => .inl (fun j hj => by omega)
  | n + 1 => by
    rcases least f n with h | ⟨P, h1, h2, h3⟩
    · cases hf : f n with
      | false =>
        refine .inl fun j hj => ?_
        by_cases e : j = n
        · rw [e]; exact hf
        · exact h j (by omega)
      | true => exact .inr ⟨n, by omega, hf, h⟩
    · exact .inr ⟨P, by omega, h2, h3⟩
theorem told_none (f : Nat → Bool) : ∀ n, (∀ j, j < n → f j = false) → told f n = []
  | 0, _ => rfl
  | n + 1, h => by rw [told_succ, h n (by omega), if_neg (by simp)]; exact told_none f n (fun j hj => h j (by omega))
theorem nxt_case (f : Nat → Bool) (n : Nat) : (nxtB f n = false ∧ nxtP f n = 0 ∧ cnt f n = 0 ∧ ∀ j, j < n → f j = false) ∨ ∃ P, P < n ∧ f P = true ∧ nxtP f n = P ∧ nxtB f n = true ∧ 0 < cnt f n ∧ ∀ j, j < P → f j = false := by
  rcases least f n with h | ⟨P, h1, h2, h3⟩
  · have := nxt_nil (told_none f n h)
    exact .inl ⟨this.2, this.1, cnt_none f n h, h⟩
  · have h4 : told f (P + 1) = [P] := by rw [told_succ, if_pos h2, told_none f P h3]; rfl
    have := nxt_one (h4 ▸ told_prefix f (P + 1) n (by omega))
    exact .inr ⟨P, h1, h2, this.1, this.2, cnt_pos f n P h1 h2, h3⟩
theorem cnt_clr (f : Nat → Bool) (i : Nat) (hf : f i = true) : ∀ n, cnt (upd f i false) n + (if i < n then 1 else 0) = cnt f n
  | 0 => by simp [cnt]
  | n + 1 => by
    have ih := cnt_clr f i hf n
    simp only [cnt]
    by_cases e : n = i
    · subst e
      rw [if_neg (by omega)] at ih
      have : upd f n false n = false := by simp [upd]
      simp [this, hf]; omega
    · have : upd f i false n = f n := by simp [upd, e]
      rw [this]
      by_cases h : i < n
      · rw [if_pos h] at ih; rw [if_pos (show i < n + 1 by omega)]; omega
      · rw [if_neg h] at ih; rw [if_neg (show ¬ i < n + 1 by omega)]; omega
theorem cnt_fst (n : Nat) : ∀ m, m ≤ n → cnt (fstF n) m = m
  | 0, _ => rfl
  | m + 1, h => by simp only [cnt, cnt_fst n m (by omega), fstF, decide_eq_true (show m < n by omega)]; rfl
/-- Pages from k on. -/
def frmF (k : Nat) : Nat → Bool := fun j => decide (k ≤ j) && decide (j < 16)
theorem frm_zero : fstF 16 = frmF 0 := by funext j; unfold fstF frmF; simp
theorem frm_upd (k : Nat) : upd (frmF k) k false = frmF (k + 1) := by
  funext j
  unfold upd frmF
  by_cases e : j = k
  · subst e; rw [if_pos rfl, decide_eq_false (by omega)]; rfl
  · rw [if_neg e]
    by_cases h : k ≤ j
    · rw [decide_eq_true h, decide_eq_true (show k + 1 ≤ j by omega)]
    · rw [decide_eq_false h, decide_eq_false (show ¬ k + 1 ≤ j by omega)]
theorem frm_at (k j : Nat) (h : k ≤ j) (hj : j < 16) : frmF k j = true := by unfold frmF; rw [decide_eq_true h, decide_eq_true hj]; rfl
theorem frm_nxt (k : Nat) (h : k < 16) : nxtP (frmF k) 16 = k ∧ nxtB (frmF k) 16 = true := by
  rcases nxt_case (frmF k) 16 with ⟨_, _, _, h4⟩ | ⟨P, h1, h2, h3, h4, _, h5⟩
  · have := h4 k h; rw [frm_at k k (Nat.le_refl _) h] at this; cases this
  · have : P = k := by
      unfold frmF at h2
      simp only [Bool.and_eq_true, decide_eq_true_eq] at h2
      rcases Nat.lt_or_ge k P with h6 | h6
      · have := h5 k h6; rw [frm_at k k (Nat.le_refl _) h] at this; cases this
      · omega
    subst this
    exact ⟨h3, h4⟩
theorem frm_end : cnt (frmF 16) 16 = 0 ∧ nxtB (frmF 16) 16 = false := by
  have h : ∀ j, j < 16 → frmF 16 j = false := fun j hj => by unfold frmF; rw [decide_eq_false (by omega)]; rfl
  exact ⟨cnt_none _ _ h, (nxt_nil (told_none _ _ h)).2⟩
section
variable (bs : List Nat) (hs : Int → Bool) (f : Nat → Bool) (P i : Nat) (hP : P < 16)
include hP
theorem pgT_at : pgT bs hs f (tgP 4096 f P) i = (f i && !(decide (i / 16 = P) && sU bs hs (16 * i))) := by
  unfold pgT
  have hm := tgP_mem 4096 f P i (by omega)
  cases hf : f i with
  | false => rfl
  | true =>
    by_cases h : i / 16 = P
    · rw [decide_eq_true (hm.2 ⟨h, hf⟩), decide_eq_true h]
    · rw [decide_eq_false (fun hx => h (hm.1 hx).1), decide_eq_false h]
end
theorem ofC_is (a n : Nat) (h1 : a + n ≤ 4294967296) (h2 : n ≤ 2048) (h3 : a < 4294967296) : ofC a n = mkC a n 1 ∧ (ofC a n).base = a ∧ (ofC a n).v = true ∧ (ofC a n).cur = a := by
  obtain ⟨e1, e2⟩ := small_exact a (a + n) (by omega) (by omega)
  have hb : mkB a n 1 = true := by unfold mkB; rw [e2]; simp; omega
  have e : ofC a n = mkC a n 1 := if_pos hb
  refine ⟨e, ?_, ?_, ?_⟩
  · rw [e]; exact (dec_exact a (a + n) a (by omega) h1 h3 e2 (Nat.le_refl _) (by omega)).1
  · rw [e]; rfl
  · rw [e]; rfl
theorem new_c (w : World) (n : Nat) (hn : n ≤ 16384) : Calls Tryz.prog 25 #[.int .i64 (16 * n : Nat)] w fun e w' => ∃ y s, e = .returned (.pointer (some ⟨y, 0, none⟩)) ∧ Yw w w' y ⟨n, 0, false, [], []⟩ s ∧ (w.heap.size ≤ s.c ∧ w.heap.size ≤ s.c') ∧ Fr [] w w' := by
  refine (qnew_any w n hn).mono ?_
  rintro e w' ⟨s, rfl, h1, rfl, h3, h4, h5, h6, h7, h8, ⟨h9, h10, h11⟩, h12⟩
  exact ⟨s.y, s, rfl, ⟨h1, h12, h9, h10, (fun g hg => by rw [h7] at hg; simp [Value.ownBlock] at hg), rfl, by unfold YS.ms; rw [h3, h4, h5, h6]⟩, ⟨h10, h11⟩, h12⟩
set_option maxRecDepth 100000 in
theorem begun_any (w : World) (hT : Tab w) : Calls Tryz.prog 7 #[] w fun r w' => ∃ i : Ids, r = .returned (.tuple #[.pointer (some ⟨i.ap, 0, none⟩), .pointer (some ⟨i.y, 0, none⟩), .pointer (some ⟨i.sp, 0, none⟩)]) ∧ On w w' i ⟨0, 0, fun _ => false, ⟨256, 0, false, [], []⟩, List.replicate 4096 0, fun _ => false, nohs⟩ ∧ w.heap.size ≤ i.ap := by
  have CA := Lib.hid (anew_any w 16 (by omega) (by omega))
  have CY := Lib.hid fun W => (show Calls Tryz.prog 25 #[.int .i64 4096] W fun e w' => ∃ y s, e = .returned (.pointer (some ⟨y, 0, none⟩)) ∧ Yw W w' y ⟨256, 0, false, [], []⟩ s ∧ (W.heap.size ≤ s.c ∧ W.heap.size ≤ s.c') ∧ Fr [] W w' from new_c W 256 (by omega))
  obtain ⟨B, hB⟩ : ∃ B, List.replicate 4096 0 = B := ⟨_, rfl⟩
  rw [show 256 * 16 = 4096 from rfl, hB] at CA
  rw [hB]
  have HL := Lib.hid (show B.length = 4096 by rw [← hB]; simp)
  have HT := Lib.hid hT
  clear hB hT
  go_enter Tryz.func7, Tryz.ntmps7
  go_wp2_with fail
  refine CA.out.mono ?_
  rintro e w1 ⟨ap, q, ag, bg, cap, rfl, ha, i1, i2, i3, i4, hf1⟩
  have HA := Lib.hid ha
  have F1 := Lib.hid hf1
  have hal := ha.lt
  clear ha hf1 CA
  go_wp2_with fail
  refine (CY.out _).mono ?_
  rintro e w2 ⟨y, s, rfl, hy, hfoot, hf2⟩
  have HY := Lib.hid (hy.base F1.out)
  have HC := Lib.hid (show w1.heap.size ≤ s.c ∧ w1.heap.size ≤ s.c' from hfoot)
  have F2 := Lib.hid hf2
  clear hy hfoot hf2 CY
  go_wp2_with fail
  refine (swnew_any w w2 ap q ag bg cap y B _ _ s (HA.out.fr0 F2.out) HL.out HY.out HT.out rfl rfl rfl i3 i4 (by have := HC.out; omega)).mono ?_
  rintro e w3 ⟨sp, gp, p, g, rfl, hs, hf3⟩
  have HS := Lib.hid hs
  clear hs
  go_wp2_with fail
  exact bodyPost_ret (v := .tuple #[.pointer (some ⟨ap, 0, none⟩), .pointer (some ⟨y, 0, none⟩), .pointer (some ⟨sp, 0, none⟩)]) (by simp [results, Tryz.results7, go_sem]) rfl ⟨_, rfl, ⟨_, _, HS.out⟩, i1⟩
end Go.Proofs.YthjbnbimfpbccaaGreatDoor
/-
  The small check of layer 19's statements. Condition: the table of math/bits is as the library lays it.
-/










set_option linter.unusedVariables false
namespace Go.Proofs.YthjbnbimfpbccaaGreatDoor
open Go.ChangeShapes Go.WideShapes Go.ChangeAt Go.RowKit
def wkC : Cp := mkC 512 64 1
theorem wk_ok : wkC.Ok ∧ wkC.rs < 16777216 ∧ soundB wkC = true := by
  refine ⟨⟨?_, ?_, ?_, ?_, ?_, ?_, ?_⟩, ?_, ?_⟩ <;> decide +kernel
theorem wk_of : ofC 512 64 = wkC ∧ wkC.base = 512 ∧ wkC.v = true := by
  obtain ⟨h1, h2, h3, _⟩ := ofC_is 512 64 (by omega) (by omega) (by omega)
  rw [h1] at h2 h3
  exact ⟨h1, h2, h3⟩
def wkH : Int → Bool := hasP 256 (cov [(512, 64)])
theorem wk_has : wkH 512 = true := by decide +kernel
theorem wk_free : frB ⟨256, 0, false, [], []⟩ 512 64 = true ∧ mFree ⟨256, 0, false, [], []⟩ 512 64 = ⟨256, 0, false, [(512, 64)], []⟩ := ⟨by decide, rfl⟩
theorem wk_begin : mBegin ⟨256, 0, false, [(512, 64)], []⟩ = ⟨256, 1, true, [], [(512, 64)]⟩ := rfl
theorem wk_stale (bs : List Nat) (i : Nat) (h : sub bs (16 * i) 16 = bytesC wkC) : sU bs wkH (16 * i) = true := by
  unfold sU
  rw [h, (ofB_self wkC wk_ok.1 wk_ok.2.1 wk_of.2.2 wk_ok.2.2).1]
  unfold stB
  rw [wk_of.2.2, wk_of.2.1, wk_has]
  rfl
set_option maxHeartbeats 1000000 in
set_option maxRecDepth 100000 in
theorem works_any (w : World) (hT : Tab w) : Calls Tryz.prog 16 #[] w fun r w' => r = .returned (.bool true) ∧ Fr [] w w' := by
  have CB := Lib.hid (begun_any w hT)
  obtain ⟨B, hB⟩ : ∃ B, List.replicate 4096 0 = B := ⟨_, rfl⟩
  rw [hB] at CB
  have hBl : B.length = 4096 := by rw [← hB]; simp
  have HB4 := Lib.hid (show whB B.length 0 = true by rw [hBl]; rfl)
  have CO := Lib.hid fun W => (show Calls Tryz.prog 19 #[.int .u32 512, .int .u32 64] W fun r w' => r = .returned (.agg wkC.cells) ∧ Fr [] W w' from by
    have h := of_anyC W 512 64 (by omega) (by omega)
    rw [wk_of.1] at h
    exact h)
  have l1 : (scL B (16 * 0) wkC).length = 4096 := by rw [scL_len, hBl]
  have a1 := scL_sub B 0 wkC hBl (by omega)
  have g1 : scF B (fun _ => false) (16 * 0) wkC = tgs [0] := by
    rw [tgs_nil]; exact scF_tgs B [] 0 wkC hBl (by omega) (by rw [wk_of.2.2, wk_ok.2.2]; rfl)
  rw [Nat.mul_zero] at l1 a1 g1
  obtain ⟨bs, e1⟩ : ∃ x, scL B 0 wkC = x := ⟨_, rfl⟩
  rw [e1] at l1 a1
  have ST := Lib.hid (wk_stale bs 0 a1)
  have L1 := Lib.hid l1
  have CS := Lib.hid fun W W0 i (h : On W0 W i ⟨0, 0, fun _ => false, ⟨256, 0, false, [(512, 64)], []⟩, B, fun _ => false, nohs⟩) => (show Calls Tryz.prog 18 #[.pointer (some ⟨i.ap, 0, none⟩), .int .u32 0, .agg wkC.cells] W fun e w' => e = .returned (.bool true) ∧ On W0 w' i ⟨0, 0, fun _ => false, ⟨256, 0, false, [(512, 64)], []⟩, bs, tgs [0], nohs⟩ from by
    have h := on_storec h 0 (by omega) wkC wk_ok.1
    dsimp only at h
    rw [HB4.out, e1, g1] at h
    exact h.mono fun e w' ⟨h1, h2, _⟩ => ⟨h1, h2⟩)
  have CF := Lib.hid fun W W0 i (h : On W0 W i ⟨0, 0, fun _ => false, ⟨256, 0, false, [], []⟩, B, fun _ => false, nohs⟩) => (show Calls Tryz.prog 17 #[.pointer (some ⟨i.y, 0, none⟩), .agg #[.int .u32 512, .int .u32 64]] W fun e w' => e = .returned (.bool true) ∧ On W0 w' i ⟨0, 0, fun _ => false, ⟨256, 0, false, [(512, 64)], []⟩, B, fun _ => false, nohs⟩ from by
    have h := on_free h 512 64 (by omega) (by omega)
    dsimp only at h
    rw [wk_free.1, wk_free.2] at h
    exact h.mono fun e w' ⟨h1, h2, _⟩ => ⟨h1, h2⟩)
  have CG := Lib.hid fun W W0 i (h : On W0 W i ⟨0, 0, fun _ => false, ⟨256, 0, false, [(512, 64)], []⟩, bs, tgs [0], nohs⟩) => (show Calls Tryz.prog 8 #[.pointer (some ⟨i.sp, 0, none⟩)] W fun r w' => r = .returned (.tuple #[.int .u64 1, .bool true]) ∧ On W0 w' i ⟨1, 0, frmF 0, ⟨256, 1, true, [], [(512, 64)]⟩, bs, tgs [0], wkH⟩ from by
    have h := on_begin_yes h rfl (by show 0 < 1000000; omega)
    dsimp only at h
    rw [wk_begin, frm_zero] at h
    exact h.mono fun e w' ⟨h1, h2, _⟩ => ⟨h1, h2⟩)
  have CP := Lib.hid fun W W0 i k f (hk : k < 16) (h : On W0 W i ⟨2, k, frmF k, ⟨256, 1, true, [], [(512, 64)]⟩, bs, f, wkH⟩) => (show Calls Tryz.prog 14 #[.pointer (some ⟨i.sp, 0, none⟩)] W fun r w' => r = .returned (.tuple #[.int .i64 k, .bool true]) ∧ On W0 w' i ⟨2, k + 1, frmF (k + 1), ⟨256, 1, true, [], [(512, 64)]⟩, bs, pgT bs wkH f (tgP 4096 f k), wkH⟩ from by
    have h := on_page_yes h k hk (frm_at k k (Nat.le_refl _) hk) (frm_nxt k hk).2 (frm_nxt k hk).1 rfl (by dsimp only; omega)
    dsimp only at h
    rw [frm_upd, L1.out] at h
    exact h.mono fun e w' ⟨h1, h2, _⟩ => ⟨h1, h2⟩)
  have CE := Lib.hid fun W W0 i f (h : On W0 W i ⟨2, 16, frmF 16, ⟨256, 1, true, [], [(512, 64)]⟩, bs, f, wkH⟩) => (show Calls Tryz.prog 13 #[.pointer (some ⟨i.sp, 0, none⟩)] W fun r w' => ∃ v, r = .returned (.tuple #[v, .bool true]) ∧ w'.ownsRow 0 45 2 v 1 (rgv [(512, 64)]) ∧ On W0 w' i ⟨0, 16, frmF 16, ⟨256, 1, false, [], []⟩, bs, f, wkH⟩ from by
    have h := on_end_yes h rfl frm_end.1
    exact h.mono fun e w' ⟨v, h1, h2, h3, _⟩ => ⟨v, h1, h2, h3⟩)
  have CL := Lib.hid fun W W0 i x f (h0 : f 0 = false) (h : On W0 W i ⟨0, 16, frmF 16, x, bs, f, wkH⟩) => (show Calls Tryz.prog 40 #[.pointer (some ⟨i.ap, 0, none⟩), .int .u32 0] W fun r w' => r = .returned (.tuple #[.agg (ofB (sub bs 0 16) false).cells, .bool true]) ∧ Fr [] W w' from by
    have h := on_loadc h 0 (by omega)
    have hw : whB bs.length 0 = true := by rw [L1.out]; rfl
    unfold ldC at h
    dsimp only at h
    rw [hw, if_pos rfl, show 0 / 16 = 0 from rfl, h0] at h
    exact h)
  obtain ⟨E, hE⟩ : ∃ E, ofB (sub bs 0 16) false = E := ⟨_, rfl⟩
  have HEV := Lib.hid (show E.v = false by rw [← hE]; rfl)
  rw [hE] at CL
  have HIC := Lib.hid (show ∀ c : Cp, (Tryz.prog.info? 49).map (·.size) = some c.cells.size from fun c => by kernel_rfl)
  have HCA := Lib.hid cellz_all
  clear hB hBl e1 l1 a1 g1 hE hT
  go_enter Tryz.func16, Tryz.ntmps16
  go_wp2_with fail
  refine CB.out.mono ?_
  rintro e w1 ⟨i, rfl, hon, hia⟩
  have O1 := Lib.hid hon
  have sp0 := Lib.hid (show True from trivial)
  clear hon CB
  go_wp2_with fail
  refine (CF.out _ _ _ O1.out).mono ?_
  rintro e w2 ⟨rfl, hon⟩
  have O2 := Lib.hid hon
  clear hon CF O1
  go_wp2_with fail
  refine (CO.out _).mono ?_
  rintro e w3 ⟨rfl, hf3⟩
  have O3 := Lib.hid (O2.out.fr0 hf3)
  clear hf3 O2
  go_wp2_with fail
  refine (CS.out _ _ _ O3.out).mono ?_
  rintro e w4 ⟨rfl, hon⟩
  have O4 := Lib.hid hon
  clear hon CS O3
  go_wp2_with fail
  refine (CG.out _ _ _ O4.out).mono ?_
  rintro e w5 ⟨rfl, hon⟩
  have O5 := Lib.hid hon
  clear hon CG O4
  go_wp2_with fail
  refine (on_go_yes O5.out rfl).mono ?_
  rintro e w6 ⟨rfl, hon, -⟩
  have O6 := Lib.hid (show On w w6 i ⟨2, 0, frmF 0, ⟨256, 1, true, [], [(512, 64)]⟩, bs, tgs [0], wkH⟩ from hon)
  clear hon O5
  go_wp2_with fail
  go_loopw [6] (fun v wr => ∃ (k : Nat) (f : Nat → Bool), k ≤ 16 ∧ v = .int .i64 k ∧ On w wr i ⟨2, k, frmF k, ⟨256, 1, true, [], [(512, 64)]⟩, bs, f, wkH⟩ ∧ (k = 0 ∧ f = tgs [0] ∨ 1 ≤ k ∧ f 0 = false)) (fun v _ => 16 - (intOf v).toNat)
  case atStart => exact ⟨0, _, by omega, rfl, O6.out, .inl ⟨rfl, rfl⟩⟩
  case round =>
    clear O6
    obtain ⟨k, f, hk, rfl, hon, hf⟩ := hrel
    have O7 := Lib.hid hon
    have HF := Lib.hid hf
    clear hon hf
    by_cases h1 : k < 16
    · go_wp2_with fail
      refine (CP.out _ _ _ k f h1 O7.out).mono ?_
      rintro e w8 ⟨rfl, hon⟩
      have O8 := Lib.hid hon
      clear hon O7
      go_wp2_with fail
      go_roundw
      case rel =>
        refine ⟨k + 1, _, by omega, by go_num, O8.out, .inr ⟨by omega, ?_⟩⟩
        rw [pgT_at bs wkH f k 0 h1]
        rcases HF.out with ⟨rfl, rfl⟩ | ⟨_, h2⟩
        · rw [show 16 * 0 = 0 from rfl, ST.out]; rfl
        · rw [h2]; rfl
      case measure => simp [intOf]; omega
    · obtain rfl : k = 16 := by omega
      have hf0 : f 0 = false := by
        rcases HF.out with ⟨h, _⟩ | ⟨_, h⟩
        · omega
        · exact h
      go_wp2_with fail
      refine (CE.out _ _ _ f O7.out).mono ?_
      rintro e w8 ⟨v, rfl, hr, hon⟩
      have O8 := Lib.hid hon
      rcases rows_open hr with ⟨_, h0⟩ | ⟨g, cap, cur, rfl, -, hA, g1, g2, g3, g4⟩
      · omega
      have q0 := rows_at (n := 1) (cap := cap) hA g4 0 0 (.int .u32 512) rfl
      have q1 := rows_at (n := 1) (cap := cap) hA g4 0 1 (.int .u32 64) rfl
      simp only [Nat.zero_add, Nat.add_zero] at q0 q1
      have Q0 := Lib.hid q0
      have Q1 := Lib.hid q1
      have hgl := hA.lt
      clear hon hr hA g1 g2 g3 g4 q0 q1 O7
      go_wp2_with fail
      refine (CL.out _ _ _ _ f hf0 O8.out).mono ?_
      rintro e w9 ⟨rfl, hf9⟩
      have F9 := Lib.hid hf9
      have hev := HEV.out
      have EQ := fun W => rg_eq 512 64 512 64 W
      simp only [decide_true, Bool.and_true] at EQ
      have hg9 : g < w9.heap.size := Nat.lt_of_lt_of_le hgl hf9.size
      clear hf9
      go_upto_region 15 with (refine wpList_store_all rfl 49 (.tmp 11) (.tmp 72) rfl _ E.cells rfl rfl 49 noC.cells (At.nw rfl) (HIC.out E) rfl (HCA.out E) ?_; intro w10 hA10 hF10)
      have hga : Fr [] w9 (w9.alloc (.cells noC.cells 49)) := (by repeat (first | exact Fr.refl _ _ | assumption | refine Fr.trans0 ?_ (by assumption) | refine Fr.drewN ?_ _ | refine Fr.alloc ?_ _ | refine Fr.drew ?_))
      have q0 := (hF10.cell (a := ⟨g, 0, none⟩) (by simp; omega) (by simp; omega)).trans ((hga.cell (a := ⟨g, 0, none⟩) hg9 (by simp)).trans ((F9.out.cell (a := ⟨g, 0, none⟩) hgl (by simp)).trans Q0.out))
      have q1 := (hF10.cell (a := ⟨g, 1, none⟩) (by simp; omega) (by simp; omega)).trans ((hga.cell (a := ⟨g, 1, none⟩) hg9 (by simp)).trans ((F9.out.cell (a := ⟨g, 1, none⟩) hgl (by simp)).trans Q1.out))
      have F10 := Lib.hid ((O8.out.f.trans0 F9.out).trans ((hga.more (T := [w9.heap.size]) (by simp)).trans hF10 (fun k hk => .inl hk)) (fun k hk => .inr (by have := O8.out.f.size; have := F9.out.size; simp at hk; omega)))
      have ce := hA10.cell 7
      rw [show E.cells[7]? = some (.bool E.v) from rfl, hev] at ce
      go_wp2_with fail
      go_ret
      exact ⟨rfl, F10.out⟩
end Go.Proofs.YthjbnbimfpbccaaGreatDoor
/-
  The table of math/bits that the row lists: a world that holds it, and what a walk has of the row's premise. No condition.
-/

set_option linter.unusedVariables false
namespace Go.Proofs.YthjbnbimfpbccaaGreatDoor
open Go.ChangeShapes Go.WideShapes Go.ChangeAt Go.RowKit
def laidL : List (String × DataW Unit) := [("math/bits.deBruijn64tab", Rows.laid_math_bits_deBruijn64tab)]
theorem tabNamed : Tryz.prog.globalNamed "math/bits.deBruijn64tab" = some 0 := by kernel_rfl
theorem tabType : (Tryz.prog.globals[0]?).map (·.type) = some 228 := by kernel_rfl
theorem tabDatum : (Rows.laid_math_bits_deBruijn64tab : DataW Unit) = .agg (Lib.deBruijn64tab.map fun x => .lit (.int .u8 (x : Nat))) := by kernel_rfl
theorem drop_take_at' {cs : List Value} {o k i : Nat} {v : Value} (h : ((cs.drop o).take k)[i]? = some v) : cs[o + i]? = some v := by
  rw [List.getElem?_take] at h
  split at h
  · rw [List.getElem?_drop] at h; exact h
  · cases h
theorem tab_of_laid {W : World} (h : laidMetH Tryz.prog laidL W) : Tab W := by
  have h' : laidMet Tryz.prog laidL W := h
  obtain ⟨ps, ⟨g, t, cs, fuel, p, q, hg, ht, hv, htr, _, _⟩, _, _⟩ := h'
  obtain rfl := Option.some.inj (tabNamed.symm.trans hg)
  obtain rfl := Option.some.inj (tabType.symm.trans ht)
  obtain ⟨xs, m, _, hx, hlen, hl, hel⟩ := DataW.trod_array Tryz.underlying228 htr
  have hx1 : (.agg (xs.map (·.1)) : DataW Unit) = .agg (Lib.deBruijn64tab.map fun x => .lit (.int .u8 (x : Nat))) := by
    rw [← tabDatum]; exact (congrArg (·.1) hx).symm
  injection hx1 with hx1
  intro j hj
  have hcell : W.cell? ⟨0, j, none⟩ = cs[j]? := by simpa using World.var?_cell tabNamed hv j
  have h1 := hel j (by omega)
  have hxj : xs[j]? = some (xs[j]'(by omega)) := List.getElem?_eq_getElem (by omega)
  rw [hxj, show Tryz.prog.cellsOf 5 = 1 by kernel_rfl, Nat.mul_one] at h1
  obtain ⟨z, hz, hd, _⟩ := DataW.trod_int Tryz.underlying5 h1
  have hcj : cs[j]? = some (.int .u8 z) := by
    have := drop_take_at' (i := 0) (v := .int .u8 z) (by rw [hz]; rfl)
    rw [Nat.add_zero, Array.getElem?_toList] at this
    exact this
  have h2 := congrArg (·[j]?) hx1
  simp only [List.getElem?_map, hxj, Option.map_some] at h2
  rw [hd] at h2
  have h3 : Lib.deBruijn64tab[j]? = some (Lib.deBruijn64tab.getD j 0) := by
    rw [List.getD_eq_getElem?_getD]
    have : j < Lib.deBruijn64tab.length := hj
    rw [List.getElem?_eq_getElem this]; rfl
  rw [h3] at h2
  simp at h2
  rw [hcell, hcj, h2, List.getD_eq_getElem?_getD]
/-- A world that meets the premise. -/
noncomputable def laidWorld (os : Os) : World :=
  let w0 := World.holding Tryz.prog os ⟨#[], #[], []⟩
  { w0 with heap := w0.heap.modify 0 fun
      | .cells _ t frozen => .cells (Lib.deBruijn64tab.map fun x => Value.int .u8 (x : Nat)).toArray t frozen
      | o => o }
theorem laidWorld_met (os : Os) (args : Array Value) : laidMetH Tryz.prog laidL ((laidWorld os).forCall (fun _ _ => 0) ⟨#[], args, []⟩).memory :=
  laidMet_of_run' (l := laidL) 8 (by kernel_rfl) (by kernel_rfl)
end Go.Proofs.YthjbnbimfpbccaaGreatDoor
