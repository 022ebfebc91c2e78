/-
  What a program and a sweeper come through together, in plain words: which grants are freed, which are taken, which capabilities are stale. No condition.
-/
import Derived.ArgAppend
import Derived.Test.YthjbnbimfpbccaaGreatDoorJ15










set_option linter.unusedVariables false
namespace Go.Proofs.YthjbnbimfpbccaaGreatDoor
open Go.ChangeShapes Go.WideShapes Go.ChangeAt Go.RowKit
def gr (g : Nat) : Nat × Nat := (2048 + 64 * g, 64)
theorem gr_inj {a b : Nat} (h : gr a = gr b) : a = b := by
  unfold gr at h; injection h with h1 h2; omega
structure Rv (k : Nat) (going : Bool) (R : List Cp) (fr tk : Nat → Bool) (x : Sm) : Prop where
  st : x.st = if going = true then 2 else 0
  n : x.m.n = 256
  un : x.m.un = going
  len : x.bs.length = 4096
  ep : x.m.ep ≤ k
  vis : x.vis + cnt x.F 16 ≤ 16 * x.m.ep
  rl : R.length = 4
  ok : ∀ c ∈ R, c.Ok
  lw : ∀ r, r ∈ x.m.lw ↔ ∃ g, g < 32 ∧ r = gr g ∧ fr g = true ∧ tk g = false
  lb : ∀ r, r ∈ x.m.lb ↔ ∃ g, g < 32 ∧ r = gr g ∧ tk g = true
  sb : ∀ g, tk g = true → fr g = true
  rest : going = false → ∀ g, g < 32 → tk g = false
  hs : going = true → x.hs = hasP 256 (cov x.m.lb)
  reg : going = true → ∀ c ∈ R, stB x.hs c = false
  tag : going = true → ∀ j, j < 256 → x.f j = true → x.F (j / 16) = false → sU x.bs x.hs (16 * j) = false
theorem tch_gr (l : List (Nat × Nat)) (h : ∀ r ∈ l, ∃ g, r = gr g) (g : Nat) : tch (cov l) (128 + 4 * g) 4 = decide (gr g ∈ l) := by
  by_cases hm : gr g ∈ l
  · rw [decide_eq_true hm]
    unfold tch cov
    rw [List.any_eq_true]
    refine ⟨0, by simp, ?_⟩
    rw [List.any_eq_true]
    refine ⟨gr g, hm, ?_⟩
    unfold gr
    simp only [Bool.and_eq_true, decide_eq_true_eq]
    omega
  · rw [decide_eq_false hm]
    cases ht : tch (cov l) (128 + 4 * g) 4 with
    | false => rfl
    | true =>
      unfold tch cov at ht
      rw [List.any_eq_true] at ht
      obtain ⟨k, hk, ht⟩ := ht
      rw [List.any_eq_true] at ht
      obtain ⟨r, hr, ht⟩ := ht
      obtain ⟨g', rfl⟩ := h r hr
      rw [List.mem_range] at hk
      unfold gr at ht
      simp only [Bool.and_eq_true, decide_eq_true_eq] at ht
      have : g' = g := by omega
      subst this
      exact absurd hr hm
theorem cov_gr (l : List (Nat × Nat)) (h : ∀ r ∈ l, ∃ g, r = gr g) (g : Nat) : cov l (128 + 4 * g) = decide (gr g ∈ l) := by
  rw [← tch_gr l h g]
  by_cases hm : gr g ∈ l
  · have h1 : cov l (128 + 4 * g) = true := by
      unfold cov
      rw [List.any_eq_true]
      refine ⟨gr g, hm, ?_⟩
      unfold gr
      simp only [Bool.and_eq_true, decide_eq_true_eq]
      omega
    rw [h1]
    unfold tch
    symm
    rw [List.any_eq_true]
    exact ⟨0, by simp, h1⟩
  · have h2 := tch_gr l h g
    rw [decide_eq_false hm] at h2
    rw [h2]
    exact tch_no h2 _ (Nat.le_refl _) (by omega)
theorem Cp.off_ok {c : Cp} (h : c.Ok) : c.off.Ok := ⟨h.cur, h.e, h.b, h.t, h.pm, h.ty, h.rs⟩
theorem ofB_Ok (l : List Nat) (v : Bool) (hb : Byt l) : (ofB l v).Ok := by
  have h := ofB0_ok l hb
  exact ⟨h.cur, h.e, h.b, h.t, h.pm, h.ty, h.rs⟩
theorem stB_of (hs : Int → Bool) (s : List Nat) (v : Bool) : stB hs (ofB s v) = (v && stB hs (ofB s true)) := by
  unfold stB ofB Cp.base
  dsimp only
  cases v <;> simp
theorem sub_byt {l : List Nat} (h : Byt l) (a n : Nat) : Byt (sub l a n) := fun x hx => h x (List.mem_of_mem_drop (List.mem_of_mem_take hx))
theorem mem_set {α : Type} {l : List α} {i : Nat} {a b : α} (h : b ∈ l.set i a) : b = a ∨ b ∈ l := by
  rcases List.mem_or_eq_of_mem_set h with h | h
  · exact .inr h
  · exact .inl h
section
variable {k : Nat} {going : Bool} {R : List Cp} {fr tk : Nat → Bool} {x : Sm} (h : Rv k going R fr tk x)
include h
theorem Rv.lwg : ∀ r ∈ x.m.lw, ∃ g, r = gr g := fun r hr => by obtain ⟨g, _, h1, _⟩ := (h.lw r).1 hr; exact ⟨g, h1⟩
theorem Rv.lbg : ∀ r ∈ x.m.lb, ∃ g, r = gr g := fun r hr => by obtain ⟨g, _, h1, _⟩ := (h.lb r).1 hr; exact ⟨g, h1⟩
theorem Rv.inw {g : Nat} (hg : g < 32) : decide (gr g ∈ x.m.lw) = (fr g && !tk g) := by
  rw [Bool.eq_iff_iff, decide_eq_true_eq, h.lw]
  constructor
  · rintro ⟨g', _, e, h1, h2⟩
    obtain rfl := gr_inj e
    rw [h1, h2]; rfl
  · intro h1
    simp only [Bool.and_eq_true, Bool.not_eq_true'] at h1
    exact ⟨g, hg, rfl, h1.1, h1.2⟩
theorem Rv.inb {g : Nat} (hg : g < 32) : decide (gr g ∈ x.m.lb) = tk g := by
  rw [Bool.eq_iff_iff, decide_eq_true_eq, h.lb]
  constructor
  · rintro ⟨g', _, e, h1⟩
    obtain rfl := gr_inj e
    exact h1
  · intro h1
    exact ⟨g, hg, rfl, h1⟩
theorem Rv.frB_is {g : Nat} (hg : g < 32) : frB x.m (2048 + 64 * g) 64 = !fr g := by
  unfold frB
  rw [decide_eq_true (by rw [h.n]; omega), Bool.true_and, show (2048 + 64 * g) / 16 = 128 + 4 * g by omega, show 64 / 16 = 4 from rfl, tch_gr _ h.lwg, tch_gr _ h.lbg, h.inw hg, h.inb hg]
  have := h.sb g
  revert this
  cases fr g <;> cases tk g <;> simp
theorem Rv.free {g : Nat} (hg : g < 32) : Rv k going R (upd fr g true) tk { x with m := mFree x.m (2048 + 64 * g) 64 } := by
  have hf := h.frB_is hg
  cases hfr : fr g with
  | true =>
    rw [hfr] at hf
    have e : mFree x.m (2048 + 64 * g) 64 = x.m := by unfold mFree; rw [hf, if_neg (by simp)]
    have e2 : upd fr g true = fr := by
      funext j; unfold upd
      by_cases hj : j = g
      · subst hj; rw [if_pos rfl, hfr]
      · rw [if_neg hj]
    rw [e, e2]
    exact h
  | false =>
    rw [hfr] at hf
    have e : mFree x.m (2048 + 64 * g) 64 = { x.m with lw := put x.m.lw (gr g) } := by unfold mFree; rw [hf, if_pos (by simp)]; rfl
    rw [e]
    have ht : tk g = false := by
      cases ht : tk g with
      | false => rfl
      | true => have := h.sb g ht; rw [hfr] at this; cases this
    refine ⟨h.st, h.n, h.un, h.len, h.ep, h.vis, h.rl, h.ok, fun r => ?_, h.lb, fun j hj => ?_, h.rest, h.hs, h.reg, h.tag⟩
    · show r ∈ insL _ _ _ ↔ _
      rw [insL_mem, h.lw]
      constructor
      · rintro (rfl | ⟨g', h1, h2, h3, h4⟩)
        · exact ⟨g, hg, rfl, by unfold upd; rw [if_pos rfl], ht⟩
        · refine ⟨g', h1, h2, ?_, h4⟩
          unfold upd
          split
          · rfl
          · exact h3
      · rintro ⟨g', h1, h2, h3, h4⟩
        by_cases e : g' = g
        · subst e; exact .inl h2
        · unfold upd at h3; rw [if_neg e] at h3
          exact .inr ⟨g', h1, h2, h3, h4⟩
    · unfold upd
      split
      · rfl
      · exact h.sb j hj
theorem Rv.load (hb : Byt x.bs) {j r : Nat} (hj : j < 128) (hF : going = true → x.F (j / 16) = false) : Rv k going (R.set r (ldC x.bs x.f (16 * j))) fr tk x ∧ whB x.bs.length (16 * j) = true := by
  have hw : whB x.bs.length (16 * j) = true := by unfold whB; rw [h.len]; simp; omega
  have e : ldC x.bs x.f (16 * j) = ofB (sub x.bs (16 * j) 16) (x.f j) := by unfold ldC; rw [if_pos hw, Nat.mul_div_cancel_left _ (by omega)]
  refine ⟨⟨h.st, h.n, h.un, h.len, h.ep, h.vis, by rw [List.length_set]; exact h.rl, fun c hc => ?_, h.lw, h.lb, h.sb, h.rest, h.hs, fun hg c hc => ?_, h.tag⟩, hw⟩
  · rcases mem_set hc with rfl | hc
    · rw [e]; exact ofB_Ok _ _ (sub_byt hb _ _)
    · exact h.ok c hc
  · rcases mem_set hc with rfl | hc
    · rw [e, stB_of]
      cases hf : x.f j with
      | false => rfl
      | true => rw [Bool.true_and]; exact h.tag hg j (by omega) hf (hF hg)
    · exact h.reg hg c hc
theorem Rv.storec {j r : Nat} {c : Cp} (hj : j < 128) (hc : R[r]? = some c) : Rv k going R fr tk { x with bs := scL x.bs (16 * j) c, f := scF x.bs x.f (16 * j) c } ∧ whB x.bs.length (16 * j) = true := by
  have hw : whB x.bs.length (16 * j) = true := by unfold whB; rw [h.len]; simp; omega
  have hm := List.mem_of_getElem? hc
  refine ⟨⟨h.st, h.n, h.un, by rw [← h.len]; exact scL_len _ _ _, h.ep, h.vis, h.rl, h.ok, h.lw, h.lb, h.sb, h.rest, h.hs, h.reg, fun hg i hi hf hF => ?_⟩, hw⟩
  dsimp only at hf hF ⊢
  by_cases e : i = j
  · subst e
    have h1 := scF_at x.bs x.f (16 * i) c hw
    rw [Nat.mul_div_cancel_left _ (by omega), hf] at h1
    have h2 : c.v = true ∧ soundB c = true := by
      have h3 := h1.symm
      rwa [Bool.and_eq_true] at h3
    unfold sU
    rw [scL_sub x.bs i c h.len (by omega), (ofB_self c (h.ok c hm) ((soundB_iff c).1 h2.2).2.2.2.2.2 h2.1 h2.2).1]
    exact h.reg hg c hm
  · have h1 : x.f i = true := by
      unfold scF stF at hf
      rw [if_pos hw] at hf
      unfold upd at hf
      rw [Nat.mul_div_cancel_left _ (by omega), if_neg e] at hf
      unfold wrF putF at hf
      split at hf
      · rw [clr_get] at hf
        rw [Bool.and_eq_true] at hf
        exact hf.1
      · exact hf
    have := h.tag hg i hi h1 hF
    unfold sU at this ⊢
    rw [scL_far x.bs j i c (fun e' => e e'.symm)]
    exact this
theorem Rv.grant {g r : Nat} {c : Cp} (hg : g < 32) (hf : fr g = false) (hok : c.Ok) (hb : c.base = ((2048 + 64 * g : Nat) : Int)) : Rv k going (R.set r c) fr tk x := by
  refine ⟨h.st, h.n, h.un, h.len, h.ep, h.vis, by rw [List.length_set]; exact h.rl, fun d hd => ?_, h.lw, h.lb, h.sb, h.rest, h.hs, fun hgo d hd => ?_, h.tag⟩
  · rcases mem_set hd with rfl | hd
    · exact hok
    · exact h.ok d hd
  · rcases mem_set hd with rfl | hd
    · unfold stB
      rw [h.hs hgo]
      unfold hasP
      rw [hb, show (((2048 + 64 * g : Nat) : Int) / 16).toNat = 128 + 4 * g by omega, cov_gr _ h.lbg, h.inb hg]
      cases ht : tk g with
      | false => simp
      | true => have := h.sb g ht; rw [hf] at this; cases this
    · exact h.reg hgo d hd
theorem Rv.store {j v : Nat} (hj : j < 128) : Rv k going R fr tk { x with bs := stL x.bs (16 * j) 4 v, f := stT x.bs x.f (16 * j) 4 v } ∧ okE x.bs.length (16 * j) 4 = true := by
  have hw : widB 4 = true := by decide
  refine ⟨⟨h.st, h.n, h.un, by show (stL x.bs (16 * j) 4 v).length = 4096; rw [stL_len]; exact h.len, h.ep, h.vis, h.rl, h.ok, h.lw, h.lb, h.sb, h.rest, h.hs, h.reg, fun hg i hi hf hF => ?_⟩, ?_⟩
  · dsimp only at hf hF ⊢
    unfold stT wrF at hf
    rw [if_pos hw, le_len, if_pos (by rw [h.len]; constructor <;> simp; omega)] at hf
    unfold putF at hf
    rw [clr_get, Bool.and_eq_true] at hf
    obtain ⟨h1, h2⟩ := hf
    have e : i ≠ j := by
      rintro rfl
      simp at h2
      omega
    have := h.tag hg i hi h1 hF
    unfold sU at this ⊢
    unfold stL
    rw [if_pos hw, wrL_sub_far _ _ _ _ _ (by rw [le_len]; simp; omega)]
    exact this
  · unfold okE; rw [hw, h.len]; simp; omega
theorem Rv.visit {P : Nat} (hP : P < 16) (hF : x.F P = true) : Rv k going R fr tk { x with vis := x.vis + 1, F := upd x.F P false, f := pgT x.bs x.hs x.f (tgP x.bs.length x.f P) } := by
  have hcl := cnt_clr x.F P hF 16
  rw [if_pos hP] at hcl
  refine ⟨h.st, h.n, h.un, h.len, h.ep, by have := h.vis; dsimp only; omega, h.rl, h.ok, h.lw, h.lb, h.sb, h.rest, h.hs, h.reg, fun hg i hi hf hF2 => ?_⟩
  dsimp only at hf hF2 ⊢
  rw [h.len, pgT_at _ _ _ _ _ hP, Bool.and_eq_true] at hf
  obtain ⟨h1, h2⟩ := hf
  by_cases e : i / 16 = P
  · rw [decide_eq_true e] at h2
    simpa using h2
  · unfold upd at hF2
    rw [if_neg e] at hF2
    exact h.tag hg i hi h1 hF2
omit h in
theorem cln_not (hs : Int → Bool) (c : Cp) : stB hs (cln hs c) = false := by
  unfold cln
  split
  · rfl
  · simpa using ‹¬ stB hs c = true›
theorem Rv.begin (hg : going = false) : Rv (k + 1) true (R.map (cln (hasP 256 (cov x.m.lw)))) fr fr { x with st := 2, m := mBegin x.m, F := fstF 16, hs := hasP 256 (cov x.m.lw) } := by
  subst hg
  have hc := cnt_fst 16 16 (Nat.le_refl _)
  have hu := h.un
  have e : mBegin x.m = { x.m with ep := x.m.ep + 1, un := true, lw := [], lb := x.m.lw } := by unfold mBegin; rw [hu, if_neg (by simp)]
  rw [e]
  refine ⟨rfl, h.n, rfl, h.len, by have := h.ep; dsimp only; omega, by have := h.vis; dsimp only; omega, by rw [List.length_map]; exact h.rl, fun c hcm => ?_, fun r => ?_, fun r => ?_, fun g hg => hg, (fun e => by cases e), fun _ => rfl, fun _ c hcm => ?_, fun _ i hi _ hF => ?_⟩
  · obtain ⟨d, hd, rfl⟩ := List.mem_map.1 hcm
    unfold cln
    split
    · exact Cp.off_ok (h.ok d hd)
    · exact h.ok d hd
  · dsimp only
    constructor
    · intro hr; cases hr
    · rintro ⟨g, _, _, h1, h2⟩; rw [h1] at h2; cases h2
  · dsimp only
    rw [h.lw]
    constructor
    · rintro ⟨g, h1, h2, h3, _⟩; exact ⟨g, h1, h2, h3⟩
    · rintro ⟨g, h1, h2, h3⟩; exact ⟨g, h1, h2, h3, h.rest rfl g h1⟩
  · obtain ⟨d, hd, rfl⟩ := List.mem_map.1 hcm
    exact cln_not _ _
  · dsimp only at hF
    unfold fstF at hF
    rw [decide_eq_true (show i / 16 < 16 by omega)] at hF
    cases hF
theorem Rv.stop (hg : going = true) (hc : cnt x.F 16 = 0) : Rv k false R (fun g => fr g && !tk g) (fun _ => false) { x with st := 0, m := mEnd x.m } := by
  subst hg
  have hu := h.un
  have e : mEnd x.m = { x.m with un := false, lb := [] } := by unfold mEnd; rw [hu, if_pos rfl]
  rw [e]
  refine ⟨rfl, h.n, rfl, h.len, h.ep, h.vis, h.rl, h.ok, fun r => ?_, fun r => ?_, (fun g hg => by cases hg), fun _ _ _ => rfl, (fun e => by cases e), (fun e => by cases e), (fun e => by cases e)⟩
  · dsimp only
    rw [h.lw]
    constructor
    · rintro ⟨g, h1, h2, h3, h4⟩; exact ⟨g, h1, h2, by rw [h3, h4]; rfl, rfl⟩
    · rintro ⟨g, h1, h2, h3, _⟩
      simp only [Bool.and_eq_true, Bool.not_eq_true'] at h3
      exact ⟨g, h1, h2, h3.1, h3.2⟩
  · dsimp only
    constructor
    · intro hr; cases hr
    · rintro ⟨g, _, _, h1⟩; cases h1
/-- What is not stale is held by none of what is let go. -/
theorem Rv.unheld (hg : going = true) {c : Cp} (hs : stB x.hs c = false) {r : Nat × Nat} (hr : r ∈ x.m.lb) : c.v = true → ¬ ((r.1 : Int) ≤ c.base ∧ c.base < ((r.1 + r.2 : Nat) : Int)) := by
  intro hv hh
  obtain ⟨g, hg32, rfl, ht⟩ := (h.lb r).1 hr
  unfold stB at hs
  rw [hv, h.hs hg, Bool.true_and] at hs
  unfold hasP at hs
  unfold gr at hh
  dsimp only at hh
  obtain ⟨b, hb⟩ := Int.eq_ofNat_of_zero_le (show 0 ≤ c.base by omega)
  rw [hb] at hs hh
  have e1 : ((b : Int) / 16).toNat = b / 16 := by omega
  rw [e1, show ((b : Int) / 16) = ((b / 16 : Nat) : Int) by omega, inR_nat _ _ (by omega), Bool.true_and] at hs
  have : cov x.m.lb (b / 16) = true := by
    unfold cov
    rw [List.any_eq_true]
    refine ⟨gr g, hr, ?_⟩
    unfold gr
    simp only [Bool.and_eq_true, decide_eq_true_eq]
    omega
  rw [this] at hs
  cases hs
end
/-- What is left behind the first j of a list of grants. -/
def lft (f : Nat → Bool) (l : List (Nat × Nat)) (j : Nat) : Nat → Bool := fun g => f g && !decide (gr g ∈ l.take j)
theorem lft_zero (f : Nat → Bool) (l : List (Nat × Nat)) : lft f l 0 = f := by funext g; unfold lft; simp
theorem lft_succ (f : Nat → Bool) (l : List (Nat × Nat)) (j n : Nat) (h : l[j]? = some (gr n)) : upd (lft f l j) n false = lft f l (j + 1) := by
  funext g
  unfold upd lft
  rw [List.take_add_one, h]
  by_cases e : g = n
  · subst e
    rw [if_pos rfl, decide_eq_true (by simp)]
    simp
  · rw [if_neg e]
    have : (gr g ∈ l.take j ++ (some (gr n)).toList) ↔ gr g ∈ l.take j := by
      rw [List.mem_append]
      constructor
      · rintro (h | h)
        · exact h
        · simp at h; exact absurd (gr_inj h) e
      · exact .inl
    simp only [this]
theorem lft_at (f : Nat → Bool) {l : List (Nat × Nat)} {m : Nat} (hl : Good m l) (j n : Nat) (h : l[j]? = some (gr n)) (hf : f n = true) : lft f l j n = true := by
  unfold lft
  rw [hf, decide_eq_false, Bool.not_false, Bool.and_self]
  intro hm
  obtain ⟨i, hi, he⟩ := List.getElem_of_mem hm
  rw [List.getElem_take] at he
  have hij : i < j := by simp at hi; omega
  have hil : i < l.length := by simp at hi; omega
  have h1 := hl.rise i j (gr n) (gr n) hij (by rw [List.getElem?_eq_getElem hil, he]) h
  have h2 : 0 < 64 := by omega
  unfold gr at h1
  simp at h1
end Go.Proofs.YthjbnbimfpbccaaGreatDoor
/-
  Capabilities one behind the other in a block: loads and stores of one of them. Condition: the place lies within the block.
-/


set_option linter.unusedVariables false
namespace Go.Proofs.YthjbnbimfpbccaaGreatDoor
open Go.ChangeShapes Go.WideShapes Go.ChangeAt Go.RowKit
theorem cat_one' (l : List Cp) : ∀ v ∈ cat l, v.oneCell' = true := fun v hv => by
  unfold cat at hv
  rw [List.mem_flatMap] at hv
  obtain ⟨c, _, hc⟩ := hv
  unfold Cp.l at hc
  simp only [List.mem_cons, List.not_mem_nil, or_false] at hc
  rcases hc with rfl | rfl | rfl | rfl | rfl | rfl | rfl | rfl <;> rfl
theorem cp_one (c : Cp) : ∀ v ∈ c.l, v.oneCell' = true := fun v hv => cat_one' [c] v (by simpa [cat] using hv)
theorem cat_put : ∀ (l : List Cp) (i : Nat) (c : Cp), i < l.length → (cat l).take (i * 8) ++ c.l ++ (cat l).drop (i * 8 + c.l.length) = cat (l.set i c)
  | [], i, c, h => by simp at h
  | d :: l, 0, c, h => by
    unfold cat
    simp only [List.flatMap_cons, Nat.zero_mul, List.take_zero, List.nil_append, List.set_cons_zero, Nat.zero_add]
    rw [List.drop_append_of_le_length (by simp [Cp.l_len]), List.drop_of_length_le (by simp [Cp.l_len]), List.nil_append]
  | d :: l, i + 1, c, h => by
    have ih := cat_put l i c (by simpa using h)
    unfold cat at ih ⊢
    rw [List.flatMap_cons, List.set_cons_succ, List.flatMap_cons, ← ih, show (i + 1) * 8 = d.l.length + i * 8 by rw [Cp.l_len]; omega, List.take_append, List.take_of_length_le (by omega), List.drop_append]
    rw [show d.l.length + i * 8 - d.l.length = i * 8 by omega, List.drop_of_length_le (show d.l.length ≤ d.l.length + i * 8 + c.l.length by omega), show d.l.length + i * 8 + c.l.length - d.l.length = i * 8 + c.l.length by omega]
    simp
theorem cat_append (a b : List Cp) : cat (a ++ b) = cat a ++ cat b := by unfold cat; exact List.flatMap_append
theorem Cp.cells_l (c : Cp) : c.cells = c.l.toArray := rfl
theorem cat_single (c : Cp) : (cat [c]).toArray = c.cells := by unfold cat; simp [Cp.cells_l]
section
variable {ops : Array Oper} {rest : List Oper} {o : Oper} {a : Act} {w : World} {Q : Exit → Act → World → Prop}
theorem infoCapS : (Tryz.prog.info? 49).map (·.size) = some 8 := by kernel_rfl
theorem wpList_load_cap (hgd : Region.wanted o (yielded ops a.tmps) = true) (x : Operand) (ho : o.op = .load 49 x) (g k : Nat) (hx : a.eval x = .pointer (some ⟨g, k, none⟩)) (t : TypeId) (l : List Cp) (hg : At w g t (cat l).toArray) (i : Nat) (hk : k = i * 8) (c : Cp) (hi : l[i]? = some c)
    (h : wpList Tryz.prog ops Q rest (a.put o.dst (.agg c.cells)) w) : wpList Tryz.prog ops Q (o :: rest) a w :=
  wpList_load_at hgd 49 x ho ⟨g, k, none⟩ hx c.l _ (fun j v hv => by
    have hj : j < 8 := by have := (List.getElem?_eq_some_iff.1 hv).1; rw [Cp.l_len] at this; exact this
    rw [Go.WideShapes.add_plain, hg.cell, List.getElem?_toArray, hk, cat_get l i j c hi hj, hv]) Tryz.underlying49 rfl infoCapS h
theorem wpList_store_cap (hgd : Region.wanted o (yielded ops a.tmps) = true) (x y : Operand) (ho : o.op = .store 49 x y) (g k : Nat) (c : Cp) (hx : a.eval x = .pointer (some ⟨g, k, none⟩)) (hy : a.eval y = .agg c.cells)
    (t : TypeId) (l : List Cp) (hg : At w g t (cat l).toArray) (i : Nat) (hk : k = i * 8) (hi : i < l.length)
    (h : ∀ w', At w' g t (cat (l.set i c)).toArray → Fr [g] w w' → wpList Tryz.prog ops Q rest (a.put o.dst undef) w') : wpList Tryz.prog ops Q (o :: rest) a w :=
  wpList_store_at hgd 49 x y ho g k c.l hx hy t (cat l) hg infoCapS (by rw [cat_len, Cp.l_len]; omega) (cp_one c) (fun w' h1 h2 => h w' (by rw [← cat_put l i c hi, ← hk]; exact h1) h2)
theorem wp_store_cap {K : Act → World → Prop} (x y : Operand) (ho : o.op = .store 49 x y) (g k : Nat) (c : Cp) (hx : a.eval x = .pointer (some ⟨g, k, none⟩)) (hy : a.eval y = .agg c.cells)
    (t : TypeId) (l : List Cp) (hg : At w g t (cat l).toArray) (i : Nat) (hk : k = i * 8) (hi : i < l.length)
    (h : ∀ w', At w' g t (cat (l.set i c)).toArray → Fr [g] w w' → K (a.put o.dst undef) w') : o.wp Tryz.prog a w K Q :=
  wp_store_at 49 x y ho g k c.l hx hy t (cat l) hg infoCapS (by rw [cat_len, Cp.l_len]; omega) (cp_one c) (fun w' h1 h2 => h w' (by rw [← cat_put l i c hi, ← hk]; exact h1) h2)
end
end Go.Proofs.YthjbnbimfpbccaaGreatDoor
/-
  What layer 19's statements ask of capabilities: is one of them valid, with its base in a region? Append onto a slice without room. Conditions: numbers in their types' ranges.
-/







set_option linter.unusedVariables false
namespace Go.Proofs.YthjbnbimfpbccaaGreatDoor
open Go.ChangeShapes Go.WideShapes Go.ChangeAt Go.RowKit
/-- The cells of capabilities from a block's beginning. -/
def CapsB (w : World) (ab : Nat) (A : List Cp) : Prop := ab < w.heap.size ∧ ∀ j v, (cat A)[j]? = some v → w.cell? ⟨ab, j, none⟩ = some v
theorem CapsB.fr {w w' : World} {ab : Nat} {A : List Cp} {S : List Nat} (h : CapsB w ab A) (f : Fr S w w') (hS : ab ∉ S) : CapsB w' ab A :=
  ⟨Nat.lt_of_lt_of_le h.1 f.size, fun j v hv => (f.cell (a := ⟨ab, j, none⟩) h.1 hS).trans (h.2 j v hv)⟩
theorem CapsB.at_ {w : World} {ab : Nat} {A : List Cp} (h : CapsB w ab A) (i : Nat) (c : Cp) (hi : A[i]? = some c) (j : Nat) (v : Value) (hv : c.l[j]? = some v) : w.cell? ⟨ab, i * 8 + j, none⟩ = some v := by
  have hj : j < 8 := by have := (List.getElem?_eq_some_iff.1 hv).1; rw [Cp.l_len] at this; exact this
  exact h.2 _ _ ((cat_get A i j c hi hj).trans hv)
theorem CapsB.of {w : World} {ab : Nat} {t : TypeId} {A : List Cp} (h : At w ab t (cat A).toArray) : CapsB w ab A :=
  ⟨h.lt, fun j v hv => by rw [h.cell, List.getElem?_toArray]; exact hv⟩
theorem CapsB.own {w : World} {b ab n cap : Nat} {A : List Cp} (h : w.ownsRow b 49 8 (.slice (some ⟨ab, 0, none⟩) n cap) n (cat A)) : CapsB w ab A := by
  rcases h.2 with ⟨h0, _⟩ | ⟨g, c, cur, hv, _, h1, h2, h3, h4, h5⟩
  · cases h0
  · injection hv with e1 e2 e3
    injection e1 with e1
    injection e1 with e1
    subst e1
    have ha : At w ab 49 cur := h1
    refine ⟨ha.lt, fun j v hv => ?_⟩
    rw [ha.cell, ← Array.getElem?_toList]
    have : ((cur.toList).take (n * 8))[j]? = some v := by rw [h5]; exact hv
    rw [List.getElem?_take] at this
    split at this
    · exact this
    · cases this
theorem wp_append_full {P : Program} {o : Oper} {a : Act} {K : Act → World → Prop} {Q : Exit → Act → World → Prop} {w : World} (s x : Operand) (t : TypeId)
    (ho : o.op = .call { callee := .builtin .append, args := #[s, x], argTypes := #[t, t] })
    (e : TypeId) (i : TypeInfo) (z : Value) (size bytes : Nat) (ht : P.underlying t = some (.slice e)) (hi : P.info? e = some i) (hz : i.zero = some z)
    (hsize : i.size = size) (hby : i.bytes = bytes) (hzs : z.cells.size = size) (hsz : 0 < size)
    (b : Addr) (n cap : Nat) (olds : List Value) (hs : a.eval s = .slice (some b) n cap) (hlo : olds.length = n * size) (holds : ∀ j u, olds[j]? = some u → w.cell? (b.add j) = some u)
    (ad : Addr) (m c : Nat) (news : List Value) (hx : a.eval x = .slice (some ad) m c) (hl : news.length = m * size) (hnews : ∀ j u, news[j]? = some u → w.cell? (ad.add j) = some u)
    (hg : cap < n + m) (h63 : n + m ≤ maxLen) (hbytes : (n + m) * bytes ≤ 140737488355328)
    (h : ∀ v' w', w'.ownsRow w.heap.size e size v' (n + m) (olds ++ news) → w.grownBy w' none → K (a.put o.dst v') w') :
    o.wp P a w K Q := by
  obtain ⟨v', w', hr, h2, h3⟩ := run_append_arg_grows (P := P) w t o.type e i z size bytes ht hi hz hsize hby hzs hsz b n cap olds hlo holds ad m c news hl hnews hg h63 hbytes
  unfold Oper.wp execOp
  simp only [ho, resolve, invoke, builtin, Sem.run_bind, Sem.run_pure, Result.andThen_ok, List.map_toArray, List.map_cons, List.map_nil, hs, hx, hr]
  exact h v' w' h2 h3
theorem on_paint {w0 w : World} {i : Ids} {x : Sm} (h : On w0 w i x) : Calls Tryz.prog 43 #[.pointer (some ⟨i.y, 0, none⟩)] w fun e w' => ∃ p q g, e = .returned (.pointer (some ⟨p, 0, none⟩)) ∧ Pt w' p q g x.m.n (cov x.m.lb) ∧ (w.heap.size ≤ p ∧ w.heap.size ≤ q ∧ w.heap.size ≤ g) ∧ Fr [] w w' := by
  obtain ⟨s, pv, h⟩ := h
  exact paint_m h.Y
theorem On.byt {w0 w : World} {i : Ids} {x : Sm} (h : On w0 w i x) : Byt x.bs := by
  obtain ⟨s, pv, h⟩ := h
  exact h.A.2.2.2.2.1
theorem On.good {w0 w : World} {i : Ids} {x : Sm} (h : On w0 w i x) : Good x.m.n x.m.lb := by
  obtain ⟨s, pv, h⟩ := h
  have h1 := h.Y.yd.bt.good
  have h2 := h.Y.ms
  rw [← h2]
  exact h1
set_option maxHeartbeats 1000000 in
set_option maxRecDepth 100000 in
theorem held_no (w : World) (ab n cap : Nat) (A : List Cp) (hn : A.length = n) (hA : CapsB w ab A) (hc : ∀ c ∈ A, c.cur < 4294967296) (hl : n ≤ 100000) (a s : Nat) (ha : a < 4294967296) (hs : s < 4294967296) (has : a + s < 4294967296)
    (hno : ∀ c ∈ A, c.v = true → ¬ ((a : Int) ≤ c.base ∧ c.base < ((a + s : Nat) : Int))) :
    Calls Tryz.prog 44 #[.slice (some ⟨ab, 0, none⟩) n cap, .agg #[.int .u32 a, .int .u32 s]] w fun r w' => r = .returned (.bool false) ∧ Fr [] w w' := by
  have HA := Lib.hid hA
  have HN := Lib.hid hn
  have HC := Lib.hid hc
  have HO := Lib.hid hno
  have B0 := Lib.hid (At.new w 45 #[.int .u32 a, .int .u32 s])
  have F0 := Lib.hid (show Fr [] w (w.alloc (.cells #[.int .u32 a, .int .u32 s] 45)) from (by repeat (first | exact Fr.refl _ _ | assumption | refine Fr.trans0 ?_ (by assumption) | refine Fr.drewN ?_ _ | refine Fr.alloc ?_ _ | refine Fr.drew ?_)))
  have HI := Lib.hid infoCapS
  clear hA hn hc hno
  go_enter Tryz.func44, Tryz.ntmps44
  go_wp2_with fail
  obtain ⟨w1, hw1⟩ : ∃ W, w.alloc (.cells #[.int .u32 a, .int .u32 s] 45) = W := ⟨_, rfl⟩
  obtain ⟨q, hq⟩ : ∃ q, w.heap.size = q := ⟨_, rfl⟩
  rw [hw1] at B0 F0 ⊢
  rw [hq] at B0 ⊢
  clear hw1 hq
  go_loopw [5] (fun v wr => ∃ j : Nat, j ≤ n ∧ v = .int .i64 j ∧ Fr [] w1 wr) (fun v _ => n - (intOf v).toNat)
  case atStart => exact ⟨0, by omega, rfl, Fr.refl _ _⟩
  case round =>
    obtain ⟨j, hj, rfl, hf⟩ := hrel
    have HF := Lib.hid hf
    clear hf
    by_cases hjn : j < n
    · obtain ⟨c, hcj⟩ : ∃ c, A[j]? = some c := ⟨_, List.getElem?_eq_getElem (by rw [HN.out]; exact hjn)⟩
      have hm := List.mem_of_getElem? hcj
      have hcur := HC.out c hm
      have hno := HO.out c hm
      have HAr := Lib.hid ((HA.out.fr F0.out (by simp)).fr HF.out (by simp))
      have HB := Lib.hid (B0.out.fr HF.out (by simp))
      have HCJ := Lib.hid fun jj v hv => HAr.out.at_ j c hcj jj v hv
      have CR := Lib.hid fun W => range_any W c hcur
      have hbd := dec_bd c.e c.b c.t c.cur
      obtain ⟨X, hX⟩ : ∃ X, c.base = X := ⟨_, rfl⟩
      have hX0 : 0 ≤ X := by rw [← hX]; exact hbd.1
      have hX1 : X < 4294967296 := by rw [← hX]; exact hbd.2.1
      rw [hX] at CR hno
      clear hX hbd hcj hm hcur
      have c7 := HCJ.out 7 (.bool c.v) rfl
      have HL := Lib.hid HAr.out.1
      have HV := Lib.hid hno
      clear hno
      go_wp2_with (refine wpList_load_at (by rfl) 49 (.tmp 17) rfl ⟨ab, j * 8, none⟩ rfl c.l _ (fun jj v hv => by rw [Go.WideShapes.add_plain]; exact HCJ.out jj v hv) Tryz.underlying49 rfl HI.out ?_)
      refine (CR.out _).mono ?_
      rintro e w2 ⟨rfl, hf2⟩
      have c7 := (hf2.cell (a := ⟨ab, j * 8 + 7, none⟩) HL.out (by simp)).trans c7
      have r0 := (HB.out.fr hf2 (by simp)).cell 0
      have r1 := (HB.out.fr hf2 (by simp)).cell 1
      simp only [List.getElem?_toArray, List.getElem?_cons_zero, List.getElem?_cons_succ] at r0 r1
      have F2 := Lib.hid (HF.out.trans0 hf2)
      clear hf2
      cases hv : c.v with
      | false =>
        rw [hv] at c7
        clear hv
        go_wp2_with fail
        go_roundw
        case rel => exact ⟨j + 1, by omega, by go_num, F2.out⟩
        case measure => simp [intOf]; omega
      | true =>
        have hno := HV.out hv
        rw [hv] at c7
        clear hv
        by_cases h1 : (a : Int) ≤ X
        · have h2 : (s : Int) ≤ X - a := by omega
          have h3 : 0 ≤ X - (a : Int) := by omega
          have d1 : decide ((a : Int) ≤ X) = true := by simpa using h1
          have d2 : decide (X - (a : Int) < (s : Int)) = false := by simp; omega
          clear hno
          go_wp2_with fail
          go_roundw
          case rel => exact ⟨j + 1, by omega, by go_num, F2.out⟩
          case measure => simp [intOf]; omega
        · have d1 : decide ((a : Int) ≤ X) = false := by simpa using h1
          clear hno
          go_wp2_with fail
          go_roundw
          case rel => exact ⟨j + 1, by omega, by go_num, F2.out⟩
          case measure => simp [intOf]; omega
    · obtain rfl : j = n := by omega
      go_wp2_with fail
      go_ret
      exact ⟨rfl, F0.out.trans0 HF.out⟩
end Go.Proofs.YthjbnbimfpbccaaGreatDoor
/-
  Arrays of cells by a function of the place. No condition.
-/

set_option linter.unusedVariables false
namespace Go.Proofs.YthjbnbimfpbccaaGreatDoor
open Go.ChangeShapes Go.WideShapes Go.ChangeAt Go.RowKit
/-- The array of m cells whose i-th is f i. -/
def arr (m : Nat) (f : Nat → Value) : Array Value := ((List.range m).map f).toArray
theorem arr_size (m : Nat) (f : Nat → Value) : (arr m f).size = m := by simp [arr]
theorem arr_get (m : Nat) (f : Nat → Value) (i : Nat) (h : i < m) : (arr m f)[i]? = some (f i) := by
  unfold arr; rw [List.getElem?_toArray, List.getElem?_map, List.getElem?_range h]; rfl
theorem arr_ext (m : Nat) (cs : Array Value) (g : Nat → Value) (hs : cs.size = m) (h : ∀ i, i < m → cs[i]? = some (g i)) : cs = arr m g :=
  Array.ext_getElem? fun i => by
    by_cases hi : i < m
    · rw [h i hi, arr_get m g i hi]
    · rw [Array.getElem?_eq_none (by omega), Array.getElem?_eq_none (by rw [arr_size]; omega)]
theorem arr_congr (m : Nat) (f g : Nat → Value) (h : ∀ i, i < m → f i = g i) : arr m f = arr m g :=
  arr_ext m _ g (arr_size m f) fun i hi => by rw [arr_get m f i hi, h i hi]
theorem arr_set (m : Nat) (f : Nat → Value) (i : Nat) (v : Value) : (arr m f).setIfInBounds i v = arr m fun j => if j = i then v else f j :=
  arr_ext m _ _ (by rw [Array.size_setIfInBounds, arr_size]) fun j hj => by
    rw [Array.getElem?_setIfInBounds, arr_size, arr_get m f j hj]
    by_cases e : i = j
    · subst e; simp [hj]
    · rw [if_neg e, if_neg (fun h => e h.symm)]
end Go.Proofs.YthjbnbimfpbccaaGreatDoor
