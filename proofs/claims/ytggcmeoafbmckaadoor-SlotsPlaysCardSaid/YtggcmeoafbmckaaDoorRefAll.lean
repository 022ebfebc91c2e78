/-
  Program and reference of layer 13, step by step, each step for every argument. Condition: the table of math/bits is as the library lays it.
-/



import Derived.Test.YtggcmeoafbmckaaDoorRef6
import Derived.Test.YtggcmeoafbmckaaDoorWorks
set_option linter.unusedVariables false
namespace Go.Proofs.YtggcmeoafbmckaaDoor
open Go.ChangeShapes Go.WideShapes Go.ChangeAt Go.RowKit
def inK (i : Int) (n : Nat) : Bool := decide (0 ≤ i ∧ i < n)
theorem inK_yes {i : Int} {n : Nat} (h : inK i n = true) : ∃ j : Nat, i = j ∧ j < n := by
  unfold inK at h
  have := of_decide_eq_true h
  exact ⟨i.toNat, by omega, by omega⟩
theorem inK_nat (j n : Nat) (h : j < n) : inK (j : Int) n = true := decide_eq_true ⟨by omega, by omega⟩
theorem inK_no {i : Int} {n : Nat} (h : inK i n = false) : i < 0 ∨ (n : Int) ≤ i := by
  unfold inK at h
  have := of_decide_eq_false h
  omega
section
variable (per : Nat) (F : Nat → Nat → Bool) (T : Nat → Bool) (p s : Int)
def adB : Bool := inK p 1024 && !T p.toNat
def adF : Nat → Nat → Bool := if adB T p = true then upp F p.toNat (ful per) else F
def adT : Nat → Bool := if adB T p = true then upd T p.toNat true else T
def ptB : Bool := inK p 1024 && (T p.toNat && (inK s per && !F p.toNat s.toNat))
def ptF : Nat → Nat → Bool := if ptB per F T p s = true then upp F p.toNat (upd (F p.toNat) s.toNat true) else F
def whB : Bool := inK p 1024 && (T p.toNat && wh per F p.toNat)
def drF : Nat → Nat → Bool := if whB per F T p = true then upp F p.toNat (fun _ => false) else F
def drT : Nat → Bool := if whB per F T p = true then upd T p.toNat false else T
end
section
variable {w : World} {bp per : Nat} {F : Nat → Nat → Bool} {T : Nat → Bool}
theorem badd_all (h : Book w bp per F T) (p : Int) :
    Calls Tryd.prog 8 #[.pointer (some ⟨bp, 0, none⟩), .int .i64 p] w fun e w' => e = .returned (.bool (adB T p)) ∧ Book w' bp per (adF per F T p) (adT T p) ∧ Fr [bp] w w' := by
  cases hk : adB T p with
  | true =>
    unfold adF adT
    rw [if_pos hk, if_pos hk]
    unfold adB at hk
    rw [Bool.and_eq_true] at hk
    obtain ⟨j, rfl, hj⟩ := inK_yes hk.1
    exact badd_yes h j hj (by simpa using hk.2)
  | false =>
    unfold adF adT
    rw [if_neg (by rw [hk]; simp), if_neg (by rw [hk]; simp)]
    cases hr : inK p 1024 with
    | false => exact (badd_bad h p (inK_no hr)).mono fun e w' ⟨he, hf⟩ => ⟨he, h.fr hf (by simp), hf.more (by simp)⟩
    | true =>
      obtain ⟨j, rfl, hj⟩ := inK_yes hr
      have hT : T j = true := by
        unfold adB at hk
        rw [hr, Bool.true_and] at hk
        simpa using hk
      exact (badd_twice h j hT).mono fun e w' ⟨he, hf⟩ => ⟨he, h.fr hf (by simp), hf.more (by simp)⟩
theorem bput_all (h : Book w bp per F T) (p s : Int) :
    Calls Tryd.prog 10 #[.pointer (some ⟨bp, 0, none⟩), .int .i64 p, .int .i64 s] w fun e w' => e = .returned (.bool (ptB per F T p s)) ∧ Book w' bp per (ptF per F T p s) T ∧ Fr [bp] w w' := by
  cases hk : ptB per F T p s with
  | true =>
    unfold ptF
    rw [if_pos hk]
    unfold ptB at hk
    simp only [Bool.and_eq_true] at hk
    obtain ⟨j, rfl, hj⟩ := inK_yes hk.1
    obtain ⟨t, rfl, ht⟩ := inK_yes hk.2.2.1
    exact bput_yes h j t hk.2.1 ht (by simpa using hk.2.2.2)
  | false =>
    unfold ptF
    rw [if_neg (by rw [hk]; simp)]
    cases hr : inK p 1024 with
    | false => exact (bput_bad h p s (inK_no hr)).mono fun e w' ⟨he, hf⟩ => ⟨he, h.fr hf (by simp), hf.more (by simp)⟩
    | true =>
      obtain ⟨j, rfl, hj⟩ := inK_yes hr
      have hn : T j = false ∨ s < 0 ∨ (per : Int) ≤ s ∨ F j s.toNat = true := by
        unfold ptB at hk
        rw [hr, Bool.true_and, Int.toNat_natCast] at hk
        cases hT : T j with
        | false => exact .inl rfl
        | true =>
          rw [hT, Bool.true_and] at hk
          cases hs : inK s per with
          | false => rcases inK_no hs with h | h <;> simp [h]
          | true =>
            rw [hs, Bool.true_and] at hk
            exact .inr (.inr (.inr (by simpa using hk)))
      exact (bput_no h j s hj hn).mono fun e w' ⟨he, hf⟩ => ⟨he, h.fr hf (by simp), hf.more (by simp)⟩
theorem bdrop_all (h : Book w bp per F T) (p : Int) :
    Calls Tryd.prog 15 #[.pointer (some ⟨bp, 0, none⟩), .int .i64 p] w fun e w' => e = .returned (.bool (whB per F T p)) ∧ Book w' bp per (drF per F T p) (drT per F T p) ∧ Fr [bp] w w' := by
  cases hk : whB per F T p with
  | true =>
    unfold drF drT
    rw [if_pos hk, if_pos hk]
    unfold whB at hk
    simp only [Bool.and_eq_true] at hk
    obtain ⟨j, rfl, hj⟩ := inK_yes hk.1
    exact bdrop_yes h j hk.2.1 hk.2.2
  | false =>
    unfold drF drT
    rw [if_neg (by rw [hk]; simp), if_neg (by rw [hk]; simp)]
    cases hr : inK p 1024 with
    | false => exact (bdrop_bad h p (inK_no hr)).mono fun e w' ⟨he, hf⟩ => ⟨he, h.fr hf (by simp), hf.more (by simp)⟩
    | true =>
      obtain ⟨j, rfl, hj⟩ := inK_yes hr
      have hn : (T j && wh per F j) = false := by unfold whB at hk; rw [hr, Bool.true_and] at hk; exact hk
      exact (bdrop_no h j hj hn).mono fun e w' ⟨he, hf⟩ => ⟨he, h.fr hf (by simp), hf.more (by simp)⟩
theorem bwhole_all (h : Book w bp per F T) (p : Int) :
    Calls Tryd.prog 14 #[.pointer (some ⟨bp, 0, none⟩), .int .i64 p] w fun e w' => e = .returned (.bool (whB per F T p)) ∧ Fr [] w w' := by
  cases hr : inK p 1024 with
  | false =>
    have e0 : whB per F T p = false := by unfold whB; rw [hr]; rfl
    rw [e0]
    exact (bwhole_bad h p (inK_no hr)).mono fun e w' ⟨he, n, hw⟩ => ⟨he, hw ▸ (Fr.refl _ _).drewN n⟩
  | true =>
    obtain ⟨j, rfl, hj⟩ := inK_yes hr
    have e0 : whB per F T (j : Int) = (T j && wh per F j) := by unfold whB; rw [hr, Bool.true_and, Int.toNat_natCast]
    rw [e0]
    exact (bwhole_any h j hj).mono fun e w' ⟨he, n, hw⟩ => ⟨he, hw ▸ (Fr.refl _ _).drewN n⟩
theorem btake_ever (h : Book w bp per F T) (hT : Tab32 w) (hbt : bp ≠ 0) :
    Calls Tryd.prog 9 #[.pointer (some ⟨bp, 0, none⟩)] w fun e w' => ∃ n s b F', e = .returned (.tuple #[.int .i64 n, .int .i64 s, .bool b]) ∧ Book w' bp per F' T ∧ Fr [bp] w w' := by
  rcases least_free F with h0 | ⟨n, s, h1, h2, h3⟩
  · exact (btake_no h hT hbt h0).mono fun e w' ⟨he, hf⟩ => ⟨0, 0, false, F, he, h.fr hf (by simp), hf.more (by simp)⟩
  · exact (btake_is h hT hbt n s h1 h2 h3).mono fun e w' ⟨he, hb, hf⟩ => ⟨_, _, _, _, he, hb, hf⟩
end
/-! ### the reference -/
section
variable {w : World} {per : Nat} {v : Value} {F : Nat → Nat → Bool} {T : Nat → Bool} {P : List (Nat × Value)}
theorem RB.sl (h : RB w v per F T P) : ∀ x ∈ P, SlV x.2 := fun x hx => (h.free x hx).sl
theorem RB.there (h : RB w v per F T P) {x : Nat × Value} (hx : x ∈ P) : x.1 < 1024 ∧ T x.1 = true := by
  have : x.1 ∈ told T 1024 := by rw [← h.num]; exact List.mem_map_of_mem hx
  exact (told_mem T 1024 x.1).1 this
theorem RB.at_ (h : RB w v per F T P) {p : Nat} (hp : p < 1024) (hT : T p = true) : ∃ u, P[(told T p).length]? = some (p, u) := by
  have hs := told_at T p hp
  rw [if_pos hT] at hs
  have h1 : (told T 1024)[(told T p).length]? = some p := by
    rw [hs, List.getElem?_append_right (Nat.le_refl _), Nat.sub_self]; rfl
  rw [← h.num, List.getElem?_map] at h1
  cases hx : P[(told T p).length]? with
  | none => rw [hx] at h1; simp at h1
  | some x =>
    rw [hx] at h1
    simp at h1
    exact ⟨x.2, by rw [← h1]⟩
/-- The other pages stay as they were, whatever becomes of page p. -/
theorem RB.set (h : RB w v per F T P) {w' : World} {v' u' : Value} {p : Nat} {f : Nat → Bool} (hp : p < 1024) (hT : T p = true) (hr : Rp 0 w' v' (P.set (told T p).length (p, u'))) (hu : Bs 0 w' u' per f) (hf : Fr [] w w') : RB w' v' per (upp F p f) T (P.set (told T p).length (p, u')) := by
  obtain ⟨u, hx⟩ := h.at_ hp hT
  refine ⟨hr, ?_, fun x hx' => ?_⟩
  · rw [List.map_set, ← h.num]
    have hk := (List.getElem?_eq_some_iff.1 hx).1
    have : (P.map (·.1))[(told T p).length]? = some p := by rw [List.getElem?_map, hx]; rfl
    obtain ⟨hk2, he⟩ := List.getElem?_eq_some_iff.1 this
    have e2 : (P.map (·.1)).set (told T p).length (P.map (·.1))[(told T p).length] = P.map (·.1) := List.set_getElem_self hk2
    rw [he] at e2
    exact e2
  · by_cases e : x.1 = p
    · have : x = (p, u') := by
        obtain ⟨i, hi, hxi⟩ := List.getElem_of_mem hx'
        rw [List.length_set] at hi
        rw [List.getElem_set] at hxi
        split at hxi
        · exact hxi.symm
        · rename_i hne
          exfalso
          have hnd : (P.map (·.1)).Nodup := by rw [h.num]; exact told_nodup T 1024
          have hk := (List.getElem?_eq_some_iff.1 hx)
          obtain ⟨hk1, hk2⟩ := hk
          have h3 : (P.map (·.1))[i]'(by rw [List.length_map]; exact hi) = (P.map (·.1))[(told T p).length]'(by rw [List.length_map]; exact hk1) := by
            rw [List.getElem_map, List.getElem_map, hk2, hxi, e]
          exact hne ((List.getElem_inj hnd).1 h3).symm
      subst this
      show Bs 0 w' u' per (upp F p f p)
      rw [upp_same]
      exact hu
    · have hm : x ∈ P := by
        rcases List.mem_or_eq_of_mem_set hx' with hm | hm
        · exact hm
        · subst hm; exact (e rfl).elim
      rw [upp_far _ _ _ _ e]
      exact own_fr0 (h.free x hm) hf
theorem bs_congr {b n : Nat} {f g : Nat → Bool} (h : Bs b w v n f) (he : ∀ s, s < n → f s = g s) : Bs b w v n g := by unfold Bs; rw [← bls_congr n f g he]; exact h
theorem r13add_all (h : RB w v per F T P) (hs : Sound per F T) (p : Int) :
    Calls Tryd.prog 17 #[.agg #[.int .i64 per, v], .int .i64 p] w fun r w' => ∃ v' P', r = .returned (.tuple #[.agg #[.int .i64 per, v'], .bool (adB T p)]) ∧ RB w' v' per (adF per F T p) (adT T p) P' ∧ Fr [] w w' := by
  cases hk : adB T p with
  | true =>
    have hk' := hk
    unfold adB at hk
    rw [Bool.and_eq_true] at hk
    obtain ⟨j, rfl, hj⟩ := inK_yes hk.1
    have hT : T j = false := by simpa using hk.2
    have hfd := fnd_at T j hj
    rw [hT] at hfd
    refine (r13add_yes (per := per) h.row h.sl h.len j hj hs.2.1 (by rw [h.num]; exact hfd.2)).mono ?_
    rintro r w' ⟨v', vn, he, hr, hb, hf⟩
    rw [h.num, hfd.1] at hr
    refine ⟨v', _, he, ⟨hr, ?_, fun x hx => ?_⟩, hf⟩
    · unfold adT
      rw [if_pos hk', Int.toNat_natCast, told_came T j hj hT, List.map_append, List.map_cons, List.map_take, List.map_drop, h.num]
    · unfold adF
      rw [if_pos hk', Int.toNat_natCast]
      have hold : x ∈ P → Bs 0 w' x.2 per (upp F j (ful per) x.1) := fun hm => by
        have hne : x.1 ≠ j := fun e => by
          have := (h.there hm).2
          rw [e, hT] at this; cases this
        rw [upp_far _ _ _ _ hne]
        exact own_fr0 (h.free x hm) hf
      rcases List.mem_append.1 hx with hx | hx
      · exact hold (List.mem_of_mem_take hx)
      · rcases List.mem_cons.1 hx with hx | hx
        · subst hx
          show Bs 0 w' vn per (upp F j (ful per) j)
          rw [upp_same]
          exact bs_congr hb fun s hs => by unfold ful; simp [hs]
        · exact hold (List.mem_of_mem_drop hx)
  | false =>
    unfold adF adT
    rw [if_neg (by rw [hk]; simp), if_neg (by rw [hk]; simp)]
    refine (r13add_no h.row h.len p ?_).mono ?_
    · cases hr : inK p 1024 with
      | false => rcases inK_no hr with h | h <;> first | exact .inl h | exact .inr (.inl (by omega))
      | true =>
        obtain ⟨j, rfl, hj⟩ := inK_yes hr
        refine .inr (.inr ?_)
        rw [h.num, (fnd_at T j hj).2]
        unfold adB at hk
        rw [hr, Bool.true_and] at hk
        simpa using hk
    · rintro r w' ⟨he, hf⟩
      exact ⟨v, P, he, h.fr hf, hf⟩
theorem fis_of (h : RB w v per F T P) (p : Int) (hp : inK p 1024 = false) : fis (P.map (·.1)) p = false := by
  rw [h.num]
  rcases inK_no hp with h | h
  · exact fis_bad T p (.inl h)
  · exact fis_bad T p (.inr (by omega))
theorem wh_cnt (hs : Sound per F T) (n : Nat) : wh per F n = decide (cnt (F n) per = per) := by
  rw [Bool.eq_iff_iff, wh_iff hs, decide_eq_true_iff]
  constructor
  · intro e
    rw [e]
    have : ∀ m, m ≤ per → cnt (ful per) m = m := fun m => by
      induction m with
      | zero => intro _; rfl
      | succ m ih =>
        intro hm
        simp only [cnt]
        rw [ih (by omega), if_pos (show ful per m = true by unfold ful; simp; omega)]
    exact this per (Nat.le_refl _)
  · intro e
    have key : ∀ m, cnt (F n) m = m → ∀ s, s < m → F n s = true := fun m => by
      induction m with
      | zero => intro _ s hs; omega
      | succ m ih =>
        intro hm s hs
        have hle := cnt_le (F n) m
        simp only [cnt] at hm
        by_cases hb : F n m = true
        · rw [if_pos hb] at hm
          by_cases e : s = m
          · subst e; exact hb
          · exact ih (by omega) s (by omega)
        · rw [if_neg hb] at hm; omega
    funext s
    unfold ful
    by_cases hsp : s < per
    · rw [key per e s hsp]; simp [hsp]
    · cases hf : F n s with
      | false => simp; omega
      | true => have := (hs.2.2.1 n s hf).1; omega
theorem r13whole_all (h : RB w v per F T P) (hs : Sound per F T) (p : Int) :
    Calls Tryd.prog 23 #[.agg #[.int .i64 per, v], .int .i64 p] w fun r w' => r = .returned (.bool (whB per F T p)) ∧ Fr [] w w' := by
  cases hr : inK p 1024 with
  | false =>
    have e0 : whB per F T p = false := by unfold whB; rw [hr]; rfl
    rw [e0]
    exact r13whole_no h.row h.len p (fis_of h p hr)
  | true =>
    obtain ⟨j, rfl, hj⟩ := inK_yes hr
    have hfd := fnd_at T j hj
    have e0 : whB per F T (j : Int) = (T j && wh per F j) := by unfold whB; rw [hr, Bool.true_and, Int.toNat_natCast]
    rw [e0]
    cases hT : T j with
    | false =>
      rw [hT] at hfd
      exact r13whole_no h.row h.len j (by rw [h.num]; exact hfd.2)
    | true =>
      rw [hT] at hfd
      obtain ⟨u, hx⟩ := h.at_ hj hT
      rw [wh_cnt hs, Bool.true_and]
      exact r13whole_yes h.row h.len j _ j u (F j) (by rw [h.num]; exact hfd.1) (by rw [h.num]; exact hfd.2) hx (h.free _ (List.mem_of_getElem? hx)) hs.2.1
theorem r13drop_all (h : RB w v per F T P) (hs : Sound per F T) (p : Int) :
    Calls Tryd.prog 20 #[.agg #[.int .i64 per, v], .int .i64 p] w fun r w' => ∃ v' P', r = .returned (.tuple #[.agg #[.int .i64 per, v'], .bool (whB per F T p)]) ∧ RB w' v' per (drF per F T p) (drT per F T p) P' ∧ Fr [] w w' := by
  cases hk : whB per F T p with
  | false =>
    unfold drF drT
    rw [if_neg (by rw [hk]; simp), if_neg (by rw [hk]; simp)]
    refine (r13drop_no h.row p (fun W hW => ?_)).mono ?_
    · have := r13whole_all (h.fr hW) hs p
      rw [hk] at this
      exact this
    · rintro r w' ⟨he, hf⟩
      exact ⟨v, P, he, h.fr hf, hf⟩
  | true =>
    have hk' := hk
    unfold whB at hk
    simp only [Bool.and_eq_true] at hk
    obtain ⟨j, rfl, hj⟩ := inK_yes hk.1
    have hT : T j = true := hk.2.1
    have hfd := fnd_at T j hj
    rw [hT] at hfd
    obtain ⟨u, hx⟩ := h.at_ hj hT
    have hkl := (List.getElem?_eq_some_iff.1 hx).1
    refine (r13drop_yes (per := per) h.row h.sl h.len j _ (by rw [h.num]; exact hfd.1) (by rw [h.num]; exact hfd.2) hkl (fun W hW => ?_)).mono ?_
    · have := r13whole_all (h.fr hW) hs j
      rw [hk'] at this
      exact this
    · rintro r w' ⟨v', he, hr, hf⟩
      refine ⟨v', _, he, ⟨hr, ?_, fun x hx' => ?_⟩, hf⟩
      · unfold drT
        rw [if_pos hk', Int.toNat_natCast, told_went T j hj hT, List.map_append, List.map_take, List.map_drop, h.num]
      · unfold drF
        rw [if_pos hk', Int.toNat_natCast]
        have hne : x.1 ≠ j := fun e => by
          have hmem : j ∈ told (upd T j false) 1024 := by
            have hm2 := List.mem_map_of_mem (f := fun x : Nat × Value => x.1) hx'
            rw [told_went T j hj hT, ← h.num, ← List.map_take, ← List.map_drop, ← List.map_append]
            rw [e] at hm2
            exact hm2
          have := ((told_mem _ _ _).1 hmem).2
          unfold upd at this
          rw [if_pos rfl] at this
          cases this
        rw [upp_far _ _ _ _ hne]
        refine own_fr0 (h.free x ?_) hf
        rcases List.mem_append.1 hx' with hm | hm
        · exact List.mem_of_mem_take hm
        · exact List.mem_of_mem_drop hm
theorem r13put_all (h : RB w v per F T P) (hs : Sound per F T) (p s : Int) :
    Calls Tryd.prog 19 #[.agg #[.int .i64 per, v], .int .i64 p, .int .i64 s] w fun r w' => ∃ v' P', r = .returned (.tuple #[.agg #[.int .i64 per, v'], .bool (ptB per F T p s)]) ∧ RB w' v' per (ptF per F T p s) T P' ∧ Fr [] w w' := by
  have same : ∀ b, ptB per F T p s = b → b = false → (Calls Tryd.prog 19 #[.agg #[.int .i64 per, v], .int .i64 p, .int .i64 s] w fun r w' => r = .returned (.tuple #[.agg #[.int .i64 per, v], .bool false]) ∧ Fr [] w w') → Calls Tryd.prog 19 #[.agg #[.int .i64 per, v], .int .i64 p, .int .i64 s] w fun r w' => ∃ v' P', r = .returned (.tuple #[.agg #[.int .i64 per, v'], .bool b]) ∧ RB w' v' per (ptF per F T p s) T P' ∧ Fr [] w w' := fun b hb hb2 hc => by
    subst hb2
    refine hc.mono ?_
    rintro r w' ⟨he, hf⟩
    unfold ptF
    rw [if_neg (by rw [hb]; simp)]
    exact ⟨v, P, he, h.fr hf, hf⟩
  cases hr : inK p 1024 with
  | false => exact same _ rfl (by unfold ptB; rw [hr]; rfl) (r13put_no h.row h.len p s (.inl (fis_of h p hr)))
  | true =>
    obtain ⟨j, rfl, hj⟩ := inK_yes hr
    have hfd := fnd_at T j hj
    cases hT : T j with
    | false =>
      rw [hT] at hfd
      exact same _ rfl (by unfold ptB; rw [Int.toNat_natCast, hT]; simp) (r13put_no h.row h.len j s (.inl (by rw [h.num]; exact hfd.2)))
    | true =>
      rw [hT] at hfd
      cases hsr : inK s per with
      | false => exact same _ rfl (by unfold ptB; rw [hsr]; simp) (r13put_no h.row h.len j s (.inr (inK_no hsr)))
      | true =>
        obtain ⟨t, rfl, ht⟩ := inK_yes hsr
        obtain ⟨u, hx⟩ := h.at_ hj hT
        have hu := h.free _ (List.mem_of_getElem? hx)
        cases hF : F j t with
        | true => exact same _ rfl (by unfold ptB; rw [Int.toNat_natCast, Int.toNat_natCast, hF]; simp) (r13put_taken h.row h.len j _ j u (F j) (by rw [h.num]; exact hfd.1) (by rw [h.num]; exact hfd.2) hx hu hs.2.1 t ht hF)
        | false =>
          have hb : ptB per F T (j : Int) (t : Int) = true := by unfold ptB; rw [hr, hsr, Int.toNat_natCast, Int.toNat_natCast, hT, hF]; rfl
          refine (r13put_yes h.row h.sl h.len j _ j u (F j) (by rw [h.num]; exact hfd.1) (by rw [h.num]; exact hfd.2) hx hu hs.2.1 t ht hF).mono ?_
          rintro r w' ⟨v', u', he, hrw, hub, hf⟩
          rw [hb]
          unfold ptF
          rw [if_pos hb, Int.toNat_natCast, Int.toNat_natCast]
          exact ⟨v', _, he, h.set hj hT hrw hub hf, hf⟩
theorem r13take_none (h : RB w v per F T P) (hs : Sound per F T) (h0 : ∀ n s, F n s = false) :
    Calls Tryd.prog 18 #[.agg #[.int .i64 per, v]] w fun r w' => r = .returned (.tuple #[.agg #[.int .i64 per, v], .int .i64 0, .int .i64 0, .bool false]) ∧ Fr [] w w' :=
  r13take_no F h.row h.len h.free hs.1 hs.2.1 fun x _ t => h0 x.1 t
theorem r13take_some (h : RB w v per F T P) (hs : Sound per F T) (n s : Nat) (h1 : F n s = true) (h2 : ∀ x, x < n → ∀ t, F x t = false) (h3 : ∀ t, t < s → F n t = false) :
    Calls Tryd.prog 18 #[.agg #[.int .i64 per, v]] w fun r w' => ∃ v' P', r = .returned (.tuple #[.agg #[.int .i64 per, v'], .int .i64 n, .int .i64 s, .bool true]) ∧ RB w' v' per (upp F n (upd (F n) s false)) T P' ∧ Fr [] w w' := by
  have hsn := hs.2.2.1 n s h1
  have hn := hs.2.2.2 n hsn.2
  obtain ⟨u, hx⟩ := h.at_ hn hsn.2
  refine (r13take_yes F h.row h.sl h.len h.free hs.1 hs.2.1 _ n u s hsn.1 hx h1 h3 (fun j x hj hxj t => ?_)).mono ?_
  · refine h2 x.1 ?_ t
    have e1 : (told T 1024)[j]? = some x.1 := by rw [← h.num, List.getElem?_map, hxj]; rfl
    rw [told_at T n hn, List.getElem?_append_left hj] at e1
    exact ((told_mem _ _ _).1 (List.mem_of_getElem? e1)).1
  · rintro r w' ⟨v', u', he, hr, hb, hf⟩
    exact ⟨v', _, he, h.set hn hsn.2 hr hb hf, hf⟩
theorem r13free_all (h : RB w v per F T P) (hs : Sound per F T) :
    Calls Tryd.prog 22 #[.agg #[.int .i64 per, v]] w fun r w' => r = .returned (.int .i64 (tot F 1024 : Nat)) ∧ Fr [] w w' := by
  have := r13free_any F h.row h.len h.free hs.1 hs.2.1
  rw [h.num, ← tot_sum per F T hs] at this
  exact this
theorem r13num_all (h : RB w v per F T P) :
    Calls Tryd.prog 25 #[.agg #[.int .i64 per, v]] w fun r w' => ∃ v', r = .returned v' ∧ w'.ownsRow w.heap.size 3 1 v' (told T 1024).length (ivs (told T 1024)) ∧ Fr [] w w' := by
  have := r13num_any (per := per) h.row h.len
  rw [h.num] at this
  exact this
end
end Go.Proofs.YtggcmeoafbmckaaDoor
