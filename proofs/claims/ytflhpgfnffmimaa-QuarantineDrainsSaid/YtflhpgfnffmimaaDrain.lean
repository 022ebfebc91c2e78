/-
  Steps of a yard over a table of states, and what is left once a ticket is done. No condition.
-/



import Derived.Test.YtflhpgfnffmimaaOnce
set_option linter.unusedVariables false
namespace Go.Proofs.Ytflhpgfnffmimaa
open Go.ChangeShapes Go.WideShapes Go.ChangeAt Go.RowKit
namespace drn
open once
structure St where
  ep : Nat
  sb : Bool
  f : Nat → Nat
def St.ms (σ : St) : MS := once.ms σ.ep σ.sb σ.f
def St.Ok (σ : St) : Prop := Fit σ.f σ.sb ∧ (σ.sb = true → 1 ≤ σ.ep)
def stp (σ : St) (x : Nat) : St :=
  if x < 200 then (if σ.f x = 0 then ⟨σ.ep, σ.sb, setN σ.f x 1⟩ else σ)
  else if x < 228 then (if σ.sb = true then σ else ⟨σ.ep + 1, true, trn σ.f 1 2 200⟩)
  else ⟨σ.ep, false, trn σ.f 2 0 200⟩
def en (σ : St) : Int := if σ.sb = true then (σ.ep : Int) - 1 else σ.ep
theorem en_ms (σ : St) : mEnded σ.ms = en σ := rfl
theorem stp_ok {σ : St} (h : σ.Ok) (x : Nat) : (stp σ x).Ok := by
  obtain ⟨ep, sb, f⟩ := σ
  obtain ⟨hf, hu⟩ := h
  unfold stp
  dsimp only at *
  split
  · rename_i hx
    split
    · rename_i h0
      exact ⟨(free_ms ep sb f hf x hx h0).2, hu⟩
    · exact ⟨hf, hu⟩
  · split
    · cases sb with
      | true => exact ⟨hf, hu⟩
      | false => exact ⟨(begin_ms ep f hf).2, fun _ => (by show 1 ≤ ep + 1; omega)⟩
    · exact ⟨(end_ms ep sb f hf).2.1, fun h => by cases h⟩
theorem stp_ep (σ : St) (x : Nat) : (stp σ x).ep ≤ σ.ep + 1 := by
  unfold stp
  split
  · split <;> (try dsimp only) <;> omega
  · split
    · split <;> (try dsimp only) <;> omega
    · (try dsimp only); omega
theorem stp_en {σ : St} (h : σ.Ok) (x : Nat) : en (stp σ x) = en σ + (if σ.sb = true ∧ (stp σ x).sb = false then 1 else 0) := by
  obtain ⟨ep, sb, f⟩ := σ
  have hu := h.2
  unfold stp en
  dsimp only at *
  split
  · split <;> cases sb <;> simp
  · split
    · cases sb with
      | true => simp
      | false => simp
    · cases sb with
      | true => simp
      | false => simp
def tk (σ : St) : Int := mTick σ.ms
theorem pos_of {f : Nat → Nat} {v x : Nat} (hx : x < 200) (h : f x = v) : 0 < (fl f v 200).length := by
  have := fl_get h (n := 200) hx
  rcases Nat.lt_or_ge (fl f v x).length (fl f v 200).length with h | h
  · omega
  · rw [List.getElem?_eq_none h] at this; cases this
theorem tk_one {σ : St} {x : Nat} (hx : x < 200) (h : σ.f x = 1) : tk σ = (σ.ep : Int) + 1 := by
  unfold tk mTick
  exact if_pos (pos_of hx h)
theorem tk_two {σ : St} {x : Nat} (hx : x < 200) (h : σ.f x = 2) : (σ.ep : Int) ≤ tk σ := by
  unfold tk mTick
  show (σ.ep : Int) ≤ if 0 < (fl σ.f 1 200).length then (σ.ep : Int) + 1 else if 0 < (fl σ.f 2 200).length then (σ.ep : Int) else mEnded σ.ms
  by_cases h1 : 0 < (fl σ.f 1 200).length
  · rw [if_pos h1]; omega
  · rw [if_neg h1, if_pos (pos_of hx h)]; omega
theorem tk_le (σ : St) : tk σ ≤ en σ + 2 := by
  unfold tk mTick
  rw [en_ms]
  show (if 0 < (fl σ.f 1 200).length then (σ.ep : Int) + 1 else if 0 < (fl σ.f 2 200).length then (σ.ep : Int) else en σ) ≤ en σ + 2
  have : (σ.ep : Int) - 1 ≤ en σ := by unfold en; split <;> omega
  split
  · omega
  · split <;> omega
theorem tk_nil {σ : St} (h : (fl σ.f 1 200).length + (fl σ.f 2 200).length = 0) : tk σ = en σ := by
  unfold tk mTick
  rw [en_ms]
  show (if 0 < (fl σ.f 1 200).length then (σ.ep : Int) + 1 else if 0 < (fl σ.f 2 200).length then (σ.ep : Int) else en σ) = en σ
  rw [if_neg (by omega), if_neg (by omega)]
/-- What is still there, and was not freed since, was there then. -/
structure Since (σ0 σ : St) (P : Nat → Prop) : Prop where
  one : ∀ x, x < 200 → ¬ P x → σ.f x = 1 → σ.ep = σ0.ep ∧ σ0.f x = 1
  two : ∀ x, x < 200 → ¬ P x → σ.f x = 2 → σ.sb = true ∧ (σ.ep = σ0.ep ∧ σ0.f x = 2 ∨ σ.ep = σ0.ep + 1 ∧ σ0.f x = 1)
theorem since0 {σ : St} (h : σ.Ok) (P : Nat → Prop) : Since σ σ P := by
  refine ⟨fun x hx _ e => ⟨rfl, e⟩, fun x hx _ e => ⟨?_, .inl ⟨rfl, e⟩⟩⟩
  cases hs : σ.sb with
  | true => rfl
  | false => exact absurd e (fl_nil (h.1.still hs) x hx)
theorem Since.stp {σ0 σ : St} {P P' : Nat → Prop} (h : Since σ0 σ P) (z : Nat) (hP : ∀ x, ¬ P' x → ¬ P x ∧ x ≠ z) : Since σ0 (stp σ z) P' := by
  obtain ⟨ep, sb, f⟩ := σ
  obtain ⟨h1, h2⟩ := h
  unfold drn.stp
  dsimp only at *
  split
  · split
    · refine ⟨fun x hx hp e => ?_, fun x hx hp e => ?_⟩
      · have := hP x hp
        try dsimp only at e ⊢
        rw [setN_ne f this.2] at e
        exact h1 x hx this.1 e
      · have := hP x hp
        try dsimp only at e ⊢
        rw [setN_ne f this.2] at e
        exact h2 x hx this.1 e
    · exact ⟨fun x hx hp e => h1 x hx (hP x hp).1 e, fun x hx hp e => h2 x hx (hP x hp).1 e⟩
  · split
    · cases sb with
      | true => exact ⟨fun x hx hp e => h1 x hx (hP x hp).1 e, fun x hx hp e => h2 x hx (hP x hp).1 e⟩
      | false =>
        refine ⟨fun x hx hp e => ?_, fun x hx hp e => ?_⟩
        · replace e : (if x < 200 ∧ f x = 1 then 2 else f x) = 1 := e
          by_cases g : f x = 1
          · rw [if_pos ⟨hx, g⟩] at e; cases e
          · rw [if_neg (fun g' => g g'.2)] at e; exact absurd e g
        · replace e : (if x < 200 ∧ f x = 1 then 2 else f x) = 2 := e
          show true = true ∧ (ep + 1 = σ0.ep ∧ σ0.f x = 2 ∨ ep + 1 = σ0.ep + 1 ∧ σ0.f x = 1)
          by_cases g : f x = 1
          · have := h1 x hx (hP x hp).1 g
            exact ⟨rfl, .inr ⟨by rw [this.1], this.2⟩⟩
          · rw [if_neg (fun g' => g g'.2)] at e
            have := (h2 x hx (hP x hp).1 e).1
            cases this
    · refine ⟨fun x hx hp e => ?_, fun x hx hp e => ?_⟩
      · dsimp only [trn] at e ⊢
        by_cases g : f x = 2
        · rw [if_pos ⟨hx, g⟩] at e; cases e
        · rw [if_neg (fun g' => g g'.2)] at e; exact h1 x hx (hP x hp).1 e
      · dsimp only [trn] at e
        by_cases g : f x = 2
        · rw [if_pos ⟨hx, g⟩] at e; cases e
        · rw [if_neg (fun g' => g g'.2)] at e; exact absurd e g
theorem gone {σ0 σ : St} {P : Nat → Prop} (h : Since σ0 σ P) (ok : σ.Ok) (hd : tk σ0 ≤ en σ) (x : Nat) (hx : x < 200) (hp : ¬ P x) : σ.f x = 0 := by
  have hl := ok.1.le x hx
  have hc : σ.f x = 0 ∨ σ.f x = 1 ∨ σ.f x = 2 := by omega
  rcases hc with e | e | e
  · exact e
  · obtain ⟨e1, e2⟩ := h.one x hx hp e
    have := tk_one hx e2
    have : en σ ≤ σ.ep := by unfold en; split <;> omega
    omega
  · obtain ⟨e1, e2⟩ := h.two x hx hp e
    have he : en σ = (σ.ep : Int) - 1 := by unfold en; rw [if_pos e1]
    rcases e2 with ⟨e2, e3⟩ | ⟨e2, e3⟩
    · have := tk_two hx e3
      omega
    · have := tk_one hx e3
      omega
theorem stp_free {σ : St} (h : σ.Ok) (x : Nat) (hx : x < 200) : mFree σ.ms (16 * x) 16 = (stp σ x).ms := by
  obtain ⟨ep, sb, f⟩ := σ
  unfold stp
  rw [if_pos hx]
  by_cases h0 : f x = 0
  · rw [if_pos h0]; exact (free_ms ep sb f h.1 x hx h0).1
  · rw [if_neg h0]; exact free_no ep sb f h.1 x hx h0
theorem stp_begin {σ : St} (h : σ.Ok) (x : Nat) (hx : ¬ x < 200) (hx2 : x < 228) : mBegin σ.ms = (stp σ x).ms := by
  obtain ⟨ep, sb, f⟩ := σ
  unfold stp
  rw [if_neg hx, if_pos hx2]
  cases sb with
  | true => rfl
  | false => exact (begin_ms ep f h.1).1
theorem stp_end {σ : St} (h : σ.Ok) (x : Nat) (hx : ¬ x < 200) (hx2 : ¬ x < 228) : mEnd σ.ms = (stp σ x).ms := by
  obtain ⟨ep, sb, f⟩ := σ
  unfold stp
  rw [if_neg hx, if_neg hx2]
  exact (end_ms ep sb f h.1).1
/-- The places of a yard: those that wait, then the batch. -/
def pls (f : Nat → Nat) : List Nat := (List.range 200).filter (fun k => f k == 1) ++ (List.range 200).filter (fun k => f k == 2)
theorem pls_map (f : Nat → Nat) : (pls f).map rg = fl f 1 200 ++ fl f 2 200 := by unfold pls fl; rw [List.map_append]
theorem pls_mem {f : Nat → Nat} {x : Nat} : x ∈ pls f ↔ x < 200 ∧ (f x = 1 ∨ f x = 2) := by
  unfold pls
  simp only [List.mem_append, List.mem_filter, List.mem_range, beq_iff_eq]
  omega
theorem pls_nodup (f : Nat → Nat) : (pls f).Nodup := by
  unfold pls
  refine List.nodup_append.2 ⟨List.nodup_range.filter _, List.nodup_range.filter _, fun a ha b hb e => ?_⟩
  have h1 := (List.mem_filter.1 ha).2
  have h2 := (List.mem_filter.1 hb).2
  subst e
  rw [beq_iff_eq] at h1 h2
  omega
theorem pls_len (f : Nat → Nat) : (pls f).length = (fl f 1 200).length + (fl f 2 200).length := by
  rw [← List.length_append, ← pls_map, List.length_map]
end drn
end Go.Proofs.Ytflhpgfnffmimaa
