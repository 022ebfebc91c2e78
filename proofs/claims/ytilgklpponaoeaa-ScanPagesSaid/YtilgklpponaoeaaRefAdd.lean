/-
  Add and Remove of the reference of layer 15, at every region. Condition: at most 16384 granules.
-/

import Derived.Test.YtilgklpponaoeaaAdd
import Derived.Test.YtilgklpponaoeaaRef
set_option linter.unusedVariables false
namespace Go.Proofs.Ytilgklpponaoeaa
open Go.ChangeShapes Go.WideShapes Go.ChangeAt Go.RowKit
theorem r15chg_any (w : World) (b : Nat) (v : Value) (n : Nat) (f : Nat → Bool) (h : Bs b w v n f) (hn : n ≤ 16384) (a s : Int) (to : Bool) (ha : 0 ≤ a) (ha2 : a ≤ 4294967295) (hs : 0 ≤ s) (hs2 : s ≤ 4294967295) :
    Calls Try.prog 80 #[.agg #[v], .agg #[.int .u32 a, .int .u32 s], .bool to] w fun r w' => ∃ v', r = .returned (.tuple #[.agg #[v'], .bool (okC n f a s to)]) ∧ Bs 0 w' v' n (newC n f a s to) ∧ Fr [] w w' := by
  rcases okC_cases n a s ha hs with hb | ⟨A, R, rfl, rfl, hR, hAR⟩
  · rw [(okC_no hb).1, (okC_no hb).2]
    exact (r15chg_no w b v n f h hn a s to ha ha2 hs hs2 hb).mono fun e w' ⟨he, hf⟩ => ⟨v, he, own_base (own_fr0 h hf) (Nat.zero_le _), hf⟩
  · rw [(okC_nat hR hAR).1, (okC_nat hR hAR).2]
    exact (r15chg_yes w b v n f h hn _ _ to A R rfl rfl hR hAR).mono fun e w' ⟨⟨v', he, ht⟩, hf⟩ => ⟨v', he, own_base ht (Nat.zero_le _), hf⟩
theorem r15add_any (w : World) (b : Nat) (v : Value) (n : Nat) (f : Nat → Bool) (h : Bs b w v n f) (hn : n ≤ 16384) (a s : Int) (ha : 0 ≤ a) (ha2 : a ≤ 4294967295) (hs : 0 ≤ s) (hs2 : s ≤ 4294967295) :
    Calls Try.prog 55 #[.agg #[v], .agg #[.int .u32 a, .int .u32 s]] w fun r w' => ∃ v', r = .returned (.tuple #[.agg #[v'], .bool (okC n f a s true)]) ∧ Bs 0 w' v' n (newC n f a s true) ∧ Fr [] w w' := by
  have C := Lib.hid fun (W : World) (hW : Fr [] w W) => r15chg_any W b v n f (own_fr0 h hW) hn a s true ha ha2 hs hs2
  obtain ⟨av, cv, rfl, hcv⟩ := own_slice h
  clear h
  generalize okC n f a s true = ok at *
  generalize newC n f a s true = f' at *
  go_enter Try.func55, Try.ntmps55
  go_wp2_with (go_at_call 80; refine (C.out _ (by repeat (first | exact Fr.refl _ _ | assumption | refine Fr.trans0 ?_ (by assumption) | refine Fr.drewN ?_ _ | refine Fr.alloc ?_ _ | refine Fr.drew ?_))).mono ?_; rintro e w2 ⟨v', rfl, h2, hf2⟩; obtain ⟨av', cv', rfl, hcv'⟩ := own_slice h2; have a2 := ((At.new ((w.alloc (.cells #[.slice av n cv] 53)).alloc (.cells #[.int .u32 a, .int .u32 s] 70)) 53 #[.slice none 0 0]).fr (S := []) (w' := w2) hf2 (by simp)); simp only [World.size_alloc] at a2; have c2 := a2.cell 0; have f2 := a2.froz 0; simp only [List.getElem?_toArray, List.getElem?_cons_zero] at c2; have H2 := Lib.hid h2; have A2 := Lib.hid a2; clear h2 a2)
  have q0 := (A2.out.set 0 (.slice av' n cv')).cell 0
  refine bodyPost_ret (v := .tuple #[.agg #[.slice av' n cv'], .bool ok]) (by simp [results, Try.results55, go_sem, q0]) rfl ⟨_, rfl, ?_, Fr.set (Fr.trans0 (by repeat (first | exact Fr.refl _ _ | assumption | refine Fr.trans0 ?_ (by assumption) | refine Fr.drewN ?_ _ | refine Fr.alloc ?_ _ | refine Fr.drew ?_)) hf2) (.inr (by show w.heap.size ≤ w.heap.size + 1 + 1; omega)) _⟩
  exact own_fr H2.out ((Fr.refl [w.heap.size + 1 + 1] _).set (.inl (by simp)) _) (fun g hg => by simp; exact own_ne H2.out A2.out (by decide) g hg)
end Go.Proofs.Ytilgklpponaoeaa
