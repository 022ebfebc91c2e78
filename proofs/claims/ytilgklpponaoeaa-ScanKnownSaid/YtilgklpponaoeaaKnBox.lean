/-
  What the closed statement of layer 17 keeps as it goes: a paint, an arena, four capabilities in variables. scan.Page of an arena that is none. No condition.
-/







import Derived.Test.YtilgklpponaoeaaKnPlain
import Derived.Test.YtilgklpponaoeaaFrames
import Derived.Test.YtilgklpponaoeaaWorks
import Derived.Test.YtilgklpponaoeaaScaps
set_option linter.unusedVariables false
namespace Go.Proofs.Ytilgklpponaoeaa
open Go.ChangeShapes Go.WideShapes Go.ChangeAt Go.RowKit
theorem asize_nil (w : World) : Calls Try.prog 9 #[.pointer none] w fun r w' => r = .returned (.int .i64 0) ∧ w = w' := by
  go_enter Try.func9, Try.ntmps9
  go_wp2_with fail
  refine (anone_nil _).mono ?_
  rintro e w' ⟨rfl, rfl⟩
  go_wp2_with fail
  go_ret
  exact ⟨rfl, rfl⟩
theorem atagged_nil0 (w : World) : Calls Try.prog 21 #[.pointer none, .int .i64 0] w fun r w' => r = .returned (.slice none 0 0) ∧ w = w' := by
  go_enter Try.func21, Try.ntmps21
  go_wp2_with fail
  refine (asize_nil _).mono ?_
  rintro e w' ⟨rfl, rfl⟩
  go_wp2_with fail
  go_ret
  exact ⟨rfl, rfl⟩
theorem spage_nil (w : World) (pv : Option Addr) : Calls Try.prog 19 #[.pointer none, .int .i64 0, .pointer pv] w fun r w' => r = .returned (.int .i64 0) ∧ w = w' := by
  go_enter Try.func19, Try.ntmps19
  go_wp2_with fail
  refine (atagged_nil0 _).mono ?_
  rintro e w' ⟨rfl, rfl⟩
  go_wp2_with fail
  go_loopw [8, 20] (fun s i wr => s = .int .i64 0 ∧ i = .int .i64 0 ∧ w = wr) (fun _ _ _ => 0)
  case atStart => exact ⟨rfl, rfl, rfl⟩
  case round =>
    obtain ⟨rfl, rfl, rfl⟩ := hrel
    go_wp2_with fail
    go_ret
    exact ⟨rfl, rfl⟩
structure Kx (w0 w : World) (B Q pp : Nat) (hs : Int → Bool) (ap p g bg cap : Nat) (bs : List Nat) (f : Nat → Bool) (c d x n : Cp) (q4 q5 q6 q7 : Nat) : Prop where
  fr : Fr [] w0 w
  H : Hs B w (some ⟨pp, 0, none⟩) hs
  hB : B ≤ w.heap.size
  A : Ar w ap p g bg cap bs f
  a4 : At w q4 38 c.cells
  a5 : At w q5 38 d.cells
  a6 : At w q6 38 x.cells
  a7 : At w q7 38 n.cells
  b0 : w0.heap.size ≤ B
  g0 : B ≤ g
  bg0 : B ≤ bg
  gQ : g < Q
  bgQ : bg < Q
  k4 : Q ≤ q4
  k5 : Q ≤ q5
  k6 : Q ≤ q6
  k7 : Q ≤ q7
section
variable {w0 w w' : World} {B Q pp : Nat} {hs : Int → Bool} {ap p g bg cap : Nat} {bs bs' : List Nat} {f f' : Nat → Bool} {c d x n : Cp} {q4 q5 q6 q7 : Nat}
theorem Kx.fr0 (h : Kx w0 w B Q pp hs ap p g bg cap bs f c d x n q4 q5 q6 q7) (F : Fr [] w w') : Kx w0 w' B Q pp hs ap p g bg cap bs f c d x n q4 q5 q6 q7 :=
  ⟨h.fr.trans0 F, h.H.fr F (by simp), Nat.le_trans h.hB F.size, h.A.fr0 F, h.a4.fr F (by simp), h.a5.fr F (by simp), h.a6.fr F (by simp), h.a7.fr F (by simp), h.b0, h.g0, h.bg0, h.gQ, h.bgQ, h.k4, h.k5, h.k6, h.k7⟩
theorem Kx.st (h : Kx w0 w B Q pp hs ap p g bg cap bs f c d x n q4 q5 q6 q7) (A' : Ar w' ap p g bg cap bs' f') (F : Fr [g, bg] w w') : Kx w0 w' B Q pp hs ap p g bg cap bs' f' c d x n q4 q5 q6 q7 := by
  have h1 := h.b0; have h2 := h.g0; have h3 := h.bg0; have h4 := h.gQ; have h5 := h.bgQ; have h6 := h.k4; have h7 := h.k5; have h8 := h.k6; have h9 := h.k7
  exact ⟨h.fr.trans F (by simp; omega), h.H.fr F (by simp; omega), Nat.le_trans h.hB F.size, A', h.a4.fr F (by simp; omega), h.a5.fr F (by simp; omega), h.a6.fr F (by simp; omega), h.a7.fr F (by simp; omega), h.b0, h.g0, h.bg0, h.gQ, h.bgQ, h.k4, h.k5, h.k6, h.k7⟩
theorem Kx.pg (h : Kx w0 w B Q pp hs ap p g bg cap bs f c d x n q4 q5 q6 q7) (A' : Ar w' ap p g bg cap bs f') (F : Fr [g] w w') : Kx w0 w' B Q pp hs ap p g bg cap bs f' c d x n q4 q5 q6 q7 :=
  h.st A' (F.more (fun k hk => .inl (by simp at hk; simp [hk])))
end
theorem built3 (w : World) (a b c : Cp) : (Instr.buildSlice 73 3 #[(0, .agg a.cells), (1, .agg b.cells), (2, .agg c.cells)]).run Try.prog w = .ok (.slice (some ⟨w.heap.size, 0, none⟩) 3 3) (w.alloc (.cells (cat [a, b, c]).toArray 38)) := by kernel_rfl
/-- The three capabilities of the statement. -/
theorem kc_ok : (mkC 256 64 1).Ok ∧ (mkC 256 64 1).rs < 16777216 ∧ soundB (mkC 256 64 1) = true := by
  refine ⟨⟨?_, ?_, ?_, ?_, ?_, ?_, ?_⟩, ?_, ?_⟩ <;> decide +kernel
theorem kd_ok : (mkC 240 80 1).Ok ∧ (mkC 240 80 1).rs < 16777216 ∧ soundB (mkC 240 80 1) = true := by
  refine ⟨⟨?_, ?_, ?_, ?_, ?_, ?_, ?_⟩, ?_, ?_⟩ <;> decide +kernel
theorem pf_has2 : hasP 256 pf 272 = true := by decide +kernel
end Go.Proofs.Ytilgklpponaoeaa
