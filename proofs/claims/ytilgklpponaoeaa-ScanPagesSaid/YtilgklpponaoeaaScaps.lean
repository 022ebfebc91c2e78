/-
  What scan.Caps does to a list of capabilities. Conditions: numbers in their types' ranges; a thousand capabilities at most.
-/




import Derived.Test.YtilgklpponaoeaaList
import Derived.Test.YtilgklpponaoeaaWide
set_option linter.unusedVariables false
namespace Go.Proofs.Ytilgklpponaoeaa
open Go.ChangeShapes Go.WideShapes Go.ChangeAt Go.RowKit
theorem infoCap : (Try.prog.info? 38).map (fun i => (i.zero, i.size, i.bytes)) = some (some (.agg noC.cells), 8, 24) := by kernel_rfl
theorem cat_one (l : List Cp) : ∀ v ∈ cat l, v.oneCell' = true := by
  intro v hv
  unfold cat at hv
  obtain ⟨c, _, hc⟩ := List.mem_flatMap.1 hv
  unfold Cp.l at hc
  simp only [List.mem_cons, List.not_mem_nil, or_false] at hc
  rcases hc with rfl | rfl | rfl | rfl | rfl | rfl | rfl | rfl <;> rfl
/-- Where a list of capabilities lies that came from somewhere. -/
def CapsIn (w : World) (a : Option Addr) (l : List Cp) : Prop := l = [] ∨ ∃ ad, a = some ad ∧ ∀ j v, (cat l)[j]? = some v → w.cell? (ad.add j) = some v
set_option maxRecDepth 100000 in
theorem scaps_any {B : Nat} {w : World} {pv : Option Addr} {hs : Int → Bool} (h : Hs B w pv hs) (hB : B ≤ w.heap.size) (a : Option Addr) (cap : Nat) (l : List Cp) (hin : CapsIn w a l) (hc : ∀ c ∈ l, c.cur < 4294967296) (hl : l.length ≤ 1000) :
    Calls Try.prog 28 #[.slice a l.length cap, .pointer pv] w fun r w' => ∃ g, r = .returned (.tuple #[.slice (some ⟨g, 0, none⟩) l.length l.length, .int .i64 (sums hs l : Nat)]) ∧ At w' g 38 (cat (l.map (cln hs))).toArray ∧ w.heap.size ≤ g ∧ Fr [] w w' := by
  obtain ⟨n, hn⟩ : ∃ n, l.length = n := ⟨_, rfl⟩
  have hmk := run_make_wide (P := Try.prog) 73 38 (.agg noC.cells) 8 24 Try.underlying73 infoCap .i64 .i64 n (by omega) (by omega)
  have A0 := At.new w 38 (madeCells noC.cells (n * 8))
  have F0 : Fr [] w (w.alloc (.cells (madeCells noC.cells (n * 8)) 38)) := (by repeat (first | exact Fr.refl _ _ | assumption | refine Fr.trans0 ?_ (by assumption) | refine Fr.drewN ?_ _ | refine Fr.alloc ?_ _ | refine Fr.drew ?_))
  have hsz : (madeCells noC.cells (n * 8)).size = n * 8 := size_madeCells _ _
  have hcl : (cat l).length = n * 8 := by rw [cat_len, hn]
  have hcp : ∃ w5, (Builtin.copy_ #[73, 73] 3 #[.slice (some ⟨w.heap.size, 0, none⟩) n n, .slice a n cap]).run Try.prog (w.alloc (.cells (madeCells noC.cells (n * 8)) 38)) = .ok (goInt n) w5 ∧ At w5 w.heap.size 38 (cat l).toArray ∧ Fr [] w w5 := by
    rcases hin with h0 | ⟨ad, rfl, had⟩
    · subst h0
      obtain rfl : 0 = n := hn
      refine ⟨_, run_copy_wide0 _ _ _ _ 38 _ _ _ _ Try.underlying73 (by kernel_rfl), ?_, F0⟩
      have e : madeCells noC.cells (0 * 8) = (cat []).toArray := Array.eq_empty_of_size_eq_zero (size_madeCells _ _)
      rw [← e]; exact A0
    · refine ⟨_, run_copy_wide _ _ _ _ 38 8 w.heap.size 0 n n ad cap (madeCells noC.cells (n * 8)) 38 (cat l) Try.underlying73 (by kernel_rfl) A0 hcl (fun j v hv => ?_) (by rw [hsz, hcl]; omega) (cat_one l), ?_, ?_⟩
      · exact (F0.cell (lt_of_cell (had j v hv)) (by simp)).trans (had j v hv)
      · have := setRow_heap (w.alloc (.cells (madeCells noC.cells (n * 8)) 38)) w.heap.size _ (cat l).toArray 38 (0, 0) A0
        rw [List.take_zero, List.nil_append, List.drop_eq_nil_of_le (by simp [hsz, hcl]), List.append_nil]
        exact this
      · refine ⟨rfl, rfl, rfl, by simp, fun k hk _ => ?_⟩
        rw [setRow_other _ _ _ _ (by omega)]
        exact Below.heap_alloc w _ k hk
  obtain ⟨w5, hcr, A5, F5⟩ := hcp
  have hHs := h.fr F5 (by simp)
  have C := Lib.hid (sclean_any hHs w.heap.size n 38 l A5 hc hl hB (by omega))
  have HCR := Lib.hid hcr
  obtain ⟨s, hs1⟩ : ∃ s, sums hs l = s := ⟨_, rfl⟩
  rw [hn, hs1] at C
  rw [hn, hs1]
  have HF5 := Lib.hid F5
  clear hcr A0 F0 hsz hcl hHs h hin hc hl hn hs1 A5 F5
  go_enter Try.func28, Try.ntmps28
  go_wp2_with (first | (go_at_call 64; refine (C.out).mono ?_; rintro e w6 ⟨rfl, h6, hf6⟩) | (refine wpList_copy_run rfl (.tmp 11) (.tmp 12) 73 73 rfl _ _ rfl rfl HCR.out ?_))
  go_ret2
  exact ⟨w.heap.size, rfl, h6, Nat.le_refl _, ⟨hf6.os.trans HF5.out.os, hf6.tape.trans HF5.out.tape, hf6.output.trans HF5.out.output, Nat.le_trans HF5.out.size hf6.size, fun k hk _ => (hf6.keep k (Nat.lt_of_lt_of_le hk HF5.out.size) (by simp; omega)).trans (HF5.out.keep k hk (by simp))⟩⟩
end Go.Proofs.Ytilgklpponaoeaa
