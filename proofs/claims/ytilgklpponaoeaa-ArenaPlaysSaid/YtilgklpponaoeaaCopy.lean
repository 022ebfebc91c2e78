/-
  Copy of tags, over slices.Clone. Condition: none beside the map's own.
-/


import Derived.Test.YtilgklpponaoeaaTags
import Derived.Maps.AppendAt
import Derived.WalkSpells
import Derived.Lib.SliceRun
set_option linter.unusedVariables false
namespace Go.Proofs.Ytilgklpponaoeaa
open Go.ChangeShapes Go.WideShapes Go.ChangeAt Go.RowKit
theorem infoU64c : (Try.prog.info? 131).map (fun i => (i.zero, i.size, i.bytes)) = some (some (.int .u64 0), 1, 8) := by kernel_rfl
theorem own_empty (w : World) (e : TypeId) (size : Nat) : (w.alloc (.cells #[] e)).ownsRow w.heap.size e size (.slice (some ⟨w.heap.size, 0, none⟩) 0 0) 0 [] :=
  ⟨by simp, .inr ⟨w.heap.size, 0, #[], rfl, Nat.le_refl _, heap_alloc_new w _, Nat.le_refl _, Nat.zero_le _, by simp, by simp⟩⟩
theorem own_out {w : World} {base : Nat} {e : TypeId} {v : Value} {n : Nat} {xs : List Value} (h : w.ownsRow base e 1 v n xs) (hv : v ≠ .slice none 0 0) :
    ∃ (g c : Nat) (cs : Array Value), v = .slice (some ⟨g, 0, none⟩) n c ∧ n ≤ c ∧ base ≤ g ∧ At w g e cs ∧ ∀ k, k < xs.length → cs[k]? = xs[k]? := by
  obtain ⟨hl, ⟨h1, _⟩ | ⟨g, c, cs, h1, h2, h3, h4, h5, h6, h7⟩⟩ := h
  · exact (hv h1).elim
  · refine ⟨g, c, cs, h1, h4, h2, h3, fun k hk => ?_⟩
    rw [← h7, List.getElem?_take, if_pos (by omega)]
    simp
set_option maxRecDepth 100000 in
/-- slices.Clone of n words: a new slice over new memory. -/
theorem clone_any (w : World) (g n c : Nat) (cs : Array Value) (h : At w g 131 cs) (hn : n ≤ 16384) (hc : n ≤ c) (hcs : ∀ k, k < n → ∃ x : Nat, cs[k]? = some (.int .u64 x)) :
    Calls Try.prog 69 #[.slice (some ⟨g, 0, none⟩) n c] w fun r w' => ∃ (g' c' : Nat) (cs' : Array Value), r = .returned (.slice (some ⟨g', 0, none⟩) n c') ∧ n ≤ c' ∧ w.heap.size ≤ g' ∧ At w' g' 131 cs' ∧ (∀ k, k < n → cs'[k]? = cs[k]?) ∧ Fr [] w w' := by
  obtain ⟨i0, hi, hz0, hz1, hz2⟩ := info_parts infoU64c
  have hlen : n ≤ cs.size := by
    rcases Nat.eq_zero_or_pos n with e | e
    · omega
    · obtain ⟨x, hx⟩ := hcs (n - 1) (by omega)
      rcases Nat.lt_or_ge (n - 1) cs.size with h1 | h1
      · omega
      · rw [Array.getElem?_eq_none h1] at hx; cases hx
  have hcell := Lib.hid fun (W : World) (f : Fr [] w W) j u (hu : (cs.toList.take n)[j]? = some u) => show W.cell? ((⟨g, 0, none⟩ : Addr).add j) = some u by
    have hj : j < n := by
      rcases Nat.lt_or_ge j n with h1 | h1
      · exact h1
      · rw [List.getElem?_eq_none (by simp; omega)] at hu; cases hu
    rw [Go.WideShapes.add_plain, Nat.zero_add, (h.fr f (by simp)).cell j]
    rw [List.getElem?_take] at hu
    simpa [hj] using hu
  have hone : Hid (∀ u ∈ cs.toList.take n, u.oneCell' = true) := Lib.hid fun u hu => by
    obtain ⟨j, hj, e⟩ := List.getElem_of_mem hu
    have hjn : j < n := by simp at hj; omega
    obtain ⟨x, hx⟩ := hcs j hjn
    simp at e
    have : cs[j]? = some u := by rw [← e]; simp
    rw [this] at hx; injection hx with hx; subst hx; rfl
  have hl1 : Hid ((cs.toList.take n).length = n * 1) := Lib.hid (by simp; omega)
  have H := Lib.hid h
  have Hcs := Lib.hid hcs
  clear h hcs
  have heq := fun W : World => Lib.run_eql_slice_nil (P := Try.prog) W 127 131 (some ⟨g, 0, none⟩) n c 0 0 Try.underlying127
  simp only [Option.isNone_some] at heq
  go_enter Try.func69, Try.ntmps69
  have hown0 := Lib.hid (own_empty w 131 1)
  have hnews := Lib.hid (hcell.out (w.alloc (.cells #[] 131)) ((Fr.refl _ _).alloc _))
  go_wp2_with (at_builtin; refine wpList_append_own_at _ rfl (.tmp 5) (.tmp 6) 127 rfl w.heap.size 131 i0 (.int .u64 0) 1 8 Try.underlying127 hi hz0 hz1 hz2 rfl (by omega) (.slice (some ⟨w.heap.size, 0, none⟩) 0 0) 0 [] rfl hown0.out ⟨g, 0, none⟩ n c (cs.toList.take n) rfl hl1.out hnews.out hone.out (by unfold maxLen; omega) (by omega) (by simp) ?_; intro v1 w1 hown1 hg1 hnil hat1)
  go_ret
  obtain ⟨g', c', cs', e1, e2, e3, e4, e5⟩ := own_out hown1 (fun e => by have := hnil.1 e; simp at this)
  refine ⟨g', c', cs', by rw [← Nat.zero_add n]; exact congrArg Ending.returned e1, by omega, e3, e4, fun k hk => ?_, ?_⟩
  · rw [e5 k (by simp; omega)]
    simp [hk]
  · exact ((Fr.refl [] w).alloc _).trans (Fr.grown hg1) (by simp [Value.ownBlock])
theorem copy_nil (w : World) : Calls Try.prog 33 #[.pointer none] w fun r w' => r = .returned (.pointer none) ∧ w = w' := by
  go_enter Try.func33, Try.ntmps33
  go_wp2
  go_ret
  exact ⟨rfl, rfl⟩
theorem copy_any (w : World) (p g n : Nat) (f : Nat → Bool) (h : Tg w p g n f) :
    Calls Try.prog 33 #[.pointer (some ⟨p, 0, none⟩)] w fun r w' => ∃ p' g', r = .returned (.pointer (some ⟨p', 0, none⟩)) ∧ Tg w' p' g' n f ∧ w.heap.size ≤ p' ∧ w.heap.size ≤ g' ∧ Fr [] w w' := by
  obtain ⟨h1, h2, h3, c, cs, h4, h5, h6, h7⟩ := h
  have c0 := h5.cell 0
  have c1 := h5.cell 1
  simp only [List.getElem?_toArray, List.getElem?_cons_zero, List.getElem?_cons_succ] at c0 c1
  have C := Lib.hid fun (W : World) (hW : W.heap = w.heap) => clone_any W g ((n + 63) / 64) c cs (by unfold At; rw [hW]; exact h6) (by omega) h4 (fun k hk => ⟨_, h7 k hk⟩)
  have H5 := Lib.hid h5
  have H7 := Lib.hid h7
  have H3 := Lib.hid h3
  have hpl := h5.lt
  clear h5 h6 h7 h3
  go_enter Try.func33, Try.ntmps33
  go_wp2
  go_region_with (go_at_call 69; refine (C.out w.drew rfl).mono ?_; rintro e w1 ⟨g', c', cs', rfl, e2, e3, e4, e5, hf1⟩; have d0 := (H5.out.frh hf1 rfl (by simp)).cell 0; simp only [List.getElem?_toArray, List.getElem?_cons_zero] at d0)
  all_goals go_wp2
  all_goals go_ret
  all_goals
    have hlt := e4.lt
    have hs := hf1.size
    have hs : w.heap.size ≤ w1.heap.size := hs
    have e3 : w.heap.size ≤ g' := e3
    exact ⟨w1.heap.size, g', rfl, ⟨by omega, h2, H3.out, c', cs', e2, At.new _ _ _, e4.old _, fun k hk => (e5 k hk).trans (H7.out k hk)⟩, hs, e3, (Fr.hd (w := w) hf1 rfl rfl rfl rfl).alloc _⟩
end Go.Proofs.Ytilgklpponaoeaa
