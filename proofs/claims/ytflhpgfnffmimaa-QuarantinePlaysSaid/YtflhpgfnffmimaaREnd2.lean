/-
  The reference's End and Begin, of a yard that sweeps, or does not. Condition: an epoch of a million at most.
-/



import Derived.Test.YtflhpgfnffmimaaREnd
set_option linter.unusedVariables false
namespace Go.Proofs.Ytflhpgfnffmimaa
open Go.ChangeShapes Go.WideShapes Go.ChangeAt Go.RowKit
theorem At.allR {W : World} {g : Nat} {t : TypeId} {cs : Array Value} (h : At W g t cs) (l : List Value) (hl : cs = l.toArray) : ∀ j v, l[j]? = some v → W.cell? ((⟨g, 0, none⟩ : Addr).add j) = some v := fun j v hv => by
  rw [Go.WideShapes.add_plain, h.cell, hl, Nat.zero_add, List.getElem?_toArray]
  exact hv
set_option maxRecDepth 100000 in
theorem rendw_yes (w : World) (b : Int) (wa : Option Addr) (wn wc : Nat) (la : Option Addr) (ln lc : Nat) (ep : Nat) : Calls Try.prog 23 #[.agg (ryc b wa wn wc la ln lc ep true)] w fun e w' => e = .returned (.tuple #[.agg (ryc b wa wn wc none 0 0 ep false), .slice la ln lc]) ∧ Fr [] w w' := by
  unfold ryc
  obtain ⟨w1, hw1⟩ : ∃ W, w.alloc (.cells #[.int .i64 b, .slice wa wn wc, .slice la ln lc, .int .u64 ep, .bool true] 45) = W := ⟨_, rfl⟩
  have A1 := At.new w 45 #[.int .i64 b, .slice wa wn wc, .slice la ln lc, .int .u64 ep, .bool true]
  have F1 : Fr [] w (w.alloc (.cells #[.int .i64 b, .slice wa wn wc, .slice la ln lc, .int .u64 ep, .bool true] 45)) := (by repeat (first | exact Fr.refl _ _ | assumption | refine Fr.trans0 ?_ (by assumption) | refine Fr.drewN ?_ _ | refine Fr.alloc ?_ _ | refine Fr.drew ?_))
  have hs : w1.heap.size = w.heap.size + 1 := by rw [← hw1]; exact World.size_alloc _ _
  rw [hw1] at A1 F1
  obtain ⟨w2, hw2⟩ : ∃ W, w1.alloc (.cells #[.int .i64 0, .slice none 0 0, .slice none 0 0, .int .u64 0, .bool false] 45) = W := ⟨_, rfl⟩
  have A2 := A1.old (.cells #[.int .i64 0, .slice none 0 0, .slice none 0 0, .int .u64 0, .bool false] 45)
  have B2 := (At.newq hs.symm : At (w1.alloc (.cells #[.int .i64 0, .slice none 0 0, .slice none 0 0, .int .u64 0, .bool false] 45)) (w.heap.size + 1) 45 #[.int .i64 0, .slice none 0 0, .slice none 0 0, .int .u64 0, .bool false])
  have F2 : Fr [] w (w1.alloc (.cells #[.int .i64 0, .slice none 0 0, .slice none 0 0, .int .u64 0, .bool false] 45)) := F1.alloc _
  rw [hw2] at A2 B2 F2
  have c0 := A2.cell 0
  have c1 := A2.cell 1
  have c2 := A2.cell 2
  have c3 := A2.cell 3
  have c4 := A2.cell 4
  simp only [List.getElem?_toArray, List.getElem?_cons_zero, List.getElem?_cons_succ] at c0 c1 c2 c3 c4
  have y2 := A2.froz 2
  have y4 := A2.froz 4
  have A4 := (A2.set 2 (.slice none 0 0)).set 4 (.bool false)
  have FS := ((Fr.refl [w.heap.size] w2).set (.inl (by simp)) (a := ⟨w.heap.size, 2, none⟩) (.slice none 0 0)).set (.inl (by simp)) (a := ⟨w.heap.size, 4, none⟩) (.bool false)
  have B4 := B2.fr FS (by simp)
  obtain ⟨w4, hw4⟩ : ∃ W, (w2.setCell ⟨w.heap.size, 2, none⟩ (.slice none 0 0)).setCell ⟨w.heap.size, 4, none⟩ (.bool false) = W := ⟨_, rfl⟩
  rw [hw4] at A4 B4 FS
  simp only [List.setIfInBounds_toArray, List.set_cons_zero, List.set_cons_succ] at A4
  have d0 := A4.cell 0
  have d1 := A4.cell 1
  have d2 := A4.cell 2
  have d3 := A4.cell 3
  have d4 := A4.cell 4
  simp only [List.getElem?_toArray, List.getElem?_cons_zero, List.getElem?_cons_succ] at d0 d1 d2 d3 d4
  have HA := Lib.hid A4
  have HB := Lib.hid B4
  have HF := Lib.hid (F2.trans FS (by simp))
  clear A1 F1 A2 B2 F2 A4 B4 FS
  go_enter Try.func23, Try.ntmps23
  go_upto_region 6 with (fail)
  go_wp2_with (first | (refine wpList_load_all rfl 45 (.tmp 1) rfl w.heap.size rfl 45 #[.int .i64 b, .slice wa wn wc, .slice none 0 0, .int .u64 ep, .bool false] HA.out _ Try.underlying45 rfl (by kernel_rfl) ?_) | (refine wpList_store_all rfl 45 (.tmp 2) (.tmp 13) rfl (w.heap.size + 1) #[.int .i64 b, .slice wa wn wc, .slice none 0 0, .int .u64 ep, .bool false] rfl rfl 45 #[.int .i64 0, .slice none 0 0, .slice none 0 0, .int .u64 0, .bool false] HB.out (by kernel_rfl) rfl (by simp [Value.oneCell']) ?_; intro w5 hA5 hF5))
  exact bodyPost_ret (res_row_tmpR rfl _ _ (w.heap.size + 1) 45 _ _ rfl hA5 Try.underlying45 rfl (by kernel_rfl)) rfl ⟨rfl, HF.out.trans hF5 (by simp)⟩
theorem wp_store_allR {P : Program} {K : Act → World → Prop} {Q : Exit → Act → World → Prop} {o : Oper} {a : Act} {w : World} (ty : TypeId) (x y : Operand) (ho : o.op = .store ty x y) (g : Nat) (cs : Array Value) (hx : a.eval x = .pointer (some ⟨g, 0, none⟩)) (hy : a.eval y = .agg cs)
    (t : TypeId) (cur : Array Value) (hg : At w g t cur) (hi : (P.info? ty).map (·.size) = some cs.size) (hk : cur.size = cs.size) (h1 : cs.all (·.oneCell') = true)
    (h : ∀ w', At w' g t cs → Fr [g] w w' → K (a.put o.dst undef) w') : o.wp P a w K Q :=
  wp_store_row ty x y ho g cs hx hy t cur hg hi hk h1 (h _ (setRow_heap w g _ _ t (0, 0) hg) (Fr.setRow w g _))
theorem res_row_tmp2R {P : Program} {fn : Func} {p x y : Tmp} {ty : TypeId} (h : fn.results = #[.cell p ty, .tmp x, .tmp y]) (tmps : Array Value) (w : World) (g : Nat) (t : TypeId) (cs : Array Value) (d : TypeDesc)
    (hp : tmps.getD p undef = .pointer (some ⟨g, 0, none⟩)) (hg : At w g t cs)
    (hu : P.underlying ty = some d) (hd : (match d with | .struct _ | .array _ _ => true | _ => false) = true) (hi : (P.info? ty).map (·.size) = some cs.size) :
    (results fn tmps).run P w = .ok (.tuple #[.agg cs, tmps.getD x undef, tmps.getD y undef]) w := by
  have hp' : tmps[p]?.getD undef = .pointer (some ⟨g, 0, none⟩) := by simpa using hp
  simp [results, h, hp', asAddr, run_loadVar_row w g t ty cs (0, 0) d hg hu hd hi]
set_option maxRecDepth 100000 in
theorem rbegin_no (w : World) (b : Int) (wa : Option Addr) (wn wc : Nat) (la : Option Addr) (ln lc : Nat) (ep : Nat) : Calls Try.prog 22 #[.agg (ryc b wa wn wc la ln lc ep true)] w fun e w' => e = .returned (.tuple #[.agg (ryc b wa wn wc la ln lc ep true), .int .u64 0, .bool false]) ∧ Fr [] w w' := by
  unfold ryc
  obtain ⟨w1, hw1⟩ : ∃ W, w.alloc (.cells #[.int .i64 b, .slice wa wn wc, .slice la ln lc, .int .u64 ep, .bool true] 45) = W := ⟨_, rfl⟩
  have A1 := At.new w 45 #[.int .i64 b, .slice wa wn wc, .slice la ln lc, .int .u64 ep, .bool true]
  have F1 : Fr [] w (w.alloc (.cells #[.int .i64 b, .slice wa wn wc, .slice la ln lc, .int .u64 ep, .bool true] 45)) := (by repeat (first | exact Fr.refl _ _ | assumption | refine Fr.trans0 ?_ (by assumption) | refine Fr.drewN ?_ _ | refine Fr.alloc ?_ _ | refine Fr.drew ?_))
  have hs : w1.heap.size = w.heap.size + 1 := by rw [← hw1]; exact World.size_alloc _ _
  rw [hw1] at A1 F1
  obtain ⟨w2, hw2⟩ : ∃ W, w1.alloc (.cells #[.int .i64 0, .slice none 0 0, .slice none 0 0, .int .u64 0, .bool false] 45) = W := ⟨_, rfl⟩
  have A2 := A1.old (.cells #[.int .i64 0, .slice none 0 0, .slice none 0 0, .int .u64 0, .bool false] 45)
  have B2 := (At.newq hs.symm : At (w1.alloc (.cells #[.int .i64 0, .slice none 0 0, .slice none 0 0, .int .u64 0, .bool false] 45)) (w.heap.size + 1) 45 #[.int .i64 0, .slice none 0 0, .slice none 0 0, .int .u64 0, .bool false])
  have F2 : Fr [] w (w1.alloc (.cells #[.int .i64 0, .slice none 0 0, .slice none 0 0, .int .u64 0, .bool false] 45)) := F1.alloc _
  rw [hw2] at A2 B2 F2
  have c0 := A2.cell 0
  have c1 := A2.cell 1
  have c2 := A2.cell 2
  have c3 := A2.cell 3
  have c4 := A2.cell 4
  simp only [List.getElem?_toArray, List.getElem?_cons_zero, List.getElem?_cons_succ] at c0 c1 c2 c3 c4
  have HA := Lib.hid A2
  have HB := Lib.hid B2
  have HF := Lib.hid F2
  clear A1 F1 A2 B2 F2
  go_enter Try.func22, Try.ntmps22
  go_wp2_with (first | (refine wpList_load_all rfl 45 (.tmp 1) rfl w.heap.size rfl 45 #[.int .i64 b, .slice wa wn wc, .slice la ln lc, .int .u64 ep, .bool true] HA.out _ Try.underlying45 rfl (by kernel_rfl) ?_) | (refine wpList_store_all rfl 45 (.tmp 2) (.tmp 7) rfl (w.heap.size + 1) #[.int .i64 b, .slice wa wn wc, .slice la ln lc, .int .u64 ep, .bool true] rfl rfl 45 #[.int .i64 0, .slice none 0 0, .slice none 0 0, .int .u64 0, .bool false] HB.out (by kernel_rfl) rfl (by simp [Value.oneCell']) ?_; intro w5 hA5 hF5))
  exact bodyPost_ret (res_row_tmp2R rfl _ _ (w.heap.size + 1) 45 _ _ rfl hA5 Try.underlying45 rfl (by kernel_rfl)) rfl ⟨rfl, HF.out.trans hF5 (by simp)⟩
set_option maxRecDepth 100000 in
theorem rbegin_yes (w : World) (b : Int) (wa : Option Addr) (wn wc : Nat) (la : Option Addr) (ln lc : Nat) (ep : Nat) (he : ep ≤ 1000000) : Calls Try.prog 22 #[.agg (ryc b wa wn wc la ln lc ep false)] w fun e w' => e = .returned (.tuple #[.agg (ryc b none 0 0 wa wn wc (ep + 1) true), .int .u64 (ep + 1 : Nat), .bool true]) ∧ Fr [] w w' := by
  have hw0 : IntKind.u64.wrap ((ep : Int) + 1) = ((ep + 1 : Nat) : Int) := by simp [IntKind.wrap, IntKind.signed, IntKind.bits]; omega
  obtain ⟨E, hE⟩ : ∃ E, ep + 1 = E := ⟨_, rfl⟩
  rw [hE] at hw0 ⊢
  clear hE he
  unfold ryc
  obtain ⟨w1, hw1⟩ : ∃ W, w.alloc (.cells #[.int .i64 b, .slice wa wn wc, .slice la ln lc, .int .u64 ep, .bool false] 45) = W := ⟨_, rfl⟩
  have A1 := At.new w 45 #[.int .i64 b, .slice wa wn wc, .slice la ln lc, .int .u64 ep, .bool false]
  have F1 : Fr [] w (w.alloc (.cells #[.int .i64 b, .slice wa wn wc, .slice la ln lc, .int .u64 ep, .bool false] 45)) := (by repeat (first | exact Fr.refl _ _ | assumption | refine Fr.trans0 ?_ (by assumption) | refine Fr.drewN ?_ _ | refine Fr.alloc ?_ _ | refine Fr.drew ?_))
  have hs : w1.heap.size = w.heap.size + 1 := by rw [← hw1]; exact World.size_alloc _ _
  rw [hw1] at A1 F1
  obtain ⟨w2, hw2⟩ : ∃ W, w1.alloc (.cells #[.int .i64 0, .slice none 0 0, .slice none 0 0, .int .u64 0, .bool false] 45) = W := ⟨_, rfl⟩
  have A2 := A1.old (.cells #[.int .i64 0, .slice none 0 0, .slice none 0 0, .int .u64 0, .bool false] 45)
  have B2 := (At.newq hs.symm : At (w1.alloc (.cells #[.int .i64 0, .slice none 0 0, .slice none 0 0, .int .u64 0, .bool false] 45)) (w.heap.size + 1) 45 #[.int .i64 0, .slice none 0 0, .slice none 0 0, .int .u64 0, .bool false])
  have F2 : Fr [] w (w1.alloc (.cells #[.int .i64 0, .slice none 0 0, .slice none 0 0, .int .u64 0, .bool false] 45)) := F1.alloc _
  rw [hw2] at A2 B2 F2
  have c0 := A2.cell 0
  have c1 := A2.cell 1
  have c2 := A2.cell 2
  have c3 := A2.cell 3
  have c4 := A2.cell 4
  simp only [List.getElem?_toArray, List.getElem?_cons_zero, List.getElem?_cons_succ] at c0 c1 c2 c3 c4
  have y1 := A2.froz 1
  have y2 := A2.froz 2
  have y3 := A2.froz 3
  have y4 := A2.froz 4
  have A4 := (((A2.set 4 (.bool true)).set 3 (.int .u64 (E : Nat))).set 2 (.slice wa wn wc)).set 1 (.slice none 0 0)
  have FS := ((((Fr.refl [w.heap.size] w2).set (.inl (by simp)) (a := ⟨w.heap.size, 4, none⟩) (.bool true)).set (.inl (by simp)) (a := ⟨w.heap.size, 3, none⟩) (.int .u64 (E : Nat))).set (.inl (by simp)) (a := ⟨w.heap.size, 2, none⟩) (.slice wa wn wc)).set (.inl (by simp)) (a := ⟨w.heap.size, 1, none⟩) (.slice none 0 0)
  have B4 := B2.fr FS (by simp)
  obtain ⟨w4, hw4⟩ : ∃ W, (((w2.setCell ⟨w.heap.size, 4, none⟩ (.bool true)).setCell ⟨w.heap.size, 3, none⟩ (.int .u64 (E : Nat))).setCell ⟨w.heap.size, 2, none⟩ (.slice wa wn wc)).setCell ⟨w.heap.size, 1, none⟩ (.slice none 0 0) = W := ⟨_, rfl⟩
  rw [hw4] at A4 B4 FS
  simp only [List.setIfInBounds_toArray, List.set_cons_zero, List.set_cons_succ] at A4
  have HA := Lib.hid A4
  have HB := Lib.hid B4
  have HF := Lib.hid (F2.trans FS (by simp))
  clear A1 F1 A2 B2 F2 A4 B4 FS
  go_enter Try.func22, Try.ntmps22
  go_upto_region 7 with (fail)
  refine wp_region_L (fun W => At W w.heap.size 45 #[.int .i64 b, .slice none 0 0, .slice wa wn wc, .int .u64 (E : Nat), .bool true] ∧ Fr [w.heap.size + 1] w4 W) [] (by kernel_rfl) ⟨HA.out.hp rfl, (Fr.refl _ _).drew⟩ (fun hHeld => ?_)
  refine wpAnyL_take (i := 0) rfl (by kernel_rfl) (fun _ _ _ h => h) (yields_load_at 45 (.tmp 1) rfl ⟨w.heap.size, 0, none⟩ rfl [.int .i64 b, .slice none 0 0, .slice wa wn wc, .int .u64 (E : Nat), .bool true] _ (fun W h => At.allR h.1 _ rfl) Try.underlying45 rfl (by kernel_rfl) rfl) (by assumption) ?_; (try (refine wpAnyL_norm (by simp only [Act.put, List.setIfInBounds_toArray, List.set_cons_zero, List.set_cons_succ]; rfl) ?_))
  refine wpAnyL_take (i := 1) (v := ?_) rfl (by kernel_rfl) (fun _ _ _ h => h) (Or.inl ⟨by rfl, ?_⟩) (by assumption) ?_; rotate_left; (focus (intro w hSw; skip; go_simp; (try with_reducible rfl))); (try (refine wpAnyL_norm (by simp only [Act.put, List.setIfInBounds_toArray, List.set_cons_zero, List.set_cons_succ]; rfl) ?_))
  refine wpAnyL_take (i := 2) (v := ?_) rfl (by kernel_rfl) (fun _ _ _ h => h) (Or.inl ⟨by rfl, ?_⟩) (by assumption) ?_; rotate_left; (focus (intro w hSw; ((have cc := hSw.1.cell 3); (simp only [List.getElem?_toArray, List.getElem?_cons_zero, List.getElem?_cons_succ] at cc)); go_simp; (try with_reducible rfl))); (try (refine wpAnyL_norm (by simp only [Act.put, List.setIfInBounds_toArray, List.set_cons_zero, List.set_cons_succ]; rfl) ?_))
  refine wpAnyL_ready (rs := [3]) (by kernel_rfl) (by simp) ?_; refine AllReadyL.cons rfl (fun K hK => ?_) AllReadyL.nil
  rw [if_pos (by rfl)]
  refine wp_store_allR 45 (.tmp 2) (.tmp 17) rfl (w.heap.size + 1) #[.int .i64 b, .slice none 0 0, .slice wa wn wc, .int .u64 (E : Nat), .bool true] rfl rfl 45 #[.int .i64 0, .slice none 0 0, .slice none 0 0, .int .u64 0, .bool false] (HB.out.hp rfl) (by kernel_rfl) rfl (by simp [Value.oneCell']) ?_
  intro w5 hA5 hF5
  refine hK.out _ _ (fun _ => ⟨hHeld.1.fr hF5 (by simp), hHeld.2.trans hF5 (fun k hk => .inl hk)⟩) (fun hHeld' => ?_); have hHeld := hHeld' (by decide); clear hHeld' hK K; (try (refine wpAnyL_norm (by simp only [Act.put, List.setIfInBounds_toArray, List.set_cons_zero, List.set_cons_succ]; rfl) ?_))
  have HA5 := Lib.hid hA5
  have F5 := Lib.hid (HF.out.trans hHeld.2 (by simp))
  clear hA5 hF5
  refine wpAnyL_take (i := 4) (v := ?_) rfl (by kernel_rfl) (fun _ _ _ h => h) (Or.inl ⟨by rfl, ?_⟩) (by assumption) ?_; rotate_left; (focus (intro w hSw; skip; go_simp; (try with_reducible rfl))); (try (refine wpAnyL_norm (by simp only [Act.put, List.setIfInBounds_toArray, List.set_cons_zero, List.set_cons_succ]; rfl) ?_))
  refine wpAnyL_take (i := 5) (v := ?_) rfl (by kernel_rfl) (fun _ _ _ h => h) (Or.inl ⟨by rfl, ?_⟩) (by assumption) ?_; rotate_left; (focus (intro w hSw; skip; go_simp; (try with_reducible rfl))); (try (refine wpAnyL_norm (by simp only [Act.put, List.setIfInBounds_toArray, List.set_cons_zero, List.set_cons_succ]; rfl) ?_))
  refine wpAnyL_done (by kernel_rfl) ?_ _
  clear hHeld
  go_wp2_with fail
  exact bodyPost_ret (res_row_tmp2R rfl _ _ (w.heap.size + 1) 45 _ _ rfl HA5.out Try.underlying45 rfl (by kernel_rfl)) rfl ⟨rfl, F5.out⟩
end Go.Proofs.Ytflhpgfnffmimaa
