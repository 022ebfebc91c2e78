/-
  The small check of the layer: works. Condition: the table of math/bits is as the library lays it.
-/



import Derived.Test.YtdbpmojblgmhdaaDoorHNew
import Derived.Test.YtdbpmojblgmhdaaDoorHRoom
set_option linter.unusedVariables false
namespace Go.Proofs.YtdbpmojblgmhdaaDoor
open Go.ChangeShapes Go.WideShapes Go.ChangeAt Go.RowKit
theorem res_row1 {P : Program} {fn : Func} {p : Tmp} {ty : TypeId} (h : fn.results = #[.cell p ty]) (tmps : Array Value) (w : World) (g : Nat) (t : TypeId) (cs : Array Value) (d : TypeDesc)
    (hp : tmps.getD p undef = .pointer (some ⟨g, 0, none⟩)) (hg : At w g t cs)
    (hu : P.underlying ty = some d) (hd : (match d with | .struct _ | .array _ _ => true | _ => false) = true) (hi : (P.info? ty).map (·.size) = some cs.size) :
    (results fn tmps).run P w = .ok (.agg cs) w := results_cell_row h tmps w g t cs (0, 0) d hp hg hu hd hi
theorem region_any (a s : Int) (w : World) : Calls Tryd.prog 9 #[.int .u32 a, .int .u32 s] w fun e w' => e = .returned (.agg #[.int .u32 a, .int .u32 s]) ∧ Fr [] w w' := by
  have A0 := Lib.hid (At.new w 31 #[.int .u32 a, .int .u32 s])
  go_enter Tryd.func9, Tryd.ntmps9
  go_wp2
  exact bodyPost_ret (res_row1 rfl _ _ w.heap.size 31 #[.int .u32 a, .int .u32 s] _ rfl A0.out Tryd.underlying31 rfl infoRgS) rfl ⟨rfl, (by repeat (first | exact Fr.refl _ _ | assumption | refine Fr.trans0 ?_ (by assumption) | refine Fr.drewN ?_ _ | refine Fr.alloc ?_ _ | refine Fr.drew ?_))⟩
section
variable {w : World} {I : HId} {own : Rg} {L R : List Rg}
theorem malloc_is (h : Hp w I own L R) (hT : Tab32 w) {size : Nat} (hs : size < 4294967296) {o : Option Rg} {er : Int} (hm : malP own (L ++ R) size = (o, er)) :
    Calls Tryd.prog 14 #[.pointer (some ⟨I.hp, 0, none⟩), .int .u32 size] w fun e w' => e = .returned (.tuple #[rv o, .int .i64 er]) ∧ Hp w' I own (insO L o) R ∧ Fr I.foot w w' := by
  have := malloc_any h hT hs
  rw [hm] at this
  exact this
theorem live_len (h : Hp w I own L R) (n : Nat) (hn : L.length = n) : Calls Tryd.prog 11 #[.pointer (some ⟨I.hp, 0, none⟩)] w fun e w' => ∃ a c, e = .returned (.slice a n c) ∧ Hp w' I own L R ∧ Fr [] w w' :=
  (live_any h).mono fun _ _ ⟨v, he, ho, hf⟩ => by
    obtain ⟨a, c, rfl, _⟩ := own_slice ho
    exact ⟨a, c, by rw [he, hn], h.fr0 hf, hf⟩
theorem rest_len (h : Hp w I own L R) (n : Nat) (hn : R.length = n) : Calls Tryd.prog 12 #[.pointer (some ⟨I.hp, 0, none⟩)] w fun e w' => ∃ a c, e = .returned (.slice a n c) ∧ Hp w' I own L R ∧ Fr [] w w' :=
  (rest_any h).mono fun _ _ ⟨v, he, ho, hf⟩ => by
    obtain ⟨a, c, rfl, _⟩ := own_slice ho
    exact ⟨a, c, by rw [he, hn], h.fr0 hf, hf⟩
end
set_option maxHeartbeats 4000000 in
set_option maxRecDepth 100000 in
theorem works_any (w : World) (hT : Tab32 w) : Calls Tryd.prog 7 #[] w fun e w' => e = .returned (.bool true) ∧ Fr [] w w' := by
  have m1 : malP (1024, 1024) ([] ++ []) 10 = (some (1024, 16), 0) := by decide +kernel
  have m2 : malP (1024, 1024) ([(1024, 16)] ++ []) 16 = (some (1040, 16), 0) := by decide +kernel
  have m3 : malP (1024, 1024) ([(1024, 16), (1040, 16)] ++ []) 17 = (some (1280, 32), 0) := by decide +kernel
  have m4 : malP (1024, 1024) ([(1024, 16), (1040, 16), (1280, 32)] ++ []) 600 = (none, 7) := by decide +kernel
  have HM := Lib.hid (And.intro m1 (And.intro m2 (And.intro m3 m4)))
  have HT := Lib.hid hT
  have htl := hT.lt
  clear hT m1 m2 m3 m4
  have RG := Lib.hid region_any
  have z0 : ((0 : Nat) : Int) = 0 := rfl
  go_enter Tryd.func7, Tryd.ntmps7
  go_wp2_with fail
  refine (RG.out 1024 1024 _).mono ?_
  rintro e w1 ⟨rfl, hf1⟩
  have HF1 := Lib.hid hf1
  clear hf1
  go_wp2_with fail
  refine (hnew_any w1 (1024, 1024) (by decide) (by decide) (by decide) (by decide)).mono ?_
  rintro e w2 ⟨I, rfl, hh, hge, hf2⟩
  have HF2 := Lib.hid (HF1.out.trans0 hf2)
  have H2 := Lib.hid hh
  have s1 := HF1.out.size
  have HG := Lib.hid (fun k hk => Nat.le_trans s1 (hge k hk))
  have T2 := Lib.hid (HT.out.fr HF2.out (by simp))
  clear hh hge hf2
  go_wp2_with fail
  refine (malloc_is H2.out T2.out (size := 10) (by decide) HM.out.1).mono ?_
  rintro e v3 ⟨rfl, hh, hf⟩
  simp only [rv, Option.getD_some, Option.getD_none, z0]
  have hfw : Fr [] w v3 := HF2.out.trans hf (fun k hk => .inr (HG.out k hk))
  obtain ⟨u3, hu3⟩ : ∃ W, v3.alloc (.cells #[.int .u32 1024, .int .u32 16] 31) = W := ⟨_, rfl⟩
  have hfa : Fr [] v3 u3 := by rw [← hu3]; exact (by repeat (first | exact Fr.refl _ _ | assumption | refine Fr.trans0 ?_ (by assumption) | refine Fr.drewN ?_ _ | refine Fr.alloc ?_ _ | refine Fr.drew ?_))
  have X0 := Lib.hid (show At u3 v3.heap.size 31 #[.int .u32 1024, .int .u32 16] by rw [← hu3]; exact At.new _ _ _)
  have hlt0 := hh.lt
  have H3 := Lib.hid (hh.fr0 hfa)
  have HF3 := Lib.hid (hfw.trans0 hfa)
  have T3 := Lib.hid (HT.out.fr HF3.out (by simp))
  have HLT0 := Lib.hid hlt0
  clear hh hf hfw hfa
  go_wp2_with fail
  refine (malloc_is H3.out T3.out (size := 16) (by decide) HM.out.2.1).mono ?_
  rintro e v4 ⟨rfl, hh, hf⟩
  simp only [rv, Option.getD_some, Option.getD_none, z0]
  have hfw : Fr [] w v4 := HF3.out.trans hf (fun k hk => .inr (HG.out k hk))
  obtain ⟨u4, hu4⟩ : ∃ W, v4.alloc (.cells #[.int .u32 1040, .int .u32 16] 31) = W := ⟨_, rfl⟩
  have hfa : Fr [] v4 u4 := by rw [← hu4]; exact (by repeat (first | exact Fr.refl _ _ | assumption | refine Fr.trans0 ?_ (by assumption) | refine Fr.drewN ?_ _ | refine Fr.alloc ?_ _ | refine Fr.drew ?_))
  have X1 := Lib.hid (show At u4 v4.heap.size 31 #[.int .u32 1040, .int .u32 16] by rw [← hu4]; exact At.new _ _ _)
  have hlt1 := hh.lt
  have H4 := Lib.hid (hh.fr0 hfa)
  have HF4 := Lib.hid (hfw.trans0 hfa)
  have T4 := Lib.hid (HT.out.fr HF4.out (by simp))
  have X0 := Lib.hid ((X0.out.fr hf (fun hk => by have := hlt0 _ hk; omega)).fr hfa (by simp))
  have HLT1 := Lib.hid hlt1
  clear hh hf hfw hfa
  go_wp2_with fail
  refine (malloc_is H4.out T4.out (size := 17) (by decide) HM.out.2.2.1).mono ?_
  rintro e v5 ⟨rfl, hh, hf⟩
  simp only [rv, Option.getD_some, Option.getD_none, z0]
  have hfw : Fr [] w v5 := HF4.out.trans hf (fun k hk => .inr (HG.out k hk))
  obtain ⟨u5, hu5⟩ : ∃ W, v5.alloc (.cells #[.int .u32 1280, .int .u32 32] 31) = W := ⟨_, rfl⟩
  have hfa : Fr [] v5 u5 := by rw [← hu5]; exact (by repeat (first | exact Fr.refl _ _ | assumption | refine Fr.trans0 ?_ (by assumption) | refine Fr.drewN ?_ _ | refine Fr.alloc ?_ _ | refine Fr.drew ?_))
  have X2 := Lib.hid (show At u5 v5.heap.size 31 #[.int .u32 1280, .int .u32 32] by rw [← hu5]; exact At.new _ _ _)
  have hlt2 := hh.lt
  have H5 := Lib.hid (hh.fr0 hfa)
  have HF5 := Lib.hid (hfw.trans0 hfa)
  have T5 := Lib.hid (HT.out.fr HF5.out (by simp))
  have X0 := Lib.hid ((X0.out.fr hf (fun hk => by have := hlt0 _ hk; omega)).fr hfa (by simp))
  have X1 := Lib.hid ((X1.out.fr hf (fun hk => by have := hlt1 _ hk; omega)).fr hfa (by simp))
  have HLT2 := Lib.hid hlt2
  clear hh hf hfw hfa
  go_wp2_with fail
  refine (malloc_is H5.out T5.out (size := 600) (by decide) HM.out.2.2.2).mono ?_
  rintro e v6 ⟨rfl, hh, hf⟩
  simp only [rv, Option.getD_none, z0]
  have V6 := Lib.hid hh
  have W6 := Lib.hid (HF5.out.trans hf (fun k hk => .inr (HG.out k hk)))
  have X0 := Lib.hid (X0.out.fr hf (fun hk => by have := HLT0.out _ hk; omega))
  have X1 := Lib.hid (X1.out.fr hf (fun hk => by have := HLT1.out _ hk; omega))
  have X2 := Lib.hid (X2.out.fr hf (fun hk => by have := HLT2.out _ hk; omega))
  clear hh hf
  go_wp2_with fail
  have hfa : Fr [] v6 (v6.alloc (.cells #[.int .u32 0, .int .u32 0] 31)) := (by repeat (first | exact Fr.refl _ _ | assumption | refine Fr.trans0 ?_ (by assumption) | refine Fr.drewN ?_ _ | refine Fr.alloc ?_ _ | refine Fr.drew ?_))
  obtain ⟨u6, hu6⟩ : ∃ W, v6.alloc (.cells #[.int .u32 0, .int .u32 0] 31) = W := ⟨_, rfl⟩
  rw [hu6] at hfa ⊢
  clear hu6
  have H6 := Lib.hid (V6.out.fr0 hfa)
  have HF6 := Lib.hid (W6.out.trans0 hfa)
  have X0 := Lib.hid (X0.out.fr hfa (by simp))
  have X1 := Lib.hid (X1.out.fr hfa (by simp))
  have X2 := Lib.hid (X2.out.fr hfa (by simp))
  have S6 := HF6.out.size
  refine wp_region_L (fun W => At W v3.heap.size 31 #[.int .u32 1024, .int .u32 16] ∧ At W v4.heap.size 31 #[.int .u32 1040, .int .u32 16] ∧ At W v5.heap.size 31 #[.int .u32 1280, .int .u32 32]) [] (by kernel_rfl) ⟨X0.out.hp rfl, X1.out.hp rfl, X2.out.hp rfl⟩ fun hHeld => ?_
  have H7 := H6.out.fr0 ((Fr.refl [] u6).drew)
  have F7 : Fr [] w u6.drew := HF6.out.drew
  refine wpAnyL_take (i := 0) rfl (by kernel_rfl) (fun _ _ _ h => h) (yields_load_at 31 (.tmp 3) rfl ⟨v3.heap.size, 0, none⟩ rfl [.int .u32 1024, .int .u32 16] _ (fun W h => two_cells h.1) Tryd.underlying31 rfl infoRgS rfl) (by assumption) ?_; (try (refine wpAnyL_norm (by simp only [Act.put, List.setIfInBounds_toArray, List.set_cons_zero, List.set_cons_succ]; rfl) ?_))
  refine wpAnyL_ready (rs := [1]) (by kernel_rfl) (by simp) ?_; refine AllReadyL.cons rfl (fun K hK => ?_) AllReadyL.nil
  go_simp
  have CC := RG.out 1024 16 u6.drew
  refine CC.mono ?_
  rintro e y8 ⟨rfl, hf8⟩
  have H8 := H7.fr0 hf8
  have F8 := F7.trans0 hf8
  refine hK.out _ _ (fun _ => ⟨hHeld.1.fr hf8 (by simp), hHeld.2.1.fr hf8 (by simp), hHeld.2.2.fr hf8 (by simp)⟩) (fun hHeld' => ?_); have hHeld := hHeld' (by decide); clear hHeld' hK K; (try (refine wpAnyL_norm (by simp only [Act.put, List.setIfInBounds_toArray, List.set_cons_zero, List.set_cons_succ]; rfl) ?_))
  refine wpAnyL_take (i := 2) (v := ?_) rfl (by kernel_rfl) (fun _ _ _ h => h) (Or.inl ⟨by rfl, ?_⟩) (by assumption) ?_; rotate_left; (focus (intro w hSw; skip; go_simp; (try with_reducible rfl))); (try (refine wpAnyL_norm (by simp only [Act.put, List.setIfInBounds_toArray, List.set_cons_zero, List.set_cons_succ]; rfl) ?_))
  refine wpAnyL_take (i := 3) (v := ?_) rfl (by kernel_rfl) (fun _ _ _ h => h) (Or.inl ⟨by rfl, ?_⟩) (by assumption) ?_; rotate_left; (focus (intro w hSw; skip; go_simp; (try with_reducible rfl))); (try (refine wpAnyL_norm (by simp only [Act.put, List.setIfInBounds_toArray, List.set_cons_zero, List.set_cons_succ]; rfl) ?_))
  refine wpAnyL_take (i := 4) (v := ?_) rfl (by kernel_rfl) (fun _ _ _ h => h) (Or.inl ⟨by rfl, ?_⟩) (by assumption) ?_; rotate_left; (focus (intro w hSw; skip; go_simp; (try with_reducible rfl))); (try (refine wpAnyL_norm (by simp only [Act.put, List.setIfInBounds_toArray, List.set_cons_zero, List.set_cons_succ]; rfl) ?_))
  refine wpAnyL_take (i := 5) (v := ?_) rfl (by kernel_rfl) (fun _ _ _ h => h) (Or.inl ⟨by rfl, ?_⟩) (by assumption) ?_; rotate_left; (focus (intro w hSw; skip; go_simp; (try with_reducible rfl))); (try (refine wpAnyL_norm (by simp only [Act.put, List.setIfInBounds_toArray, List.set_cons_zero, List.set_cons_succ]; rfl) ?_))
  refine wpAnyL_take (i := 6) (v := ?_) rfl (by kernel_rfl) (fun _ _ _ h => h) (Or.inl ⟨by rfl, ?_⟩) (by assumption) ?_; rotate_left; (focus (intro w hSw; skip; go_simp; (try with_reducible rfl))); (try (refine wpAnyL_norm (by simp only [Act.put, List.setIfInBounds_toArray, List.set_cons_zero, List.set_cons_succ]; rfl) ?_))
  refine wpAnyL_take (i := 7) (v := ?_) rfl (by kernel_rfl) (fun _ _ _ h => h) (Or.inl ⟨by rfl, ?_⟩) (by assumption) ?_; rotate_left; (focus (intro w hSw; skip; go_simp; (try with_reducible rfl))); (try (refine wpAnyL_norm (by simp only [Act.put, List.setIfInBounds_toArray, List.set_cons_zero, List.set_cons_succ]; rfl) ?_))
  refine wpAnyL_take (i := 8) rfl (by kernel_rfl) (fun _ _ _ h => h) (yields_load_at 31 (.tmp 5) rfl ⟨v4.heap.size, 0, none⟩ rfl [.int .u32 1040, .int .u32 16] _ (fun W h => two_cells h.2.1) Tryd.underlying31 rfl infoRgS rfl) (by assumption) ?_; (try (refine wpAnyL_norm (by simp only [Act.put, List.setIfInBounds_toArray, List.set_cons_zero, List.set_cons_succ]; rfl) ?_))
  refine wpAnyL_ready (rs := [9]) (by kernel_rfl) (by simp) ?_; refine AllReadyL.cons rfl (fun K hK => ?_) AllReadyL.nil
  go_simp
  have CC := RG.out 1040 16 y8
  refine CC.mono ?_
  rintro e y9 ⟨rfl, hf9⟩
  have H9 := H8.fr0 hf9
  have F9 := F8.trans0 hf9
  refine hK.out _ _ (fun _ => ⟨hHeld.1.fr hf9 (by simp), hHeld.2.1.fr hf9 (by simp), hHeld.2.2.fr hf9 (by simp)⟩) (fun hHeld' => ?_); have hHeld := hHeld' (by decide); clear hHeld' hK K; (try (refine wpAnyL_norm (by simp only [Act.put, List.setIfInBounds_toArray, List.set_cons_zero, List.set_cons_succ]; rfl) ?_))
  refine wpAnyL_take (i := 10) (v := ?_) rfl (by kernel_rfl) (fun _ _ _ h => h) (Or.inl ⟨by rfl, ?_⟩) (by assumption) ?_; rotate_left; (focus (intro w hSw; skip; go_simp; (try with_reducible rfl))); (try (refine wpAnyL_norm (by simp only [Act.put, List.setIfInBounds_toArray, List.set_cons_zero, List.set_cons_succ]; rfl) ?_))
  refine wpAnyL_take (i := 11) (v := ?_) rfl (by kernel_rfl) (fun _ _ _ h => h) (Or.inl ⟨by rfl, ?_⟩) (by assumption) ?_; rotate_left; (focus (intro w hSw; skip; go_simp; (try with_reducible rfl))); (try (refine wpAnyL_norm (by simp only [Act.put, List.setIfInBounds_toArray, List.set_cons_zero, List.set_cons_succ]; rfl) ?_))
  refine wpAnyL_take (i := 12) (v := ?_) rfl (by kernel_rfl) (fun _ _ _ h => h) (Or.inl ⟨by rfl, ?_⟩) (by assumption) ?_; rotate_left; (focus (intro w hSw; skip; go_simp; (try with_reducible rfl))); (try (refine wpAnyL_norm (by simp only [Act.put, List.setIfInBounds_toArray, List.set_cons_zero, List.set_cons_succ]; rfl) ?_))
  refine wpAnyL_take (i := 13) (v := ?_) rfl (by kernel_rfl) (fun _ _ _ h => h) (Or.inl ⟨by rfl, ?_⟩) (by assumption) ?_; rotate_left; (focus (intro w hSw; skip; go_simp; (try with_reducible rfl))); (try (refine wpAnyL_norm (by simp only [Act.put, List.setIfInBounds_toArray, List.set_cons_zero, List.set_cons_succ]; rfl) ?_))
  refine wpAnyL_take (i := 14) (v := ?_) rfl (by kernel_rfl) (fun _ _ _ h => h) (Or.inl ⟨by rfl, ?_⟩) (by assumption) ?_; rotate_left; (focus (intro w hSw; skip; go_simp; (try with_reducible rfl))); (try (refine wpAnyL_norm (by simp only [Act.put, List.setIfInBounds_toArray, List.set_cons_zero, List.set_cons_succ]; rfl) ?_))
  refine wpAnyL_take (i := 15) (v := ?_) rfl (by kernel_rfl) (fun _ _ _ h => h) (Or.inl ⟨by rfl, ?_⟩) (by assumption) ?_; rotate_left; (focus (intro w hSw; skip; go_simp; (try with_reducible rfl))); (try (refine wpAnyL_norm (by simp only [Act.put, List.setIfInBounds_toArray, List.set_cons_zero, List.set_cons_succ]; rfl) ?_))
  refine wpAnyL_take (i := 16) (v := ?_) rfl (by kernel_rfl) (fun _ _ _ h => h) (Or.inl ⟨by rfl, ?_⟩) (by assumption) ?_; rotate_left; (focus (intro w hSw; skip; go_simp; (try with_reducible rfl))); (try (refine wpAnyL_norm (by simp only [Act.put, List.setIfInBounds_toArray, List.set_cons_zero, List.set_cons_succ]; rfl) ?_))
  refine wpAnyL_take (i := 17) rfl (by kernel_rfl) (fun _ _ _ h => h) (yields_load_at 31 (.tmp 7) rfl ⟨v5.heap.size, 0, none⟩ rfl [.int .u32 1280, .int .u32 32] _ (fun W h => two_cells h.2.2) Tryd.underlying31 rfl infoRgS rfl) (by assumption) ?_; (try (refine wpAnyL_norm (by simp only [Act.put, List.setIfInBounds_toArray, List.set_cons_zero, List.set_cons_succ]; rfl) ?_))
  refine wpAnyL_ready (rs := [18]) (by kernel_rfl) (by simp) ?_; refine AllReadyL.cons rfl (fun K hK => ?_) AllReadyL.nil
  go_simp
  have CC := RG.out 1280 32 y9
  refine CC.mono ?_
  rintro e y10 ⟨rfl, hf10⟩
  have H10 := H9.fr0 hf10
  have F10 := F9.trans0 hf10
  refine hK.out _ _ (fun _ => ⟨hHeld.1.fr hf10 (by simp), hHeld.2.1.fr hf10 (by simp), hHeld.2.2.fr hf10 (by simp)⟩) (fun hHeld' => ?_); have hHeld := hHeld' (by decide); clear hHeld' hK K; (try (refine wpAnyL_norm (by simp only [Act.put, List.setIfInBounds_toArray, List.set_cons_zero, List.set_cons_succ]; rfl) ?_))
  refine wpAnyL_take (i := 19) (v := ?_) rfl (by kernel_rfl) (fun _ _ _ h => h) (Or.inl ⟨by rfl, ?_⟩) (by assumption) ?_; rotate_left; (focus (intro w hSw; skip; go_simp; (try with_reducible rfl))); (try (refine wpAnyL_norm (by simp only [Act.put, List.setIfInBounds_toArray, List.set_cons_zero, List.set_cons_succ]; rfl) ?_))
  refine wpAnyL_take (i := 20) (v := ?_) rfl (by kernel_rfl) (fun _ _ _ h => h) (Or.inl ⟨by rfl, ?_⟩) (by assumption) ?_; rotate_left; (focus (intro w hSw; skip; go_simp; (try with_reducible rfl))); (try (refine wpAnyL_norm (by simp only [Act.put, List.setIfInBounds_toArray, List.set_cons_zero, List.set_cons_succ]; rfl) ?_))
  refine wpAnyL_take (i := 21) (v := ?_) rfl (by kernel_rfl) (fun _ _ _ h => h) (Or.inl ⟨by rfl, ?_⟩) (by assumption) ?_; rotate_left; (focus (intro w hSw; skip; go_simp; (try with_reducible rfl))); (try (refine wpAnyL_norm (by simp only [Act.put, List.setIfInBounds_toArray, List.set_cons_zero, List.set_cons_succ]; rfl) ?_))
  refine wpAnyL_take (i := 22) (v := ?_) rfl (by kernel_rfl) (fun _ _ _ h => h) (Or.inl ⟨by rfl, ?_⟩) (by assumption) ?_; rotate_left; (focus (intro w hSw; skip; go_simp; (try with_reducible rfl))); (try (refine wpAnyL_norm (by simp only [Act.put, List.setIfInBounds_toArray, List.set_cons_zero, List.set_cons_succ]; rfl) ?_))
  refine wpAnyL_take (i := 23) (v := ?_) rfl (by kernel_rfl) (fun _ _ _ h => h) (Or.inl ⟨by rfl, ?_⟩) (by assumption) ?_; rotate_left; (focus (intro w hSw; skip; go_simp; (try with_reducible rfl))); (try (refine wpAnyL_norm (by simp only [Act.put, List.setIfInBounds_toArray, List.set_cons_zero, List.set_cons_succ]; rfl) ?_))
  refine wpAnyL_take (i := 24) (v := ?_) rfl (by kernel_rfl) (fun _ _ _ h => h) (Or.inl ⟨by rfl, ?_⟩) (by assumption) ?_; rotate_left; (focus (intro w hSw; skip; go_simp; (try with_reducible rfl))); (try (refine wpAnyL_norm (by simp only [Act.put, List.setIfInBounds_toArray, List.set_cons_zero, List.set_cons_succ]; rfl) ?_))
  refine wpAnyL_take (i := 25) (v := ?_) rfl (by kernel_rfl) (fun _ _ _ h => h) (Or.inl ⟨by rfl, ?_⟩) (by assumption) ?_; rotate_left; (focus (intro w hSw; skip; go_simp; (try with_reducible rfl))); (try (refine wpAnyL_norm (by simp only [Act.put, List.setIfInBounds_toArray, List.set_cons_zero, List.set_cons_succ]; rfl) ?_))
  refine wpAnyL_take (i := 26) (v := ?_) rfl (by kernel_rfl) (fun _ _ _ h => h) (Or.inl ⟨by rfl, ?_⟩) (by assumption) ?_; rotate_left; (focus (intro w hSw; skip; go_simp; (try with_reducible rfl))); (try (refine wpAnyL_norm (by simp only [Act.put, List.setIfInBounds_toArray, List.set_cons_zero, List.set_cons_succ]; rfl) ?_))
  refine wpAnyL_take (i := 27) (v := ?_) rfl (by kernel_rfl) (fun _ _ _ h => h) (Or.inl ⟨by rfl, ?_⟩) (by assumption) ?_; rotate_left; (focus (intro w hSw; skip; go_simp; (try with_reducible rfl))); (try (refine wpAnyL_norm (by simp only [Act.put, List.setIfInBounds_toArray, List.set_cons_zero, List.set_cons_succ]; rfl) ?_))
  refine wpAnyL_take (i := 28) (v := ?_) rfl (by kernel_rfl) (fun _ _ _ h => h) (Or.inl ⟨by rfl, ?_⟩) (by assumption) ?_; rotate_left; (focus (intro w hSw; skip; go_simp; (try with_reducible rfl))); (try (refine wpAnyL_norm (by simp only [Act.put, List.setIfInBounds_toArray, List.set_cons_zero, List.set_cons_succ]; rfl) ?_))
  refine wpAnyL_take (i := 29) (v := ?_) rfl (by kernel_rfl) (fun _ _ _ h => h) (Or.inl ⟨by rfl, ?_⟩) (by assumption) ?_; rotate_left; (focus (intro w hSw; skip; go_simp; (try with_reducible rfl))); (try (refine wpAnyL_norm (by simp only [Act.put, List.setIfInBounds_toArray, List.set_cons_zero, List.set_cons_succ]; rfl) ?_))
  refine wpAnyL_take (i := 30) (v := ?_) rfl (by kernel_rfl) (fun _ _ _ h => h) (Or.inl ⟨by rfl, ?_⟩) (by assumption) ?_; rotate_left; (focus (intro w hSw; skip; go_simp; (try with_reducible rfl))); (try (refine wpAnyL_norm (by simp only [Act.put, List.setIfInBounds_toArray, List.set_cons_zero, List.set_cons_succ]; rfl) ?_))
  refine wpAnyL_ready (rs := [31]) (by kernel_rfl) (by simp) ?_; refine AllReadyL.cons rfl (fun K hK => ?_) AllReadyL.nil
  go_simp
  have CC := live_len H10 3 (by rfl)
  refine CC.mono ?_
  rintro e y11 ⟨a11, c11, rfl, H11, hf11⟩
  have F11 := F10.trans0 hf11
  refine hK.out _ _ (fun _ => ⟨hHeld.1.fr hf11 (by simp), hHeld.2.1.fr hf11 (by simp), hHeld.2.2.fr hf11 (by simp)⟩) (fun hHeld' => ?_); have hHeld := hHeld' (by decide); clear hHeld' hK K; (try (refine wpAnyL_norm (by simp only [Act.put, List.setIfInBounds_toArray, List.set_cons_zero, List.set_cons_succ]; rfl) ?_))
  refine wpAnyL_take (i := 32) (v := ?_) rfl (by kernel_rfl) (fun _ _ _ h => h) (Or.inl ⟨by rfl, ?_⟩) (by assumption) ?_; rotate_left; (focus (intro w hSw; skip; go_simp; (try with_reducible rfl))); (try (refine wpAnyL_norm (by simp only [Act.put, List.setIfInBounds_toArray, List.set_cons_zero, List.set_cons_succ]; rfl) ?_))
  refine wpAnyL_take (i := 33) (v := ?_) rfl (by kernel_rfl) (fun _ _ _ h => h) (Or.inl ⟨by rfl, ?_⟩) (by assumption) ?_; rotate_left; (focus (intro w hSw; skip; go_simp; (try with_reducible rfl))); (try (refine wpAnyL_norm (by simp only [Act.put, List.setIfInBounds_toArray, List.set_cons_zero, List.set_cons_succ]; rfl) ?_))
  refine wpAnyL_take (i := 34) (v := ?_) rfl (by kernel_rfl) (fun _ _ _ h => h) (Or.inl ⟨by rfl, ?_⟩) (by assumption) ?_; rotate_left; (focus (intro w hSw; skip; go_simp; (try with_reducible rfl))); (try (refine wpAnyL_norm (by simp only [Act.put, List.setIfInBounds_toArray, List.set_cons_zero, List.set_cons_succ]; rfl) ?_))
  refine wpAnyL_take (i := 35) (v := ?_) rfl (by kernel_rfl) (fun _ _ _ h => h) (Or.inl ⟨by rfl, ?_⟩) (by assumption) ?_; rotate_left; (focus (intro w hSw; skip; go_simp; (try with_reducible rfl))); (try (refine wpAnyL_norm (by simp only [Act.put, List.setIfInBounds_toArray, List.set_cons_zero, List.set_cons_succ]; rfl) ?_))
  refine wpAnyL_take (i := 36) (v := ?_) rfl (by kernel_rfl) (fun _ _ _ h => h) (Or.inl ⟨by rfl, ?_⟩) (by assumption) ?_; rotate_left; (focus (intro w hSw; skip; go_simp; (try with_reducible rfl))); (try (refine wpAnyL_norm (by simp only [Act.put, List.setIfInBounds_toArray, List.set_cons_zero, List.set_cons_succ]; rfl) ?_))
  refine wpAnyL_take (i := 37) rfl (by kernel_rfl) (fun _ _ _ h => h) (yields_load_at 31 (.tmp 5) rfl ⟨v4.heap.size, 0, none⟩ rfl [.int .u32 1040, .int .u32 16] _ (fun W h => two_cells h.2.1) Tryd.underlying31 rfl infoRgS rfl) (by assumption) ?_; (try (refine wpAnyL_norm (by simp only [Act.put, List.setIfInBounds_toArray, List.set_cons_zero, List.set_cons_succ]; rfl) ?_))
  refine wpAnyL_ready (rs := [38]) (by kernel_rfl) (by simp) ?_; refine AllReadyL.cons rfl (fun K hK => ?_) AllReadyL.nil
  go_simp
  have CC := free_yes (r := (1040, 16)) H11 (by decide)
  refine CC.mono ?_
  rintro e y12 ⟨rfl, H12, hf12⟩
  have F12 := F11.trans hf12 (fun k hk => .inr (HG.out k hk))
  refine hK.out _ _ (fun _ => ⟨hHeld.1.fr hf12 (fun hk => by have a1 := HLT0.out _ hk; have a2 := HLT1.out _ hk; have a3 := HLT2.out _ hk; omega), hHeld.2.1.fr hf12 (fun hk => by have a1 := HLT0.out _ hk; have a2 := HLT1.out _ hk; have a3 := HLT2.out _ hk; omega), hHeld.2.2.fr hf12 (fun hk => by have a1 := HLT0.out _ hk; have a2 := HLT1.out _ hk; have a3 := HLT2.out _ hk; omega)⟩) (fun hHeld' => ?_); have hHeld := hHeld' (by decide); clear hHeld' hK K; (try (refine wpAnyL_norm (by simp only [Act.put, List.setIfInBounds_toArray, List.set_cons_zero, List.set_cons_succ]; rfl) ?_))
  refine wpAnyL_take (i := 39) (v := ?_) rfl (by kernel_rfl) (fun _ _ _ h => h) (Or.inl ⟨by rfl, ?_⟩) (by assumption) ?_; rotate_left; (focus (intro w hSw; skip; go_simp; (try with_reducible rfl))); (try (refine wpAnyL_norm (by simp only [Act.put, List.setIfInBounds_toArray, List.set_cons_zero, List.set_cons_succ]; rfl) ?_))
  refine wpAnyL_take (i := 40) (v := ?_) rfl (by kernel_rfl) (fun _ _ _ h => h) (Or.inl ⟨by rfl, ?_⟩) (by assumption) ?_; rotate_left; (focus (intro w hSw; skip; go_simp; (try with_reducible rfl))); (try (refine wpAnyL_norm (by simp only [Act.put, List.setIfInBounds_toArray, List.set_cons_zero, List.set_cons_succ]; rfl) ?_))
  refine wpAnyL_take (i := 41) (v := ?_) rfl (by kernel_rfl) (fun _ _ _ h => h) (Or.inl ⟨by rfl, ?_⟩) (by assumption) ?_; rotate_left; (focus (intro w hSw; skip; go_simp; (try with_reducible rfl))); (try (refine wpAnyL_norm (by simp only [Act.put, List.setIfInBounds_toArray, List.set_cons_zero, List.set_cons_succ]; rfl) ?_))
  refine wpAnyL_take (i := 42) (v := ?_) rfl (by kernel_rfl) (fun _ _ _ h => h) (Or.inl ⟨by rfl, ?_⟩) (by assumption) ?_; rotate_left; (focus (intro w hSw; skip; go_simp; (try with_reducible rfl))); (try (refine wpAnyL_norm (by simp only [Act.put, List.setIfInBounds_toArray, List.set_cons_zero, List.set_cons_succ]; rfl) ?_))
  refine wpAnyL_take (i := 43) rfl (by kernel_rfl) (fun _ _ _ h => h) (yields_load_at 31 (.tmp 5) rfl ⟨v4.heap.size, 0, none⟩ rfl [.int .u32 1040, .int .u32 16] _ (fun W h => two_cells h.2.1) Tryd.underlying31 rfl infoRgS rfl) (by assumption) ?_; (try (refine wpAnyL_norm (by simp only [Act.put, List.setIfInBounds_toArray, List.set_cons_zero, List.set_cons_succ]; rfl) ?_))
  refine wpAnyL_ready (rs := [44]) (by kernel_rfl) (by simp) ?_; refine AllReadyL.cons rfl (fun K hK => ?_) AllReadyL.nil
  go_simp
  have CC := free_no (r := (1040, 16)) H12 (by unfold Ok32; decide) (by decide)
  refine CC.mono ?_
  rintro e y13 ⟨rfl, H13, hf13⟩
  have F13 := F12.trans hf13 (fun k hk => .inr (HG.out k hk))
  refine hK.out _ _ (fun _ => ⟨hHeld.1.fr hf13 (fun hk => by have a1 := HLT0.out _ hk; have a2 := HLT1.out _ hk; have a3 := HLT2.out _ hk; omega), hHeld.2.1.fr hf13 (fun hk => by have a1 := HLT0.out _ hk; have a2 := HLT1.out _ hk; have a3 := HLT2.out _ hk; omega), hHeld.2.2.fr hf13 (fun hk => by have a1 := HLT0.out _ hk; have a2 := HLT1.out _ hk; have a3 := HLT2.out _ hk; omega)⟩) (fun hHeld' => ?_); have hHeld := hHeld' (by decide); clear hHeld' hK K; (try (refine wpAnyL_norm (by simp only [Act.put, List.setIfInBounds_toArray, List.set_cons_zero, List.set_cons_succ]; rfl) ?_))
  refine wpAnyL_take (i := 45) (v := ?_) rfl (by kernel_rfl) (fun _ _ _ h => h) (Or.inl ⟨by rfl, ?_⟩) (by assumption) ?_; rotate_left; (focus (intro w hSw; skip; go_simp; (try with_reducible rfl))); (try (refine wpAnyL_norm (by simp only [Act.put, List.setIfInBounds_toArray, List.set_cons_zero, List.set_cons_succ]; rfl) ?_))
  refine wpAnyL_take (i := 46) (v := ?_) rfl (by kernel_rfl) (fun _ _ _ h => h) (Or.inl ⟨by rfl, ?_⟩) (by assumption) ?_; rotate_left; (focus (intro w hSw; skip; go_simp; (try with_reducible rfl))); (try (refine wpAnyL_norm (by simp only [Act.put, List.setIfInBounds_toArray, List.set_cons_zero, List.set_cons_succ]; rfl) ?_))
  refine wpAnyL_take (i := 47) (v := ?_) rfl (by kernel_rfl) (fun _ _ _ h => h) (Or.inl ⟨by rfl, ?_⟩) (by assumption) ?_; rotate_left; (focus (intro w hSw; skip; go_simp; (try with_reducible rfl))); (try (refine wpAnyL_norm (by simp only [Act.put, List.setIfInBounds_toArray, List.set_cons_zero, List.set_cons_succ]; rfl) ?_))
  refine wpAnyL_take (i := 48) (v := ?_) rfl (by kernel_rfl) (fun _ _ _ h => h) (Or.inl ⟨by rfl, ?_⟩) (by assumption) ?_; rotate_left; (focus (intro w hSw; skip; go_simp; (try with_reducible rfl))); (try (refine wpAnyL_norm (by simp only [Act.put, List.setIfInBounds_toArray, List.set_cons_zero, List.set_cons_succ]; rfl) ?_))
  refine wpAnyL_ready (rs := [49]) (by kernel_rfl) (by simp) ?_; refine AllReadyL.cons rfl (fun K hK => ?_) AllReadyL.nil
  go_simp
  have CC := rest_len H13 1 (by rfl)
  refine CC.mono ?_
  rintro e y14 ⟨a14, c14, rfl, H14, hf14⟩
  have F14 := F13.trans0 hf14
  refine hK.out _ _ (fun _ => ⟨hHeld.1.fr hf14 (by simp), hHeld.2.1.fr hf14 (by simp), hHeld.2.2.fr hf14 (by simp)⟩) (fun hHeld' => ?_); have hHeld := hHeld' (by decide); clear hHeld' hK K; (try (refine wpAnyL_norm (by simp only [Act.put, List.setIfInBounds_toArray, List.set_cons_zero, List.set_cons_succ]; rfl) ?_))
  refine wpAnyL_take (i := 50) (v := ?_) rfl (by kernel_rfl) (fun _ _ _ h => h) (Or.inl ⟨by rfl, ?_⟩) (by assumption) ?_; rotate_left; (focus (intro w hSw; skip; go_simp; (try with_reducible rfl))); (try (refine wpAnyL_norm (by simp only [Act.put, List.setIfInBounds_toArray, List.set_cons_zero, List.set_cons_succ]; rfl) ?_))
  refine wpAnyL_take (i := 51) (v := ?_) rfl (by kernel_rfl) (fun _ _ _ h => h) (Or.inl ⟨by rfl, ?_⟩) (by assumption) ?_; rotate_left; (focus (intro w hSw; skip; go_simp; (try with_reducible rfl))); (try (refine wpAnyL_norm (by simp only [Act.put, List.setIfInBounds_toArray, List.set_cons_zero, List.set_cons_succ]; rfl) ?_))
  refine wpAnyL_take (i := 52) (v := ?_) rfl (by kernel_rfl) (fun _ _ _ h => h) (Or.inl ⟨by rfl, ?_⟩) (by assumption) ?_; rotate_left; (focus (intro w hSw; skip; go_simp; (try with_reducible rfl))); (try (refine wpAnyL_norm (by simp only [Act.put, List.setIfInBounds_toArray, List.set_cons_zero, List.set_cons_succ]; rfl) ?_))
  refine wpAnyL_take (i := 53) (v := ?_) rfl (by kernel_rfl) (fun _ _ _ h => h) (Or.inl ⟨by rfl, ?_⟩) (by assumption) ?_; rotate_left; (focus (intro w hSw; skip; go_simp; (try with_reducible rfl))); (try (refine wpAnyL_norm (by simp only [Act.put, List.setIfInBounds_toArray, List.set_cons_zero, List.set_cons_succ]; rfl) ?_))
  refine wpAnyL_done (by kernel_rfl) ?_ _
  go_wp2
  go_ret
  exact ⟨rfl, F14⟩
end Go.Proofs.YtdbpmojblgmhdaaDoor
