/-
  CompartKnown: the chapter's examples; stacks that are none. No condition.
-/





import Derived.Test.YtdfefnajhnlpdaaWorks
import Derived.Test.YtdfefnajhnlpdaaSscan
import Derived.Deep.CutBlock
import Derived.Deep.DeepCutAuto
set_option linter.unusedVariables false
namespace Go.Proofs.Ytdfefnajhnlpdaa
open Go.ChangeShapes Go.WideShapes Go.ChangeAt Go.RowKit
namespace compartKnown
theorem wp_store_all {P : Program} {K : Act → World → Prop} {Q : Exit → Act → World → Prop} {o : Oper} {a : Act} {w : World} (ty : TypeId) (x y : Operand) (ho : o.op = .store ty x y) (g : Nat) (cs : Array Value) (hx : a.eval x = .pointer (some ⟨g, 0, none⟩)) (hy : a.eval y = .agg cs)
    (t : TypeId) (cur : Array Value) (hg : At w g t cur) (hi : (P.info? ty).map (·.size) = some cs.size) (hk : cur.size = cs.size) (h1 : cs.all (·.oneCell') = true)
    (h : ∀ w', At w' g t cs → Fr [g] w w' → K (a.put o.dst undef) w') : o.wp P a w K Q :=
  wp_store_row ty x y ho g cs hx hy t cur hg hi hk h1 (h _ (setRow_heap w g _ _ t (0, 0) hg) (Fr.setRow w g _))
theorem wp_named {P : Program} {c : Code} {Q : Exit → Act → World → Prop} {a : Act} {w : World} (h : ∀ X, X = w → Code.wp P c Q a X) : Code.wp P c Q a w := h w rfl
theorem sums_nohs (l : List Cp) : sums nohs l = 0 := by
  unfold sums
  induction l with
  | nil => rfl
  | cons c l ih => rw [List.map_cons, List.sum_cons, ih]; unfold sOne stB nohs; simp
def aC : Cp := madeC 512 132 7
def bC : Cp := madeC 1024 129 7
def dC : Cp := madeC 1024 129 8
def oC : Cp := { aC with ty := 0 }
def eC : Cp := { bC with pm := 133 }
theorem t_ad : trapI aC dC = 8 := by decide +kernel
theorem t_a5 : trapI aC (numC 5) = 1 := by decide +kernel
theorem t_ob : trapI oC bC = 2 := by decide +kernel
theorem t_ae : trapI aC eC = 3 := by decide +kernel
theorem t_ba : trapI bC aC = 3 := by decide +kernel
theorem t_ab : trapI aC bC = 0 := pair_ok 7 (by omega) (by omega)
def E3 : List Cp := [(madeC 0 4 0).addr 4, madeC 2048 1 0, madeC 2112 1 0]
def SL (k : Nat) : List Cp := (List.replicate (min k 16) E3).flatten
theorem SL_len (k : Nat) : (SL k).length = 3 * min k 16 := by unfold SL; simp [E3]; omega
theorem SL_succ (k : Nat) (h : k < 16) : SL k ++ E3 = SL (k + 1) := by
  unfold SL
  rw [Nat.min_eq_left (by omega), Nat.min_eq_left (by omega), List.replicate_succ', List.flatten_append, List.flatten_singleton]
theorem SL_full : SL 17 = SL 16 := rfl
theorem SL_cur (k : Nat) : ∀ c ∈ SL k, c.cur < 4294967296 := fun c hc => by
  unfold SL at hc
  rw [List.mem_flatten] at hc
  obtain ⟨l, hl, hc⟩ := hc
  rw [(List.mem_replicate.1 hl).2] at hc
  unfold E3 at hc
  simp only [List.mem_cons, List.not_mem_nil, or_false] at hc
  rcases hc with rfl | rfl | rfl
  · show 4 < _; omega
  · show 2048 < _; omega
  · show 2112 < _; omega
theorem frs : ∃ x : Nat, (madeC 0 4 0).cur = x ∧ x = 0 := ⟨_, rfl, rfl⟩
-- a region 'frame, trap := s.Call(frame(), x, y)': $1 frame slot, $2 trap slot, $3 $4 $5 first load (slot, block, letter), $6 $7 $8 second, $9 the store's value, $10 trap, $11 contract, $12 the facts' names A, B (At at wB)
theorem call_k (W : World) (sp k : Nat) (v : Value) (hk : k < 16) (h : St W sp v (SL k)) : Calls Try.prog 10 #[.pointer (some ⟨sp, 0, none⟩), .agg (cat frL).toArray, .agg aC.cells, .agg bC.cells] W fun r w' => ∃ v' G, r = .returned (.tuple #[.agg G, .int .i64 0]) ∧ St w' sp v' (SL (k + 1)) ∧ Fr (sp :: v.ownBlock.toList) W w' ∧ ∀ g, v'.ownBlock = some g → v.ownBlock = some g ∨ W.heap.size ≤ g := by
  obtain ⟨p16, p14, p15, pi⟩ := frL_at
  refine (scall_ok W sp v (SL k) h (by rw [SL_len]; omega) frL frL_len _ _ _ p16 p14 p15 (by show 0 < 4294967296; omega) aC bC t_ab).mono ?_
  rintro e w' ⟨v', h1, h2, h3, h4⟩
  exact ⟨v', _, h1, by rw [← SL_succ k hk]; exact h2, h3, h4⟩
theorem call_17 (W : World) (sp : Nat) (v : Value) (h : St W sp v (SL 16)) : Calls Try.prog 10 #[.pointer (some ⟨sp, 0, none⟩), .agg (cat frL).toArray, .agg aC.cells, .agg bC.cells] W fun r w' => ∃ G, r = .returned (.tuple #[.agg G, .int .i64 9]) ∧ Fr [] W w' := by
  refine (scall_full W sp v (SL 16) h (by rw [SL_len]; omega) frL aC bC t_ab).mono ?_
  rintro e w' ⟨h1, h2⟩
  exact ⟨_, h1, h2⟩
theorem ret_1 (W : World) (sp : Nat) (v : Value) (h : St W sp v (SL 17)) : Calls Try.prog 15 #[.pointer (some ⟨sp, 0, none⟩), .agg (cat frL).toArray] W fun r w' => ∃ v' L G, r = .returned (.tuple #[.agg G, .int .i64 0]) ∧ St w' sp v' L ∧ L.length = 45 ∧ Fr [sp] W w' := by
  have hl := SL_len 17
  refine (sret_ok W sp v (SL 17) h 15 (by rw [hl]; rfl) (by omega) _ _ _ (List.getElem?_eq_getElem (by rw [hl]; omega)) (List.getElem?_eq_getElem (by rw [hl]; omega)) (List.getElem?_eq_getElem (by rw [hl]; omega)) frL frL_len).mono ?_
  rintro e w' ⟨v', h1, h2, h3, h4⟩
  exact ⟨v', _, _, h1, h2, by rw [List.length_take, hl]; omega, h3⟩
set_option maxHeartbeats 8000000 in
set_option maxRecDepth 100000 in
theorem walk (w : World) : Calls Try.prog 5 #[] w fun e w' => e = .returned (.bool true) ∧ Fr [] w w' := by
  have hz := fun w => zeroFrame w
  have hb := fun w => builtFrame w
  have ZI := Lib.hid (frInfo zf_len)
  have ZA := Lib.hid (cat_all zf)
  obtain ⟨Z, hZ⟩ : ∃ Z, (cat zf).toArray = Z := ⟨_, rfl⟩
  rw [hZ] at hz hb ZI ZA
  have HZ := Lib.hid hZ
  clear hZ
  have CFR := Lib.hid fun W => lframe_any W
  have CP7 := Lib.hid fun W => (lpair_any W 7)
  have CP8 := Lib.hid fun W => (lpair_any W 8)
  have CN5 := Lib.hid fun W => (number_any W 5)
  have C1 := Lib.hid fun W sp => (t_ad ▸ scall_bad W sp frL aC dC (by rw [t_ad]; decide))
  have C2 := Lib.hid fun W sp => (t_a5 ▸ scall_bad W sp frL aC (numC 5) (by rw [t_a5]; decide))
  have C3 := Lib.hid fun W sp => (t_ob ▸ scall_bad W sp frL oC bC (by rw [t_ob]; decide))
  have C4 := Lib.hid fun W sp => (t_ae ▸ scall_bad W sp frL aC eC (by rw [t_ae]; decide))
  have C5 := Lib.hid fun W sp => (t_ba ▸ scall_bad W sp frL bC aC (by rw [t_ba]; decide))
  have C6 := Lib.hid fun W => (scall_nil W frL aC bC)
  have C7 := Lib.hid fun W => (sret_nil W frL)
  obtain ⟨F, hF⟩ : ∃ F, (cat frL).toArray = F := ⟨_, rfl⟩
  rw [hF] at CFR C1 C2 C3 C4 C5 C6 C7
  rw [HZ.out] at C1 C2 C3 C4 C5 C6 C7
  have HF := Lib.hid hF
  have HIC := Lib.hid infoCapS
  have HCA := Lib.hid cell_all
  have AB : ∀ (X : World) (c : Cp), X.alloc (.cells #[.int .u32 c.cur, .int .u8 c.e, .int .u16 c.b, .int .u16 c.t, .int .u16 c.pm, .int .u16 c.ty, .int .u32 c.rs, .bool c.v] 25) = X.alloc (.cells c.cells 25) := fun _ _ => rfl
  have HAB := Lib.hid AB
  clear AB
  obtain ⟨a, ha⟩ : ∃ c, aC = c := ⟨_, rfl⟩
  obtain ⟨b, hb'⟩ : ∃ c, bC = c := ⟨_, rfl⟩
  obtain ⟨d, hd⟩ : ∃ c, dC = c := ⟨_, rfl⟩
  obtain ⟨o, ho⟩ : ∃ c, oC = c := ⟨_, rfl⟩
  obtain ⟨x, hx⟩ : ∃ c, eC = c := ⟨_, rfl⟩
  obtain ⟨a8, ha8⟩ : ∃ c, madeC 512 132 8 = c := ⟨_, rfl⟩
  have HOO : Hid (o = { a with ty := 0 }) := Lib.hid (by rw [← ho, ← ha]; rfl)
  have HEE : Hid (x = { b with pm := 133 }) := Lib.hid (by rw [← hx, ← hb']; rfl)
  have HBP : Hid (b.pm = 129) := Lib.hid (by rw [← hb']; rfl)
  have CP7 : Hid (∀ W, Calls Try.prog 13 #[.int .u16 7] W fun r w' => r = .returned (.tuple #[.agg a.cells, .agg b.cells]) ∧ Fr [] W w') := by rw [← ha, ← hb']; exact CP7
  have CP8 : Hid (∀ W, Calls Try.prog 13 #[.int .u16 8] W fun r w' => r = .returned (.tuple #[.agg a8.cells, .agg d.cells]) ∧ Fr [] W w') := by rw [← ha8, ← hd]; exact CP8
  rw [ha, hd] at C1
  rw [ha] at C2
  rw [ho, hb'] at C3
  rw [ha, hx] at C4
  rw [hb', ha] at C5
  rw [ha, hb'] at C6
  have CK1 := Lib.hid call_k
  have CK2 := Lib.hid call_17
  have CK3 := Lib.hid ret_1
  rw [hF, ha, hb'] at CK1 CK2
  rw [hF] at CK3
  have HTA := Lib.hid t_ab
  rw [ha, hb'] at HTA
  clear ha hb' hd ho hx ha8 hF
  go_enter Try.func5, Try.ntmps5
  go_wp2_with fail
  refine (snew_any _).mono ?_
  rintro e w1 ⟨sp, rfl, hs1, hsp, hf1⟩
  have S1 := Lib.hid hs1
  have F1 := Lib.hid hf1
  have hwsp := hsp
  clear hs1 hf1 hsp
  go_wp2_with fail
  refine (CP7.out _).mono ?_
  rintro e w2 ⟨rfl, hf2⟩
  have S2 := Lib.hid (S1.out.fr0 hf2)
  have F2 := Lib.hid (F1.out.trans0 hf2)
  clear hf2 S1 F1
  have hsp2 := S2.out.1.lt
  have hss2 := F2.out.size
  unfold Cp.cells at CP7
  unfold Cp.cells
  go_wp2_with fail
  rw [HAB.out, HAB.out]
  refine (CP8.out _).mono ?_
  rintro e w3 ⟨rfl, hf3⟩
  have hga : Fr [] w2 ((w2.alloc (.cells a.cells 25)).alloc (.cells b.cells 25)) := (by repeat (first | exact Fr.refl _ _ | assumption | refine Fr.trans0 ?_ (by assumption) | refine Fr.drewN ?_ _ | refine Fr.alloc ?_ _ | refine Fr.drew ?_))
  have A3 := Lib.hid (((At.new w2 25 a.cells).old (.cells b.cells 25)).fr hf3 (by simp))
  have B3 := Lib.hid ((At.newq (w := w2.alloc (.cells a.cells 25)) (g := w2.heap.size + 1) (t := 25) (cs := b.cells) (by simp only [World.size_alloc])).fr hf3 (by simp))
  have S3 := Lib.hid ((S2.out.fr0 hga).fr0 hf3)
  have F3 := Lib.hid ((F2.out.trans0 hga).trans0 hf3)
  obtain ⟨q, hq⟩ : ∃ q, w2.heap.size = q := ⟨_, rfl⟩
  rw [hq] at A3 B3 hsp2 hss2 ⊢
  have hq3 := B3.out.lt
  clear hga hf3 hq S2 F2 CP7
  unfold Cp.cells
  have hor : bits .or .u16 (129 : Int) 4 = 133 := by decide +kernel
  have hpm := HBP.out
  go_upto_region 8 with (first
    | (refine wpList_load_all rfl 25 (.tmp 2) rfl q rfl 25 a.cells _ ((A3.out.old _).old _) Try.underlying25 rfl HIC.out ?_)
    | (refine wpList_store_all rfl 25 (.tmp 6) (.tmp 35) rfl _ a.cells rfl rfl 25 noC.cells (At.newq (by first | rfl | simp only [World.size_alloc, World.size_setCell])) HIC.out rfl (HCA.out a) ?_; intro w4 hA4 hF4; have c5 := hA4.cell 5; have z5 := hA4.froz 5; simp only [Cp.cells, List.getElem?_toArray, List.getElem?_cons_zero, List.getElem?_cons_succ] at c5)
    | (refine wpList_load_all rfl 25 (.tmp 3) rfl (q + 1) rfl 25 b.cells _ (At.far (At.fr (((B3.out.old _).old _).old _) hF4 (by simp <;> omega)) (by simp <;> omega) _) Try.underlying25 rfl HIC.out ?_)
    | (refine wpList_store_all rfl 25 (.tmp 7) (.tmp 37) rfl _ b.cells rfl rfl 25 noC.cells (At.newq (by first | rfl | simp only [World.size_alloc, World.size_setCell])) HIC.out rfl (HCA.out b) ?_; intro w5 hA5 hF5; have c4 := hA5.cell 4; have z4 := hA5.froz 4; simp only [Cp.cells, List.getElem?_toArray, List.getElem?_cons_zero, List.getElem?_cons_succ, hpm] at c4))
  refine wp_named ?_
  intro wB hwB
  have fa1 : Fr [] w3 ((w3.alloc (.cells a8.cells 25)).alloc (.cells d.cells 25)) := (by repeat (first | exact Fr.refl _ _ | assumption | refine Fr.trans0 ?_ (by assumption) | refine Fr.drewN ?_ _ | refine Fr.alloc ?_ _ | refine Fr.drew ?_))
  have fa2 : Fr [] w3 (((w3.alloc (.cells a8.cells 25)).alloc (.cells d.cells 25)).alloc (.cells noC.cells 25)) := (by repeat (first | exact Fr.refl _ _ | assumption | refine Fr.trans0 ?_ (by assumption) | refine Fr.drewN ?_ _ | refine Fr.alloc ?_ _ | refine Fr.drew ?_))
  have fb : Fr [] w3 (w4.setCell ⟨w3.heap.size + 1 + 1, 5, none⟩ (.int .u16 0)) := (fa2.trans hF4 (by simp <;> omega)).set (.inr (by simp <;> omega)) _
  have hw4 := fb.size
  rw [World.size_setCell] at hw4
  have h45 : w3.heap.size + 1 + 1 < w4.heap.size := hA4.lt
  have fc : Fr [] w3 wB := by rw [hwB]; exact ((fb.alloc _).trans hF5 (by simp <;> omega)).set (.inr (by simp <;> omega)) _
  have AX := Lib.hid (A3.out.fr fc (by simp))
  have BX := Lib.hid (B3.out.fr fc (by simp))
  have KS := Lib.hid (S3.out.fr0 fc)
  have KF0 := Lib.hid (F3.out.trans0 fc)
  have D1 : At ((w3.alloc (.cells a8.cells 25)).alloc (.cells d.cells 25)) (w3.heap.size + 1) 25 d.cells := At.newq (by simp only [World.size_alloc])
  have D2 : At (w4.setCell ⟨w3.heap.size + 1 + 1, 5, none⟩ (.int .u16 0)) (w3.heap.size + 1) 25 d.cells := ((D1.old _).fr hF4 (by simp <;> omega)).far (by simp <;> omega) _
  have DX := Lib.hid (show At wB (w3.heap.size + 1) 25 d.cells by rw [hwB]; exact ((D2.old _).fr hF5 (by simp <;> omega)).far (by simp <;> omega) _)
  have O2 : At (w4.setCell ⟨w3.heap.size + 1 + 1, 5, none⟩ (.int .u16 0)) (w3.heap.size + 1 + 1) 25 o.cells := by rw [HOO.out]; exact hA4.set 5 (.int .u16 0)
  have OX := Lib.hid (show At wB (w3.heap.size + 1 + 1) 25 o.cells by rw [hwB]; exact ((O2.old _).fr hF5 (by simp <;> omega)).far (by simp <;> omega) _)
  have EX := Lib.hid (show At wB w4.heap.size 25 x.cells by rw [hwB, HEE.out]; exact hA5.set 4 (.int .u16 133))
  have KF : Hid (Fr [] wB wB) := Lib.hid (Fr.refl _ _)
  have hspq : sp < q := hsp2
  clear hwB fa1 fa2 fb fc D1 D2 O2 hF4 hF5 hA4 hA5 c5 z5 c4 z4 A3 B3 S3 F3 hor hpm HOO HEE HBP hw4
  have HAC : ∀ c : Cp, #[Value.int .u32 c.cur, .int .u8 c.e, .int .u16 c.b, .int .u16 c.t, .int .u16 c.pm, .int .u16 c.ty, .int .u32 c.rs, .bool c.v] = c.cells := fun _ => rfl
  simp only [HAC]
  clear HAC
  have C1 := Lib.hid fun W (h : Fr [] wB W) => C1.out W sp
  have C2 := Lib.hid fun W (h : Fr [] wB W) => C2.out W sp
  have C3 := Lib.hid fun W (h : Fr [] wB W) => C3.out W sp
  have C4 := Lib.hid fun W (h : Fr [] wB W) => C4.out W sp
  have C5 := Lib.hid fun W (h : Fr [] wB W) => C5.out W sp
  obtain ⟨r, hr⟩ : ∃ r, w3.heap.size = r := ⟨_, rfl⟩
  obtain ⟨r4, hr4⟩ : ∃ r, w4.heap.size = r := ⟨_, rfl⟩
  rw [hr] at DX OX h45
  rw [hr4] at EX h45
  rw [hr, hr4]
  clear hr hr4
  go_cut [8, 9] (fun s6 s7 wx => ∃ B : Nat, s6 = .pointer (some ⟨B, 0, none⟩) ∧ s7 = .int .i64 8 ∧ Fr [] wB wx)
  case first =>
    as_aux_lemma =>
      refine wp_region_L (fun W => Fr [] wB W) [] (by kernel_rfl) KF.out.drew (fun hHeld => ?_)
      refine wpAnyL_take (i := 0) (v := ?_) rfl (by kernel_rfl) (fun _ _ _ h => h) (Or.inl ⟨by rfl, ?_⟩) (by assumption) ?_; rotate_left; (focus (intro w hSw; skip; go_simp; (try with_reducible rfl))); (try (refine wpAnyL_norm (by simp only [Act.put, List.setIfInBounds_toArray, List.set_cons_zero, List.set_cons_succ]; rfl) ?_))
      refine wpAnyL_take (i := 2) rfl (by kernel_rfl) (fun _ _ _ h => h) (yields_load_cp (.tmp 2) rfl q rfl 25 a (fun W h => AX.out.fr h (by simp)) rfl) (by assumption) ?_; (try (refine wpAnyL_norm (by simp only [Act.put, List.setIfInBounds_toArray, List.set_cons_zero, List.set_cons_succ]; rfl) ?_))
      refine wpAnyL_take (i := 3) rfl (by kernel_rfl) (fun _ _ _ h => h) (yields_load_cp (.tmp 5) rfl (r + 1) rfl 25 d (fun W h => DX.out.fr h (by simp)) rfl) (by assumption) ?_; (try (refine wpAnyL_norm (by simp only [Act.put, List.setIfInBounds_toArray, List.set_cons_zero, List.set_cons_succ]; rfl) ?_))
      refine wpAnyL_ready (rs := [1, 8]) (by kernel_rfl) (by simp) ?_
      refine AllReadyL.cons rfl (fun K hK => ?_) (AllReadyL.cons rfl (fun K hK => ?_) AllReadyL.nil)
      · go_simp
        refine (CFR.out _).mono ?_
        rintro e w3 ⟨rfl, hf3⟩
        refine hK.out _ _ (fun _ => hHeld.trans0 hf3) (fun hHeld' => ?_); have hHeld := hHeld' (by decide); clear hHeld' hK K; (try (refine wpAnyL_norm (by simp only [Act.put, List.setIfInBounds_toArray, List.set_cons_zero, List.set_cons_succ]; rfl) ?_))
        refine wpAnyL_ready (rs := [4, 8]) (by kernel_rfl) (by simp) ?_
        refine AllReadyL.cons rfl (fun K hK => ?_) (AllReadyL.cons rfl (fun K hK => ?_) AllReadyL.nil)
        · go_simp
          refine (C1.out _ hHeld).mono ?_
          rintro e w4 ⟨rfl, hf4⟩
          refine hK.out _ _ (fun _ => hHeld.trans0 hf4) (fun hHeld' => ?_); have hHeld := hHeld' (by decide); clear hHeld' hK K; (try (refine wpAnyL_norm (by simp only [Act.put, List.setIfInBounds_toArray, List.set_cons_zero, List.set_cons_succ]; rfl) ?_))
          refine wpAnyL_take (i := 5) (v := ?_) rfl (by kernel_rfl) (fun _ _ _ h => h) (Or.inl ⟨by rfl, ?_⟩) (by assumption) ?_; rotate_left; (focus (intro w hSw; skip; go_simp; (try with_reducible rfl))); (try (refine wpAnyL_norm (by simp only [Act.put, List.setIfInBounds_toArray, List.set_cons_zero, List.set_cons_succ]; rfl) ?_))
          refine wpAnyL_take (i := 6) (v := ?_) rfl (by kernel_rfl) (fun _ _ _ h => h) (Or.inl ⟨by rfl, ?_⟩) (by assumption) ?_; rotate_left; (focus (intro w hSw; skip; go_simp; (try with_reducible rfl))); (try (refine wpAnyL_norm (by simp only [Act.put, List.setIfInBounds_toArray, List.set_cons_zero, List.set_cons_succ]; rfl) ?_))
          refine wpAnyL_take (i := 7) (v := ?_) rfl (by kernel_rfl) (fun _ _ _ h => h) (Or.inl ⟨by rfl, ?_⟩) (by assumption) ?_; rotate_left; (focus (intro w hSw; skip; go_simp; (try with_reducible rfl))); (try (refine wpAnyL_norm (by simp only [Act.put, List.setIfInBounds_toArray, List.set_cons_zero, List.set_cons_succ]; rfl) ?_))
          refine wpAnyL_ready (rs := [8]) (by kernel_rfl) (by simp) ?_; refine AllReadyL.cons rfl (fun K hK => ?_) AllReadyL.nil
          go_simp
          have hZ4 := At.new w4 31 Z
          have hz4 := hHeld.size
          refine hK.out _ _ (fun _ => hHeld.alloc (.cells Z 31)) (fun hHeld' => ?_); have hHeld := hHeld' (by decide); clear hHeld' hK K; (try (refine wpAnyL_norm (by simp only [Act.put, List.setIfInBounds_toArray, List.set_cons_zero, List.set_cons_succ]; rfl) ?_))
          refine wpAnyL_ready (rs := [9]) (by kernel_rfl) (by simp) ?_; refine AllReadyL.cons rfl (fun K hK => ?_) AllReadyL.nil
          rw [if_pos (by rfl)]
          refine wp_store_all 31 (.tmp 8) (.tmp 48) rfl _ Z rfl rfl 31 Z hZ4 ZI.out rfl ZA.out ?_
          intro w9 hA9 hF9
          refine hK.out _ _ (fun _ => hHeld.trans hF9 (by have := hz4; simp <;> omega)) (fun hHeld' => ?_); have hHeld := hHeld' (by decide); clear hHeld' hK K; (try (refine wpAnyL_norm (by simp only [Act.put, List.setIfInBounds_toArray, List.set_cons_zero, List.set_cons_succ]; rfl) ?_))
          refine wpAnyL_take (i := 10) (v := ?_) rfl (by kernel_rfl) (fun _ _ _ h => h) (Or.inl ⟨by rfl, ?_⟩) (by assumption) ?_; rotate_left; (focus (intro w hSw; skip; go_simp; (try with_reducible rfl))); (try (refine wpAnyL_norm (by simp only [Act.put, List.setIfInBounds_toArray, List.set_cons_zero, List.set_cons_succ]; rfl) ?_))
          refine wpAnyL_done (by kernel_rfl) ?_ _
          go_wp2_with fail
          go_meet
          exact ⟨_, rfl, rfl, hHeld⟩
        · go_simp
          have hZ3 := At.new w3 31 Z
          have hz4 := hHeld.size
          refine hK.out _ _ (fun _ => hHeld.alloc (.cells Z 31)) (fun hHeld' => ?_); have hHeld := hHeld' (by decide); clear hHeld' hK K; (try (refine wpAnyL_norm (by simp only [Act.put, List.setIfInBounds_toArray, List.set_cons_zero, List.set_cons_succ]; rfl) ?_))
          refine wpAnyL_ready (rs := [4]) (by kernel_rfl) (by simp) ?_; refine AllReadyL.cons rfl (fun K hK => ?_) AllReadyL.nil
          go_simp
          refine (C1.out _ hHeld).mono ?_
          rintro e w4 ⟨rfl, hf4⟩
          refine hK.out _ _ (fun _ => hHeld.trans0 hf4) (fun hHeld' => ?_); have hHeld := hHeld' (by decide); clear hHeld' hK K; (try (refine wpAnyL_norm (by simp only [Act.put, List.setIfInBounds_toArray, List.set_cons_zero, List.set_cons_succ]; rfl) ?_))
          have hZ4 := hZ3.fr hf4 (by simp)
          refine wpAnyL_take (i := 5) (v := ?_) rfl (by kernel_rfl) (fun _ _ _ h => h) (Or.inl ⟨by rfl, ?_⟩) (by assumption) ?_; rotate_left; (focus (intro w hSw; skip; go_simp; (try with_reducible rfl))); (try (refine wpAnyL_norm (by simp only [Act.put, List.setIfInBounds_toArray, List.set_cons_zero, List.set_cons_succ]; rfl) ?_))
          refine wpAnyL_take (i := 6) (v := ?_) rfl (by kernel_rfl) (fun _ _ _ h => h) (Or.inl ⟨by rfl, ?_⟩) (by assumption) ?_; rotate_left; (focus (intro w hSw; skip; go_simp; (try with_reducible rfl))); (try (refine wpAnyL_norm (by simp only [Act.put, List.setIfInBounds_toArray, List.set_cons_zero, List.set_cons_succ]; rfl) ?_))
          refine wpAnyL_take (i := 7) (v := ?_) rfl (by kernel_rfl) (fun _ _ _ h => h) (Or.inl ⟨by rfl, ?_⟩) (by assumption) ?_; rotate_left; (focus (intro w hSw; skip; go_simp; (try with_reducible rfl))); (try (refine wpAnyL_norm (by simp only [Act.put, List.setIfInBounds_toArray, List.set_cons_zero, List.set_cons_succ]; rfl) ?_))
          refine wpAnyL_ready (rs := [9]) (by kernel_rfl) (by simp) ?_; refine AllReadyL.cons rfl (fun K hK => ?_) AllReadyL.nil
          rw [if_pos (by rfl)]
          refine wp_store_all 31 (.tmp 8) (.tmp 48) rfl _ Z rfl rfl 31 Z hZ4 ZI.out rfl ZA.out ?_
          intro w9 hA9 hF9
          refine hK.out _ _ (fun _ => hHeld.trans hF9 (by have := hz4; simp <;> omega)) (fun hHeld' => ?_); have hHeld := hHeld' (by decide); clear hHeld' hK K; (try (refine wpAnyL_norm (by simp only [Act.put, List.setIfInBounds_toArray, List.set_cons_zero, List.set_cons_succ]; rfl) ?_))
          refine wpAnyL_take (i := 10) (v := ?_) rfl (by kernel_rfl) (fun _ _ _ h => h) (Or.inl ⟨by rfl, ?_⟩) (by assumption) ?_; rotate_left; (focus (intro w hSw; skip; go_simp; (try with_reducible rfl))); (try (refine wpAnyL_norm (by simp only [Act.put, List.setIfInBounds_toArray, List.set_cons_zero, List.set_cons_succ]; rfl) ?_))
          refine wpAnyL_done (by kernel_rfl) ?_ _
          go_wp2_with fail
          go_meet
          exact ⟨_, rfl, rfl, hHeld⟩
      · go_simp
        have hz4 := hHeld.size
        have hZ3 : At (wB.alloc (.cells Z 31)).drew wB.heap.size 31 Z := At.new wB 31 Z
        have hz4 : wB.heap.size ≤ wB.heap.size := hz4
        refine hK.out _ _ (fun _ => (KF.out.alloc (.cells Z 31)).drew) (fun hHeld' => ?_); have hHeld := hHeld' (by decide); clear hHeld' hK K; (try (refine wpAnyL_norm (by simp only [Act.put, List.setIfInBounds_toArray, List.set_cons_zero, List.set_cons_succ]; rfl) ?_))
        refine wpAnyL_ready (rs := [1]) (by kernel_rfl) (by simp) ?_; refine AllReadyL.cons rfl (fun K hK => ?_) AllReadyL.nil
        go_simp
        refine (CFR.out _).mono ?_
        rintro e w3 ⟨rfl, hf3⟩
        refine hK.out _ _ (fun _ => hHeld.trans0 hf3) (fun hHeld' => ?_); have hHeld := hHeld' (by decide); clear hHeld' hK K; (try (refine wpAnyL_norm (by simp only [Act.put, List.setIfInBounds_toArray, List.set_cons_zero, List.set_cons_succ]; rfl) ?_))
        refine wpAnyL_ready (rs := [4]) (by kernel_rfl) (by simp) ?_; refine AllReadyL.cons rfl (fun K hK => ?_) AllReadyL.nil
        go_simp
        refine (C1.out _ hHeld).mono ?_
        rintro e w4 ⟨rfl, hf4⟩
        refine hK.out _ _ (fun _ => hHeld.trans0 hf4) (fun hHeld' => ?_); have hHeld := hHeld' (by decide); clear hHeld' hK K; (try (refine wpAnyL_norm (by simp only [Act.put, List.setIfInBounds_toArray, List.set_cons_zero, List.set_cons_succ]; rfl) ?_))
        have hZ4 := (hZ3.fr hf3 (by simp)).fr hf4 (by simp)
        refine wpAnyL_take (i := 5) (v := ?_) rfl (by kernel_rfl) (fun _ _ _ h => h) (Or.inl ⟨by rfl, ?_⟩) (by assumption) ?_; rotate_left; (focus (intro w hSw; skip; go_simp; (try with_reducible rfl))); (try (refine wpAnyL_norm (by simp only [Act.put, List.setIfInBounds_toArray, List.set_cons_zero, List.set_cons_succ]; rfl) ?_))
        refine wpAnyL_take (i := 6) (v := ?_) rfl (by kernel_rfl) (fun _ _ _ h => h) (Or.inl ⟨by rfl, ?_⟩) (by assumption) ?_; rotate_left; (focus (intro w hSw; skip; go_simp; (try with_reducible rfl))); (try (refine wpAnyL_norm (by simp only [Act.put, List.setIfInBounds_toArray, List.set_cons_zero, List.set_cons_succ]; rfl) ?_))
        refine wpAnyL_take (i := 7) (v := ?_) rfl (by kernel_rfl) (fun _ _ _ h => h) (Or.inl ⟨by rfl, ?_⟩) (by assumption) ?_; rotate_left; (focus (intro w hSw; skip; go_simp; (try with_reducible rfl))); (try (refine wpAnyL_norm (by simp only [Act.put, List.setIfInBounds_toArray, List.set_cons_zero, List.set_cons_succ]; rfl) ?_))
        refine wpAnyL_ready (rs := [9]) (by kernel_rfl) (by simp) ?_; refine AllReadyL.cons rfl (fun K hK => ?_) AllReadyL.nil
        rw [if_pos (by rfl)]
        refine wp_store_all 31 (.tmp 8) (.tmp 48) rfl _ Z rfl rfl 31 Z hZ4 ZI.out rfl ZA.out ?_
        intro w9 hA9 hF9
        refine hK.out _ _ (fun _ => hHeld.trans hF9 (by have := hz4; simp <;> omega)) (fun hHeld' => ?_); have hHeld := hHeld' (by decide); clear hHeld' hK K; (try (refine wpAnyL_norm (by simp only [Act.put, List.setIfInBounds_toArray, List.set_cons_zero, List.set_cons_succ]; rfl) ?_))
        refine wpAnyL_take (i := 10) (v := ?_) rfl (by kernel_rfl) (fun _ _ _ h => h) (Or.inl ⟨by rfl, ?_⟩) (by assumption) ?_; rotate_left; (focus (intro w hSw; skip; go_simp; (try with_reducible rfl))); (try (refine wpAnyL_norm (by simp only [Act.put, List.setIfInBounds_toArray, List.set_cons_zero, List.set_cons_succ]; rfl) ?_))
        refine wpAnyL_done (by kernel_rfl) ?_ _
        go_wp2_with fail
        go_meet
        exact ⟨_, rfl, rfl, hHeld⟩
  obtain ⟨B8, h6, h7, hf⟩ := hcut
  subst h6 h7
  rename World => w8
  have KF := Lib.hid hf
  clear hf
  go_upto_region 9 with (fail)
  go_cut [10, 11] (fun s6 s7 wx => ∃ B : Nat, s6 = .pointer (some ⟨B, 0, none⟩) ∧ s7 = .int .i64 1 ∧ Fr [] wB wx)
  case first =>
    as_aux_lemma =>
      refine wp_region_L (fun W => Fr [] wB W) [] (by kernel_rfl) KF.out.drew (fun hHeld => ?_)
      refine wpAnyL_take (i := 0) (v := ?_) rfl (by kernel_rfl) (fun _ _ _ h => h) (Or.inl ⟨by rfl, ?_⟩) (by assumption) ?_; rotate_left; (focus (intro w hSw; skip; go_simp; (try with_reducible rfl))); (try (refine wpAnyL_norm (by simp only [Act.put, List.setIfInBounds_toArray, List.set_cons_zero, List.set_cons_succ]; rfl) ?_))
      refine wpAnyL_take (i := 2) rfl (by kernel_rfl) (fun _ _ _ h => h) (yields_load_cp (.tmp 2) rfl q rfl 25 a (fun W h => AX.out.fr h (by simp)) rfl) (by assumption) ?_; (try (refine wpAnyL_norm (by simp only [Act.put, List.setIfInBounds_toArray, List.set_cons_zero, List.set_cons_succ]; rfl) ?_))
      refine wpAnyL_ready (rs := [1, 8]) (by kernel_rfl) (by simp) ?_
      refine AllReadyL.cons rfl (fun K hK => ?_) (AllReadyL.cons rfl (fun K hK => ?_) AllReadyL.nil)
      · go_simp
        refine (CFR.out _).mono ?_
        rintro e w3 ⟨rfl, hf3⟩
        refine hK.out _ _ (fun _ => hHeld.trans0 hf3) (fun hHeld' => ?_); have hHeld := hHeld' (by decide); clear hHeld' hK K; (try (refine wpAnyL_norm (by simp only [Act.put, List.setIfInBounds_toArray, List.set_cons_zero, List.set_cons_succ]; rfl) ?_))
        refine wpAnyL_ready (rs := [3, 8]) (by kernel_rfl) (by simp) ?_
        refine AllReadyL.cons rfl (fun K hK => ?_) (AllReadyL.cons rfl (fun K hK => ?_) AllReadyL.nil)
        · go_simp
          refine (CN5.out _).mono ?_
          rintro e w5 ⟨rfl, hf5⟩
          refine hK.out _ _ (fun _ => hHeld.trans0 hf5) (fun hHeld' => ?_); have hHeld := hHeld' (by decide); clear hHeld' hK K; (try (refine wpAnyL_norm (by simp only [Act.put, List.setIfInBounds_toArray, List.set_cons_zero, List.set_cons_succ]; rfl) ?_))
          refine wpAnyL_ready (rs := [4, 8]) (by kernel_rfl) (by simp) ?_
          refine AllReadyL.cons rfl (fun K hK => ?_) (AllReadyL.cons rfl (fun K hK => ?_) AllReadyL.nil)
          · go_simp
            refine (C2.out _ hHeld).mono ?_
            rintro e w4 ⟨rfl, hf4⟩
            refine hK.out _ _ (fun _ => hHeld.trans0 hf4) (fun hHeld' => ?_); have hHeld := hHeld' (by decide); clear hHeld' hK K; (try (refine wpAnyL_norm (by simp only [Act.put, List.setIfInBounds_toArray, List.set_cons_zero, List.set_cons_succ]; rfl) ?_))
            refine wpAnyL_take (i := 5) (v := ?_) rfl (by kernel_rfl) (fun _ _ _ h => h) (Or.inl ⟨by rfl, ?_⟩) (by assumption) ?_; rotate_left; (focus (intro w hSw; skip; go_simp; (try with_reducible rfl))); (try (refine wpAnyL_norm (by simp only [Act.put, List.setIfInBounds_toArray, List.set_cons_zero, List.set_cons_succ]; rfl) ?_))
            refine wpAnyL_take (i := 6) (v := ?_) rfl (by kernel_rfl) (fun _ _ _ h => h) (Or.inl ⟨by rfl, ?_⟩) (by assumption) ?_; rotate_left; (focus (intro w hSw; skip; go_simp; (try with_reducible rfl))); (try (refine wpAnyL_norm (by simp only [Act.put, List.setIfInBounds_toArray, List.set_cons_zero, List.set_cons_succ]; rfl) ?_))
            refine wpAnyL_take (i := 7) (v := ?_) rfl (by kernel_rfl) (fun _ _ _ h => h) (Or.inl ⟨by rfl, ?_⟩) (by assumption) ?_; rotate_left; (focus (intro w hSw; skip; go_simp; (try with_reducible rfl))); (try (refine wpAnyL_norm (by simp only [Act.put, List.setIfInBounds_toArray, List.set_cons_zero, List.set_cons_succ]; rfl) ?_))
            refine wpAnyL_ready (rs := [8]) (by kernel_rfl) (by simp) ?_; refine AllReadyL.cons rfl (fun K hK => ?_) AllReadyL.nil
            go_simp
            have hZ4 := At.new w4 31 Z
            have hz4 := hHeld.size
            refine hK.out _ _ (fun _ => hHeld.alloc (.cells Z 31)) (fun hHeld' => ?_); have hHeld := hHeld' (by decide); clear hHeld' hK K; (try (refine wpAnyL_norm (by simp only [Act.put, List.setIfInBounds_toArray, List.set_cons_zero, List.set_cons_succ]; rfl) ?_))
            refine wpAnyL_ready (rs := [9]) (by kernel_rfl) (by simp) ?_; refine AllReadyL.cons rfl (fun K hK => ?_) AllReadyL.nil
            rw [if_pos (by rfl)]
            refine wp_store_all 31 (.tmp 10) (.tmp 56) rfl _ Z rfl rfl 31 Z hZ4 ZI.out rfl ZA.out ?_
            intro w9 hA9 hF9
            refine hK.out _ _ (fun _ => hHeld.trans hF9 (by have := hz4; simp <;> omega)) (fun hHeld' => ?_); have hHeld := hHeld' (by decide); clear hHeld' hK K; (try (refine wpAnyL_norm (by simp only [Act.put, List.setIfInBounds_toArray, List.set_cons_zero, List.set_cons_succ]; rfl) ?_))
            refine wpAnyL_take (i := 10) (v := ?_) rfl (by kernel_rfl) (fun _ _ _ h => h) (Or.inl ⟨by rfl, ?_⟩) (by assumption) ?_; rotate_left; (focus (intro w hSw; skip; go_simp; (try with_reducible rfl))); (try (refine wpAnyL_norm (by simp only [Act.put, List.setIfInBounds_toArray, List.set_cons_zero, List.set_cons_succ]; rfl) ?_))
            refine wpAnyL_done (by kernel_rfl) ?_ _
            go_wp2_with fail
            go_meet
            exact ⟨_, rfl, rfl, hHeld⟩
          · go_simp
            have hZ3 := At.new w5 31 Z
            have hz4 := hHeld.size
            refine hK.out _ _ (fun _ => hHeld.alloc (.cells Z 31)) (fun hHeld' => ?_); have hHeld := hHeld' (by decide); clear hHeld' hK K; (try (refine wpAnyL_norm (by simp only [Act.put, List.setIfInBounds_toArray, List.set_cons_zero, List.set_cons_succ]; rfl) ?_))
            refine wpAnyL_ready (rs := [4]) (by kernel_rfl) (by simp) ?_; refine AllReadyL.cons rfl (fun K hK => ?_) AllReadyL.nil
            go_simp
            refine (C2.out _ hHeld).mono ?_
            rintro e w4 ⟨rfl, hf4⟩
            refine hK.out _ _ (fun _ => hHeld.trans0 hf4) (fun hHeld' => ?_); have hHeld := hHeld' (by decide); clear hHeld' hK K; (try (refine wpAnyL_norm (by simp only [Act.put, List.setIfInBounds_toArray, List.set_cons_zero, List.set_cons_succ]; rfl) ?_))
            have hZ4 := hZ3.fr hf4 (by simp)
            refine wpAnyL_take (i := 5) (v := ?_) rfl (by kernel_rfl) (fun _ _ _ h => h) (Or.inl ⟨by rfl, ?_⟩) (by assumption) ?_; rotate_left; (focus (intro w hSw; skip; go_simp; (try with_reducible rfl))); (try (refine wpAnyL_norm (by simp only [Act.put, List.setIfInBounds_toArray, List.set_cons_zero, List.set_cons_succ]; rfl) ?_))
            refine wpAnyL_take (i := 6) (v := ?_) rfl (by kernel_rfl) (fun _ _ _ h => h) (Or.inl ⟨by rfl, ?_⟩) (by assumption) ?_; rotate_left; (focus (intro w hSw; skip; go_simp; (try with_reducible rfl))); (try (refine wpAnyL_norm (by simp only [Act.put, List.setIfInBounds_toArray, List.set_cons_zero, List.set_cons_succ]; rfl) ?_))
            refine wpAnyL_take (i := 7) (v := ?_) rfl (by kernel_rfl) (fun _ _ _ h => h) (Or.inl ⟨by rfl, ?_⟩) (by assumption) ?_; rotate_left; (focus (intro w hSw; skip; go_simp; (try with_reducible rfl))); (try (refine wpAnyL_norm (by simp only [Act.put, List.setIfInBounds_toArray, List.set_cons_zero, List.set_cons_succ]; rfl) ?_))
            refine wpAnyL_ready (rs := [9]) (by kernel_rfl) (by simp) ?_; refine AllReadyL.cons rfl (fun K hK => ?_) AllReadyL.nil
            rw [if_pos (by rfl)]
            refine wp_store_all 31 (.tmp 10) (.tmp 56) rfl _ Z rfl rfl 31 Z hZ4 ZI.out rfl ZA.out ?_
            intro w9 hA9 hF9
            refine hK.out _ _ (fun _ => hHeld.trans hF9 (by have := hz4; simp <;> omega)) (fun hHeld' => ?_); have hHeld := hHeld' (by decide); clear hHeld' hK K; (try (refine wpAnyL_norm (by simp only [Act.put, List.setIfInBounds_toArray, List.set_cons_zero, List.set_cons_succ]; rfl) ?_))
            refine wpAnyL_take (i := 10) (v := ?_) rfl (by kernel_rfl) (fun _ _ _ h => h) (Or.inl ⟨by rfl, ?_⟩) (by assumption) ?_; rotate_left; (focus (intro w hSw; skip; go_simp; (try with_reducible rfl))); (try (refine wpAnyL_norm (by simp only [Act.put, List.setIfInBounds_toArray, List.set_cons_zero, List.set_cons_succ]; rfl) ?_))
            refine wpAnyL_done (by kernel_rfl) ?_ _
            go_wp2_with fail
            go_meet
            exact ⟨_, rfl, rfl, hHeld⟩
        · go_simp
          have hZ3 := At.new w3 31 Z
          have hz4 := hHeld.size
          refine hK.out _ _ (fun _ => hHeld.alloc (.cells Z 31)) (fun hHeld' => ?_); have hHeld := hHeld' (by decide); clear hHeld' hK K; (try (refine wpAnyL_norm (by simp only [Act.put, List.setIfInBounds_toArray, List.set_cons_zero, List.set_cons_succ]; rfl) ?_))
          refine wpAnyL_ready (rs := [3]) (by kernel_rfl) (by simp) ?_; refine AllReadyL.cons rfl (fun K hK => ?_) AllReadyL.nil
          go_simp
          refine (CN5.out _).mono ?_
          rintro e w5 ⟨rfl, hf5⟩
          refine hK.out _ _ (fun _ => hHeld.trans0 hf5) (fun hHeld' => ?_); have hHeld := hHeld' (by decide); clear hHeld' hK K; (try (refine wpAnyL_norm (by simp only [Act.put, List.setIfInBounds_toArray, List.set_cons_zero, List.set_cons_succ]; rfl) ?_))
          refine wpAnyL_ready (rs := [4]) (by kernel_rfl) (by simp) ?_; refine AllReadyL.cons rfl (fun K hK => ?_) AllReadyL.nil
          go_simp
          refine (C2.out _ hHeld).mono ?_
          rintro e w4 ⟨rfl, hf4⟩
          refine hK.out _ _ (fun _ => hHeld.trans0 hf4) (fun hHeld' => ?_); have hHeld := hHeld' (by decide); clear hHeld' hK K; (try (refine wpAnyL_norm (by simp only [Act.put, List.setIfInBounds_toArray, List.set_cons_zero, List.set_cons_succ]; rfl) ?_))
          have hZ4 := (hZ3.fr hf5 (by simp)).fr hf4 (by simp)
          refine wpAnyL_take (i := 5) (v := ?_) rfl (by kernel_rfl) (fun _ _ _ h => h) (Or.inl ⟨by rfl, ?_⟩) (by assumption) ?_; rotate_left; (focus (intro w hSw; skip; go_simp; (try with_reducible rfl))); (try (refine wpAnyL_norm (by simp only [Act.put, List.setIfInBounds_toArray, List.set_cons_zero, List.set_cons_succ]; rfl) ?_))
          refine wpAnyL_take (i := 6) (v := ?_) rfl (by kernel_rfl) (fun _ _ _ h => h) (Or.inl ⟨by rfl, ?_⟩) (by assumption) ?_; rotate_left; (focus (intro w hSw; skip; go_simp; (try with_reducible rfl))); (try (refine wpAnyL_norm (by simp only [Act.put, List.setIfInBounds_toArray, List.set_cons_zero, List.set_cons_succ]; rfl) ?_))
          refine wpAnyL_take (i := 7) (v := ?_) rfl (by kernel_rfl) (fun _ _ _ h => h) (Or.inl ⟨by rfl, ?_⟩) (by assumption) ?_; rotate_left; (focus (intro w hSw; skip; go_simp; (try with_reducible rfl))); (try (refine wpAnyL_norm (by simp only [Act.put, List.setIfInBounds_toArray, List.set_cons_zero, List.set_cons_succ]; rfl) ?_))
          refine wpAnyL_ready (rs := [9]) (by kernel_rfl) (by simp) ?_; refine AllReadyL.cons rfl (fun K hK => ?_) AllReadyL.nil
          rw [if_pos (by rfl)]
          refine wp_store_all 31 (.tmp 10) (.tmp 56) rfl _ Z rfl rfl 31 Z hZ4 ZI.out rfl ZA.out ?_
          intro w9 hA9 hF9
          refine hK.out _ _ (fun _ => hHeld.trans hF9 (by have := hz4; simp <;> omega)) (fun hHeld' => ?_); have hHeld := hHeld' (by decide); clear hHeld' hK K; (try (refine wpAnyL_norm (by simp only [Act.put, List.setIfInBounds_toArray, List.set_cons_zero, List.set_cons_succ]; rfl) ?_))
          refine wpAnyL_take (i := 10) (v := ?_) rfl (by kernel_rfl) (fun _ _ _ h => h) (Or.inl ⟨by rfl, ?_⟩) (by assumption) ?_; rotate_left; (focus (intro w hSw; skip; go_simp; (try with_reducible rfl))); (try (refine wpAnyL_norm (by simp only [Act.put, List.setIfInBounds_toArray, List.set_cons_zero, List.set_cons_succ]; rfl) ?_))
          refine wpAnyL_done (by kernel_rfl) ?_ _
          go_wp2_with fail
          go_meet
          exact ⟨_, rfl, rfl, hHeld⟩
      · go_simp
        have hz4 := hHeld.size
        have hZ3 : At (w8.alloc (.cells Z 31)).drew w8.heap.size 31 Z := At.new w8 31 Z
        have hz4 : wB.heap.size ≤ w8.heap.size := hz4
        refine hK.out _ _ (fun _ => (KF.out.alloc (.cells Z 31)).drew) (fun hHeld' => ?_); have hHeld := hHeld' (by decide); clear hHeld' hK K; (try (refine wpAnyL_norm (by simp only [Act.put, List.setIfInBounds_toArray, List.set_cons_zero, List.set_cons_succ]; rfl) ?_))
        refine wpAnyL_ready (rs := [1]) (by kernel_rfl) (by simp) ?_; refine AllReadyL.cons rfl (fun K hK => ?_) AllReadyL.nil
        go_simp
        refine (CFR.out _).mono ?_
        rintro e w3 ⟨rfl, hf3⟩
        refine hK.out _ _ (fun _ => hHeld.trans0 hf3) (fun hHeld' => ?_); have hHeld := hHeld' (by decide); clear hHeld' hK K; (try (refine wpAnyL_norm (by simp only [Act.put, List.setIfInBounds_toArray, List.set_cons_zero, List.set_cons_succ]; rfl) ?_))
        refine wpAnyL_ready (rs := [3]) (by kernel_rfl) (by simp) ?_; refine AllReadyL.cons rfl (fun K hK => ?_) AllReadyL.nil
        go_simp
        refine (CN5.out _).mono ?_
        rintro e w5 ⟨rfl, hf5⟩
        refine hK.out _ _ (fun _ => hHeld.trans0 hf5) (fun hHeld' => ?_); have hHeld := hHeld' (by decide); clear hHeld' hK K; (try (refine wpAnyL_norm (by simp only [Act.put, List.setIfInBounds_toArray, List.set_cons_zero, List.set_cons_succ]; rfl) ?_))
        refine wpAnyL_ready (rs := [4]) (by kernel_rfl) (by simp) ?_; refine AllReadyL.cons rfl (fun K hK => ?_) AllReadyL.nil
        go_simp
        refine (C2.out _ hHeld).mono ?_
        rintro e w4 ⟨rfl, hf4⟩
        refine hK.out _ _ (fun _ => hHeld.trans0 hf4) (fun hHeld' => ?_); have hHeld := hHeld' (by decide); clear hHeld' hK K; (try (refine wpAnyL_norm (by simp only [Act.put, List.setIfInBounds_toArray, List.set_cons_zero, List.set_cons_succ]; rfl) ?_))
        have hZ4 := ((hZ3.fr hf3 (by simp)).fr hf5 (by simp)).fr hf4 (by simp)
        refine wpAnyL_take (i := 5) (v := ?_) rfl (by kernel_rfl) (fun _ _ _ h => h) (Or.inl ⟨by rfl, ?_⟩) (by assumption) ?_; rotate_left; (focus (intro w hSw; skip; go_simp; (try with_reducible rfl))); (try (refine wpAnyL_norm (by simp only [Act.put, List.setIfInBounds_toArray, List.set_cons_zero, List.set_cons_succ]; rfl) ?_))
        refine wpAnyL_take (i := 6) (v := ?_) rfl (by kernel_rfl) (fun _ _ _ h => h) (Or.inl ⟨by rfl, ?_⟩) (by assumption) ?_; rotate_left; (focus (intro w hSw; skip; go_simp; (try with_reducible rfl))); (try (refine wpAnyL_norm (by simp only [Act.put, List.setIfInBounds_toArray, List.set_cons_zero, List.set_cons_succ]; rfl) ?_))
        refine wpAnyL_take (i := 7) (v := ?_) rfl (by kernel_rfl) (fun _ _ _ h => h) (Or.inl ⟨by rfl, ?_⟩) (by assumption) ?_; rotate_left; (focus (intro w hSw; skip; go_simp; (try with_reducible rfl))); (try (refine wpAnyL_norm (by simp only [Act.put, List.setIfInBounds_toArray, List.set_cons_zero, List.set_cons_succ]; rfl) ?_))
        refine wpAnyL_ready (rs := [9]) (by kernel_rfl) (by simp) ?_; refine AllReadyL.cons rfl (fun K hK => ?_) AllReadyL.nil
        rw [if_pos (by rfl)]
        refine wp_store_all 31 (.tmp 10) (.tmp 56) rfl _ Z rfl rfl 31 Z hZ4 ZI.out rfl ZA.out ?_
        intro w9 hA9 hF9
        refine hK.out _ _ (fun _ => hHeld.trans hF9 (by have := hz4; simp <;> omega)) (fun hHeld' => ?_); have hHeld := hHeld' (by decide); clear hHeld' hK K; (try (refine wpAnyL_norm (by simp only [Act.put, List.setIfInBounds_toArray, List.set_cons_zero, List.set_cons_succ]; rfl) ?_))
        refine wpAnyL_take (i := 10) (v := ?_) rfl (by kernel_rfl) (fun _ _ _ h => h) (Or.inl ⟨by rfl, ?_⟩) (by assumption) ?_; rotate_left; (focus (intro w hSw; skip; go_simp; (try with_reducible rfl))); (try (refine wpAnyL_norm (by simp only [Act.put, List.setIfInBounds_toArray, List.set_cons_zero, List.set_cons_succ]; rfl) ?_))
        refine wpAnyL_done (by kernel_rfl) ?_ _
        go_wp2_with fail
        go_meet
        exact ⟨_, rfl, rfl, hHeld⟩
  obtain ⟨B10, h6, h7, hf⟩ := hcut
  subst h6 h7
  rename World => w10
  have KF := Lib.hid hf
  clear hf
  go_upto_region 10 with (fail)
  go_cut [12, 13] (fun s6 s7 wx => ∃ B : Nat, s6 = .pointer (some ⟨B, 0, none⟩) ∧ s7 = .int .i64 2 ∧ Fr [] wB wx)
  case first =>
    as_aux_lemma =>
      refine wp_region_L (fun W => Fr [] wB W) [] (by kernel_rfl) KF.out.drew (fun hHeld => ?_)
      refine wpAnyL_take (i := 0) (v := ?_) rfl (by kernel_rfl) (fun _ _ _ h => h) (Or.inl ⟨by rfl, ?_⟩) (by assumption) ?_; rotate_left; (focus (intro w hSw; skip; go_simp; (try with_reducible rfl))); (try (refine wpAnyL_norm (by simp only [Act.put, List.setIfInBounds_toArray, List.set_cons_zero, List.set_cons_succ]; rfl) ?_))
      refine wpAnyL_take (i := 2) rfl (by kernel_rfl) (fun _ _ _ h => h) (yields_load_cp (.tmp 6) rfl (r + 1 + 1) rfl 25 o (fun W h => OX.out.fr h (by simp)) rfl) (by assumption) ?_; (try (refine wpAnyL_norm (by simp only [Act.put, List.setIfInBounds_toArray, List.set_cons_zero, List.set_cons_succ]; rfl) ?_))
      refine wpAnyL_take (i := 3) rfl (by kernel_rfl) (fun _ _ _ h => h) (yields_load_cp (.tmp 3) rfl (q + 1) rfl 25 b (fun W h => BX.out.fr h (by simp)) rfl) (by assumption) ?_; (try (refine wpAnyL_norm (by simp only [Act.put, List.setIfInBounds_toArray, List.set_cons_zero, List.set_cons_succ]; rfl) ?_))
      refine wpAnyL_ready (rs := [1, 8]) (by kernel_rfl) (by simp) ?_
      refine AllReadyL.cons rfl (fun K hK => ?_) (AllReadyL.cons rfl (fun K hK => ?_) AllReadyL.nil)
      · go_simp
        refine (CFR.out _).mono ?_
        rintro e w3 ⟨rfl, hf3⟩
        refine hK.out _ _ (fun _ => hHeld.trans0 hf3) (fun hHeld' => ?_); have hHeld := hHeld' (by decide); clear hHeld' hK K; (try (refine wpAnyL_norm (by simp only [Act.put, List.setIfInBounds_toArray, List.set_cons_zero, List.set_cons_succ]; rfl) ?_))
        refine wpAnyL_ready (rs := [4, 8]) (by kernel_rfl) (by simp) ?_
        refine AllReadyL.cons rfl (fun K hK => ?_) (AllReadyL.cons rfl (fun K hK => ?_) AllReadyL.nil)
        · go_simp
          refine (C3.out _ hHeld).mono ?_
          rintro e w4 ⟨rfl, hf4⟩
          refine hK.out _ _ (fun _ => hHeld.trans0 hf4) (fun hHeld' => ?_); have hHeld := hHeld' (by decide); clear hHeld' hK K; (try (refine wpAnyL_norm (by simp only [Act.put, List.setIfInBounds_toArray, List.set_cons_zero, List.set_cons_succ]; rfl) ?_))
          refine wpAnyL_take (i := 5) (v := ?_) rfl (by kernel_rfl) (fun _ _ _ h => h) (Or.inl ⟨by rfl, ?_⟩) (by assumption) ?_; rotate_left; (focus (intro w hSw; skip; go_simp; (try with_reducible rfl))); (try (refine wpAnyL_norm (by simp only [Act.put, List.setIfInBounds_toArray, List.set_cons_zero, List.set_cons_succ]; rfl) ?_))
          refine wpAnyL_take (i := 6) (v := ?_) rfl (by kernel_rfl) (fun _ _ _ h => h) (Or.inl ⟨by rfl, ?_⟩) (by assumption) ?_; rotate_left; (focus (intro w hSw; skip; go_simp; (try with_reducible rfl))); (try (refine wpAnyL_norm (by simp only [Act.put, List.setIfInBounds_toArray, List.set_cons_zero, List.set_cons_succ]; rfl) ?_))
          refine wpAnyL_take (i := 7) (v := ?_) rfl (by kernel_rfl) (fun _ _ _ h => h) (Or.inl ⟨by rfl, ?_⟩) (by assumption) ?_; rotate_left; (focus (intro w hSw; skip; go_simp; (try with_reducible rfl))); (try (refine wpAnyL_norm (by simp only [Act.put, List.setIfInBounds_toArray, List.set_cons_zero, List.set_cons_succ]; rfl) ?_))
          refine wpAnyL_ready (rs := [8]) (by kernel_rfl) (by simp) ?_; refine AllReadyL.cons rfl (fun K hK => ?_) AllReadyL.nil
          go_simp
          have hZ4 := At.new w4 31 Z
          have hz4 := hHeld.size
          refine hK.out _ _ (fun _ => hHeld.alloc (.cells Z 31)) (fun hHeld' => ?_); have hHeld := hHeld' (by decide); clear hHeld' hK K; (try (refine wpAnyL_norm (by simp only [Act.put, List.setIfInBounds_toArray, List.set_cons_zero, List.set_cons_succ]; rfl) ?_))
          refine wpAnyL_ready (rs := [9]) (by kernel_rfl) (by simp) ?_; refine AllReadyL.cons rfl (fun K hK => ?_) AllReadyL.nil
          rw [if_pos (by rfl)]
          refine wp_store_all 31 (.tmp 12) (.tmp 64) rfl _ Z rfl rfl 31 Z hZ4 ZI.out rfl ZA.out ?_
          intro w9 hA9 hF9
          refine hK.out _ _ (fun _ => hHeld.trans hF9 (by have := hz4; simp <;> omega)) (fun hHeld' => ?_); have hHeld := hHeld' (by decide); clear hHeld' hK K; (try (refine wpAnyL_norm (by simp only [Act.put, List.setIfInBounds_toArray, List.set_cons_zero, List.set_cons_succ]; rfl) ?_))
          refine wpAnyL_take (i := 10) (v := ?_) rfl (by kernel_rfl) (fun _ _ _ h => h) (Or.inl ⟨by rfl, ?_⟩) (by assumption) ?_; rotate_left; (focus (intro w hSw; skip; go_simp; (try with_reducible rfl))); (try (refine wpAnyL_norm (by simp only [Act.put, List.setIfInBounds_toArray, List.set_cons_zero, List.set_cons_succ]; rfl) ?_))
          refine wpAnyL_done (by kernel_rfl) ?_ _
          go_wp2_with fail
          go_meet
          exact ⟨_, rfl, rfl, hHeld⟩
        · go_simp
          have hZ3 := At.new w3 31 Z
          have hz4 := hHeld.size
          refine hK.out _ _ (fun _ => hHeld.alloc (.cells Z 31)) (fun hHeld' => ?_); have hHeld := hHeld' (by decide); clear hHeld' hK K; (try (refine wpAnyL_norm (by simp only [Act.put, List.setIfInBounds_toArray, List.set_cons_zero, List.set_cons_succ]; rfl) ?_))
          refine wpAnyL_ready (rs := [4]) (by kernel_rfl) (by simp) ?_; refine AllReadyL.cons rfl (fun K hK => ?_) AllReadyL.nil
          go_simp
          refine (C3.out _ hHeld).mono ?_
          rintro e w4 ⟨rfl, hf4⟩
          refine hK.out _ _ (fun _ => hHeld.trans0 hf4) (fun hHeld' => ?_); have hHeld := hHeld' (by decide); clear hHeld' hK K; (try (refine wpAnyL_norm (by simp only [Act.put, List.setIfInBounds_toArray, List.set_cons_zero, List.set_cons_succ]; rfl) ?_))
          have hZ4 := hZ3.fr hf4 (by simp)
          refine wpAnyL_take (i := 5) (v := ?_) rfl (by kernel_rfl) (fun _ _ _ h => h) (Or.inl ⟨by rfl, ?_⟩) (by assumption) ?_; rotate_left; (focus (intro w hSw; skip; go_simp; (try with_reducible rfl))); (try (refine wpAnyL_norm (by simp only [Act.put, List.setIfInBounds_toArray, List.set_cons_zero, List.set_cons_succ]; rfl) ?_))
          refine wpAnyL_take (i := 6) (v := ?_) rfl (by kernel_rfl) (fun _ _ _ h => h) (Or.inl ⟨by rfl, ?_⟩) (by assumption) ?_; rotate_left; (focus (intro w hSw; skip; go_simp; (try with_reducible rfl))); (try (refine wpAnyL_norm (by simp only [Act.put, List.setIfInBounds_toArray, List.set_cons_zero, List.set_cons_succ]; rfl) ?_))
          refine wpAnyL_take (i := 7) (v := ?_) rfl (by kernel_rfl) (fun _ _ _ h => h) (Or.inl ⟨by rfl, ?_⟩) (by assumption) ?_; rotate_left; (focus (intro w hSw; skip; go_simp; (try with_reducible rfl))); (try (refine wpAnyL_norm (by simp only [Act.put, List.setIfInBounds_toArray, List.set_cons_zero, List.set_cons_succ]; rfl) ?_))
          refine wpAnyL_ready (rs := [9]) (by kernel_rfl) (by simp) ?_; refine AllReadyL.cons rfl (fun K hK => ?_) AllReadyL.nil
          rw [if_pos (by rfl)]
          refine wp_store_all 31 (.tmp 12) (.tmp 64) rfl _ Z rfl rfl 31 Z hZ4 ZI.out rfl ZA.out ?_
          intro w9 hA9 hF9
          refine hK.out _ _ (fun _ => hHeld.trans hF9 (by have := hz4; simp <;> omega)) (fun hHeld' => ?_); have hHeld := hHeld' (by decide); clear hHeld' hK K; (try (refine wpAnyL_norm (by simp only [Act.put, List.setIfInBounds_toArray, List.set_cons_zero, List.set_cons_succ]; rfl) ?_))
          refine wpAnyL_take (i := 10) (v := ?_) rfl (by kernel_rfl) (fun _ _ _ h => h) (Or.inl ⟨by rfl, ?_⟩) (by assumption) ?_; rotate_left; (focus (intro w hSw; skip; go_simp; (try with_reducible rfl))); (try (refine wpAnyL_norm (by simp only [Act.put, List.setIfInBounds_toArray, List.set_cons_zero, List.set_cons_succ]; rfl) ?_))
          refine wpAnyL_done (by kernel_rfl) ?_ _
          go_wp2_with fail
          go_meet
          exact ⟨_, rfl, rfl, hHeld⟩
      · go_simp
        have hz4 := hHeld.size
        have hZ3 : At (w10.alloc (.cells Z 31)).drew w10.heap.size 31 Z := At.new w10 31 Z
        have hz4 : wB.heap.size ≤ w10.heap.size := hz4
        refine hK.out _ _ (fun _ => (KF.out.alloc (.cells Z 31)).drew) (fun hHeld' => ?_); have hHeld := hHeld' (by decide); clear hHeld' hK K; (try (refine wpAnyL_norm (by simp only [Act.put, List.setIfInBounds_toArray, List.set_cons_zero, List.set_cons_succ]; rfl) ?_))
        refine wpAnyL_ready (rs := [1]) (by kernel_rfl) (by simp) ?_; refine AllReadyL.cons rfl (fun K hK => ?_) AllReadyL.nil
        go_simp
        refine (CFR.out _).mono ?_
        rintro e w3 ⟨rfl, hf3⟩
        refine hK.out _ _ (fun _ => hHeld.trans0 hf3) (fun hHeld' => ?_); have hHeld := hHeld' (by decide); clear hHeld' hK K; (try (refine wpAnyL_norm (by simp only [Act.put, List.setIfInBounds_toArray, List.set_cons_zero, List.set_cons_succ]; rfl) ?_))
        refine wpAnyL_ready (rs := [4]) (by kernel_rfl) (by simp) ?_; refine AllReadyL.cons rfl (fun K hK => ?_) AllReadyL.nil
        go_simp
        refine (C3.out _ hHeld).mono ?_
        rintro e w4 ⟨rfl, hf4⟩
        refine hK.out _ _ (fun _ => hHeld.trans0 hf4) (fun hHeld' => ?_); have hHeld := hHeld' (by decide); clear hHeld' hK K; (try (refine wpAnyL_norm (by simp only [Act.put, List.setIfInBounds_toArray, List.set_cons_zero, List.set_cons_succ]; rfl) ?_))
        have hZ4 := (hZ3.fr hf3 (by simp)).fr hf4 (by simp)
        refine wpAnyL_take (i := 5) (v := ?_) rfl (by kernel_rfl) (fun _ _ _ h => h) (Or.inl ⟨by rfl, ?_⟩) (by assumption) ?_; rotate_left; (focus (intro w hSw; skip; go_simp; (try with_reducible rfl))); (try (refine wpAnyL_norm (by simp only [Act.put, List.setIfInBounds_toArray, List.set_cons_zero, List.set_cons_succ]; rfl) ?_))
        refine wpAnyL_take (i := 6) (v := ?_) rfl (by kernel_rfl) (fun _ _ _ h => h) (Or.inl ⟨by rfl, ?_⟩) (by assumption) ?_; rotate_left; (focus (intro w hSw; skip; go_simp; (try with_reducible rfl))); (try (refine wpAnyL_norm (by simp only [Act.put, List.setIfInBounds_toArray, List.set_cons_zero, List.set_cons_succ]; rfl) ?_))
        refine wpAnyL_take (i := 7) (v := ?_) rfl (by kernel_rfl) (fun _ _ _ h => h) (Or.inl ⟨by rfl, ?_⟩) (by assumption) ?_; rotate_left; (focus (intro w hSw; skip; go_simp; (try with_reducible rfl))); (try (refine wpAnyL_norm (by simp only [Act.put, List.setIfInBounds_toArray, List.set_cons_zero, List.set_cons_succ]; rfl) ?_))
        refine wpAnyL_ready (rs := [9]) (by kernel_rfl) (by simp) ?_; refine AllReadyL.cons rfl (fun K hK => ?_) AllReadyL.nil
        rw [if_pos (by rfl)]
        refine wp_store_all 31 (.tmp 12) (.tmp 64) rfl _ Z rfl rfl 31 Z hZ4 ZI.out rfl ZA.out ?_
        intro w9 hA9 hF9
        refine hK.out _ _ (fun _ => hHeld.trans hF9 (by have := hz4; simp <;> omega)) (fun hHeld' => ?_); have hHeld := hHeld' (by decide); clear hHeld' hK K; (try (refine wpAnyL_norm (by simp only [Act.put, List.setIfInBounds_toArray, List.set_cons_zero, List.set_cons_succ]; rfl) ?_))
        refine wpAnyL_take (i := 10) (v := ?_) rfl (by kernel_rfl) (fun _ _ _ h => h) (Or.inl ⟨by rfl, ?_⟩) (by assumption) ?_; rotate_left; (focus (intro w hSw; skip; go_simp; (try with_reducible rfl))); (try (refine wpAnyL_norm (by simp only [Act.put, List.setIfInBounds_toArray, List.set_cons_zero, List.set_cons_succ]; rfl) ?_))
        refine wpAnyL_done (by kernel_rfl) ?_ _
        go_wp2_with fail
        go_meet
        exact ⟨_, rfl, rfl, hHeld⟩
  obtain ⟨B12, h6, h7, hf⟩ := hcut
  subst h6 h7
  rename World => w12
  have KF := Lib.hid hf
  clear hf
  go_upto_region 11 with (fail)
  go_cut [14, 15] (fun s6 s7 wx => ∃ B : Nat, s6 = .pointer (some ⟨B, 0, none⟩) ∧ s7 = .int .i64 3 ∧ Fr [] wB wx)
  case first =>
    as_aux_lemma =>
      refine wp_region_L (fun W => Fr [] wB W) [] (by kernel_rfl) KF.out.drew (fun hHeld => ?_)
      refine wpAnyL_take (i := 0) (v := ?_) rfl (by kernel_rfl) (fun _ _ _ h => h) (Or.inl ⟨by rfl, ?_⟩) (by assumption) ?_; rotate_left; (focus (intro w hSw; skip; go_simp; (try with_reducible rfl))); (try (refine wpAnyL_norm (by simp only [Act.put, List.setIfInBounds_toArray, List.set_cons_zero, List.set_cons_succ]; rfl) ?_))
      refine wpAnyL_take (i := 2) rfl (by kernel_rfl) (fun _ _ _ h => h) (yields_load_cp (.tmp 2) rfl q rfl 25 a (fun W h => AX.out.fr h (by simp)) rfl) (by assumption) ?_; (try (refine wpAnyL_norm (by simp only [Act.put, List.setIfInBounds_toArray, List.set_cons_zero, List.set_cons_succ]; rfl) ?_))
      refine wpAnyL_take (i := 3) rfl (by kernel_rfl) (fun _ _ _ h => h) (yields_load_cp (.tmp 7) rfl r4 rfl 25 x (fun W h => EX.out.fr h (by simp)) rfl) (by assumption) ?_; (try (refine wpAnyL_norm (by simp only [Act.put, List.setIfInBounds_toArray, List.set_cons_zero, List.set_cons_succ]; rfl) ?_))
      refine wpAnyL_ready (rs := [1, 8]) (by kernel_rfl) (by simp) ?_
      refine AllReadyL.cons rfl (fun K hK => ?_) (AllReadyL.cons rfl (fun K hK => ?_) AllReadyL.nil)
      · go_simp
        refine (CFR.out _).mono ?_
        rintro e w3 ⟨rfl, hf3⟩
        refine hK.out _ _ (fun _ => hHeld.trans0 hf3) (fun hHeld' => ?_); have hHeld := hHeld' (by decide); clear hHeld' hK K; (try (refine wpAnyL_norm (by simp only [Act.put, List.setIfInBounds_toArray, List.set_cons_zero, List.set_cons_succ]; rfl) ?_))
        refine wpAnyL_ready (rs := [4, 8]) (by kernel_rfl) (by simp) ?_
        refine AllReadyL.cons rfl (fun K hK => ?_) (AllReadyL.cons rfl (fun K hK => ?_) AllReadyL.nil)
        · go_simp
          refine (C4.out _ hHeld).mono ?_
          rintro e w4 ⟨rfl, hf4⟩
          refine hK.out _ _ (fun _ => hHeld.trans0 hf4) (fun hHeld' => ?_); have hHeld := hHeld' (by decide); clear hHeld' hK K; (try (refine wpAnyL_norm (by simp only [Act.put, List.setIfInBounds_toArray, List.set_cons_zero, List.set_cons_succ]; rfl) ?_))
          refine wpAnyL_take (i := 5) (v := ?_) rfl (by kernel_rfl) (fun _ _ _ h => h) (Or.inl ⟨by rfl, ?_⟩) (by assumption) ?_; rotate_left; (focus (intro w hSw; skip; go_simp; (try with_reducible rfl))); (try (refine wpAnyL_norm (by simp only [Act.put, List.setIfInBounds_toArray, List.set_cons_zero, List.set_cons_succ]; rfl) ?_))
          refine wpAnyL_take (i := 6) (v := ?_) rfl (by kernel_rfl) (fun _ _ _ h => h) (Or.inl ⟨by rfl, ?_⟩) (by assumption) ?_; rotate_left; (focus (intro w hSw; skip; go_simp; (try with_reducible rfl))); (try (refine wpAnyL_norm (by simp only [Act.put, List.setIfInBounds_toArray, List.set_cons_zero, List.set_cons_succ]; rfl) ?_))
          refine wpAnyL_take (i := 7) (v := ?_) rfl (by kernel_rfl) (fun _ _ _ h => h) (Or.inl ⟨by rfl, ?_⟩) (by assumption) ?_; rotate_left; (focus (intro w hSw; skip; go_simp; (try with_reducible rfl))); (try (refine wpAnyL_norm (by simp only [Act.put, List.setIfInBounds_toArray, List.set_cons_zero, List.set_cons_succ]; rfl) ?_))
          refine wpAnyL_ready (rs := [8]) (by kernel_rfl) (by simp) ?_; refine AllReadyL.cons rfl (fun K hK => ?_) AllReadyL.nil
          go_simp
          have hZ4 := At.new w4 31 Z
          have hz4 := hHeld.size
          refine hK.out _ _ (fun _ => hHeld.alloc (.cells Z 31)) (fun hHeld' => ?_); have hHeld := hHeld' (by decide); clear hHeld' hK K; (try (refine wpAnyL_norm (by simp only [Act.put, List.setIfInBounds_toArray, List.set_cons_zero, List.set_cons_succ]; rfl) ?_))
          refine wpAnyL_ready (rs := [9]) (by kernel_rfl) (by simp) ?_; refine AllReadyL.cons rfl (fun K hK => ?_) AllReadyL.nil
          rw [if_pos (by rfl)]
          refine wp_store_all 31 (.tmp 14) (.tmp 72) rfl _ Z rfl rfl 31 Z hZ4 ZI.out rfl ZA.out ?_
          intro w9 hA9 hF9
          refine hK.out _ _ (fun _ => hHeld.trans hF9 (by have := hz4; simp <;> omega)) (fun hHeld' => ?_); have hHeld := hHeld' (by decide); clear hHeld' hK K; (try (refine wpAnyL_norm (by simp only [Act.put, List.setIfInBounds_toArray, List.set_cons_zero, List.set_cons_succ]; rfl) ?_))
          refine wpAnyL_take (i := 10) (v := ?_) rfl (by kernel_rfl) (fun _ _ _ h => h) (Or.inl ⟨by rfl, ?_⟩) (by assumption) ?_; rotate_left; (focus (intro w hSw; skip; go_simp; (try with_reducible rfl))); (try (refine wpAnyL_norm (by simp only [Act.put, List.setIfInBounds_toArray, List.set_cons_zero, List.set_cons_succ]; rfl) ?_))
          refine wpAnyL_done (by kernel_rfl) ?_ _
          go_wp2_with fail
          go_meet
          exact ⟨_, rfl, rfl, hHeld⟩
        · go_simp
          have hZ3 := At.new w3 31 Z
          have hz4 := hHeld.size
          refine hK.out _ _ (fun _ => hHeld.alloc (.cells Z 31)) (fun hHeld' => ?_); have hHeld := hHeld' (by decide); clear hHeld' hK K; (try (refine wpAnyL_norm (by simp only [Act.put, List.setIfInBounds_toArray, List.set_cons_zero, List.set_cons_succ]; rfl) ?_))
          refine wpAnyL_ready (rs := [4]) (by kernel_rfl) (by simp) ?_; refine AllReadyL.cons rfl (fun K hK => ?_) AllReadyL.nil
          go_simp
          refine (C4.out _ hHeld).mono ?_
          rintro e w4 ⟨rfl, hf4⟩
          refine hK.out _ _ (fun _ => hHeld.trans0 hf4) (fun hHeld' => ?_); have hHeld := hHeld' (by decide); clear hHeld' hK K; (try (refine wpAnyL_norm (by simp only [Act.put, List.setIfInBounds_toArray, List.set_cons_zero, List.set_cons_succ]; rfl) ?_))
          have hZ4 := hZ3.fr hf4 (by simp)
          refine wpAnyL_take (i := 5) (v := ?_) rfl (by kernel_rfl) (fun _ _ _ h => h) (Or.inl ⟨by rfl, ?_⟩) (by assumption) ?_; rotate_left; (focus (intro w hSw; skip; go_simp; (try with_reducible rfl))); (try (refine wpAnyL_norm (by simp only [Act.put, List.setIfInBounds_toArray, List.set_cons_zero, List.set_cons_succ]; rfl) ?_))
          refine wpAnyL_take (i := 6) (v := ?_) rfl (by kernel_rfl) (fun _ _ _ h => h) (Or.inl ⟨by rfl, ?_⟩) (by assumption) ?_; rotate_left; (focus (intro w hSw; skip; go_simp; (try with_reducible rfl))); (try (refine wpAnyL_norm (by simp only [Act.put, List.setIfInBounds_toArray, List.set_cons_zero, List.set_cons_succ]; rfl) ?_))
          refine wpAnyL_take (i := 7) (v := ?_) rfl (by kernel_rfl) (fun _ _ _ h => h) (Or.inl ⟨by rfl, ?_⟩) (by assumption) ?_; rotate_left; (focus (intro w hSw; skip; go_simp; (try with_reducible rfl))); (try (refine wpAnyL_norm (by simp only [Act.put, List.setIfInBounds_toArray, List.set_cons_zero, List.set_cons_succ]; rfl) ?_))
          refine wpAnyL_ready (rs := [9]) (by kernel_rfl) (by simp) ?_; refine AllReadyL.cons rfl (fun K hK => ?_) AllReadyL.nil
          rw [if_pos (by rfl)]
          refine wp_store_all 31 (.tmp 14) (.tmp 72) rfl _ Z rfl rfl 31 Z hZ4 ZI.out rfl ZA.out ?_
          intro w9 hA9 hF9
          refine hK.out _ _ (fun _ => hHeld.trans hF9 (by have := hz4; simp <;> omega)) (fun hHeld' => ?_); have hHeld := hHeld' (by decide); clear hHeld' hK K; (try (refine wpAnyL_norm (by simp only [Act.put, List.setIfInBounds_toArray, List.set_cons_zero, List.set_cons_succ]; rfl) ?_))
          refine wpAnyL_take (i := 10) (v := ?_) rfl (by kernel_rfl) (fun _ _ _ h => h) (Or.inl ⟨by rfl, ?_⟩) (by assumption) ?_; rotate_left; (focus (intro w hSw; skip; go_simp; (try with_reducible rfl))); (try (refine wpAnyL_norm (by simp only [Act.put, List.setIfInBounds_toArray, List.set_cons_zero, List.set_cons_succ]; rfl) ?_))
          refine wpAnyL_done (by kernel_rfl) ?_ _
          go_wp2_with fail
          go_meet
          exact ⟨_, rfl, rfl, hHeld⟩
      · go_simp
        have hz4 := hHeld.size
        have hZ3 : At (w12.alloc (.cells Z 31)).drew w12.heap.size 31 Z := At.new w12 31 Z
        have hz4 : wB.heap.size ≤ w12.heap.size := hz4
        refine hK.out _ _ (fun _ => (KF.out.alloc (.cells Z 31)).drew) (fun hHeld' => ?_); have hHeld := hHeld' (by decide); clear hHeld' hK K; (try (refine wpAnyL_norm (by simp only [Act.put, List.setIfInBounds_toArray, List.set_cons_zero, List.set_cons_succ]; rfl) ?_))
        refine wpAnyL_ready (rs := [1]) (by kernel_rfl) (by simp) ?_; refine AllReadyL.cons rfl (fun K hK => ?_) AllReadyL.nil
        go_simp
        refine (CFR.out _).mono ?_
        rintro e w3 ⟨rfl, hf3⟩
        refine hK.out _ _ (fun _ => hHeld.trans0 hf3) (fun hHeld' => ?_); have hHeld := hHeld' (by decide); clear hHeld' hK K; (try (refine wpAnyL_norm (by simp only [Act.put, List.setIfInBounds_toArray, List.set_cons_zero, List.set_cons_succ]; rfl) ?_))
        refine wpAnyL_ready (rs := [4]) (by kernel_rfl) (by simp) ?_; refine AllReadyL.cons rfl (fun K hK => ?_) AllReadyL.nil
        go_simp
        refine (C4.out _ hHeld).mono ?_
        rintro e w4 ⟨rfl, hf4⟩
        refine hK.out _ _ (fun _ => hHeld.trans0 hf4) (fun hHeld' => ?_); have hHeld := hHeld' (by decide); clear hHeld' hK K; (try (refine wpAnyL_norm (by simp only [Act.put, List.setIfInBounds_toArray, List.set_cons_zero, List.set_cons_succ]; rfl) ?_))
        have hZ4 := (hZ3.fr hf3 (by simp)).fr hf4 (by simp)
        refine wpAnyL_take (i := 5) (v := ?_) rfl (by kernel_rfl) (fun _ _ _ h => h) (Or.inl ⟨by rfl, ?_⟩) (by assumption) ?_; rotate_left; (focus (intro w hSw; skip; go_simp; (try with_reducible rfl))); (try (refine wpAnyL_norm (by simp only [Act.put, List.setIfInBounds_toArray, List.set_cons_zero, List.set_cons_succ]; rfl) ?_))
        refine wpAnyL_take (i := 6) (v := ?_) rfl (by kernel_rfl) (fun _ _ _ h => h) (Or.inl ⟨by rfl, ?_⟩) (by assumption) ?_; rotate_left; (focus (intro w hSw; skip; go_simp; (try with_reducible rfl))); (try (refine wpAnyL_norm (by simp only [Act.put, List.setIfInBounds_toArray, List.set_cons_zero, List.set_cons_succ]; rfl) ?_))
        refine wpAnyL_take (i := 7) (v := ?_) rfl (by kernel_rfl) (fun _ _ _ h => h) (Or.inl ⟨by rfl, ?_⟩) (by assumption) ?_; rotate_left; (focus (intro w hSw; skip; go_simp; (try with_reducible rfl))); (try (refine wpAnyL_norm (by simp only [Act.put, List.setIfInBounds_toArray, List.set_cons_zero, List.set_cons_succ]; rfl) ?_))
        refine wpAnyL_ready (rs := [9]) (by kernel_rfl) (by simp) ?_; refine AllReadyL.cons rfl (fun K hK => ?_) AllReadyL.nil
        rw [if_pos (by rfl)]
        refine wp_store_all 31 (.tmp 14) (.tmp 72) rfl _ Z rfl rfl 31 Z hZ4 ZI.out rfl ZA.out ?_
        intro w9 hA9 hF9
        refine hK.out _ _ (fun _ => hHeld.trans hF9 (by have := hz4; simp <;> omega)) (fun hHeld' => ?_); have hHeld := hHeld' (by decide); clear hHeld' hK K; (try (refine wpAnyL_norm (by simp only [Act.put, List.setIfInBounds_toArray, List.set_cons_zero, List.set_cons_succ]; rfl) ?_))
        refine wpAnyL_take (i := 10) (v := ?_) rfl (by kernel_rfl) (fun _ _ _ h => h) (Or.inl ⟨by rfl, ?_⟩) (by assumption) ?_; rotate_left; (focus (intro w hSw; skip; go_simp; (try with_reducible rfl))); (try (refine wpAnyL_norm (by simp only [Act.put, List.setIfInBounds_toArray, List.set_cons_zero, List.set_cons_succ]; rfl) ?_))
        refine wpAnyL_done (by kernel_rfl) ?_ _
        go_wp2_with fail
        go_meet
        exact ⟨_, rfl, rfl, hHeld⟩
  obtain ⟨B14, h6, h7, hf⟩ := hcut
  subst h6 h7
  rename World => w14
  have KF := Lib.hid hf
  clear hf
  go_upto_region 12 with (fail)
  go_cut [16, 17] (fun s6 s7 wx => ∃ B : Nat, s6 = .pointer (some ⟨B, 0, none⟩) ∧ s7 = .int .i64 3 ∧ Fr [] wB wx)
  case first =>
    as_aux_lemma =>
      refine wp_region_L (fun W => Fr [] wB W) [] (by kernel_rfl) KF.out.drew (fun hHeld => ?_)
      refine wpAnyL_take (i := 0) (v := ?_) rfl (by kernel_rfl) (fun _ _ _ h => h) (Or.inl ⟨by rfl, ?_⟩) (by assumption) ?_; rotate_left; (focus (intro w hSw; skip; go_simp; (try with_reducible rfl))); (try (refine wpAnyL_norm (by simp only [Act.put, List.setIfInBounds_toArray, List.set_cons_zero, List.set_cons_succ]; rfl) ?_))
      refine wpAnyL_take (i := 2) rfl (by kernel_rfl) (fun _ _ _ h => h) (yields_load_cp (.tmp 3) rfl (q + 1) rfl 25 b (fun W h => BX.out.fr h (by simp)) rfl) (by assumption) ?_; (try (refine wpAnyL_norm (by simp only [Act.put, List.setIfInBounds_toArray, List.set_cons_zero, List.set_cons_succ]; rfl) ?_))
      refine wpAnyL_take (i := 3) rfl (by kernel_rfl) (fun _ _ _ h => h) (yields_load_cp (.tmp 2) rfl q rfl 25 a (fun W h => AX.out.fr h (by simp)) rfl) (by assumption) ?_; (try (refine wpAnyL_norm (by simp only [Act.put, List.setIfInBounds_toArray, List.set_cons_zero, List.set_cons_succ]; rfl) ?_))
      refine wpAnyL_ready (rs := [1, 8]) (by kernel_rfl) (by simp) ?_
      refine AllReadyL.cons rfl (fun K hK => ?_) (AllReadyL.cons rfl (fun K hK => ?_) AllReadyL.nil)
      · go_simp
        refine (CFR.out _).mono ?_
        rintro e w3 ⟨rfl, hf3⟩
        refine hK.out _ _ (fun _ => hHeld.trans0 hf3) (fun hHeld' => ?_); have hHeld := hHeld' (by decide); clear hHeld' hK K; (try (refine wpAnyL_norm (by simp only [Act.put, List.setIfInBounds_toArray, List.set_cons_zero, List.set_cons_succ]; rfl) ?_))
        refine wpAnyL_ready (rs := [4, 8]) (by kernel_rfl) (by simp) ?_
        refine AllReadyL.cons rfl (fun K hK => ?_) (AllReadyL.cons rfl (fun K hK => ?_) AllReadyL.nil)
        · go_simp
          refine (C5.out _ hHeld).mono ?_
          rintro e w4 ⟨rfl, hf4⟩
          refine hK.out _ _ (fun _ => hHeld.trans0 hf4) (fun hHeld' => ?_); have hHeld := hHeld' (by decide); clear hHeld' hK K; (try (refine wpAnyL_norm (by simp only [Act.put, List.setIfInBounds_toArray, List.set_cons_zero, List.set_cons_succ]; rfl) ?_))
          refine wpAnyL_take (i := 5) (v := ?_) rfl (by kernel_rfl) (fun _ _ _ h => h) (Or.inl ⟨by rfl, ?_⟩) (by assumption) ?_; rotate_left; (focus (intro w hSw; skip; go_simp; (try with_reducible rfl))); (try (refine wpAnyL_norm (by simp only [Act.put, List.setIfInBounds_toArray, List.set_cons_zero, List.set_cons_succ]; rfl) ?_))
          refine wpAnyL_take (i := 6) (v := ?_) rfl (by kernel_rfl) (fun _ _ _ h => h) (Or.inl ⟨by rfl, ?_⟩) (by assumption) ?_; rotate_left; (focus (intro w hSw; skip; go_simp; (try with_reducible rfl))); (try (refine wpAnyL_norm (by simp only [Act.put, List.setIfInBounds_toArray, List.set_cons_zero, List.set_cons_succ]; rfl) ?_))
          refine wpAnyL_take (i := 7) (v := ?_) rfl (by kernel_rfl) (fun _ _ _ h => h) (Or.inl ⟨by rfl, ?_⟩) (by assumption) ?_; rotate_left; (focus (intro w hSw; skip; go_simp; (try with_reducible rfl))); (try (refine wpAnyL_norm (by simp only [Act.put, List.setIfInBounds_toArray, List.set_cons_zero, List.set_cons_succ]; rfl) ?_))
          refine wpAnyL_ready (rs := [8]) (by kernel_rfl) (by simp) ?_; refine AllReadyL.cons rfl (fun K hK => ?_) AllReadyL.nil
          go_simp
          have hZ4 := At.new w4 31 Z
          have hz4 := hHeld.size
          refine hK.out _ _ (fun _ => hHeld.alloc (.cells Z 31)) (fun hHeld' => ?_); have hHeld := hHeld' (by decide); clear hHeld' hK K; (try (refine wpAnyL_norm (by simp only [Act.put, List.setIfInBounds_toArray, List.set_cons_zero, List.set_cons_succ]; rfl) ?_))
          refine wpAnyL_ready (rs := [9]) (by kernel_rfl) (by simp) ?_; refine AllReadyL.cons rfl (fun K hK => ?_) AllReadyL.nil
          rw [if_pos (by rfl)]
          refine wp_store_all 31 (.tmp 16) (.tmp 80) rfl _ Z rfl rfl 31 Z hZ4 ZI.out rfl ZA.out ?_
          intro w9 hA9 hF9
          refine hK.out _ _ (fun _ => hHeld.trans hF9 (by have := hz4; simp <;> omega)) (fun hHeld' => ?_); have hHeld := hHeld' (by decide); clear hHeld' hK K; (try (refine wpAnyL_norm (by simp only [Act.put, List.setIfInBounds_toArray, List.set_cons_zero, List.set_cons_succ]; rfl) ?_))
          refine wpAnyL_take (i := 10) (v := ?_) rfl (by kernel_rfl) (fun _ _ _ h => h) (Or.inl ⟨by rfl, ?_⟩) (by assumption) ?_; rotate_left; (focus (intro w hSw; skip; go_simp; (try with_reducible rfl))); (try (refine wpAnyL_norm (by simp only [Act.put, List.setIfInBounds_toArray, List.set_cons_zero, List.set_cons_succ]; rfl) ?_))
          refine wpAnyL_done (by kernel_rfl) ?_ _
          go_wp2_with fail
          go_meet
          exact ⟨_, rfl, rfl, hHeld⟩
        · go_simp
          have hZ3 := At.new w3 31 Z
          have hz4 := hHeld.size
          refine hK.out _ _ (fun _ => hHeld.alloc (.cells Z 31)) (fun hHeld' => ?_); have hHeld := hHeld' (by decide); clear hHeld' hK K; (try (refine wpAnyL_norm (by simp only [Act.put, List.setIfInBounds_toArray, List.set_cons_zero, List.set_cons_succ]; rfl) ?_))
          refine wpAnyL_ready (rs := [4]) (by kernel_rfl) (by simp) ?_; refine AllReadyL.cons rfl (fun K hK => ?_) AllReadyL.nil
          go_simp
          refine (C5.out _ hHeld).mono ?_
          rintro e w4 ⟨rfl, hf4⟩
          refine hK.out _ _ (fun _ => hHeld.trans0 hf4) (fun hHeld' => ?_); have hHeld := hHeld' (by decide); clear hHeld' hK K; (try (refine wpAnyL_norm (by simp only [Act.put, List.setIfInBounds_toArray, List.set_cons_zero, List.set_cons_succ]; rfl) ?_))
          have hZ4 := hZ3.fr hf4 (by simp)
          refine wpAnyL_take (i := 5) (v := ?_) rfl (by kernel_rfl) (fun _ _ _ h => h) (Or.inl ⟨by rfl, ?_⟩) (by assumption) ?_; rotate_left; (focus (intro w hSw; skip; go_simp; (try with_reducible rfl))); (try (refine wpAnyL_norm (by simp only [Act.put, List.setIfInBounds_toArray, List.set_cons_zero, List.set_cons_succ]; rfl) ?_))
          refine wpAnyL_take (i := 6) (v := ?_) rfl (by kernel_rfl) (fun _ _ _ h => h) (Or.inl ⟨by rfl, ?_⟩) (by assumption) ?_; rotate_left; (focus (intro w hSw; skip; go_simp; (try with_reducible rfl))); (try (refine wpAnyL_norm (by simp only [Act.put, List.setIfInBounds_toArray, List.set_cons_zero, List.set_cons_succ]; rfl) ?_))
          refine wpAnyL_take (i := 7) (v := ?_) rfl (by kernel_rfl) (fun _ _ _ h => h) (Or.inl ⟨by rfl, ?_⟩) (by assumption) ?_; rotate_left; (focus (intro w hSw; skip; go_simp; (try with_reducible rfl))); (try (refine wpAnyL_norm (by simp only [Act.put, List.setIfInBounds_toArray, List.set_cons_zero, List.set_cons_succ]; rfl) ?_))
          refine wpAnyL_ready (rs := [9]) (by kernel_rfl) (by simp) ?_; refine AllReadyL.cons rfl (fun K hK => ?_) AllReadyL.nil
          rw [if_pos (by rfl)]
          refine wp_store_all 31 (.tmp 16) (.tmp 80) rfl _ Z rfl rfl 31 Z hZ4 ZI.out rfl ZA.out ?_
          intro w9 hA9 hF9
          refine hK.out _ _ (fun _ => hHeld.trans hF9 (by have := hz4; simp <;> omega)) (fun hHeld' => ?_); have hHeld := hHeld' (by decide); clear hHeld' hK K; (try (refine wpAnyL_norm (by simp only [Act.put, List.setIfInBounds_toArray, List.set_cons_zero, List.set_cons_succ]; rfl) ?_))
          refine wpAnyL_take (i := 10) (v := ?_) rfl (by kernel_rfl) (fun _ _ _ h => h) (Or.inl ⟨by rfl, ?_⟩) (by assumption) ?_; rotate_left; (focus (intro w hSw; skip; go_simp; (try with_reducible rfl))); (try (refine wpAnyL_norm (by simp only [Act.put, List.setIfInBounds_toArray, List.set_cons_zero, List.set_cons_succ]; rfl) ?_))
          refine wpAnyL_done (by kernel_rfl) ?_ _
          go_wp2_with fail
          go_meet
          exact ⟨_, rfl, rfl, hHeld⟩
      · go_simp
        have hz4 := hHeld.size
        have hZ3 : At (w14.alloc (.cells Z 31)).drew w14.heap.size 31 Z := At.new w14 31 Z
        have hz4 : wB.heap.size ≤ w14.heap.size := hz4
        refine hK.out _ _ (fun _ => (KF.out.alloc (.cells Z 31)).drew) (fun hHeld' => ?_); have hHeld := hHeld' (by decide); clear hHeld' hK K; (try (refine wpAnyL_norm (by simp only [Act.put, List.setIfInBounds_toArray, List.set_cons_zero, List.set_cons_succ]; rfl) ?_))
        refine wpAnyL_ready (rs := [1]) (by kernel_rfl) (by simp) ?_; refine AllReadyL.cons rfl (fun K hK => ?_) AllReadyL.nil
        go_simp
        refine (CFR.out _).mono ?_
        rintro e w3 ⟨rfl, hf3⟩
        refine hK.out _ _ (fun _ => hHeld.trans0 hf3) (fun hHeld' => ?_); have hHeld := hHeld' (by decide); clear hHeld' hK K; (try (refine wpAnyL_norm (by simp only [Act.put, List.setIfInBounds_toArray, List.set_cons_zero, List.set_cons_succ]; rfl) ?_))
        refine wpAnyL_ready (rs := [4]) (by kernel_rfl) (by simp) ?_; refine AllReadyL.cons rfl (fun K hK => ?_) AllReadyL.nil
        go_simp
        refine (C5.out _ hHeld).mono ?_
        rintro e w4 ⟨rfl, hf4⟩
        refine hK.out _ _ (fun _ => hHeld.trans0 hf4) (fun hHeld' => ?_); have hHeld := hHeld' (by decide); clear hHeld' hK K; (try (refine wpAnyL_norm (by simp only [Act.put, List.setIfInBounds_toArray, List.set_cons_zero, List.set_cons_succ]; rfl) ?_))
        have hZ4 := (hZ3.fr hf3 (by simp)).fr hf4 (by simp)
        refine wpAnyL_take (i := 5) (v := ?_) rfl (by kernel_rfl) (fun _ _ _ h => h) (Or.inl ⟨by rfl, ?_⟩) (by assumption) ?_; rotate_left; (focus (intro w hSw; skip; go_simp; (try with_reducible rfl))); (try (refine wpAnyL_norm (by simp only [Act.put, List.setIfInBounds_toArray, List.set_cons_zero, List.set_cons_succ]; rfl) ?_))
        refine wpAnyL_take (i := 6) (v := ?_) rfl (by kernel_rfl) (fun _ _ _ h => h) (Or.inl ⟨by rfl, ?_⟩) (by assumption) ?_; rotate_left; (focus (intro w hSw; skip; go_simp; (try with_reducible rfl))); (try (refine wpAnyL_norm (by simp only [Act.put, List.setIfInBounds_toArray, List.set_cons_zero, List.set_cons_succ]; rfl) ?_))
        refine wpAnyL_take (i := 7) (v := ?_) rfl (by kernel_rfl) (fun _ _ _ h => h) (Or.inl ⟨by rfl, ?_⟩) (by assumption) ?_; rotate_left; (focus (intro w hSw; skip; go_simp; (try with_reducible rfl))); (try (refine wpAnyL_norm (by simp only [Act.put, List.setIfInBounds_toArray, List.set_cons_zero, List.set_cons_succ]; rfl) ?_))
        refine wpAnyL_ready (rs := [9]) (by kernel_rfl) (by simp) ?_; refine AllReadyL.cons rfl (fun K hK => ?_) AllReadyL.nil
        rw [if_pos (by rfl)]
        refine wp_store_all 31 (.tmp 16) (.tmp 80) rfl _ Z rfl rfl 31 Z hZ4 ZI.out rfl ZA.out ?_
        intro w9 hA9 hF9
        refine hK.out _ _ (fun _ => hHeld.trans hF9 (by have := hz4; simp <;> omega)) (fun hHeld' => ?_); have hHeld := hHeld' (by decide); clear hHeld' hK K; (try (refine wpAnyL_norm (by simp only [Act.put, List.setIfInBounds_toArray, List.set_cons_zero, List.set_cons_succ]; rfl) ?_))
        refine wpAnyL_take (i := 10) (v := ?_) rfl (by kernel_rfl) (fun _ _ _ h => h) (Or.inl ⟨by rfl, ?_⟩) (by assumption) ?_; rotate_left; (focus (intro w hSw; skip; go_simp; (try with_reducible rfl))); (try (refine wpAnyL_norm (by simp only [Act.put, List.setIfInBounds_toArray, List.set_cons_zero, List.set_cons_succ]; rfl) ?_))
        refine wpAnyL_done (by kernel_rfl) ?_ _
        go_wp2_with fail
        go_meet
        exact ⟨_, rfl, rfl, hHeld⟩
  obtain ⟨B16, h6, h7, hf⟩ := hcut
  subst h6 h7
  rename World => w16
  have KF := Lib.hid hf
  clear hf
  clear C1 C2 C3 C4 C5 CN5 DX OX EX
  go_wp2_with fail
  go_loopw [18, 19] (fun t i wr => ∃ (k : Nat) (v : Value) (h : Int), k ≤ 17 ∧ i = .int .i64 k ∧ t = .int .i64 h ∧ (k = 17 → h = 9) ∧ St wr sp v (SL k) ∧ (∀ g, v.ownBlock = some g → wB.heap.size ≤ g) ∧ Fr [sp] wB wr) (fun _ i _ => 17 - (intOf i).toNat)
  case atStart => exact ⟨0, _, 0, by omega, rfl, rfl, by omega, KS.out.fr0 KF.out, by simp [Value.ownBlock], KF.out.more (by simp)⟩
  case round =>
    clear KS KF
    obtain ⟨k, v, h, hk, rfl, rfl, h9, hs, hvo, hf⟩ := hrel
    have RS := Lib.hid hs
    have RF := Lib.hid hf
    have HVO := Lib.hid hvo
    have H9 := Lib.hid h9
    have RA := Lib.hid (AX.out.fr hf (by simp; omega))
    have RB := Lib.hid (BX.out.fr hf (by simp; omega))
    have hwr := hf.size
    have hqb := BX.out.lt
    clear hs hf hvo h9
    by_cases hk17 : k < 17
    · have hkn : (k : Int) < 17 := by omega
      go_upto_region 17 with (fail)
      refine wp_region_L (fun W => At W q 25 a.cells ∧ At W (q + 1) 25 b.cells) [] (by kernel_rfl) ⟨RA.out, RB.out⟩ (fun hHeld => ?_)
      refine wpAnyL_take (i := 0) (v := ?_) rfl (by kernel_rfl) (fun _ _ _ h => h) (Or.inl ⟨by rfl, ?_⟩) (by assumption) ?_; rotate_left; (focus (intro w hSw; skip; go_simp; (try with_reducible rfl))); (try (refine wpAnyL_norm (by simp only [Act.put, List.setIfInBounds_toArray, List.set_cons_zero, List.set_cons_succ]; rfl) ?_))
      refine wpAnyL_take (i := 2) rfl (by kernel_rfl) (fun _ _ _ h => h) (yields_load_cp (.tmp 2) rfl q rfl 25 a (fun W h => h.1) rfl) (by assumption) ?_; (try (refine wpAnyL_norm (by simp only [Act.put, List.setIfInBounds_toArray, List.set_cons_zero, List.set_cons_succ]; rfl) ?_))
      refine wpAnyL_take (i := 3) rfl (by kernel_rfl) (fun _ _ _ h => h) (yields_load_cp (.tmp 3) rfl (q + 1) rfl 25 b (fun W h => h.2) rfl) (by assumption) ?_; (try (refine wpAnyL_norm (by simp only [Act.put, List.setIfInBounds_toArray, List.set_cons_zero, List.set_cons_succ]; rfl) ?_))
      refine wpAnyL_ready (rs := [1]) (by kernel_rfl) (by simp) ?_; refine AllReadyL.cons rfl (fun K hK => ?_) AllReadyL.nil
      go_simp
      refine (CFR.out _).mono ?_
      rintro e w3 ⟨rfl, hf3⟩
      refine hK.out _ _ (fun _ => ⟨hHeld.1.fr hf3 (by simp), hHeld.2.fr hf3 (by simp)⟩) (fun hHeld' => ?_); have hHeld := hHeld' (by decide); clear hHeld' hK K; (try (refine wpAnyL_norm (by simp only [Act.put, List.setIfInBounds_toArray, List.set_cons_zero, List.set_cons_succ]; rfl) ?_))
      have hf3' : Fr [] wr w3 := hf3.hd rfl rfl rfl rfl
      have S3 := Lib.hid (RS.out.fr0 hf3')
      have F3 := Lib.hid (RF.out.trans0 hf3')
      clear hf3 hf3'
      by_cases hk16 : k < 16
      · have CK := Lib.hid (CK1.out w3 sp k v hk16 S3.out)
        refine wpAnyL_ready (rs := [4]) (by kernel_rfl) (by simp) ?_; refine AllReadyL.cons rfl (fun K hK => ?_) AllReadyL.nil
        go_simp
        refine (CK.out).mono ?_
        rintro e w4 ⟨v', G, rfl, hs4, hf4, hv4⟩
        have hvo := HVO.out
        have hqn : q ∉ sp :: v.ownBlock.toList ∧ q + 1 ∉ sp :: v.ownBlock.toList := by
          constructor
          · simp; exact ⟨by omega, fun hm => by have := hvo _ hm; omega⟩
          · simp; exact ⟨by omega, fun hm => by have := hvo _ hm; omega⟩
        refine hK.out _ _ (fun _ => ⟨hHeld.1.fr hf4 hqn.1, hHeld.2.fr hf4 hqn.2⟩) (fun hHeld' => ?_); have hHeld := hHeld' (by decide); clear hHeld' hK K; (try (refine wpAnyL_norm (by simp only [Act.put, List.setIfInBounds_toArray, List.set_cons_zero, List.set_cons_succ]; rfl) ?_))
        have F4 := Lib.hid (F3.out.trans hf4 (fun x hx => by
          rcases List.mem_cons.1 hx with rfl | hx
          · exact .inl (by simp)
          · exact .inr (hvo _ (by simpa using hx))))
        have S4 := Lib.hid hs4
        have HV4 := Lib.hid (fun g (hg : v'.ownBlock = some g) => (hv4 g hg).elim (fun h => hvo g h) (fun h => Nat.le_trans F3.out.size h))
        clear hf4 hs4 hv4 hqn hvo CK
        refine wpAnyL_take (i := 5) (v := ?_) rfl (by kernel_rfl) (fun _ _ _ h => h) (Or.inl ⟨by rfl, ?_⟩) (by assumption) ?_; rotate_left; (focus (intro w hSw; skip; go_simp; (try with_reducible rfl))); (try (refine wpAnyL_norm (by simp only [Act.put, List.setIfInBounds_toArray, List.set_cons_zero, List.set_cons_succ]; rfl) ?_))
        refine wpAnyL_take (i := 6) (v := ?_) rfl (by kernel_rfl) (fun _ _ _ h => h) (Or.inl ⟨by rfl, ?_⟩) (by assumption) ?_; rotate_left; (focus (intro w hSw; skip; go_simp; (try with_reducible rfl))); (try (refine wpAnyL_norm (by simp only [Act.put, List.setIfInBounds_toArray, List.set_cons_zero, List.set_cons_succ]; rfl) ?_))
        refine wpAnyL_take (i := 7) (v := ?_) rfl (by kernel_rfl) (fun _ _ _ h => h) (Or.inl ⟨by rfl, ?_⟩) (by assumption) ?_; rotate_left; (focus (intro w hSw; skip; go_simp; (try with_reducible rfl))); (try (refine wpAnyL_norm (by simp only [Act.put, List.setIfInBounds_toArray, List.set_cons_zero, List.set_cons_succ]; rfl) ?_))
        refine wpAnyL_take (i := 8) (v := ?_) rfl (by kernel_rfl) (fun _ _ _ h => h) (Or.inl ⟨by rfl, ?_⟩) (by assumption) ?_; rotate_left; (focus (intro w hSw; skip; go_simp; (try with_reducible rfl))); (try (refine wpAnyL_norm (by simp only [Act.put, List.setIfInBounds_toArray, List.set_cons_zero, List.set_cons_succ]; rfl) ?_))
        refine wpAnyL_done (by kernel_rfl) ?_ _
        have hkn : (k : Int) < 16 := by omega
        go_wp2_with fail
        go_roundw
        case rel => exact ⟨k + 1, v', 0, by omega, by go_num, rfl, by omega, S4.out, HV4.out, F4.out⟩
        case measure => simp [intOf]; omega
      · obtain rfl : k = 16 := by omega
        have CK := Lib.hid (CK2.out w3 sp v S3.out)
        refine wpAnyL_ready (rs := [4]) (by kernel_rfl) (by simp) ?_; refine AllReadyL.cons rfl (fun K hK => ?_) AllReadyL.nil
        go_simp
        refine (CK.out).mono ?_
        rintro e w4 ⟨G, rfl, hf4⟩
        refine hK.out _ _ (fun _ => ⟨hHeld.1.fr hf4 (by simp), hHeld.2.fr hf4 (by simp)⟩) (fun hHeld' => ?_); have hHeld := hHeld' (by decide); clear hHeld' hK K; (try (refine wpAnyL_norm (by simp only [Act.put, List.setIfInBounds_toArray, List.set_cons_zero, List.set_cons_succ]; rfl) ?_))
        have F4 := Lib.hid (F3.out.trans0 hf4)
        have S4 := Lib.hid (S3.out.fr0 hf4)
        clear hf4 CK
        refine wpAnyL_take (i := 5) (v := ?_) rfl (by kernel_rfl) (fun _ _ _ h => h) (Or.inl ⟨by rfl, ?_⟩) (by assumption) ?_; rotate_left; (focus (intro w hSw; skip; go_simp; (try with_reducible rfl))); (try (refine wpAnyL_norm (by simp only [Act.put, List.setIfInBounds_toArray, List.set_cons_zero, List.set_cons_succ]; rfl) ?_))
        refine wpAnyL_take (i := 6) (v := ?_) rfl (by kernel_rfl) (fun _ _ _ h => h) (Or.inl ⟨by rfl, ?_⟩) (by assumption) ?_; rotate_left; (focus (intro w hSw; skip; go_simp; (try with_reducible rfl))); (try (refine wpAnyL_norm (by simp only [Act.put, List.setIfInBounds_toArray, List.set_cons_zero, List.set_cons_succ]; rfl) ?_))
        refine wpAnyL_take (i := 7) (v := ?_) rfl (by kernel_rfl) (fun _ _ _ h => h) (Or.inl ⟨by rfl, ?_⟩) (by assumption) ?_; rotate_left; (focus (intro w hSw; skip; go_simp; (try with_reducible rfl))); (try (refine wpAnyL_norm (by simp only [Act.put, List.setIfInBounds_toArray, List.set_cons_zero, List.set_cons_succ]; rfl) ?_))
        refine wpAnyL_take (i := 8) (v := ?_) rfl (by kernel_rfl) (fun _ _ _ h => h) (Or.inl ⟨by rfl, ?_⟩) (by assumption) ?_; rotate_left; (focus (intro w hSw; skip; go_simp; (try with_reducible rfl))); (try (refine wpAnyL_norm (by simp only [Act.put, List.setIfInBounds_toArray, List.set_cons_zero, List.set_cons_succ]; rfl) ?_))
        refine wpAnyL_done (by kernel_rfl) ?_ _
        go_wp2_with fail
        go_roundw
        case rel => exact ⟨17, v, 9, by omega, by go_num, rfl, fun _ => rfl, S4.out, HVO.out, F4.out⟩
        case measure => simp [intOf]
    · obtain rfl : k = 17 := by omega
      obtain rfl := H9.out rfl
      obtain ⟨wC, rfl⟩ : ∃ W : World, W = wr := ⟨_, rfl⟩
      have hsl : (SL 17).length = 48 := SL_len 17
      have HSL := Lib.hid hsl
      have HCUR := Lib.hid (SL_cur 17)
      have hvlt : ∀ g, v.ownBlock = some g → g < wC.heap.size := fun g hg => (RS.out.2.lt g hg).2
      have HVLT := Lib.hid hvlt
      have CCP := Lib.hid (scopy_any RS.out (by omega))
      have CR1 := CK3
      obtain ⟨LL, hLL⟩ : ∃ L, SL 17 = L := ⟨_, rfl⟩
      rw [hLL] at RS CCP CR1 HSL HCUR
      clear CK1 CK2 CK3 hsl hvlt hLL AX BX
      go_wp2_with fail
      refine (CCP.out).mono ?_
      rintro e w3 ⟨sp2, v2, rfl, hs3, hsp2, hv2, hf3⟩
      have S3 := Lib.hid hs3
      have F3 := Lib.hid hf3
      clear hs3 hf3 CCP
      go_wp2_with fail
      refine (CFR.out _).mono ?_
      rintro e w4 ⟨rfl, hf4⟩
      have S4 := Lib.hid (S3.out.fr0 hf4)
      have F4 := Lib.hid (F3.out.trans0 hf4)
      clear hf4 S3 F3
      go_wp2_with fail
      refine (CR1.out w4 sp2 v2 S4.out).mono ?_
      rintro e w5 ⟨v5, L5, G5, rfl, hs5, hl5, hf5⟩
      have S5 := Lib.hid hs5
      have HL5 := Lib.hid hl5
      have F5 := Lib.hid (F4.out.trans hf5 (by simp; omega))
      clear hf5 hs5 hl5 S4 F4
      go_upto_region 23 with (fail)
      have KF : Hid (Fr [] w5 w5) := Lib.hid (Fr.refl _ _)
      have C6 := Lib.hid fun W (h : Fr [] w5 W) => C6.out W
      have RA := Lib.hid (RA.out.fr F5.out (by simp))
      have RB := Lib.hid (RB.out.fr F5.out (by simp))
      have RS := Lib.hid (RS.out.fr0 F5.out)
      go_cut [22, 23] (fun s6 s7 wx => ∃ B : Nat, s6 = .pointer (some ⟨B, 0, none⟩) ∧ s7 = .int .i64 9 ∧ Fr [] w5 wx)
      case first =>
        as_aux_lemma =>
          refine wp_region_L (fun W => Fr [] w5 W) [] (by kernel_rfl) KF.out.drew (fun hHeld => ?_)
          refine wpAnyL_take (i := 0) (v := ?_) rfl (by kernel_rfl) (fun _ _ _ h => h) (Or.inl ⟨by rfl, ?_⟩) (by assumption) ?_; rotate_left; (focus (intro w hSw; skip; go_simp; (try with_reducible rfl))); (try (refine wpAnyL_norm (by simp only [Act.put, List.setIfInBounds_toArray, List.set_cons_zero, List.set_cons_succ]; rfl) ?_))
          refine wpAnyL_take (i := 2) rfl (by kernel_rfl) (fun _ _ _ h => h) (yields_load_cp (.tmp 2) rfl q rfl 25 a (fun W h => RA.out.fr h (by simp)) rfl) (by assumption) ?_; (try (refine wpAnyL_norm (by simp only [Act.put, List.setIfInBounds_toArray, List.set_cons_zero, List.set_cons_succ]; rfl) ?_))
          refine wpAnyL_take (i := 3) rfl (by kernel_rfl) (fun _ _ _ h => h) (yields_load_cp (.tmp 3) rfl (q + 1) rfl 25 b (fun W h => RB.out.fr h (by simp)) rfl) (by assumption) ?_; (try (refine wpAnyL_norm (by simp only [Act.put, List.setIfInBounds_toArray, List.set_cons_zero, List.set_cons_succ]; rfl) ?_))
          refine wpAnyL_ready (rs := [1, 8]) (by kernel_rfl) (by simp) ?_
          refine AllReadyL.cons rfl (fun K hK => ?_) (AllReadyL.cons rfl (fun K hK => ?_) AllReadyL.nil)
          · go_simp
            refine (CFR.out _).mono ?_
            rintro e w3 ⟨rfl, hf3⟩
            refine hK.out _ _ (fun _ => hHeld.trans0 hf3) (fun hHeld' => ?_); have hHeld := hHeld' (by decide); clear hHeld' hK K; (try (refine wpAnyL_norm (by simp only [Act.put, List.setIfInBounds_toArray, List.set_cons_zero, List.set_cons_succ]; rfl) ?_))
            refine wpAnyL_ready (rs := [4, 8]) (by kernel_rfl) (by simp) ?_
            refine AllReadyL.cons rfl (fun K hK => ?_) (AllReadyL.cons rfl (fun K hK => ?_) AllReadyL.nil)
            · go_simp
              refine (C6.out _ hHeld).mono ?_
              rintro e w4 ⟨rfl, hf4⟩
              refine hK.out _ _ (fun _ => hHeld.trans0 hf4) (fun hHeld' => ?_); have hHeld := hHeld' (by decide); clear hHeld' hK K; (try (refine wpAnyL_norm (by simp only [Act.put, List.setIfInBounds_toArray, List.set_cons_zero, List.set_cons_succ]; rfl) ?_))
              refine wpAnyL_take (i := 5) (v := ?_) rfl (by kernel_rfl) (fun _ _ _ h => h) (Or.inl ⟨by rfl, ?_⟩) (by assumption) ?_; rotate_left; (focus (intro w hSw; skip; go_simp; (try with_reducible rfl))); (try (refine wpAnyL_norm (by simp only [Act.put, List.setIfInBounds_toArray, List.set_cons_zero, List.set_cons_succ]; rfl) ?_))
              refine wpAnyL_take (i := 6) (v := ?_) rfl (by kernel_rfl) (fun _ _ _ h => h) (Or.inl ⟨by rfl, ?_⟩) (by assumption) ?_; rotate_left; (focus (intro w hSw; skip; go_simp; (try with_reducible rfl))); (try (refine wpAnyL_norm (by simp only [Act.put, List.setIfInBounds_toArray, List.set_cons_zero, List.set_cons_succ]; rfl) ?_))
              refine wpAnyL_take (i := 7) (v := ?_) rfl (by kernel_rfl) (fun _ _ _ h => h) (Or.inl ⟨by rfl, ?_⟩) (by assumption) ?_; rotate_left; (focus (intro w hSw; skip; go_simp; (try with_reducible rfl))); (try (refine wpAnyL_norm (by simp only [Act.put, List.setIfInBounds_toArray, List.set_cons_zero, List.set_cons_succ]; rfl) ?_))
              refine wpAnyL_ready (rs := [8]) (by kernel_rfl) (by simp) ?_; refine AllReadyL.cons rfl (fun K hK => ?_) AllReadyL.nil
              go_simp
              have hZ4 := At.new w4 31 Z
              have hz4 := hHeld.size
              refine hK.out _ _ (fun _ => hHeld.alloc (.cells Z 31)) (fun hHeld' => ?_); have hHeld := hHeld' (by decide); clear hHeld' hK K; (try (refine wpAnyL_norm (by simp only [Act.put, List.setIfInBounds_toArray, List.set_cons_zero, List.set_cons_succ]; rfl) ?_))
              refine wpAnyL_ready (rs := [9]) (by kernel_rfl) (by simp) ?_; refine AllReadyL.cons rfl (fun K hK => ?_) AllReadyL.nil
              rw [if_pos (by rfl)]
              refine wp_store_all 31 (.tmp 22) (.tmp 111) rfl _ Z rfl rfl 31 Z hZ4 ZI.out rfl ZA.out ?_
              intro w9 hA9 hF9
              refine hK.out _ _ (fun _ => hHeld.trans hF9 (by have := hz4; simp <;> omega)) (fun hHeld' => ?_); have hHeld := hHeld' (by decide); clear hHeld' hK K; (try (refine wpAnyL_norm (by simp only [Act.put, List.setIfInBounds_toArray, List.set_cons_zero, List.set_cons_succ]; rfl) ?_))
              refine wpAnyL_take (i := 10) (v := ?_) rfl (by kernel_rfl) (fun _ _ _ h => h) (Or.inl ⟨by rfl, ?_⟩) (by assumption) ?_; rotate_left; (focus (intro w hSw; skip; go_simp; (try with_reducible rfl))); (try (refine wpAnyL_norm (by simp only [Act.put, List.setIfInBounds_toArray, List.set_cons_zero, List.set_cons_succ]; rfl) ?_))
              refine wpAnyL_done (by kernel_rfl) ?_ _
              go_wp2_with fail
              go_meet
              exact ⟨_, rfl, rfl, hHeld⟩
            · go_simp
              have hZ3 := At.new w3 31 Z
              have hz4 := hHeld.size
              refine hK.out _ _ (fun _ => hHeld.alloc (.cells Z 31)) (fun hHeld' => ?_); have hHeld := hHeld' (by decide); clear hHeld' hK K; (try (refine wpAnyL_norm (by simp only [Act.put, List.setIfInBounds_toArray, List.set_cons_zero, List.set_cons_succ]; rfl) ?_))
              refine wpAnyL_ready (rs := [4]) (by kernel_rfl) (by simp) ?_; refine AllReadyL.cons rfl (fun K hK => ?_) AllReadyL.nil
              go_simp
              refine (C6.out _ hHeld).mono ?_
              rintro e w4 ⟨rfl, hf4⟩
              refine hK.out _ _ (fun _ => hHeld.trans0 hf4) (fun hHeld' => ?_); have hHeld := hHeld' (by decide); clear hHeld' hK K; (try (refine wpAnyL_norm (by simp only [Act.put, List.setIfInBounds_toArray, List.set_cons_zero, List.set_cons_succ]; rfl) ?_))
              have hZ4 := hZ3.fr hf4 (by simp)
              refine wpAnyL_take (i := 5) (v := ?_) rfl (by kernel_rfl) (fun _ _ _ h => h) (Or.inl ⟨by rfl, ?_⟩) (by assumption) ?_; rotate_left; (focus (intro w hSw; skip; go_simp; (try with_reducible rfl))); (try (refine wpAnyL_norm (by simp only [Act.put, List.setIfInBounds_toArray, List.set_cons_zero, List.set_cons_succ]; rfl) ?_))
              refine wpAnyL_take (i := 6) (v := ?_) rfl (by kernel_rfl) (fun _ _ _ h => h) (Or.inl ⟨by rfl, ?_⟩) (by assumption) ?_; rotate_left; (focus (intro w hSw; skip; go_simp; (try with_reducible rfl))); (try (refine wpAnyL_norm (by simp only [Act.put, List.setIfInBounds_toArray, List.set_cons_zero, List.set_cons_succ]; rfl) ?_))
              refine wpAnyL_take (i := 7) (v := ?_) rfl (by kernel_rfl) (fun _ _ _ h => h) (Or.inl ⟨by rfl, ?_⟩) (by assumption) ?_; rotate_left; (focus (intro w hSw; skip; go_simp; (try with_reducible rfl))); (try (refine wpAnyL_norm (by simp only [Act.put, List.setIfInBounds_toArray, List.set_cons_zero, List.set_cons_succ]; rfl) ?_))
              refine wpAnyL_ready (rs := [9]) (by kernel_rfl) (by simp) ?_; refine AllReadyL.cons rfl (fun K hK => ?_) AllReadyL.nil
              rw [if_pos (by rfl)]
              refine wp_store_all 31 (.tmp 22) (.tmp 111) rfl _ Z rfl rfl 31 Z hZ4 ZI.out rfl ZA.out ?_
              intro w9 hA9 hF9
              refine hK.out _ _ (fun _ => hHeld.trans hF9 (by have := hz4; simp <;> omega)) (fun hHeld' => ?_); have hHeld := hHeld' (by decide); clear hHeld' hK K; (try (refine wpAnyL_norm (by simp only [Act.put, List.setIfInBounds_toArray, List.set_cons_zero, List.set_cons_succ]; rfl) ?_))
              refine wpAnyL_take (i := 10) (v := ?_) rfl (by kernel_rfl) (fun _ _ _ h => h) (Or.inl ⟨by rfl, ?_⟩) (by assumption) ?_; rotate_left; (focus (intro w hSw; skip; go_simp; (try with_reducible rfl))); (try (refine wpAnyL_norm (by simp only [Act.put, List.setIfInBounds_toArray, List.set_cons_zero, List.set_cons_succ]; rfl) ?_))
              refine wpAnyL_done (by kernel_rfl) ?_ _
              go_wp2_with fail
              go_meet
              exact ⟨_, rfl, rfl, hHeld⟩
          · go_simp
            have hz4 := hHeld.size
            have hZ3 : At (w5.alloc (.cells Z 31)).drew w5.heap.size 31 Z := At.new w5 31 Z
            have hz4 : w5.heap.size ≤ w5.heap.size := hz4
            refine hK.out _ _ (fun _ => (KF.out.alloc (.cells Z 31)).drew) (fun hHeld' => ?_); have hHeld := hHeld' (by decide); clear hHeld' hK K; (try (refine wpAnyL_norm (by simp only [Act.put, List.setIfInBounds_toArray, List.set_cons_zero, List.set_cons_succ]; rfl) ?_))
            refine wpAnyL_ready (rs := [1]) (by kernel_rfl) (by simp) ?_; refine AllReadyL.cons rfl (fun K hK => ?_) AllReadyL.nil
            go_simp
            refine (CFR.out _).mono ?_
            rintro e w3 ⟨rfl, hf3⟩
            refine hK.out _ _ (fun _ => hHeld.trans0 hf3) (fun hHeld' => ?_); have hHeld := hHeld' (by decide); clear hHeld' hK K; (try (refine wpAnyL_norm (by simp only [Act.put, List.setIfInBounds_toArray, List.set_cons_zero, List.set_cons_succ]; rfl) ?_))
            refine wpAnyL_ready (rs := [4]) (by kernel_rfl) (by simp) ?_; refine AllReadyL.cons rfl (fun K hK => ?_) AllReadyL.nil
            go_simp
            refine (C6.out _ hHeld).mono ?_
            rintro e w4 ⟨rfl, hf4⟩
            refine hK.out _ _ (fun _ => hHeld.trans0 hf4) (fun hHeld' => ?_); have hHeld := hHeld' (by decide); clear hHeld' hK K; (try (refine wpAnyL_norm (by simp only [Act.put, List.setIfInBounds_toArray, List.set_cons_zero, List.set_cons_succ]; rfl) ?_))
            have hZ4 := (hZ3.fr hf3 (by simp)).fr hf4 (by simp)
            refine wpAnyL_take (i := 5) (v := ?_) rfl (by kernel_rfl) (fun _ _ _ h => h) (Or.inl ⟨by rfl, ?_⟩) (by assumption) ?_; rotate_left; (focus (intro w hSw; skip; go_simp; (try with_reducible rfl))); (try (refine wpAnyL_norm (by simp only [Act.put, List.setIfInBounds_toArray, List.set_cons_zero, List.set_cons_succ]; rfl) ?_))
            refine wpAnyL_take (i := 6) (v := ?_) rfl (by kernel_rfl) (fun _ _ _ h => h) (Or.inl ⟨by rfl, ?_⟩) (by assumption) ?_; rotate_left; (focus (intro w hSw; skip; go_simp; (try with_reducible rfl))); (try (refine wpAnyL_norm (by simp only [Act.put, List.setIfInBounds_toArray, List.set_cons_zero, List.set_cons_succ]; rfl) ?_))
            refine wpAnyL_take (i := 7) (v := ?_) rfl (by kernel_rfl) (fun _ _ _ h => h) (Or.inl ⟨by rfl, ?_⟩) (by assumption) ?_; rotate_left; (focus (intro w hSw; skip; go_simp; (try with_reducible rfl))); (try (refine wpAnyL_norm (by simp only [Act.put, List.setIfInBounds_toArray, List.set_cons_zero, List.set_cons_succ]; rfl) ?_))
            refine wpAnyL_ready (rs := [9]) (by kernel_rfl) (by simp) ?_; refine AllReadyL.cons rfl (fun K hK => ?_) AllReadyL.nil
            rw [if_pos (by rfl)]
            refine wp_store_all 31 (.tmp 22) (.tmp 111) rfl _ Z rfl rfl 31 Z hZ4 ZI.out rfl ZA.out ?_
            intro w9 hA9 hF9
            refine hK.out _ _ (fun _ => hHeld.trans hF9 (by have := hz4; simp <;> omega)) (fun hHeld' => ?_); have hHeld := hHeld' (by decide); clear hHeld' hK K; (try (refine wpAnyL_norm (by simp only [Act.put, List.setIfInBounds_toArray, List.set_cons_zero, List.set_cons_succ]; rfl) ?_))
            refine wpAnyL_take (i := 10) (v := ?_) rfl (by kernel_rfl) (fun _ _ _ h => h) (Or.inl ⟨by rfl, ?_⟩) (by assumption) ?_; rotate_left; (focus (intro w hSw; skip; go_simp; (try with_reducible rfl))); (try (refine wpAnyL_norm (by simp only [Act.put, List.setIfInBounds_toArray, List.set_cons_zero, List.set_cons_succ]; rfl) ?_))
            refine wpAnyL_done (by kernel_rfl) ?_ _
            go_wp2_with fail
            go_meet
            exact ⟨_, rfl, rfl, hHeld⟩
      obtain ⟨B22, h6, h7, hf⟩ := hcut
      subst h6 h7
      rename World => w22
      have KF := Lib.hid hf
      clear hf
      clear C6 RA RB
      go_wp2_with fail
      refine (CFR.out _).mono ?_
      rintro e w6 ⟨rfl, hf6⟩
      have K6 := Lib.hid (KF.out.trans0 hf6)
      clear hf6 KF
      go_wp2_with fail
      refine (C7.out _).mono ?_
      rintro e w7 ⟨rfl, hf7⟩
      have K7 := Lib.hid (K6.out.trans0 hf7)
      clear hf7 K6
      go_wp2_with (refine wpList_store_all rfl 31 (.tmp 24) (.tmp 117) rfl _ Z rfl rfl 31 Z (At.newq rfl) ZI.out rfl ZA.out ?_; intro w8 hA8 hF8)
      have K8 := Lib.hid ((K7.out.alloc (.cells Z 31)).trans hF8 (by have := K7.out.size; simp <;> omega))
      have T8 := Lib.hid (RS.out.fr0 K8.out)
      have U8 := Lib.hid (S5.out.fr0 K8.out)
      have W8 := Lib.hid (F5.out.trans0 K8.out)
      clear hA8 hF8 K7 K8 RS S5 F5
      refine (works_any _).mono ?_
      rintro e w9 ⟨rfl, hf9⟩
      have T9 := Lib.hid (T8.out.fr0 hf9)
      have U9 := Lib.hid (U8.out.fr0 hf9)
      have W9 := Lib.hid (W8.out.trans0 hf9)
      clear hf9 T8 U8 W8
      have CD1 := sdepth_any T9.out
      have CD2 := sdepth_any U9.out
      have CL := scapsl_any T9.out (by rw [HSL.out]; omega)
      rw [HSL.out] at CD1 CL
      rw [HL5.out] at CD2
      simp only [Nat.reduceDiv] at CD1 CD2
      go_wp2_with fail
      refine CD1.mono ?_
      rintro e w' ⟨rfl, rfl⟩
      go_wp2_with fail
      refine CD2.mono ?_
      rintro e w' ⟨rfl, rfl⟩
      go_wp2_with fail
      refine CL.mono ?_
      rintro e w10 ⟨v10, rfl, ho10, hf10⟩
      obtain ⟨a10, c10, rfl, hc10⟩ := own_slice ho10
      have T10 := Lib.hid (T9.out.fr0 hf10)
      have W10 := Lib.hid (W9.out.trans0 hf10)
      clear ho10 hf10 T9 U9 W9 CD1 CD2 CL
      go_wp2_with fail
      refine (sdepth_nil _).mono ?_
      rintro e w' ⟨rfl, rfl⟩
      go_wp2_with fail
      refine (scapsl_nil _).mono ?_
      rintro e w' ⟨rfl, rfl⟩
      go_wp2_with fail
      refine (sscan_nil _ _).mono ?_
      rintro e w' ⟨rfl, rfl⟩
      go_wp2_with fail
      refine (scopy_nil _).mono ?_
      rintro e w' ⟨rfl, rfl⟩
      go_wp2_with fail
      have CS := sscan_any (Hs.nil w10.heap.size w10) (Nat.le_refl _) sp v LL T10.out HCUR.out (by rw [HSL.out]; omega)
      rw [sums_nohs] at CS
      refine CS.mono ?_
      rintro e w11 ⟨v11, rfl, hs11, hf11, -⟩
      go_wp2_with fail
      go_ret
      refine ⟨rfl, (KF0.out.trans RF.out (by simp; omega)).trans0 W10.out |>.trans hf11 (by simp; omega)⟩
theorem laidOut : laidOutB Try.prog = true := by kernel_rfl
set_option maxRecDepth 100000 in
theorem lifted (os : Os) (started : os.Started) (H : Type) (enc : TypeId × Value → H) :
    ReturnsInHanded {} Try.checked os 5 .any (Rows.compartKnownSpec.pre6 enc Try.prog Try.f5 Rows.compartKnownRow.domain false) (Rows.compartKnownSpec.post enc Try.prog Try.f5 false true false false) := by
  refine returnsInHanded_of_change (C := Try.checked) own started (by kernel_rfl) Try.func5
    (ChangeSpec.witness6 (enc := enc) (C := Try.checked) false ⟨#[], #[], []⟩ 8 (by kernel_rfl) (by kernel_rfl) (by kernel_rfl) (by kernel_rfl)) ?_
  intro W base args ds gs before hval0 hW hcnd _
  have hval : ∀ (j : Nat) t v, Try.f5.params[j]? = some t → args[j]? = some v → Value.okWide Try.prog W .any base t v := hval0
  have hW' := hW
  obtain ⟨p, q, hA0, hV, rfl, hfz, hnd⟩ := hW
  have hA : DataW.TrodAll enc Try.prog W 0 (fun _ => true) true Try.f5.params.toList args.toList ds p := hA0
  rw [Try.params5] at hA hval
  obtain ⟨rfl, rfl, rfl⟩ := trodAll_none hA
  obtain ⟨rfl, rfl⟩ := trodVars_none hV
  clear hA0 hval0
  simp only [List.append_nil] at hW'
  refine (walk  W ).mono fun e W' ⟨he, hg⟩ => ?_
  subst he
  exact ⟨_, rfl, post_fr (pa := []) (pv := []) hW' (fun _ _ _ => (trodAll_cons_mk (shut_bool Try.underlying4 _) trodAll_mk0)) (fun sp _ => rfl) (fun _ _ => rfl) rfl
    hg (ok_one (by kernel_rfl) rfl (okWide_bool_mk Try.underlying4 _))⟩
theorem over : Rows.compartKnownRow.holds Try.pinned (OpenSpec.ofChange Rows.compartKnownSpec) :=
  OpenClaim.holds_of_wide 5 Try.f5 rfl rfl rfl rfl rfl rfl rfl ⟨rfl, rfl, rfl, rfl, rfl⟩ rfl rfl rfl rfl rfl (by kernel_rfl) Try.func5 (by kernel_rfl)
    (of_decide_eq_true (by kernel_rfl)) (by unfold Func.isWrapper; first | (rw [if_pos (by decide +kernel)]; kernel_rfl) | (rw [if_neg (by decide +kernel)]; exact ⟨rfl, rfl⟩))
    (fun os started H enc _ => lifted os started H enc)
/-- The statement, proved. -/
theorem proved : Rows.CompartKnownSaid :=
  over
end compartKnown
end Go.Proofs.Ytdfefnajhnlpdaa
