/-
  What an arena's functions do with capabilities; zeros. Condition: numbers in their types' ranges.
-/





import Derived.Test.YtilgklpponaoeaaTell
import Derived.Test.YtilgklpponaoeaaFitsCap
import Derived.BigRegion
import Derived.Deep.OwnRows
set_option linter.unusedVariables false
namespace Go.Proofs.Ytilgklpponaoeaa
open Go.ChangeShapes Go.WideShapes Go.ChangeAt Go.RowKit
theorem infoCapZ : (Try.prog.info? 38).map (·.size) = some 8 := by kernel_rfl
theorem wrap_a (a : Nat) (h : a < 4294967296) : IntKind.i64.wrap (a : Int) = (a : Int) ∧ IntKind.i64.wrap ((a : Int) / 16) = (a : Int) / 16 := by
  constructor <;> simp [IntKind.wrap, IntKind.signed, IntKind.bits] <;> omega
section
variable {ops : Array Oper} {S : World → Prop} {o : Oper} {a : Act}
theorem yields_str (src dst e : TypeId) (hs : Try.prog.underlying src = some (.slice e)) (he : Try.prog.underlying e = some (.int .u8)) (hd : Try.prog.underlying dst = some .string) (x : Operand) (ho : o.op = .convert src dst x) (ad : Option Addr) (n cap : Nat) (hx : a.eval x = .slice ad n cap) (l : List Nat) (hl : l.length = n) (hb : Byt l)
    (hi : ∀ W, S W → BIn W ad l) (hn : ad = none → n = 0) (hw : Region.wanted o (yielded ops a.tmps) = true) : YieldsIf Try.prog ops S o (strV l) a :=
  Or.inl ⟨hw, fun w hS => by
    unfold execOp
    simp only [ho, hx, Sem.run_bind, Sem.run_pure, Result.andThen_ok, run_str src dst e hs he hd w ad n cap l hl hb (hi w hS) hn]⟩
theorem yields_capz (x : Operand) (ho : o.op = .load 38 x) (g : Nat) (hx : a.eval x = .pointer (some ⟨g, 0, none⟩)) (t : TypeId) (c : Cp) (hg : ∀ W, S W → At W g t c.cells)
    (hw : Region.wanted o (yielded ops a.tmps) = true) : YieldsIf Try.prog ops S o (.agg c.cells) a :=
  yields_load_at 38 x ho ⟨g, 0, none⟩ hx c.l _ (fun W hW j v hv => by
    rw [Go.WideShapes.add_plain, (hg W hW).cell, Nat.zero_add]
    have : c.cells = c.l.toArray := rfl
    rw [this, List.getElem?_toArray, hv]) Try.underlying38 rfl infoCapZ hw
end
theorem wp_store_z {P : Program} {K : Act → World → Prop} {Q : Exit → Act → World → Prop} {o : Oper} {a : Act} {w : World} (ty : TypeId) (x y : Operand) (ho : o.op = .store ty x y) (g : Nat) (cs : Array Value) (hx : a.eval x = .pointer (some ⟨g, 0, none⟩)) (hy : a.eval y = .agg cs)
    (t : TypeId) (cur : Array Value) (hg : At w g t cur) (hi : (P.info? ty).map (·.size) = some cs.size) (hk : cur.size = cs.size) (h1 : cs.all (·.oneCell') = true)
    (h : ∀ w', At w' g t cs → Fr [g] w w' → K (a.put o.dst undef) w') : o.wp P a w K Q :=
  wp_store_row ty x y ho g cs hx hy t cur hg hi hk h1 (h _ (setRow_heap w g _ _ t (0, 0) hg) (Fr.setRow w g _))
theorem cellz_all (c : Cp) : c.cells.all (·.oneCell') = true := by simp [Cp.cells, Value.oneCell']
set_option maxHeartbeats 2000000 in
set_option maxRecDepth 100000 in
theorem aloadc_yes (w : World) (ap p g bg cap : Nat) (bs : List Nat) (f : Nat → Bool) (h : Ar w ap p g bg cap bs f) (a : Nat) (ha : a % 16 = 0) (hfit : a + 16 ≤ bs.length) :
    Calls Try.prog 30 #[.pointer (some ⟨ap, 0, none⟩), .int .u32 a] w fun r w' => r = .returned (.tuple #[.agg (ofB ((bs.drop a).take 16) (f (a / 16))).cells, .bool true]) ∧ Fr [] w w' := by
  have hN := h.2.1
  have hcap := h.2.2.1
  have CW := Lib.hid fun (W : World) (hW : Fr [] w W) => (show Calls Try.prog 35 #[.pointer (some ⟨ap, 0, none⟩), .int .u32 a] W fun r w' => r = .returned (.bool true) ∧ W = w' by
    have := awhole_any W ap p g bg cap bs f (h.fr0 hW) a (by omega)
    unfold whB at this
    rw [decide_eq_true ha, decide_eq_true hfit] at this
    exact this)
  have H := Lib.hid h
  have CG := Lib.hid fun (W : World) (hW : Ar W ap p g bg cap bs f) => (show Calls Try.prog 62 #[.pointer (some ⟨p, 0, none⟩), .int .i64 ((a : Int) / 16)] W fun r w' => r = .returned (.bool (f (a / 16))) ∧ W = w' by
    have := get_any W p g (bs.length / 16) f hW.2.2.2.2.2.2.1 ((a / 16 : Nat) : Int)
    rw [inR_nat _ _ (by omega), Bool.true_and, Int.toNat_natCast, show ((a / 16 : Nat) : Int) = (a : Int) / 16 by omega] at this
    exact this)
  have hL := sub_of bs a 16 hfit
  have HB := Lib.hid ((h.2.2.2.2.1.drop a).take 16)
  have HI := Lib.hid fun (W : World) (hW : Ar W ap p g bg cap bs f) => (show BIn W (some ⟨bg, a, none⟩) ((bs.drop a).take 16) from .inr ⟨bg, a, rfl, hW.lt.2.2.2, fun j v hv => hW.at_ a _ (by rw [hL]) j v hv⟩)
  have HT := Lib.hid fun (W : World) (hW : Ar W ap p g bg cap bs f) => hW.top
  obtain ⟨N, hNN⟩ : ∃ N, bs.length = N := ⟨_, rfl⟩
  obtain ⟨L, hLL⟩ : ∃ L, (bs.drop a).take 16 = L := ⟨_, rfl⟩
  rw [hNN] at hN hcap hfit HT
  rw [hLL] at hL HB HI ⊢
  have CO := Lib.hid fun W v => cof_any W L hL HB.out v
  obtain ⟨tg, htg⟩ : ∃ t, f (a / 16) = t := ⟨_, rfl⟩
  rw [htg] at CG ⊢
  have HL := Lib.hid hL
  obtain ⟨R, hR⟩ : ∃ R, ofB L tg = R := ⟨_, rfl⟩
  have HR := Lib.hid hR
  rw [hR]
  have hwr : IntKind.u32.wrap ((a : Int) + 16) = (a : Int) + 16 := by simp [IntKind.wrap, IntKind.signed, IntKind.bits]; omega
  have HI8 := Lib.hid (show (Try.prog.info? 38).map (·.size) = some R.cells.size by kernel_rfl)
  have F0 := Lib.hid (show Fr [] w (w.alloc (.cells noC.cells 38)) from (by repeat (first | exact Fr.refl _ _ | assumption | refine Fr.trans0 ?_ (by assumption) | refine Fr.drewN ?_ _ | refine Fr.alloc ?_ _ | refine Fr.drew ?_)))
  have A0 := Lib.hid (At.new w 38 noC.cells)
  have HA0 := Lib.hid (H.out.fr0 F0.out)
  have hlt := h.lt
  have hac : a < cap := by omega
  obtain ⟨hwa, hwq⟩ := wrap_a a (by omega)
  clear h hNN hLL hL htg hR
  go_enter Try.func30, Try.ntmps30
  go_wp2_with fail
  refine (CW.out _ F0.out).mono ?_
  rintro e w' ⟨rfl, rfl⟩
  have HIS := Lib.hid fun (W : World) (hW : Ar W ap p g bg cap bs f ∧ (∃ C : Cp, At W w.heap.size 38 C.cells) ∧ Fr [] w W) => HI.out W hW.1
  go_upto_region 3 with (fail)
  refine wp_region_L (fun W => Ar W ap p g bg cap bs f ∧ (∃ C : Cp, At W w.heap.size 38 C.cells) ∧ Fr [] w W) [] (by kernel_rfl) ⟨HA0.out.fr0 (Fr.refl _ _).drew, ⟨noC, A0.out.hp rfl⟩, F0.out.drew⟩ (fun hHeld => ?_)
  refine wpAnyL_take (i := 0) (v := ?_) rfl (by kernel_rfl) (fun _ _ _ h => h) (Or.inl ⟨by rfl, ?_⟩) (by assumption) ?_; rotate_left; (focus (intro w hSw; skip; go_simp; (try with_reducible rfl))); (try (refine wpAnyL_norm (by simp only [Act.put, List.setIfInBounds_toArray, List.set_cons_zero, List.set_cons_succ]; rfl) ?_))
  refine wpAnyL_take (i := 1) (v := ?_) rfl (by kernel_rfl) (fun _ _ _ h => h) (Or.inl ⟨by rfl, ?_⟩) (by assumption) ?_; rotate_left; (focus (intro w hSw; skip; go_simp; (try with_reducible rfl))); (try (refine wpAnyL_norm (by simp only [Act.put, List.setIfInBounds_toArray, List.set_cons_zero, List.set_cons_succ]; rfl) ?_))
  refine wpAnyL_take (i := 2) (v := ?_) rfl (by kernel_rfl) (fun _ _ _ h => h) (Or.inl ⟨by rfl, ?_⟩) (by assumption) ?_; rotate_left; (focus (intro w hSw; skip; go_simp; (try with_reducible rfl))); (try (refine wpAnyL_norm (by simp only [Act.put, List.setIfInBounds_toArray, List.set_cons_zero, List.set_cons_succ]; rfl) ?_))
  refine wpAnyL_take (i := 3) (v := ?_) rfl (by kernel_rfl) (fun _ _ _ h => h) (Or.inl ⟨by rfl, ?_⟩) (by assumption) ?_; rotate_left; (focus (intro w hSw; (have hcl := (HT.out _ hSw.1).2); go_simp; (try with_reducible rfl))); (try (refine wpAnyL_norm (by simp only [Act.put, List.setIfInBounds_toArray, List.set_cons_zero, List.set_cons_succ]; rfl) ?_))
  refine wpAnyL_take (i := 4) (v := ?_) rfl (by kernel_rfl) (fun _ _ _ h => h) (Or.inl ⟨by rfl, ?_⟩) (by assumption) ?_; rotate_left; (focus (intro w hSw; skip; go_simp; (try with_reducible rfl))); (try (refine wpAnyL_norm (by simp only [Act.put, List.setIfInBounds_toArray, List.set_cons_zero, List.set_cons_succ]; rfl) ?_))
  refine wpAnyL_take (i := 5) (v := ?_) rfl (by kernel_rfl) (fun _ _ _ h => h) (Or.inl ⟨by rfl, ?_⟩) (by assumption) ?_; rotate_left; (focus (intro w hSw; skip; go_simp; (try with_reducible rfl))); (try (refine wpAnyL_norm (by simp only [Act.put, List.setIfInBounds_toArray, List.set_cons_zero, List.set_cons_succ]; rfl) ?_))
  refine wpAnyL_take (i := 6) (v := ?_) rfl (by kernel_rfl) (fun _ _ _ h => h) (Or.inl ⟨by rfl, ?_⟩) (by assumption) ?_; rotate_left; (focus (intro w hSw; skip; go_simp; (try with_reducible rfl))); (try (refine wpAnyL_norm (by simp only [Act.put, List.setIfInBounds_toArray, List.set_cons_zero, List.set_cons_succ]; rfl) ?_))
  refine wpAnyL_take (i := 7) (v := ?_) rfl (by kernel_rfl) (fun _ _ _ h => h) (Or.inl ⟨by rfl, ?_⟩) (by assumption) ?_; rotate_left; (focus (intro w hSw; (have k1 : (0 : Int) ≤ (a : Int) + 16 ∧ (a : Int) + 16 ≤ (cap : Int) := by omega); (have k2 : a ≤ ((a : Int) + 16).toNat := by omega); (have k3 : ¬ cap = a := by omega); (have k4 : ((a : Int) + 16).toNat - a = 16 := by omega); go_simp; (try with_reducible rfl))); (try (refine wpAnyL_norm (by simp only [Act.put, List.setIfInBounds_toArray, List.set_cons_zero, List.set_cons_succ]; rfl) ?_))
  refine wpAnyL_take (i := 8) rfl (by kernel_rfl) (fun _ _ _ h => h) (yields_str 31 9 5 Try.underlying31 Try.underlying5 Try.underlying9 (.tmp 18) rfl (some ⟨bg, a, none⟩) 16 (cap - a) rfl L HL.out HB.out HIS.out (fun h => by cases h) rfl) (by assumption) ?_; (try (refine wpAnyL_norm (by simp only [Act.put, List.setIfInBounds_toArray, List.set_cons_zero, List.set_cons_succ]; rfl) ?_))
  refine wpAnyL_take (i := 9) (v := ?_) rfl (by kernel_rfl) (fun _ _ _ h => h) (Or.inl ⟨by rfl, ?_⟩) (by assumption) ?_; rotate_left; (focus (intro w hSw; skip; go_simp; (try with_reducible rfl))); (try (refine wpAnyL_norm (by simp only [Act.put, List.setIfInBounds_toArray, List.set_cons_zero, List.set_cons_succ]; rfl) ?_))
  refine wpAnyL_take (i := 10) (v := ?_) rfl (by kernel_rfl) (fun _ _ _ h => h) (Or.inl ⟨by rfl, ?_⟩) (by assumption) ?_; rotate_left; (focus (intro w hSw; skip; go_simp; (try with_reducible rfl))); (try (refine wpAnyL_norm (by simp only [Act.put, List.setIfInBounds_toArray, List.set_cons_zero, List.set_cons_succ]; rfl) ?_))
  refine wpAnyL_take (i := 11) (v := ?_) rfl (by kernel_rfl) (fun _ _ _ h => h) (Or.inl ⟨by rfl, ?_⟩) (by assumption) ?_; rotate_left; (focus (intro w hSw; skip; go_simp; (try with_reducible rfl))); (try (refine wpAnyL_norm (by simp only [Act.put, List.setIfInBounds_toArray, List.set_cons_zero, List.set_cons_succ]; rfl) ?_))
  refine wpAnyL_take (i := 12) (v := ?_) rfl (by kernel_rfl) (fun _ _ _ h => h) (Or.inl ⟨by rfl, ?_⟩) (by assumption) ?_; rotate_left; (focus (intro w hSw; (have hcl := (HT.out _ hSw.1).1); go_simp; (try with_reducible rfl))); (try (refine wpAnyL_norm (by simp only [Act.put, List.setIfInBounds_toArray, List.set_cons_zero, List.set_cons_succ]; rfl) ?_))
  refine wpAnyL_take (i := 13) (v := ?_) rfl (by kernel_rfl) (fun _ _ _ h => h) (Or.inl ⟨by rfl, ?_⟩) (by assumption) ?_; rotate_left; (focus (intro w hSw; skip; go_simp; (try with_reducible rfl))); (try (refine wpAnyL_norm (by simp only [Act.put, List.setIfInBounds_toArray, List.set_cons_zero, List.set_cons_succ]; rfl) ?_))
  refine wpAnyL_take (i := 14) (v := ?_) rfl (by kernel_rfl) (fun _ _ _ h => h) (Or.inl ⟨by rfl, ?_⟩) (by assumption) ?_; rotate_left; (focus (intro w hSw; skip; go_simp; (try with_reducible rfl))); (try (refine wpAnyL_norm (by simp only [Act.put, List.setIfInBounds_toArray, List.set_cons_zero, List.set_cons_succ]; rfl) ?_))
  refine wpAnyL_take (i := 15) (v := ?_) rfl (by kernel_rfl) (fun _ _ _ h => h) (Or.inl ⟨by rfl, ?_⟩) (by assumption) ?_; rotate_left; (focus (intro w hSw; skip; go_simp; (try with_reducible rfl))); (try (refine wpAnyL_norm (by simp only [Act.put, List.setIfInBounds_toArray, List.set_cons_zero, List.set_cons_succ]; rfl) ?_))
  refine wpAnyL_ready (rs := [16]) (by kernel_rfl) (by simp) ?_; refine AllReadyL.cons rfl (fun K hK => ?_) AllReadyL.nil
  go_simp
  refine (CG.out _ hHeld.1).mono ?_
  rintro e w2 ⟨rfl, rfl⟩
  refine hK.out _ _ (fun _ => hHeld) (fun hHeld' => ?_); have hHeld := hHeld' (by decide); clear hHeld' hK K; (try (refine wpAnyL_norm (by simp only [Act.put, List.setIfInBounds_toArray, List.set_cons_zero, List.set_cons_succ]; rfl) ?_))
  refine wpAnyL_ready (rs := [17]) (by kernel_rfl) (by simp) ?_; refine AllReadyL.cons rfl (fun K hK => ?_) AllReadyL.nil
  go_simp
  refine (CO.out _ _).mono ?_
  rintro e w3 ⟨rfl, hf3⟩
  rw [HR.out]
  refine hK.out _ _ (fun _ => ⟨hHeld.1.fr0 hf3, hHeld.2.1.imp fun C h => h.fr hf3 (by simp), hHeld.2.2.trans0 hf3⟩) (fun hHeld' => ?_); have hHeld := hHeld' (by decide); clear hHeld' hK K; (try (refine wpAnyL_norm (by simp only [Act.put, List.setIfInBounds_toArray, List.set_cons_zero, List.set_cons_succ]; rfl) ?_))
  refine wpAnyL_take (i := 18) (v := ?_) rfl (by kernel_rfl) (fun _ _ _ h => h) (Or.inl ⟨by rfl, ?_⟩) (by assumption) ?_; rotate_left; (focus (intro w hSw; skip; go_simp; (try with_reducible rfl))); (try (refine wpAnyL_norm (by simp only [Act.put, List.setIfInBounds_toArray, List.set_cons_zero, List.set_cons_succ]; rfl) ?_))
  refine wpAnyL_take (i := 19) (v := ?_) rfl (by kernel_rfl) (fun _ _ _ h => h) (Or.inl ⟨by rfl, ?_⟩) (by assumption) ?_; rotate_left; (focus (intro w hSw; skip; go_simp; (try with_reducible rfl))); (try (refine wpAnyL_norm (by simp only [Act.put, List.setIfInBounds_toArray, List.set_cons_zero, List.set_cons_succ]; rfl) ?_))
  refine wpAnyL_ready (rs := [20]) (by kernel_rfl) (by simp) ?_; refine AllReadyL.cons rfl (fun K hK => ?_) AllReadyL.nil
  rw [if_pos (by rfl)]
  obtain ⟨C, hC⟩ := hHeld.2.1
  refine wp_store_z 38 (.tmp 4) (.tmp 29) rfl _ R.cells rfl rfl 38 C.cells hC HI8.out rfl (cellz_all R) ?_
  intro w4 hA4 hF4
  have hlt2 := hlt
  refine hK.out _ _ (fun _ => ⟨hHeld.1.fr hF4 (by simp; omega) (by simp; omega) (by simp; omega) (by simp; omega), ⟨R, hA4⟩, hHeld.2.2.trans hF4 (by simp)⟩) (fun hHeld' => ?_); have hHeld := hHeld' (by decide); clear hHeld' hK K; (try (refine wpAnyL_norm (by simp only [Act.put, List.setIfInBounds_toArray, List.set_cons_zero, List.set_cons_succ]; rfl) ?_))
  refine wpAnyL_take (i := 21) (v := ?_) rfl (by kernel_rfl) (fun _ _ _ h => h) (Or.inl ⟨by rfl, ?_⟩) (by assumption) ?_; rotate_left; (focus (intro w hSw; skip; go_simp; (try with_reducible rfl))); (try (refine wpAnyL_norm (by simp only [Act.put, List.setIfInBounds_toArray, List.set_cons_zero, List.set_cons_succ]; rfl) ?_))
  refine wpAnyL_done (by kernel_rfl) ?_ _
  go_wp2_with fail
  exact bodyPost_ret (res_row_tmp rfl _ _ w.heap.size 38 R.cells _ rfl hA4 Try.underlying38 rfl HI8.out) rfl ⟨rfl, hHeld.2.2⟩
set_option maxRecDepth 100000 in
theorem aloadc_no (w : World) (x : Value) (a : Nat) (CW : ∀ W : World, Fr [] w W → Calls Try.prog 35 #[x, .int .u32 a] W fun r w' => r = .returned (.bool false) ∧ W = w') :
    Calls Try.prog 30 #[x, .int .u32 a] w fun r w' => r = .returned (.tuple #[.agg noC.cells, .bool false]) ∧ Fr [] w w' := by
  have CW := Lib.hid CW
  have HI := Lib.hid (show (Try.prog.info? 38).map (·.size) = some noC.cells.size by kernel_rfl)
  have F0 := Lib.hid (show Fr [] w (w.alloc (.cells noC.cells 38)) from (by repeat (first | exact Fr.refl _ _ | assumption | refine Fr.trans0 ?_ (by assumption) | refine Fr.drewN ?_ _ | refine Fr.alloc ?_ _ | refine Fr.drew ?_)))
  have A0 := Lib.hid (At.new w 38 noC.cells)
  go_enter Try.func30, Try.ntmps30
  go_wp2_with fail
  refine (CW.out _ F0.out).mono ?_
  rintro e w' ⟨rfl, rfl⟩
  go_wp2_with (refine wpList_store_all rfl 38 (.tmp 4) (.tmp 10) rfl w.heap.size noC.cells rfl rfl 38 noC.cells A0.out HI.out rfl (cellz_all noC) ?_; intro w9 hA9 hF9)
  exact bodyPost_ret (res_row_tmp rfl _ _ w.heap.size 38 noC.cells _ rfl hA9 Try.underlying38 rfl HI.out) rfl ⟨rfl, F0.out.trans hF9 (by simp)⟩
theorem awhole_no (w : World) (ap p g bg cap : Nat) (bs : List Nat) (f : Nat → Bool) (h : Ar w ap p g bg cap bs f) (a : Nat) (ha : a < 4294967296) (hn : whB bs.length a = false) (W : World) (hW : Fr [] w W) :
    Calls Try.prog 35 #[.pointer (some ⟨ap, 0, none⟩), .int .u32 a] W fun r w' => r = .returned (.bool false) ∧ W = w' := by
  have := awhole_any W ap p g bg cap bs f (h.fr0 hW) a ha
  rw [hn] at this
  exact this
theorem astorec_no (w : World) (x : Value) (a : Nat) (c : Cp) (CW : ∀ W : World, Fr [] w W → Calls Try.prog 35 #[x, .int .u32 a] W fun r w' => r = .returned (.bool false) ∧ W = w') :
    Calls Try.prog 11 #[x, .int .u32 a, .agg c.cells] w fun r w' => r = .returned (.bool false) ∧ Fr [] w w' := by
  have CW := Lib.hid CW
  have F0 := Lib.hid (show Fr [] w (w.alloc (.cells c.cells 38)) from (by repeat (first | exact Fr.refl _ _ | assumption | refine Fr.trans0 ?_ (by assumption) | refine Fr.drewN ?_ _ | refine Fr.alloc ?_ _ | refine Fr.drew ?_)))
  go_enter Try.func11, Try.ntmps11
  go_wp2_with fail
  refine (CW.out _ F0.out).mono ?_
  rintro e w' ⟨rfl, rfl⟩
  go_wp2_with fail
  go_ret
  exact ⟨rfl, F0.out⟩
/-- The tags behind a capability's storing. -/
def stF (bs : List Nat) (f : Nat → Bool) (a : Nat) (c : Cp) : Nat → Bool := upd (wrF bs f a (bytesC c)) (a / 16) (c.v && soundB c)
set_option maxHeartbeats 2000000 in
set_option maxRecDepth 100000 in
theorem astorec_yes (w : World) (ap p g bg cap : Nat) (bs : List Nat) (f : Nat → Bool) (h : Ar w ap p g bg cap bs f) (a : Nat) (ha : a % 16 = 0) (hfit : a + 16 ≤ bs.length) (c : Cp) (hok : c.Ok) :
    Calls Try.prog 11 #[.pointer (some ⟨ap, 0, none⟩), .int .u32 a, .agg c.cells] w fun r w' => r = .returned (.bool true) ∧ Ar w' ap p g bg cap (wrL bs a (bytesC c)) (stF bs f a c) ∧ Fr [g, bg] w w' := by
  unfold stF
  have hN := h.2.1
  have CW := Lib.hid fun (W : World) (hW : Fr [] w W) => (show Calls Try.prog 35 #[.pointer (some ⟨ap, 0, none⟩), .int .u32 a] W fun r w' => r = .returned (.bool true) ∧ W = w' by
    have := awhole_any W ap p g bg cap bs f (h.fr0 hW) a (by omega)
    unfold whB at this
    rw [decide_eq_true ha, decide_eq_true hfit] at this
    exact this)
  have CB := Lib.hid fun W => cbytes_any W c hok
  have CR := Lib.hid fun (W : World) (hW : Fr [] w W) => awrite_any W ap p g bg cap bs f (h.fr0 hW) a (by omega) (bytesC c) (by rw [bytesC_len]; omega) (bytesC_byt c)
  rw [bytesC_len, decide_eq_true hfit] at CR
  have CS := Lib.hid fun W => sound_any W c hok
  have hlt := h.lt
  have hne := h.ne
  have hLb : (wrL bs a (bytesC c)).length = bs.length := wrL_len _ _ _
  obtain ⟨bs1, hbs1⟩ : ∃ b, wrL bs a (bytesC c) = b := ⟨_, rfl⟩
  obtain ⟨f1, hf1⟩ : ∃ b, wrF bs f a (bytesC c) = b := ⟨_, rfl⟩
  obtain ⟨u, hu⟩ : ∃ u, strV (bytesC c) = u := ⟨_, rfl⟩
  obtain ⟨sb, hsb⟩ : ∃ u, soundB c = u := ⟨_, rfl⟩
  rw [hbs1] at hLb CR ⊢
  rw [hf1] at CR ⊢
  rw [hu] at CB CR
  rw [hsb] at CS ⊢
  have CP := Lib.hid fun (W : World) (hW : Ar W ap p g bg cap bs1 f1) (b : Bool) => (show Calls Try.prog 38 #[.pointer (some ⟨p, 0, none⟩), .int .i64 ((a : Int) / 16), .bool b] W fun r w' => r = .returned (.bool true) ∧ Tg w' p g (bs1.length / 16) (upd f1 (a / 16) b) ∧ Fr [g] W w' by
    have := put_yes W p g (bs1.length / 16) f1 hW.2.2.2.2.2.2.1 (a / 16) b (by rw [hLb]; omega)
    rw [show ((a / 16 : Nat) : Int) = (a : Int) / 16 by omega] at this
    exact this)
  have F0 := Lib.hid (show Fr [] w (w.alloc (.cells c.cells 38)) from (by repeat (first | exact Fr.refl _ _ | assumption | refine Fr.trans0 ?_ (by assumption) | refine Fr.drewN ?_ _ | refine Fr.alloc ?_ _ | refine Fr.drew ?_)))
  have A0 := Lib.hid (At.new w 38 c.cells)
  have HIC := Lib.hid (show (Try.prog.info? 38).map (·.size) = some c.cells.size by kernel_rfl)
  obtain ⟨hwa, hwq⟩ := wrap_a a (by omega)
  obtain ⟨cv, hcv⟩ : ∃ b, c.v = b := ⟨_, rfl⟩
  have HCVV := Lib.hid hcv
  rw [hcv]
  clear h hbs1 hf1 hu hsb hok hcv
  go_enter Try.func11, Try.ntmps11
  go_wp2_with fail
  refine (CW.out _ F0.out).mono ?_
  rintro e w' ⟨rfl, rfl⟩
  go_wp2_with (refine wpList_load_all rfl 38 (.tmp 5) rfl w.heap.size rfl 38 c.cells _ A0.out Try.underlying38 rfl HIC.out ?_)
  refine (CB.out _).mono ?_
  rintro e w2 ⟨rfl, hf2⟩
  have F2 := Lib.hid (F0.out.trans0 hf2)
  have A2 := Lib.hid (A0.out.fr hf2 (by simp))
  clear hf2
  go_wp2_with fail
  refine (CR.out _ F2.out).mono ?_
  rintro e w3 ⟨rfl, h3, hf3⟩
  have H3 := Lib.hid h3
  have A3 := Lib.hid (A2.out.fr hf3 (by simp; omega))
  have F3 := Lib.hid ((F2.out.more (T := [g, bg]) (by simp)).trans hf3 (by simp))
  clear h3 hf3 A2 F2
  have HT := Lib.hid fun (W : World) (hW : (∃ f', Ar W ap p g bg cap bs1 f') ∧ At W w.heap.size 38 c.cells) => (hW.1.elim fun f' h => h.top.1 : W.cell? ⟨ap, 0, none⟩ = _)
  have HV := Lib.hid fun (W : World) (hW : (∃ f', Ar W ap p g bg cap bs1 f') ∧ At W w.heap.size 38 c.cells) => (show W.cell? ⟨w.heap.size, 7, none⟩ = some (.bool c.v) from hW.2.cell 7)
  rw [HCVV.out] at HV
  go_upto_region 4 with (fail)
  refine wp_region_L (fun W => (∃ f', Ar W ap p g bg cap bs1 f') ∧ At W w.heap.size 38 c.cells) [] (by kernel_rfl) ⟨⟨f1, H3.out.fr0 (Fr.refl _ _).drew⟩, A3.out.hp rfl⟩ (fun hHeld => ?_)
  refine wpAnyL_take (i := 0) (v := ?_) rfl (by kernel_rfl) (fun _ _ _ h => h) (Or.inl ⟨by rfl, ?_⟩) (by assumption) ?_; rotate_left; (focus (intro w hSw; skip; go_simp; (try with_reducible rfl))); (try (refine wpAnyL_norm (by simp only [Act.put, List.setIfInBounds_toArray, List.set_cons_zero, List.set_cons_succ]; rfl) ?_))
  refine wpAnyL_take (i := 1) (v := ?_) rfl (by kernel_rfl) (fun _ _ _ h => h) (Or.inl ⟨by rfl, ?_⟩) (by assumption) ?_; rotate_left; (focus (intro w hSw; skip; go_simp; (try with_reducible rfl))); (try (refine wpAnyL_norm (by simp only [Act.put, List.setIfInBounds_toArray, List.set_cons_zero, List.set_cons_succ]; rfl) ?_))
  refine wpAnyL_take (i := 2) (v := ?_) rfl (by kernel_rfl) (fun _ _ _ h => h) (Or.inl ⟨by rfl, ?_⟩) (by assumption) ?_; rotate_left; (focus (intro w hSw; skip; go_simp; (try with_reducible rfl))); (try (refine wpAnyL_norm (by simp only [Act.put, List.setIfInBounds_toArray, List.set_cons_zero, List.set_cons_succ]; rfl) ?_))
  refine wpAnyL_take (i := 3) (v := ?_) rfl (by kernel_rfl) (fun _ _ _ h => h) (Or.inl ⟨by rfl, ?_⟩) (by assumption) ?_; rotate_left; (focus (intro w hSw; (have hcl := HT.out _ hSw); go_simp; (try with_reducible rfl))); (try (refine wpAnyL_norm (by simp only [Act.put, List.setIfInBounds_toArray, List.set_cons_zero, List.set_cons_succ]; rfl) ?_))
  refine wpAnyL_take (i := 4) (v := ?_) rfl (by kernel_rfl) (fun _ _ _ h => h) (Or.inl ⟨by rfl, ?_⟩) (by assumption) ?_; rotate_left; (focus (intro w hSw; skip; go_simp; (try with_reducible rfl))); (try (refine wpAnyL_norm (by simp only [Act.put, List.setIfInBounds_toArray, List.set_cons_zero, List.set_cons_succ]; rfl) ?_))
  refine wpAnyL_take (i := 5) (v := ?_) rfl (by kernel_rfl) (fun _ _ _ h => h) (Or.inl ⟨by rfl, ?_⟩) (by assumption) ?_; rotate_left; (focus (intro w hSw; skip; go_simp; (try with_reducible rfl))); (try (refine wpAnyL_norm (by simp only [Act.put, List.setIfInBounds_toArray, List.set_cons_zero, List.set_cons_succ]; rfl) ?_))
  refine wpAnyL_take (i := 6) (v := ?_) rfl (by kernel_rfl) (fun _ _ _ h => h) (Or.inl ⟨by rfl, ?_⟩) (by assumption) ?_; rotate_left; (focus (intro w hSw; skip; go_simp; (try with_reducible rfl))); (try (refine wpAnyL_norm (by simp only [Act.put, List.setIfInBounds_toArray, List.set_cons_zero, List.set_cons_succ]; rfl) ?_))
  refine wpAnyL_take (i := 7) (v := ?_) rfl (by kernel_rfl) (fun _ _ _ h => h) (Or.inl ⟨by rfl, ?_⟩) (by assumption) ?_; rotate_left; (focus (intro w hSw; skip; go_simp; (try with_reducible rfl))); (try (refine wpAnyL_norm (by simp only [Act.put, List.setIfInBounds_toArray, List.set_cons_zero, List.set_cons_succ]; rfl) ?_))
  refine wpAnyL_take (i := 8) (v := ?_) rfl (by kernel_rfl) (fun _ _ _ h => h) (Or.inl ⟨by rfl, ?_⟩) (by assumption) ?_; rotate_left; (focus (intro w hSw; (have hcl := HV.out _ hSw); go_simp; (try with_reducible rfl))); (try (refine wpAnyL_norm (by simp only [Act.put, List.setIfInBounds_toArray, List.set_cons_zero, List.set_cons_succ]; rfl) ?_))
  refine wpAnyL_take (i := 9) (v := ?_) rfl (by kernel_rfl) (fun _ _ _ h => h) (Or.inl ⟨by rfl, ?_⟩) (by assumption) ?_; rotate_left; (focus (intro w hSw; skip; go_simp; (try with_reducible rfl))); (try (refine wpAnyL_norm (by simp only [Act.put, List.setIfInBounds_toArray, List.set_cons_zero, List.set_cons_succ]; rfl) ?_))
  cases cv
  · refine wpAnyL_take (i := 10) (v := undef) rfl (by kernel_rfl) (fun _ _ _ h => h) (Or.inr ⟨by rfl, rfl⟩) (by assumption) ?_; (try (refine wpAnyL_norm (by simp only [Act.put, List.setIfInBounds_toArray, List.set_cons_zero, List.set_cons_succ]; rfl) ?_))
    refine wpAnyL_take (i := 11) (v := undef) rfl (by kernel_rfl) (fun _ _ _ h => h) (Or.inr ⟨by rfl, rfl⟩) (by assumption) ?_; (try (refine wpAnyL_norm (by simp only [Act.put, List.setIfInBounds_toArray, List.set_cons_zero, List.set_cons_succ]; rfl) ?_))
    have HY : Fr [] w3 w3.drew := (Fr.refl _ _).drew
    have HX := H3.out.fr0 HY
    refine wpAnyL_take (i := 12) (v := ?_) rfl (by kernel_rfl) (fun _ _ _ h => h) (Or.inl ⟨by rfl, ?_⟩) (by assumption) ?_; rotate_left; (focus (intro w hSw; skip; go_simp; (try with_reducible rfl))); (try (refine wpAnyL_norm (by simp only [Act.put, List.setIfInBounds_toArray, List.set_cons_zero, List.set_cons_succ]; rfl) ?_))
    refine wpAnyL_ready (rs := [13]) (by kernel_rfl) (by simp) ?_; refine AllReadyL.cons rfl (fun K hK => ?_) AllReadyL.nil
    go_simp
    refine (CP.out _ HX _).mono ?_
    rintro e w6 ⟨rfl, h6, hf6⟩
    have hAr : Ar w6 ap p g bg cap bs1 (upd f1 (a / 16) false) := by
      obtain ⟨n1, n2, n3, n4, n5, n6⟩ := hne
      obtain ⟨a1, a2, a3, a4, a5, a6, a7, cs, a8, a9, a10⟩ := HX
      exact ⟨a1, a2, a3, a4, a5, a6.fr hf6 (by simp; omega), h6, cs, a8.fr hf6 (by simp; omega), a9, a10⟩
    refine hK.out _ _ (fun _ => ⟨⟨_, hAr⟩, hHeld.2.fr hf6 (by simp; omega)⟩) (fun hHeld' => ?_); have hHeld := hHeld' (by decide); clear hHeld' hK K; (try (refine wpAnyL_norm (by simp only [Act.put, List.setIfInBounds_toArray, List.set_cons_zero, List.set_cons_succ]; rfl) ?_))
    refine wpAnyL_take (i := 14) (v := ?_) rfl (by kernel_rfl) (fun _ _ _ h => h) (Or.inl ⟨by rfl, ?_⟩) (by assumption) ?_; rotate_left; (focus (intro w hSw; skip; go_simp; (try with_reducible rfl))); (try (refine wpAnyL_norm (by simp only [Act.put, List.setIfInBounds_toArray, List.set_cons_zero, List.set_cons_succ]; rfl) ?_))
    refine wpAnyL_done (by kernel_rfl) ?_ _
    go_wp2_with fail
    go_ret
    exact ⟨rfl, hAr, (F3.out.trans0 HY).trans hf6 (by simp)⟩
  · refine wpAnyL_take (i := 10) rfl (by kernel_rfl) (fun _ _ _ h => h) (yields_capz (.tmp 5) rfl w.heap.size rfl 38 c (fun W h => h.2) rfl) (by assumption) ?_; (try (refine wpAnyL_norm (by simp only [Act.put, List.setIfInBounds_toArray, List.set_cons_zero, List.set_cons_succ]; rfl) ?_))
    refine wpAnyL_ready (rs := [11]) (by kernel_rfl) (by simp) ?_; refine AllReadyL.cons rfl (fun K hK => ?_) AllReadyL.nil
    go_simp
    refine (CS.out _).mono ?_
    rintro e w5 ⟨rfl, hf5⟩
    have HY : Fr [] w3 w5 := hf5.hd rfl rfl rfl rfl
    have HX := H3.out.fr0 HY
    refine hK.out _ _ (fun _ => ⟨⟨f1, HX⟩, hHeld.2.fr hf5 (by simp)⟩) (fun hHeld' => ?_); have hHeld := hHeld' (by decide); clear hHeld' hK K; (try (refine wpAnyL_norm (by simp only [Act.put, List.setIfInBounds_toArray, List.set_cons_zero, List.set_cons_succ]; rfl) ?_))
    refine wpAnyL_take (i := 12) (v := ?_) rfl (by kernel_rfl) (fun _ _ _ h => h) (Or.inl ⟨by rfl, ?_⟩) (by assumption) ?_; rotate_left; (focus (intro w hSw; skip; go_simp; (try with_reducible rfl))); (try (refine wpAnyL_norm (by simp only [Act.put, List.setIfInBounds_toArray, List.set_cons_zero, List.set_cons_succ]; rfl) ?_))
    refine wpAnyL_ready (rs := [13]) (by kernel_rfl) (by simp) ?_; refine AllReadyL.cons rfl (fun K hK => ?_) AllReadyL.nil
    go_simp
    refine (CP.out _ HX _).mono ?_
    rintro e w6 ⟨rfl, h6, hf6⟩
    have hAr : Ar w6 ap p g bg cap bs1 (upd f1 (a / 16) sb) := by
      obtain ⟨n1, n2, n3, n4, n5, n6⟩ := hne
      obtain ⟨a1, a2, a3, a4, a5, a6, a7, cs, a8, a9, a10⟩ := HX
      exact ⟨a1, a2, a3, a4, a5, a6.fr hf6 (by simp; omega), h6, cs, a8.fr hf6 (by simp; omega), a9, a10⟩
    refine hK.out _ _ (fun _ => ⟨⟨_, hAr⟩, hHeld.2.fr hf6 (by simp; omega)⟩) (fun hHeld' => ?_); have hHeld := hHeld' (by decide); clear hHeld' hK K; (try (refine wpAnyL_norm (by simp only [Act.put, List.setIfInBounds_toArray, List.set_cons_zero, List.set_cons_succ]; rfl) ?_))
    refine wpAnyL_take (i := 14) (v := ?_) rfl (by kernel_rfl) (fun _ _ _ h => h) (Or.inl ⟨by rfl, ?_⟩) (by assumption) ?_; rotate_left; (focus (intro w hSw; skip; go_simp; (try with_reducible rfl))); (try (refine wpAnyL_norm (by simp only [Act.put, List.setIfInBounds_toArray, List.set_cons_zero, List.set_cons_succ]; rfl) ?_))
    refine wpAnyL_done (by kernel_rfl) ?_ _
    go_wp2_with fail
    go_ret
    exact ⟨rfl, hAr, (F3.out.trans0 HY).trans hf6 (by simp)⟩
end Go.Proofs.Ytilgklpponaoeaa
