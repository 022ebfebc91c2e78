/-
  What a return does by the reference of layer 20. Condition: a thousand capabilities at most.
-/



import Derived.Test.YtdfefnajhnlpdaaRSmall
import Derived.Test.YtdfefnajhnlpdaaRet
set_option linter.unusedVariables false
namespace Go.Proofs.Ytdfefnajhnlpdaa
open Go.ChangeShapes Go.WideShapes Go.ChangeAt Go.RowKit
/-- Results of which the second lies in a block of its own. -/
theorem res_tmp_row_tmp {P : Program} {fn : Func} {q p x : Tmp} {ty : TypeId} (h : fn.results = #[.tmp q, .cell p ty, .tmp x]) (tmps : Array Value) (w : World) (g : Nat) (t : TypeId) (cs : Array Value) (d : TypeDesc)
    (hp : tmps.getD p undef = .pointer (some ⟨g, 0, none⟩)) (hg : At w g t cs)
    (hu : P.underlying ty = some d) (hd : (match d with | .struct _ | .array _ _ => true | _ => false) = true) (hi : (P.info? ty).map (·.size) = some cs.size) :
    (results fn tmps).run P w = .ok (.tuple #[tmps.getD q undef, .agg cs, tmps.getD x undef]) w := by
  have hp' : tmps[p]?.getD undef = .pointer (some ⟨g, 0, none⟩) := by simpa using hp
  simp [results, h, hp', asAddr, run_loadVar_row w g t ty cs (0, 0) d hg hu hd hi]
theorem wp_store_whole {P : Program} {K : Act → World → Prop} {Q : Exit → Act → World → Prop} {o : Oper} {a : Act} {w : World} (ty : TypeId) (x y : Operand) (ho : o.op = .store ty x y) (g : Nat) (cs : Array Value) (hx : a.eval x = .pointer (some ⟨g, 0, none⟩)) (hy : a.eval y = .agg cs)
    (t : TypeId) (cur : Array Value) (hg : At w g t cur) (hi : (P.info? ty).map (·.size) = some cs.size) (hk : cur.size = cs.size) (h1 : cs.all (·.oneCell') = true)
    (h : ∀ w', At w' g t cs → Fr [g] w w' → K (a.put o.dst undef) w') : o.wp P a w K Q :=
  wp_store_row ty x y ho g cs hx hy t cur hg hi hk h1 (h _ (setRow_heap w g _ _ t (0, 0) hg) (Fr.setRow w g _))
theorem At.whole {W : World} {g : Nat} {t : TypeId} {l : List Value} (h : At W g t l.toArray) : ∀ j v, l[j]? = some v → W.cell? ((⟨g, 0, none⟩ : Addr).add j) = some v := fun j v hv => by
  rw [Go.WideShapes.add_plain, h.cell, Nat.zero_add, List.getElem?_toArray]
  exact hv
theorem frInfoL {fr : List Cp} (h : fr.length = 17) : (Try.prog.info? 31).map (·.size) = some (cat fr).length := by rw [infoFrame, cat_len, h]
set_option maxHeartbeats 4000000 in
set_option maxRecDepth 100000 in
theorem r20ret_none (w : World) (u : Value) (l : List Cp) (hu : w.ownsRow 0 25 8 u l.length (cat l)) (hl : l.length < 3) (fr : List Cp) :
    Calls Try.prog 22 #[u, .agg (cat fr).toArray] w fun r w' => r = .returned (.tuple #[u, .agg (cat zf).toArray, .int .i64 9]) ∧ Fr [] w w' := by
  have hz := fun w => zeroFrame w
  have hb := fun w => builtFrame w
  have ZI := Lib.hid (frInfo zf_len)
  have ZA := Lib.hid (cat_all zf)
  obtain ⟨Z, hZ⟩ : ∃ Z, (cat zf).toArray = Z := ⟨_, rfl⟩
  rw [hZ] at hz hb ZI ZA
  have HZ := Lib.hid hZ
  clear hZ
  obtain ⟨A, hA⟩ : ∃ A, (cat fr).toArray = A := ⟨_, rfl⟩
  obtain ⟨ua, uc, rfl, huc⟩ := own_slice hu
  obtain ⟨n, hn⟩ : ∃ n, l.length = n := ⟨_, rfl⟩
  rw [hA, HZ.out]
  rw [hn] at hl ⊢
  have F0 := Lib.hid (show Fr [] w ((w.alloc (.cells A 31)).alloc (.cells Z 31)) from (by repeat (first | exact Fr.refl _ _ | assumption | refine Fr.trans0 ?_ (by assumption) | refine Fr.drewN ?_ _ | refine Fr.alloc ?_ _ | refine Fr.drew ?_)))
  clear hA hu huc hn
  go_enter Try.func22, Try.ntmps22
  go_wp2_with (refine wpList_store_all rfl 31 (.tmp 5) (.tmp 14) rfl _ Z rfl rfl 31 Z (At.newq (by simp only [World.size_alloc])) ZI.out rfl ZA.out ?_; intro w3 hA3 hF3)
  exact bodyPost_ret (res_tmp_row_tmp rfl _ _ _ 31 _ _ rfl hA3 Try.underlying31 rfl ZI.out) rfl ⟨rfl, F0.out.trans hF3 (by simp <;> omega)⟩
set_option maxHeartbeats 4000000 in
set_option maxRecDepth 100000 in
theorem r20ret_ok (w : World) (u : Value) (l : List Cp) (hu : w.ownsRow 0 25 8 u l.length (cat l)) (k : Nat) (hk : l.length = k + 3) (hk2 : k ≤ 1000) (e0 e1 e2 : Cp) (h0 : l[k]? = some e0) (h1 : l[k + 1]? = some e1) (h2 : l[k + 2]? = some e2) (fr : List Cp) (hfr : fr.length = 17) :
    Calls Try.prog 22 #[u, .agg (cat fr).toArray] w fun r w' => ∃ u', r = .returned (.tuple #[u', .agg (cat ((((passF fr).set 16 e0).set 14 e1).set 15 e2)).toArray, .int .i64 0]) ∧ w'.ownsRow 0 25 8 u' k (cat (l.take k)) ∧ Fr [] w w' ∧ u'.ownBlock = u.ownBlock := by
  have hz := fun w => zeroFrame w
  have hb := fun w => builtFrame w
  have ZI := Lib.hid (frInfo zf_len)
  have ZA := Lib.hid (cat_all zf)
  obtain ⟨Z, hZ⟩ : ∃ Z, (cat zf).toArray = Z := ⟨_, rfl⟩
  rw [hZ] at hz hb ZI ZA
  have HZ := Lib.hid hZ
  clear hZ
  obtain ⟨g, vc, cur, rfl, -, -, hvc, hvm, -⟩ := hu.2.resolve_left (by rintro ⟨-, h⟩; omega)
  rw [hk] at hu hvc ⊢
  unfold maxLen at hvm
  have HU := Lib.hid hu
  have H0 := Lib.hid h0
  have H1 := Lib.hid h1
  have H2 := Lib.hid h2
  have HFR := Lib.hid hfr
  have CC := Lib.hid fun W => r20clean_any W fr hfr
  have HPL : (passF fr).length = 17 := by unfold passF; rw [List.length_set, List.length_set, zf_len]
  obtain ⟨G, hG⟩ : ∃ G, passF fr = G := ⟨_, rfl⟩
  rw [hG] at CC HPL ⊢
  have HPI := Lib.hid (frInfo HPL)
  have ZP := Lib.hid (show Z.size = (cat G).toArray.size by rw [← HZ.out, cat_size HPL, cat_size zf_len])
  have HPA := Lib.hid (cat_all G)
  have HGL := Lib.hid HPL
  obtain ⟨A, hA⟩ : ∃ A, (cat fr).toArray = A := ⟨_, rfl⟩
  have HA := Lib.hid hA
  rw [hA] at CC ⊢
  obtain ⟨X, hX⟩ : ∃ X, (w.alloc (.cells A 31)).alloc (.cells Z 31) = X := ⟨_, rfl⟩
  have B0 := Lib.hid (show At X w.heap.size 31 A by rw [← hX]; exact (At.new _ _ _).old _)
  have B1 := Lib.hid (show At X (w.heap.size + 1) 31 Z by rw [← hX]; exact At.newq (by simp only [World.size_alloc]))
  have FX := Lib.hid (show Fr [] w X by rw [← hX]; exact (by repeat (first | exact Fr.refl _ _ | assumption | refine Fr.trans0 ?_ (by assumption) | refine Fr.drewN ?_ _ | refine Fr.alloc ?_ _ | refine Fr.drew ?_)))
  have HX := Lib.hid hX
  have HIA := Lib.hid (show (Try.prog.info? 31).map (·.size) = some A.size by rw [← hA]; exact frInfo hfr)
  have hgl := (hu.lt g rfl).2
  have m1 : ((k : Int) + 3 - 2) = ((k + 1 : Nat) : Int) := by omega
  have m2 : ((k : Int) + 3 - 1) = ((k + 2 : Nat) : Int) := by omega
  clear hk hu hA hX h0 h1 h2 hfr hG HPL
  go_enter Try.func22, Try.ntmps22
  go_wp2_with (refine wpList_load_all rfl 31 (.tmp 3) rfl w.heap.size rfl 31 A _ (by rw [HX.out]; exact B0.out) Try.underlying31 rfl HIA.out ?_)
  rw [HX.out]
  refine (CC.out _).mono ?_
  rintro e w2 ⟨rfl, hf2⟩
  have C1 := Lib.hid (B1.out.fr hf2 (by simp))
  have CU := Lib.hid (own_fr0 HU.out (FX.out.trans0 hf2))
  have CF := Lib.hid (FX.out.trans0 hf2)
  have hw2 := C1.out.lt
  clear hf2 B0 B1 FX HX CC HU HA
  go_upto_region 5 with (refine wpList_store_all rfl 31 (.tmp 8) (.tmp 16) rfl _ (cat G).toArray rfl rfl 31 Z (At.newq rfl) HPI.out ZP.out HPA.out ?_; intro w3 hA3 hF3)
  have hga : Fr [] w2 (w2.alloc (.cells Z 31)) := (by repeat (first | exact Fr.refl _ _ | assumption | refine Fr.trans0 ?_ (by assumption) | refine Fr.drewN ?_ _ | refine Fr.alloc ?_ _ | refine Fr.drew ?_))
  obtain ⟨B, hB⟩ : ∃ B, w2.heap.size = B := ⟨_, rfl⟩
  rw [hB] at hA3 hF3 hw2 ⊢
  have hgB : ∀ g', (Value.slice (some ⟨g, 0, none⟩) (k + 3) vc).ownBlock = some g' → g' ∉ [B] := fun g' hg => by simp [Value.ownBlock] at hg; subst hg; simp; omega
  have DU := Lib.hid (own_fr (own_fr0 CU.out hga) hF3 hgB)
  have D1 := Lib.hid ((C1.out.fr hga (by simp)).fr hF3 (by simp <;> omega))
  have DF := Lib.hid ((CF.out.trans0 hga).trans hF3 (by simp <;> omega))
  have D8 := Lib.hid hA3
  clear hA3 hF3 hga CU C1 CF hB
  go_upto_region 6 with (first | (refine wpList_load_at rfl 25 (.tmp 20) rfl ⟨g, k * 8, none⟩ rfl e0.l _ (fun j v hv => by rw [Go.WideShapes.add_plain]; exact own_cap DU.out k e0 H0.out j v hv) Try.underlying25 rfl infoCapS ?_) | (refine wpList_store_cap rfl (.tmp 22) (.tmp 21) rfl B 128 e0 rfl rfl 31 G D8.out 16 rfl (by rw [HGL.out]; omega) ?_; intro w4 hA4 hF4))
  have EU := Lib.hid (own_fr DU.out hF4 hgB)
  have E1 := Lib.hid (D1.out.fr hF4 (by simp <;> omega))
  have EF := Lib.hid (DF.out.trans hF4 (by simp <;> omega))
  have E8 := Lib.hid hA4
  clear hA4 hF4 DU D1 DF D8
  go_upto_region 7 with (first | (refine wpList_load_at rfl 25 (.tmp 26) rfl ⟨g, (k + 1) * 8, none⟩ rfl e1.l _ (fun j v hv => by rw [Go.WideShapes.add_plain]; exact own_cap EU.out (k + 1) e1 H1.out j v hv) Try.underlying25 rfl infoCapS ?_) | (refine wpList_store_cap rfl (.tmp 29) (.tmp 27) rfl B 112 e1 rfl rfl 31 _ E8.out 14 rfl (by rw [List.length_set, HGL.out]; omega) ?_; intro w5 hA5 hF5))
  have GU := Lib.hid (own_fr EU.out hF5 hgB)
  have G1 := Lib.hid (E1.out.fr hF5 (by simp <;> omega))
  have GF := Lib.hid (EF.out.trans hF5 (by simp <;> omega))
  have G8 := Lib.hid hA5
  clear hA5 hF5 EU E1 EF E8
  go_upto_region 8 with (first | (refine wpList_load_at rfl 25 (.tmp 33) rfl ⟨g, (k + 2) * 8, none⟩ rfl e2.l _ (fun j v hv => by rw [Go.WideShapes.add_plain]; exact own_cap GU.out (k + 2) e2 H2.out j v hv) Try.underlying25 rfl infoCapS ?_) | (refine wpList_store_cap rfl (.tmp 36) (.tmp 34) rfl B 120 e2 rfl rfl 31 _ G8.out 15 rfl (by rw [List.length_set, List.length_set, HGL.out]; omega) ?_; intro w6 hA6 hF6))
  have KU := Lib.hid (own_fr GU.out hF6 hgB)
  have K1 := Lib.hid (G1.out.fr hF6 (by simp <;> omega))
  have KF := Lib.hid (GF.out.trans hF6 (by simp <;> omega))
  have K8 := Lib.hid hA6
  clear hA6 hF6 GU G1 GF G8 m1 m2
  have HQL : ((((G.set 16 e0).set 14 e1).set 15 e2)).length = 17 := by rw [List.length_set, List.length_set, List.length_set, HGL.out]
  have HQI := Lib.hid (frInfo HQL)
  have HQM := Lib.hid (frInfoL HQL)
  have ZQ := Lib.hid (show Z.size = (cat (((G.set 16 e0).set 14 e1).set 15 e2)).toArray.size by rw [← HZ.out, cat_size zf_len, cat_size HQL])
  obtain ⟨R, hR⟩ : ∃ R, ((G.set 16 e0).set 14 e1).set 15 e2 = R := ⟨_, rfl⟩
  rw [hR] at K8 HQI HQM ZQ
  have HR := Lib.hid hR
  clear hR HQL
  have hwa : IntKind.i64.wrap (k : Int) = (k : Int) := by simp [IntKind.wrap, IntKind.signed, IntKind.bits]; omega
  refine wp_region_L (fun W => At W B 31 (cat R).toArray) [] (by kernel_rfl) (K8.out.hp rfl) (fun hHeld => ?_)
  refine wpAnyL_take (i := 0) (v := ?_) rfl (by kernel_rfl) (fun _ _ _ h => h) (Or.inl ⟨by rfl, ?_⟩) (by assumption) ?_; rotate_left; (focus (intro w hSw; skip; go_simp; (try with_reducible rfl))); (try (refine wpAnyL_norm (by simp only [Act.put, List.setIfInBounds_toArray, List.set_cons_zero, List.set_cons_succ]; rfl) ?_))
  refine wpAnyL_take (i := 1) (v := ?_) rfl (by kernel_rfl) (fun _ _ _ h => h) (Or.inl ⟨by rfl, ?_⟩) (by assumption) ?_; rotate_left; (focus (intro w hSw; skip; go_simp; (try with_reducible rfl))); (try (refine wpAnyL_norm (by simp only [Act.put, List.setIfInBounds_toArray, List.set_cons_zero, List.set_cons_succ]; rfl) ?_))
  refine wpAnyL_take (i := 2) (v := ?_) rfl (by kernel_rfl) (fun _ _ _ h => h) (Or.inl ⟨by rfl, ?_⟩) (by assumption) ?_; rotate_left; (focus (intro w hSw; skip; go_simp; (try with_reducible rfl))); (try (refine wpAnyL_norm (by simp only [Act.put, List.setIfInBounds_toArray, List.set_cons_zero, List.set_cons_succ]; rfl) ?_))
  refine wpAnyL_take (i := 3) (v := ?_) rfl (by kernel_rfl) (fun _ _ _ h => h) (Or.inl ⟨by rfl, ?_⟩) (by assumption) ?_; rotate_left; (focus (intro w hSw; (have k1 : (0 : Int) ≤ (k : Int) ∧ (k : Int) ≤ (vc : Int) := by omega); (have k2 : (k : Int) ≤ (vc : Int) := by omega); (have k3 : k ≤ vc := by omega); go_simp; (try with_reducible rfl))); (try (refine wpAnyL_norm (by simp only [Act.put, List.setIfInBounds_toArray, List.set_cons_zero, List.set_cons_succ]; rfl) ?_))
  refine wpAnyL_take (i := 4) rfl (by kernel_rfl) (fun _ _ _ h => h) (yields_load_at 31 (.tmp 8) rfl ⟨B, 0, none⟩ rfl (cat R) _ (fun W h => At.whole h) Try.underlying31 rfl HQM.out rfl) (by assumption) ?_; (try (refine wpAnyL_norm (by simp only [Act.put, List.setIfInBounds_toArray, List.set_cons_zero, List.set_cons_succ]; rfl) ?_))
  refine wpAnyL_take (i := 5) (v := ?_) rfl (by kernel_rfl) (fun _ _ _ h => h) (Or.inl ⟨by rfl, ?_⟩) (by assumption) ?_; rotate_left; (focus (intro w hSw; skip; go_simp; (try with_reducible rfl))); (try (refine wpAnyL_norm (by simp only [Act.put, List.setIfInBounds_toArray, List.set_cons_zero, List.set_cons_succ]; rfl) ?_))
  refine wpAnyL_ready (rs := [6]) (by kernel_rfl) (by simp) ?_; refine AllReadyL.cons rfl (fun K hK => ?_) AllReadyL.nil
  rw [if_pos (by rfl)]
  refine wp_store_whole 31 (.tmp 5) (.tmp 41) rfl (w.heap.size + 1) (cat R).toArray rfl rfl 31 Z (K1.out.hp rfl) HQI.out ZQ.out (cat_all _) ?_
  intro w7 hA7 hF7
  refine hK.out _ _ (fun _ => hHeld.fr hF7 (by simp <;> omega)) (fun hHeld' => ?_); have hHeld := hHeld' (by decide); clear hHeld' hK K; (try (refine wpAnyL_norm (by simp only [Act.put, List.setIfInBounds_toArray, List.set_cons_zero, List.set_cons_succ]; rfl) ?_))
  refine wpAnyL_take (i := 7) (v := ?_) rfl (by kernel_rfl) (fun _ _ _ h => h) (Or.inl ⟨by rfl, ?_⟩) (by assumption) ?_; rotate_left; (focus (intro w hSw; skip; go_simp; (try with_reducible rfl))); (try (refine wpAnyL_norm (by simp only [Act.put, List.setIfInBounds_toArray, List.set_cons_zero, List.set_cons_succ]; rfl) ?_))
  refine wpAnyL_done (by kernel_rfl) ?_ _
  have hf7 : Fr [w.heap.size + 1] w6 w7 := Fr.hd hF7 rfl rfl rfl rfl
  have ht := own_take KU.out (show k ≤ k + 3 by omega)
  rw [cat_take] at ht
  have LU := Lib.hid (own_fr ht hf7 (fun g' hg => by simp [Value.ownBlock] at hg; subst hg; simp; omega))
  have LF := Lib.hid (KF.out.trans hf7 (by simp <;> omega))
  have LA := Lib.hid hA7
  clear ht hf7 hF7 hA7 hHeld KU K1 KF K8
  go_wp2_with fail
  refine bodyPost_ret (res_tmp_row_tmp rfl _ _ _ 31 _ _ rfl LA.out Try.underlying31 rfl HQI.out) rfl ⟨.slice (some ⟨g, 0, none⟩) k vc, by rw [HR.out]; rfl, LU.out, LF.out, rfl⟩
end Go.Proofs.Ytdfefnajhnlpdaa
