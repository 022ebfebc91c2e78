/-
  CompartBack: behind calls, and as many returns, a caller is where it was, with its own registers 14 and 15, and what was passed back; and nobody sees another register of the other part. No condition.
-/



import Derived.Test.YtdfefnajhnlpdaaBack
import Derived.Test.YtdfefnajhnlpdaaSscan
import Derived.Test.YtdfefnajhnlpdaaArgs
import Derived.Deep.CutBlock
import Derived.Deep.DeepCutAuto
set_option linter.unusedVariables false
namespace Go.Proofs.Ytdfefnajhnlpdaa
open Go.ChangeShapes Go.WideShapes Go.ChangeAt Go.RowKit
namespace compartBack
theorem off {w : World} {sp : Nat} {v : Value} {l : List Cp} {g : Nat} {t : TypeId} {cs : Array Value} (h : St w sp v l) (hA : At w g t cs) (ht : t ≠ 25) (hne : g ≠ sp) : g ∉ sp :: v.ownBlock.toList := fun hm => by
  rcases List.mem_cons.1 hm with e | e
  · exact hne e
  · exact own_toList h.2 hA ht e
theorem wrap_add (x k : Nat) : IntKind.u32.wrap ((x : Int) + (k : Int)) = (((x + k) % 4294967296 : Nat) : Int) := by
  simp [IntKind.wrap, IntKind.signed, IntKind.bits]
theorem set3 {fr : List Cp} {x y z : Cp} {i j k : Nat} (hl : fr.length = 17) : (((fr.set i x).set j y).set k z).length = 17 := by simp [hl]
set_option maxHeartbeats 4000000 in
set_option maxRecDepth 100000 in
theorem walk_n (dd : Nat) (hd : dd < 256) (p0 p1 o0 o1 o2 : Nat) (hp0 : p0 < 4294967296) (hp1 : p1 < 4294967296) (ho0 : o0 < 4294967296) (ho1 : o1 < 4294967296) (ho2 : o2 < 4294967296) (w : World) :
    Calls Try.prog 4 #[.int .u8 dd, .agg #[.int .u32 p0, .int .u32 p1], .agg #[.int .u32 o0, .int .u32 o1, .int .u32 o2]] w fun e w' => e = .returned (.bool true) ∧ Fr [] w w' := by
  have hz := fun w => zeroFrame w
  have hb := fun w => builtFrame w
  have ZI := Lib.hid (frInfo zf_len)
  have ZA := Lib.hid (cat_all zf)
  obtain ⟨Z, hZ⟩ : ∃ Z, (cat zf).toArray = Z := ⟨_, rfl⟩
  rw [hZ] at hz hb ZI ZA
  have HZ := Lib.hid hZ
  clear hZ
  have hzw := fun w => zeroWas w
  obtain ⟨ZW, hZW⟩ : ∃ ZW, (cat (List.replicate 272 noC)).toArray = ZW := ⟨_, rfl⟩
  rw [hZW] at hzw
  have HZW := Lib.hid hZW
  clear hZW
  have CAP : ∀ (a b : Cp) (w : World), (Op.equalIn 10000 25 (.agg a.cells) (.agg b.cells)).run Try.prog w = .ok (eqC a b) w := cap_eq
  have CSE : ∀ a, eqC a a = true := eqC_self
  have CP := Lib.hid fun W k => lpair_any W k
  have CN := Lib.hid fun W v => number_any W v
  have HPO := Lib.hid pair_ok
  have AB : ∀ (X : World) (c : Cp), X.alloc (.cells #[.int .u32 c.cur, .int .u8 c.e, .int .u16 c.b, .int .u16 c.t, .int .u16 c.pm, .int .u16 c.ty, .int .u32 c.rs, .bool c.v] 25) = X.alloc (.cells c.cells 25) := fun _ _ => rfl
  have HAB := Lib.hid AB
  clear AB
  obtain ⟨n, hn⟩ : ∃ n, 1 + dd % 16 = n := ⟨_, rfl⟩
  have hn16 : 1 ≤ n ∧ n ≤ 16 := by omega
  have hnn : 1 + (dd : Int) % 16 = (n : Int) := by omega
  clear hn
  have q0 := Lib.hid (show At ((w.alloc (.cells #[.int .u32 p0, .int .u32 p1] 38)).alloc (.cells #[.int .u32 o0, .int .u32 o1, .int .u32 o2] 39)) w.heap.size 38 #[.int .u32 p0, .int .u32 p1] from (At.new _ _ _).old _)
  have q1 := Lib.hid (show At ((w.alloc (.cells #[.int .u32 p0, .int .u32 p1] 38)).alloc (.cells #[.int .u32 o0, .int .u32 o1, .int .u32 o2] 39)) (w.heap.size + 1) 39 #[.int .u32 o0, .int .u32 o1, .int .u32 o2] from At.newq (by simp only [World.size_alloc]))
  have F0 := Lib.hid (show Fr [] w ((w.alloc (.cells #[.int .u32 p0, .int .u32 p1] 38)).alloc (.cells #[.int .u32 o0, .int .u32 o1, .int .u32 o2] 39)) from (by repeat (first | exact Fr.refl _ _ | assumption | refine Fr.trans0 ?_ (by assumption) | refine Fr.drewN ?_ _ | refine Fr.alloc ?_ _ | refine Fr.drew ?_)))
  go_enter Try.func4, Try.ntmps4
  go_wp2_with fail
  refine (works_any _).mono ?_
  rintro e w1 ⟨rfl, hf1⟩
  go_wp2_with fail
  refine (snew_any _).mono ?_
  rintro e w2 ⟨sp, rfl, hs2, hsp, hf2⟩
  have Q0 := Lib.hid ((q0.out.fr hf1 (by simp)).fr hf2 (by simp))
  have Q1 := Lib.hid ((q1.out.fr hf1 (by simp)).fr hf2 (by simp))
  have F2 := Lib.hid ((F0.out.trans0 hf1).trans0 hf2)
  have S2 := Lib.hid hs2
  have hsz : w.heap.size + 1 + 1 ≤ sp := by have := hf1.size; simp only [World.size_alloc] at this; omega
  clear q0 q1 F0 hf1 hf2 hs2 hsp
  go_wp2_with fail
  have S3 := Lib.hid (S2.out.fr0 (show Fr [] w2 (w2.alloc (.cells ZW 40)) from (by repeat (first | exact Fr.refl _ _ | assumption | refine Fr.trans0 ?_ (by assumption) | refine Fr.drewN ?_ _ | refine Fr.alloc ?_ _ | refine Fr.drew ?_))))
  have W3 := Lib.hid (At.new w2 40 ZW)
  have F3 := Lib.hid (F2.out.alloc (.cells ZW 40))
  have R0 := Lib.hid (Q0.out.old (.cells ZW 40))
  have R1 := Lib.hid (Q1.out.old (.cells ZW 40))
  have hsz2 : sp < w2.heap.size := S2.out.1.lt
  obtain ⟨WB, hWB⟩ : ∃ q, w2.heap.size = q := ⟨_, rfl⟩
  rw [hWB] at W3 hsz2 ⊢
  have hw3 := W3.out.lt
  clear S2 F2 Q0 Q1 hWB
  obtain ⟨w3, hw3e⟩ : ∃ W, w2.alloc (.cells ZW 40) = W := ⟨_, rfl⟩
  rw [hw3e] at S3 W3 F3 R0 R1 hw3 ⊢
  clear hw3e
  refine (lframe_any _).mono ?_
  rintro e w4 ⟨rfl, hf4⟩
  have S4 := Lib.hid (S3.out.fr0 hf4)
  have W4 := Lib.hid (W3.out.fr hf4 (by simp))
  have F4 := Lib.hid (F3.out.trans0 hf4)
  have P0 := Lib.hid (R0.out.fr hf4 (by simp))
  have P1 := Lib.hid (R1.out.fr hf4 (by simp))
  have hw4 := W4.out.lt
  clear S3 W3 F3 R0 R1 hf4 hw3
  go_wp2_with (refine wpList_store_all rfl 31 (.tmp 10) (.tmp 29) rfl _ (cat frL).toArray rfl rfl 31 Z (At.newq (by first | rfl | simp only [World.size_alloc])) (frInfo frL_len) (show Z.size = _ by rw [← HZ.out, cat_size zf_len, cat_size frL_len]) (cat_all _) ?_; intro w5 hA5 hF5)
  have hga : Fr [] w4 (w4.alloc (.cells Z 31)) := (by repeat (first | exact Fr.refl _ _ | assumption | refine Fr.trans0 ?_ (by assumption) | refine Fr.drewN ?_ _ | refine Fr.alloc ?_ _ | refine Fr.drew ?_))
  have S5 := Lib.hid ((S4.out.fr0 hga).fr hF5 (by have := S4.out.1.lt; simp <;> omega) (by simp [Value.ownBlock]))
  have W5 := Lib.hid ((W4.out.fr hga (by simp)).fr hF5 (by simp <;> omega))
  have F5 := Lib.hid ((F4.out.trans0 hga).trans hF5 (by have := F4.out.size; simp <;> omega))
  have P05 := Lib.hid ((P0.out.fr hga (by simp)).fr hF5 (by simp <;> omega))
  have P15 := Lib.hid ((P1.out.fr hga (by simp)).fr hF5 (by simp <;> omega))
  have A5 := Lib.hid hA5
  obtain ⟨FB, hFB⟩ : ∃ q, w4.heap.size = q := ⟨_, rfl⟩
  rw [hFB] at A5 hw4 ⊢
  clear hga hA5 hF5 hFB S4 W4 F4 P0 P1
  rw [← HZW.out] at W5
  clear HZW hzw
  have HRZ := Lib.hid (Rel.zero (List.replicate 272 noC) [])
  have HBL : Hid ((List.replicate 272 noC : List Cp).length = 272) := Lib.hid (List.length_replicate)
  obtain ⟨BL0, hBL⟩ : ∃ l : List Cp, List.replicate 272 noC = l := ⟨_, rfl⟩
  rw [hBL] at W5 HRZ HBL
  clear hBL
  have p16 : frL[16]? = some (madeC 0 4 0) := frL_at.1
  have HP16 := Lib.hid p16
  clear p16
  go_loopw [11] (fun i wr => ∃ (k : Nat) (fr BL SL : List Cp) (v : Value) (p : Cp), k ≤ n ∧ i = .int .i64 k ∧ (fr.length = 17 ∧ fr[16]? = some p ∧ p.cur < 4294967296 ∧ BL.length = 272 ∧ SL.length = 3 * k ∧ Rel k BL SL) ∧ At wr FB 31 (cat fr).toArray ∧ At wr WB 40 (cat BL).toArray ∧ St wr sp v SL ∧ (∀ g, v.ownBlock = some g → w.heap.size + 1 + 1 ≤ g) ∧ At wr w.heap.size 38 #[.int .u32 p0, .int .u32 p1] ∧ At wr (w.heap.size + 1) 39 #[.int .u32 o0, .int .u32 o1, .int .u32 o2] ∧ Fr [] w wr) (fun i _ => n - (intOf i).toNat)
  case atStart => exact ⟨0, frL, BL0, [], _, _, by omega, rfl, ⟨frL_len, HP16.out, by show 0 < 4294967296; omega, HBL.out, rfl, HRZ.out⟩, A5.out, W5.out, S5.out, by simp [Value.ownBlock], P05.out, P15.out, F5.out⟩
  case round =>
    clear A5 W5 S5 P05 P15 F5 HRZ HBL HP16
    obtain ⟨k, fr, BL, SL, v, p, hk, rfl, ⟨hfl, hfp, hpc, hBL, hSL, hRel⟩, hA, hW, hS, hown, hq0, hq1, hF⟩ := hrel
    have KR := Lib.hid hRel
    have KA := Lib.hid hA
    have KW := Lib.hid hW
    have KS := Lib.hid hS
    have KO := Lib.hid hown
    have K0 := Lib.hid hq0
    have K1 := Lib.hid hq1
    have KF := Lib.hid hF
    have KP := Lib.hid hfp
    have hFl := hA.lt
    have KL := Lib.hid hfl
    have KB := Lib.hid hBL
    have KSL := Lib.hid hSL
    clear hRel hA hW hS hown hq0 hq1 hF hfp hfl hBL hSL
    by_cases hkn : k < n
    · have hk16 : k < 16 := by omega
      obtain ⟨k1, hk1⟩ : ∃ x, k + 1 = x := ⟨_, rfl⟩
      have hwu : IntKind.u16.wrap (1 + (k : Int)) = (k1 : Int) := by simp [IntKind.wrap, IntKind.signed, IntKind.bits]; omega
      have hwu' : IntKind.u16.wrap ((k : Int) + 1) = (k1 : Int) := by simp [IntKind.wrap, IntKind.signed, IntKind.bits]; omega
      have hw32 : IntKind.u32.wrap (k : Int) = (k : Int) := by simp [IntKind.wrap, IntKind.signed, IntKind.bits]; omega
      have ht := HPO.out k1 (by omega) (by omega)
      have CPk := Lib.hid fun W => CP.out W k1
      obtain ⟨a, ha⟩ : ∃ c, madeC 512 132 k1 = c := ⟨_, rfl⟩
      obtain ⟨b, hb⟩ : ∃ c, madeC 1024 129 k1 = c := ⟨_, rfl⟩
      have hac : a.opened.cur < 4294967296 := by rw [← ha]; show 512 < 4294967296; omega
      rw [ha, hb] at ht CPk
      have HT := Lib.hid ht
      have HAC := Lib.hid hac
      have HK1 := Lib.hid hk1
      clear ha hb ht hac hk1
      obtain ⟨v1, hv1⟩ : ∃ v : Nat, (o0 + k) % 4294967296 = v := ⟨_, rfl⟩
      have hwv : IntKind.u32.wrap ((o0 : Int) + (k : Int)) = (v1 : Int) := by rw [wrap_add, hv1]
      clear hv1
      go_wp2_with fail
      refine (CPk.out _).mono ?_
      rintro e w6 ⟨rfl, hf6⟩
      have LA := Lib.hid (KA.out.fr hf6 (by simp))
      have LW := Lib.hid (KW.out.fr hf6 (by simp))
      have LS := Lib.hid (KS.out.fr0 hf6)
      have L0 := Lib.hid (K0.out.fr hf6 (by simp))
      have L1 := Lib.hid (K1.out.fr hf6 (by simp))
      have LF := Lib.hid (KF.out.trans0 hf6)
      clear hf6 KA KW KS K0 K1 KF CPk
      have hga : Fr [] w6 ((w6.alloc (.cells a.cells 25)).alloc (.cells b.cells 25)) := (by repeat (first | exact Fr.refl _ _ | assumption | refine Fr.trans0 ?_ (by assumption) | refine Fr.drewN ?_ _ | refine Fr.alloc ?_ _ | refine Fr.drew ?_))
      have qa := ((At.new w6 25 a.cells).old (.cells b.cells 25))
      have qb := (At.newq (w := w6.alloc (.cells a.cells 25)) (g := w6.heap.size + 1) (t := 25) (cs := b.cells) (by simp only [World.size_alloc]))
      have MA := Lib.hid (LA.out.fr hga (by simp))
      have MW := Lib.hid (LW.out.fr hga (by simp))
      have MS := Lib.hid (LS.out.fr0 hga)
      have MX := Lib.hid (L0.out.fr hga (by simp))
      have MY := Lib.hid (L1.out.fr hga (by simp))
      have MF := Lib.hid (LF.out.trans0 hga)
      have MP := Lib.hid qa
      have MQ := Lib.hid qb
      clear qa qb
      obtain ⟨w7, hw7⟩ : ∃ W, (w6.alloc (.cells a.cells 25)).alloc (.cells b.cells 25) = W := ⟨_, rfl⟩
      rw [hw7] at MA MW MS MX MY MF MP MQ
      have HW7 := Lib.hid hw7
      have hFB6 := LA.out.lt
      obtain ⟨q6, hq6⟩ : ∃ q, w6.heap.size = q := ⟨_, rfl⟩
      rw [hq6] at MP MQ hFB6
      have HQ6 := Lib.hid hq6
      have c10 := MY.out.cell 0
      simp only [List.getElem?_toArray, List.getElem?_cons_zero, List.getElem?_cons_succ] at c10
      clear hga hw7 LA LW LS L0 L1 LF hq6
      unfold Cp.cells at HW7 ⊢
      go_wp2_with (rw [HW7.out, HQ6.out])
      clear HW7 c10
      refine (CN.out _ _).mono ?_
      rintro e w8 ⟨rfl, hf8⟩
      obtain ⟨c1, hc1⟩ : ∃ c, numC v1 = c := ⟨_, rfl⟩
      have CN1 := Lib.hid fun W => CN.out W o1
      have CN2 := Lib.hid fun W => CN.out W o2
      have CN0 := Lib.hid fun W => CN.out W 0
      obtain ⟨c2, hc2⟩ : ∃ c, numC o1 = c := ⟨_, rfl⟩
      obtain ⟨c3, hc3⟩ : ∃ c, numC o2 = c := ⟨_, rfl⟩
      obtain ⟨c0, hc0⟩ : ∃ c, numC 0 = c := ⟨_, rfl⟩
      rw [hc1]
      rw [hc2] at CN1
      rw [hc3] at CN2
      rw [hc0] at CN0
      have HC0 := Lib.hid hc0
      obtain ⟨f1, hf1⟩ : ∃ f, ((fr.set 14 c1).set 3 c2).set 11 c3 = f := ⟨_, rfl⟩
      have HF1 := Lib.hid hf1
      have hf1l : f1.length = 17 := by rw [← hf1]; simp only [List.length_set, KL.out]
      have HF1L := Lib.hid hf1l
      clear hc1 hc2 hc3 hc0 hwv hwu hwu' hf1 hf1l
      have NA := Lib.hid (MA.out.fr hf8 (by simp))
      have NW := Lib.hid (MW.out.fr hf8 (by simp))
      have NS := Lib.hid (MS.out.fr0 hf8)
      have NX := Lib.hid (MX.out.fr hf8 (by simp))
      have NY := Lib.hid (MY.out.fr hf8 (by simp))
      have NP := Lib.hid (MP.out.fr hf8 (by simp))
      have NQ := Lib.hid (MQ.out.fr hf8 (by simp))
      have NF := Lib.hid (MF.out.trans0 hf8)
      clear hf8 MA MW MS MX MY MP MQ MF
      go_wp2_with (refine wpList_store_cap rfl (.tmp 49) (.tmp 47) rfl FB 112 c1 rfl rfl 31 fr NA.out 14 rfl (by rw [KL.out]; omega) ?_; intro w9 hA9 hF9; have c11 := (NY.out.fr hF9 (by simp <;> omega)).cell 1; simp only [List.getElem?_toArray, List.getElem?_cons_zero, List.getElem?_cons_succ] at c11)
      have OW := Lib.hid (NW.out.fr hF9 (by simp <;> omega))
      have OS := Lib.hid (NS.out.fr hF9 (by simp <;> omega) (fun g hg => by simpa using own_ne NS.out.2 NA.out (by decide) g hg))
      have OX := Lib.hid (NX.out.fr hF9 (by simp <;> omega))
      have OY := Lib.hid (NY.out.fr hF9 (by simp <;> omega))
      have OP := Lib.hid (NP.out.fr hF9 (by simp <;> omega))
      have OQ := Lib.hid (NQ.out.fr hF9 (by simp <;> omega))
      have OF := Lib.hid (NF.out.trans hF9 (by simp <;> omega))
      have OA := Lib.hid hA9
      clear hF9 hA9 NA NW NS NX NY NP NQ NF
      refine (CN1.out _).mono ?_
      rintro e w10 ⟨rfl, hf10⟩
      have RA := Lib.hid (OA.out.fr hf10 (by simp))
      have RW := Lib.hid (OW.out.fr hf10 (by simp))
      have RS := Lib.hid (OS.out.fr0 hf10)
      have RX := Lib.hid (OX.out.fr hf10 (by simp))
      have RY := Lib.hid (OY.out.fr hf10 (by simp))
      have RP := Lib.hid (OP.out.fr hf10 (by simp))
      have RQ := Lib.hid (OQ.out.fr hf10 (by simp))
      have RF := Lib.hid (OF.out.trans0 hf10)
      clear hf10 OA OW OS OX OY OP OQ OF
      clear c11
      go_wp2_with (refine wpList_store_cap rfl (.tmp 54) (.tmp 52) rfl FB 24 c2 rfl rfl 31 _ RA.out 3 rfl (by rw [List.length_set, KL.out]; omega) ?_; intro w11 hA11 hF11; have c12 := (RY.out.fr hF11 (by simp <;> omega)).cell 2; simp only [List.getElem?_toArray, List.getElem?_cons_zero, List.getElem?_cons_succ] at c12)
      have TW := Lib.hid (RW.out.fr hF11 (by simp <;> omega))
      have TS := Lib.hid (RS.out.fr hF11 (by simp <;> omega) (fun g hg => by simpa using own_ne RS.out.2 RA.out (by decide) g hg))
      have TX := Lib.hid (RX.out.fr hF11 (by simp <;> omega))
      have TY := Lib.hid (RY.out.fr hF11 (by simp <;> omega))
      have TP := Lib.hid (RP.out.fr hF11 (by simp <;> omega))
      have TQ := Lib.hid (RQ.out.fr hF11 (by simp <;> omega))
      have TF := Lib.hid (RF.out.trans hF11 (by simp <;> omega))
      have TA := Lib.hid hA11
      clear hF11 hA11 RA RW RS RX RY RP RQ RF
      refine (CN2.out _).mono ?_
      rintro e w12 ⟨rfl, hf12⟩
      have UA := Lib.hid (TA.out.fr hf12 (by simp))
      have UW := Lib.hid (TW.out.fr hf12 (by simp))
      have US := Lib.hid (TS.out.fr0 hf12)
      have UX := Lib.hid (TX.out.fr hf12 (by simp))
      have UY := Lib.hid (TY.out.fr hf12 (by simp))
      have UP := Lib.hid (TP.out.fr hf12 (by simp))
      have UQ := Lib.hid (TQ.out.fr hf12 (by simp))
      have UF := Lib.hid (TF.out.trans0 hf12)
      clear hf12 TA TW TS TX TY TP TQ TF
      clear c12
      go_wp2_with (first | (refine wpList_store_cap rfl (.tmp 59) (.tmp 57) rfl FB 88 c3 rfl rfl 31 _ UA.out 11 rfl (by rw [List.length_set, List.length_set, KL.out]; omega) ?_; intro w13 hA13 hF13; rw [HF1.out] at hA13; have DW := Lib.hid (UW.out.fr hF13 (by simp <;> omega))) | (refine wpList_store_frame rfl (.tmp 62) (.tmp 61) rfl WB (k * 136) f1 rfl rfl 40 BL DW.out HF1L.out KB.out k rfl hk16 ?_; intro w14 hA14 hF14) | (refine wpList_load_all rfl 31 (.tmp 10) rfl FB rfl 31 (cat f1).toArray _ hA13 Try.underlying31 rfl (frInfo HF1L.out) ?_) | (refine wpList_load_all rfl 31 (.tmp 10) rfl FB rfl 31 (cat f1).toArray _ (hA13.fr hF14 (by simp <;> omega)) Try.underlying31 rfl (frInfo HF1L.out) ?_) | (refine wpList_load_all rfl 25 (.tmp 12) rfl q6 rfl 25 a.cells _ ((UP.out.fr hF13 (by simp <;> omega)).fr hF14 (by simp <;> omega)) Try.underlying25 rfl infoCapS ?_) | (refine wpList_load_all rfl 25 (.tmp 13) rfl (q6 + 1) rfl 25 b.cells _ ((UQ.out.fr hF13 (by simp <;> omega)).fr hF14 (by simp <;> omega)) Try.underlying25 rfl infoCapS ?_))
      have hS13 := US.out.fr hF13 (by simp <;> omega) (fun g hg => by simpa using own_ne US.out.2 UA.out (by decide) g hg)
      have VS := Lib.hid (hS13.fr hF14 (by simp <;> omega) (fun g hg => by simpa using own_ne hS13.2 DW.out (by decide) g hg))
      have VA := Lib.hid (hA13.fr hF14 (by simp <;> omega))
      have VX := Lib.hid ((UX.out.fr hF13 (by simp <;> omega)).fr hF14 (by simp <;> omega))
      have VY := Lib.hid ((UY.out.fr hF13 (by simp <;> omega)).fr hF14 (by simp <;> omega))
      have VF := Lib.hid ((UF.out.trans hF13 (by simp <;> omega)).trans hF14 (by simp <;> omega))
      have VW := Lib.hid hA14
      clear hS13 hA13 hF13 hA14 hF14 DW UA UW US UX UY UP UQ UF CN1 CN2
      obtain ⟨y, hy⟩ : ∃ y, fr[15]? = some y := ⟨_, List.getElem?_eq_getElem (by rw [KL.out]; omega)⟩
      obtain ⟨z, hz'⟩ : ∃ z, fr[10]? = some z := ⟨_, List.getElem?_eq_getElem (by rw [KL.out]; omega)⟩
      have e16 : f1[16]? = some p := by rw [← HF1.out, List.getElem?_set_ne (by omega), List.getElem?_set_ne (by omega), List.getElem?_set_ne (by omega)]; exact KP.out
      have e15 : f1[15]? = some y := by rw [← HF1.out, List.getElem?_set_ne (by omega), List.getElem?_set_ne (by omega), List.getElem?_set_ne (by omega)]; exact hy
      have e10 : f1[10]? = some z := by rw [← HF1.out, List.getElem?_set_ne (by omega), List.getElem?_set_ne (by omega), List.getElem?_set_ne (by omega)]; exact hz'
      have e14 : f1[14]? = some c1 := by rw [← HF1.out, List.getElem?_set_ne (by omega), List.getElem?_set_ne (by omega), List.getElem?_set_self (by rw [KL.out]; omega)]
      have e11 : f1[11]? = some c3 := by rw [← HF1.out, List.getElem?_set_self (by rw [List.length_set, List.length_set, KL.out]; omega)]
      have CC : Calls Try.prog 10 #[.pointer (some ⟨sp, 0, none⟩), .agg (cat f1).toArray, .agg a.cells, .agg b.cells] w14 fun r w' => ∃ v', r = .returned (.tuple #[.agg (cat (gF f1 a.opened b.opened)).toArray, .int .i64 0]) ∧ St w' sp v' (SL ++ [p.addr ((p.cur + 4) % 4294967296), c1, y]) ∧ Fr (sp :: v.ownBlock.toList) w14 w' ∧ ∀ g, v'.ownBlock = some g → v.ownBlock = some g ∨ w14.heap.size ≤ g := scall_ok w14 sp v SL VS.out (by rw [KSL.out]; omega) f1 HF1L.out p c1 y e16 e14 e15 hpc a b HT.out
      have HREL := Lib.hid (Rel.step KR.out KB.out KSL.out hk16 HF1L.out e16 e14 e15)
      have HSL1 := Lib.hid (show (SL ++ [p.addr ((p.cur + 4) % 4294967296), c1, y]).length = 3 * k1 by rw [List.length_append, KSL.out, ← HK1.out]; simp; omega)
      have HBL1 := Lib.hid (putF_len BL f1 k HF1L.out KB.out hk16)
      obtain ⟨SL1, hSL1⟩ : ∃ l, SL ++ [p.addr ((p.cur + 4) % 4294967296), c1, y] = l := ⟨_, rfl⟩
      obtain ⟨BL1, hBL1⟩ : ∃ l, putF BL k f1 = l := ⟨_, rfl⟩
      obtain ⟨G, hG⟩ : ∃ l, gF f1 a.opened b.opened = l := ⟨_, rfl⟩
      have hGL : G.length = 17 := by rw [← hG]; exact gF_len _ _ _
      have g16 : G[16]? = some a.opened := by rw [← hG, gF_at _ _ _ 16 (by omega)]; rfl
      have g11 : G[11]? = some c3 := by rw [← hG, gF_at _ _ _ 11 (by omega)]; simp [List.getD_eq_getElem?_getD, e11]
      have g10 : G[10]? = some z := by rw [← hG, gF_at _ _ _ 10 (by omega)]; simp [List.getD_eq_getElem?_getD, e10]
      have gz : ∀ j, j < 15 → j ≠ 10 → j ≠ 11 → G[j]? = some c0 := fun j h1 h2 h3 => by rw [← hG, gF_at _ _ _ j (by omega), if_neg (by omega), if_neg (by omega), if_neg h2, if_neg h3, ← numC_zero, HC0.out]
      rw [hSL1] at CC HREL HSL1
      rw [hBL1] at VW HREL HBL1
      rw [hG] at CC
      have HGL := Lib.hid hGL
      have G16 := Lib.hid g16
      have G11 := Lib.hid g11
      have G10 := Lib.hid g10
      have GZ := Lib.hid gz
      have E11 := Lib.hid e11
      have E10 := Lib.hid e10
      clear hy hz' e16 e15 e14 e10 e11 hSL1 hBL1 hG hGL g16 g11 g10 gz KR KP KL KB KSL HF1 HT
      refine CC.mono ?_
      rintro e w15 ⟨v', rfl, hs15, hf15, hown⟩
      have nFB := off VS.out VA.out (by decide) (by omega)
      have nWB := off VS.out VW.out (by decide) (by omega)
      have nX := off VS.out VX.out (by decide) (by omega)
      have nY := off VS.out VY.out (by decide) (by omega)
      have hvo : ∀ g, v'.ownBlock = some g → w.heap.size + 1 + 1 ≤ g := fun g hg => by
        rcases hown g hg with h | h
        · exact KO.out g h
        · have := VF.out.size
          have := VA.out.lt
          omega
      have HVO := Lib.hid hvo
      have XA := Lib.hid (VA.out.fr hf15 nFB)
      have XW := Lib.hid (VW.out.fr hf15 nWB)
      have XX := Lib.hid (VX.out.fr hf15 nX)
      have XY := Lib.hid (VY.out.fr hf15 nY)
      have XS := Lib.hid hs15
      have XF := Lib.hid (VF.out.trans hf15 (fun x hx => by
        rcases List.mem_cons.1 hx with e | e
        · subst e; exact .inr (by omega)
        · have := KO.out x (by simpa using e); exact .inr (by omega)))
      have hFBx := XA.out.lt
      clear hs15 hf15 hown nFB nWB nX nY hvo VA VW VX VY VS VF CC KO
      go_wp2_with (first | (refine wpList_store_all rfl 31 (.tmp 14) (.tmp 69) rfl _ (cat G).toArray rfl rfl 31 Z (At.newq (by first | rfl | simp only [World.size_alloc])) (frInfo HGL.out) (show Z.size = _ by rw [← HZ.out, cat_size zf_len, cat_size HGL.out]) (cat_all _) ?_; intro w16 hA16 hF16) | (refine wpList_load_cap rfl (.tmp 75) rfl w15.heap.size 88 rfl 31 G hA16 11 rfl c3 G11.out ?_) | (refine wpList_load_cap rfl (.tmp 78) rfl FB 88 rfl 31 f1 ((XA.out.old (.cells Z 31)).fr hF16 (by simp <;> omega)) 11 rfl c3 E11.out ?_) | (refine wpList_load_cap rfl (.tmp 84) rfl w15.heap.size 80 rfl 31 G hA16 10 rfl z G10.out ?_) | (refine wpList_load_cap rfl (.tmp 87) rfl FB 80 rfl 31 f1 ((XA.out.old (.cells Z 31)).fr hF16 (by simp <;> omega)) 10 rfl z E10.out ?_))
      have hga : Fr [] w15 (w15.alloc (.cells Z 31)) := (by repeat (first | exact Fr.refl _ _ | assumption | refine Fr.trans0 ?_ (by assumption) | refine Fr.drewN ?_ _ | refine Fr.alloc ?_ _ | refine Fr.drew ?_))
      have hown : ∀ g, v'.ownBlock = some g → g ∉ [w15.heap.size] := fun g hg => by have := (XS.out.2.lt g hg).2; simp <;> omega
      have hsl := XS.out.1.lt
      have YS := Lib.hid ((XS.out.fr0 hga).fr hF16 (by simp <;> omega) hown)
      have YA := Lib.hid ((XA.out.fr hga (by simp)).fr hF16 (by simp <;> omega))
      have YW := Lib.hid ((XW.out.fr hga (by simp)).fr hF16 (by simp <;> omega))
      have YX := Lib.hid ((XX.out.fr hga (by simp)).fr hF16 (by simp <;> omega))
      have YY := Lib.hid ((XY.out.fr hga (by simp)).fr hF16 (by simp <;> omega))
      have YF := Lib.hid ((XF.out.trans0 hga).trans hF16 (by have := XF.out.size; simp <;> omega))
      have YG := Lib.hid hA16
      have hsz15 := XF.out.size
      obtain ⟨GB, hGB⟩ : ∃ q, w15.heap.size = q := ⟨_, rfl⟩
      rw [hGB] at YG hFBx hsz15 hsl ⊢
      clear hga hown hA16 hF16 hGB XS XA XW XX XY XF
      have HSP : Hid (Calls Try.prog 12 #[.pointer (some ⟨sp, 0, none⟩)] w16 fun r w' => r = .returned (.int .i64 ((k : Int) + 1)) ∧ w16 = w') := Lib.hid ((sdepth_any YS.out).mono fun e w' h => ⟨by rw [h.1, HSL1.out, ← HK1.out]; congr 2; omega, h.2⟩)
      refine HSP.out.mono ?_
      rintro e w' ⟨rfl, rfl⟩
      go_wp2_with fail
      go_loopw [16] (fun i wr' => ∃ j : Nat, j ≤ 15 ∧ i = .int .i64 j ∧ Fr [] w16 wr') (fun i _ => 15 - (intOf i).toNat)
      case atStart => exact ⟨0, by omega, rfl, Fr.refl _ _⟩
      case round =>
        rename World => wi
        obtain ⟨j, hj, rfl, hfi⟩ := hrel
        have HFI := Lib.hid hfi
        clear hfi HSP
        by_cases hj15 : j < 15
        · have hjn : (j : Int) < 15 := by omega
          have YGi := Lib.hid (YG.out.fr HFI.out (by simp))
          go_upto_region 21 with (fail)
          by_cases h10 : j = 10
          · subst h10
            refine wp_region_L (fun W => Fr [] wi W) [] (by kernel_rfl) (Fr.refl _ _).drew (fun hHeld => ?_)
            refine wpAnyL_take (i := 0) (v := ?_) rfl (by kernel_rfl) (fun _ _ _ h => h) (Or.inl ⟨by rfl, ?_⟩) (by assumption) ?_; rotate_left; (focus (intro w hSw; skip; go_simp; (try with_reducible rfl))); (try (refine wpAnyL_norm (by simp only [Act.put, List.setIfInBounds_toArray, List.set_cons_zero, List.set_cons_succ]; rfl) ?_))
            refine wpAnyL_take (i := 1) (v := ?_) rfl (by kernel_rfl) (fun _ _ _ h => h) (Or.inl ⟨by rfl, ?_⟩) (by assumption) ?_; rotate_left; (focus (intro w hSw; skip; go_simp; (try with_reducible rfl))); (try (refine wpAnyL_norm (by simp only [Act.put, List.setIfInBounds_toArray, List.set_cons_zero, List.set_cons_succ]; rfl) ?_))
            refine wpAnyL_take (i := 2) (v := ?_) rfl (by kernel_rfl) (fun _ _ _ h => h) (Or.inl ⟨by rfl, ?_⟩) (by assumption) ?_; rotate_left; (focus (intro w hSw; skip; go_simp; (try with_reducible rfl))); (try (refine wpAnyL_norm (by simp only [Act.put, List.setIfInBounds_toArray, List.set_cons_zero, List.set_cons_succ]; rfl) ?_))
            refine wpAnyL_take (i := 3) (v := undef) rfl (by kernel_rfl) (fun _ _ _ h => h) (Or.inr ⟨by rfl, rfl⟩) (by assumption) ?_; (try (refine wpAnyL_norm (by simp only [Act.put, List.setIfInBounds_toArray, List.set_cons_zero, List.set_cons_succ]; rfl) ?_))
            refine wpAnyL_take (i := 4) (v := undef) rfl (by kernel_rfl) (fun _ _ _ h => h) (Or.inr ⟨by rfl, rfl⟩) (by assumption) ?_; (try (refine wpAnyL_norm (by simp only [Act.put, List.setIfInBounds_toArray, List.set_cons_zero, List.set_cons_succ]; rfl) ?_))
            refine wpAnyL_take (i := 5) (v := ?_) rfl (by kernel_rfl) (fun _ _ _ h => h) (Or.inl ⟨by rfl, ?_⟩) (by assumption) ?_; rotate_left; (focus (intro w hSw; skip; go_simp; (try with_reducible rfl))); (try (refine wpAnyL_norm (by simp only [Act.put, List.setIfInBounds_toArray, List.set_cons_zero, List.set_cons_succ]; rfl) ?_))
            refine wpAnyL_take (i := 6) (v := ?_) rfl (by kernel_rfl) (fun _ _ _ h => h) (Or.inl ⟨by rfl, ?_⟩) (by assumption) ?_; rotate_left; (focus (intro w hSw; skip; go_simp; (try with_reducible rfl))); (try (refine wpAnyL_norm (by simp only [Act.put, List.setIfInBounds_toArray, List.set_cons_zero, List.set_cons_succ]; rfl) ?_))
            refine wpAnyL_take (i := 7) (v := undef) rfl (by kernel_rfl) (fun _ _ _ h => h) (Or.inr ⟨by rfl, rfl⟩) (by assumption) ?_; (try (refine wpAnyL_norm (by simp only [Act.put, List.setIfInBounds_toArray, List.set_cons_zero, List.set_cons_succ]; rfl) ?_))
            refine wpAnyL_take (i := 8) (v := undef) rfl (by kernel_rfl) (fun _ _ _ h => h) (Or.inr ⟨by rfl, rfl⟩) (by assumption) ?_; (try (refine wpAnyL_norm (by simp only [Act.put, List.setIfInBounds_toArray, List.set_cons_zero, List.set_cons_succ]; rfl) ?_))
            refine wpAnyL_take (i := 9) (v := undef) rfl (by kernel_rfl) (fun _ _ _ h => h) (Or.inr ⟨by rfl, rfl⟩) (by assumption) ?_; (try (refine wpAnyL_norm (by simp only [Act.put, List.setIfInBounds_toArray, List.set_cons_zero, List.set_cons_succ]; rfl) ?_))
            refine wpAnyL_take (i := 10) (v := undef) rfl (by kernel_rfl) (fun _ _ _ h => h) (Or.inr ⟨by rfl, rfl⟩) (by assumption) ?_; (try (refine wpAnyL_norm (by simp only [Act.put, List.setIfInBounds_toArray, List.set_cons_zero, List.set_cons_succ]; rfl) ?_))
            refine wpAnyL_take (i := 11) (v := undef) rfl (by kernel_rfl) (fun _ _ _ h => h) (Or.inr ⟨by rfl, rfl⟩) (by assumption) ?_; (try (refine wpAnyL_norm (by simp only [Act.put, List.setIfInBounds_toArray, List.set_cons_zero, List.set_cons_succ]; rfl) ?_))
            refine wpAnyL_take (i := 12) (v := undef) rfl (by kernel_rfl) (fun _ _ _ h => h) (Or.inr ⟨by rfl, rfl⟩) (by assumption) ?_; (try (refine wpAnyL_norm (by simp only [Act.put, List.setIfInBounds_toArray, List.set_cons_zero, List.set_cons_succ]; rfl) ?_))
            refine wpAnyL_take (i := 13) (v := ?_) rfl (by kernel_rfl) (fun _ _ _ h => h) (Or.inl ⟨by rfl, ?_⟩) (by assumption) ?_; rotate_left; (focus (intro w hSw; skip; go_simp; (try with_reducible rfl))); (try (refine wpAnyL_norm (by simp only [Act.put, List.setIfInBounds_toArray, List.set_cons_zero, List.set_cons_succ]; rfl) ?_))
            refine wpAnyL_done (by kernel_rfl) ?_ _
            go_wp2_with fail
            go_roundw
            case rel => exact ⟨11, by omega, by go_num, HFI.out.drew⟩
            case measure => simp [intOf]
          · by_cases h11 : j = 11
            · subst h11
              refine wp_region_L (fun W => Fr [] wi W) [] (by kernel_rfl) (Fr.refl _ _).drew (fun hHeld => ?_)
              refine wpAnyL_take (i := 0) (v := ?_) rfl (by kernel_rfl) (fun _ _ _ h => h) (Or.inl ⟨by rfl, ?_⟩) (by assumption) ?_; rotate_left; (focus (intro w hSw; skip; go_simp; (try with_reducible rfl))); (try (refine wpAnyL_norm (by simp only [Act.put, List.setIfInBounds_toArray, List.set_cons_zero, List.set_cons_succ]; rfl) ?_))
              refine wpAnyL_take (i := 1) (v := ?_) rfl (by kernel_rfl) (fun _ _ _ h => h) (Or.inl ⟨by rfl, ?_⟩) (by assumption) ?_; rotate_left; (focus (intro w hSw; skip; go_simp; (try with_reducible rfl))); (try (refine wpAnyL_norm (by simp only [Act.put, List.setIfInBounds_toArray, List.set_cons_zero, List.set_cons_succ]; rfl) ?_))
              refine wpAnyL_take (i := 2) (v := ?_) rfl (by kernel_rfl) (fun _ _ _ h => h) (Or.inl ⟨by rfl, ?_⟩) (by assumption) ?_; rotate_left; (focus (intro w hSw; skip; go_simp; (try with_reducible rfl))); (try (refine wpAnyL_norm (by simp only [Act.put, List.setIfInBounds_toArray, List.set_cons_zero, List.set_cons_succ]; rfl) ?_))
              refine wpAnyL_take (i := 3) (v := ?_) rfl (by kernel_rfl) (fun _ _ _ h => h) (Or.inl ⟨by rfl, ?_⟩) (by assumption) ?_; rotate_left; (focus (intro w hSw; skip; go_simp; (try with_reducible rfl))); (try (refine wpAnyL_norm (by simp only [Act.put, List.setIfInBounds_toArray, List.set_cons_zero, List.set_cons_succ]; rfl) ?_))
              refine wpAnyL_take (i := 4) (v := ?_) rfl (by kernel_rfl) (fun _ _ _ h => h) (Or.inl ⟨by rfl, ?_⟩) (by assumption) ?_; rotate_left; (focus (intro w hSw; skip; go_simp; (try with_reducible rfl))); (try (refine wpAnyL_norm (by simp only [Act.put, List.setIfInBounds_toArray, List.set_cons_zero, List.set_cons_succ]; rfl) ?_))
              refine wpAnyL_take (i := 5) (v := ?_) rfl (by kernel_rfl) (fun _ _ _ h => h) (Or.inl ⟨by rfl, ?_⟩) (by assumption) ?_; rotate_left; (focus (intro w hSw; skip; go_simp; (try with_reducible rfl))); (try (refine wpAnyL_norm (by simp only [Act.put, List.setIfInBounds_toArray, List.set_cons_zero, List.set_cons_succ]; rfl) ?_))
              refine wpAnyL_take (i := 6) (v := ?_) rfl (by kernel_rfl) (fun _ _ _ h => h) (Or.inl ⟨by rfl, ?_⟩) (by assumption) ?_; rotate_left; (focus (intro w hSw; skip; go_simp; (try with_reducible rfl))); (try (refine wpAnyL_norm (by simp only [Act.put, List.setIfInBounds_toArray, List.set_cons_zero, List.set_cons_succ]; rfl) ?_))
              refine wpAnyL_take (i := 7) (v := undef) rfl (by kernel_rfl) (fun _ _ _ h => h) (Or.inr ⟨by rfl, rfl⟩) (by assumption) ?_; (try (refine wpAnyL_norm (by simp only [Act.put, List.setIfInBounds_toArray, List.set_cons_zero, List.set_cons_succ]; rfl) ?_))
              refine wpAnyL_take (i := 8) (v := undef) rfl (by kernel_rfl) (fun _ _ _ h => h) (Or.inr ⟨by rfl, rfl⟩) (by assumption) ?_; (try (refine wpAnyL_norm (by simp only [Act.put, List.setIfInBounds_toArray, List.set_cons_zero, List.set_cons_succ]; rfl) ?_))
              refine wpAnyL_take (i := 9) (v := undef) rfl (by kernel_rfl) (fun _ _ _ h => h) (Or.inr ⟨by rfl, rfl⟩) (by assumption) ?_; (try (refine wpAnyL_norm (by simp only [Act.put, List.setIfInBounds_toArray, List.set_cons_zero, List.set_cons_succ]; rfl) ?_))
              refine wpAnyL_take (i := 10) (v := undef) rfl (by kernel_rfl) (fun _ _ _ h => h) (Or.inr ⟨by rfl, rfl⟩) (by assumption) ?_; (try (refine wpAnyL_norm (by simp only [Act.put, List.setIfInBounds_toArray, List.set_cons_zero, List.set_cons_succ]; rfl) ?_))
              refine wpAnyL_take (i := 11) (v := undef) rfl (by kernel_rfl) (fun _ _ _ h => h) (Or.inr ⟨by rfl, rfl⟩) (by assumption) ?_; (try (refine wpAnyL_norm (by simp only [Act.put, List.setIfInBounds_toArray, List.set_cons_zero, List.set_cons_succ]; rfl) ?_))
              refine wpAnyL_take (i := 12) (v := undef) rfl (by kernel_rfl) (fun _ _ _ h => h) (Or.inr ⟨by rfl, rfl⟩) (by assumption) ?_; (try (refine wpAnyL_norm (by simp only [Act.put, List.setIfInBounds_toArray, List.set_cons_zero, List.set_cons_succ]; rfl) ?_))
              refine wpAnyL_take (i := 13) (v := ?_) rfl (by kernel_rfl) (fun _ _ _ h => h) (Or.inl ⟨by rfl, ?_⟩) (by assumption) ?_; rotate_left; (focus (intro w hSw; skip; go_simp; (try with_reducible rfl))); (try (refine wpAnyL_norm (by simp only [Act.put, List.setIfInBounds_toArray, List.set_cons_zero, List.set_cons_succ]; rfl) ?_))
              refine wpAnyL_done (by kernel_rfl) ?_ _
              go_wp2_with fail
              go_roundw
              case rel => exact ⟨12, by omega, by go_num, HFI.out.drew⟩
              case measure => simp [intOf]
            · have hn10 : ((j : Int) != 10) = true := by simp; omega
              have hn11 : ((j : Int) != 11) = true := by simp; omega
              have hj16 : (j : Int) < 16 := by omega
              have hm10 : ¬ (j : Int) = 10 := by omega
              have hm11 : ¬ (j : Int) = 11 := by omega
              have hgj := GZ.out j hj15 h10 h11
              have HGJ := Lib.hid hgj
              clear hgj
              refine wp_region_L (fun W => At W GB 31 (cat G).toArray) [] (by kernel_rfl) YGi.out (fun hHeld => ?_)
              refine wpAnyL_take (i := 0) (v := ?_) rfl (by kernel_rfl) (fun _ _ _ h => h) (Or.inl ⟨by rfl, ?_⟩) (by assumption) ?_; rotate_left; (focus (intro w hSw; skip; go_simp; (try with_reducible rfl))); (try (refine wpAnyL_norm (by simp only [Act.put, List.setIfInBounds_toArray, List.set_cons_zero, List.set_cons_succ]; rfl) ?_))
              refine wpAnyL_take (i := 1) (v := ?_) rfl (by kernel_rfl) (fun _ _ _ h => h) (Or.inl ⟨by rfl, ?_⟩) (by assumption) ?_; rotate_left; (focus (intro w hSw; skip; go_simp; (try with_reducible rfl))); (try (refine wpAnyL_norm (by simp only [Act.put, List.setIfInBounds_toArray, List.set_cons_zero, List.set_cons_succ]; rfl) ?_))
              refine wpAnyL_take (i := 2) (v := ?_) rfl (by kernel_rfl) (fun _ _ _ h => h) (Or.inl ⟨by rfl, ?_⟩) (by assumption) ?_; rotate_left; (focus (intro w hSw; skip; go_simp; (try with_reducible rfl))); (try (refine wpAnyL_norm (by simp only [Act.put, List.setIfInBounds_toArray, List.set_cons_zero, List.set_cons_succ]; rfl) ?_))
              refine wpAnyL_take (i := 3) (v := ?_) rfl (by kernel_rfl) (fun _ _ _ h => h) (Or.inl ⟨by rfl, ?_⟩) (by assumption) ?_; rotate_left; (focus (intro w hSw; skip; go_simp; (try with_reducible rfl))); (try (refine wpAnyL_norm (by simp only [Act.put, List.setIfInBounds_toArray, List.set_cons_zero, List.set_cons_succ]; rfl) ?_))
              refine wpAnyL_take (i := 4) (v := ?_) rfl (by kernel_rfl) (fun _ _ _ h => h) (Or.inl ⟨by rfl, ?_⟩) (by assumption) ?_; rotate_left; (focus (intro w hSw; skip; go_simp; (try with_reducible rfl))); (try (refine wpAnyL_norm (by simp only [Act.put, List.setIfInBounds_toArray, List.set_cons_zero, List.set_cons_succ]; rfl) ?_))
              refine wpAnyL_take (i := 5) (v := ?_) rfl (by kernel_rfl) (fun _ _ _ h => h) (Or.inl ⟨by rfl, ?_⟩) (by assumption) ?_; rotate_left; (focus (intro w hSw; skip; go_simp; (try with_reducible rfl))); (try (refine wpAnyL_norm (by simp only [Act.put, List.setIfInBounds_toArray, List.set_cons_zero, List.set_cons_succ]; rfl) ?_))
              refine wpAnyL_take (i := 6) (v := ?_) rfl (by kernel_rfl) (fun _ _ _ h => h) (Or.inl ⟨by rfl, ?_⟩) (by assumption) ?_; rotate_left; (focus (intro w hSw; skip; go_simp; (try with_reducible rfl))); (try (refine wpAnyL_norm (by simp only [Act.put, List.setIfInBounds_toArray, List.set_cons_zero, List.set_cons_succ]; rfl) ?_))
              refine wpAnyL_take (i := 7) (v := ?_) rfl (by kernel_rfl) (fun _ _ _ h => h) (Or.inl ⟨by rfl, ?_⟩) (by assumption) ?_; rotate_left; (focus (intro w hSw; skip; go_simp; (try with_reducible rfl))); (try (refine wpAnyL_norm (by simp only [Act.put, List.setIfInBounds_toArray, List.set_cons_zero, List.set_cons_succ]; rfl) ?_))
              refine wpAnyL_take (i := 8) (v := ?_) rfl (by kernel_rfl) (fun _ _ _ h => h) (Or.inl ⟨by rfl, ?_⟩) (by assumption) ?_; rotate_left; (focus (intro w hSw; skip; go_simp; (try with_reducible rfl))); (try (refine wpAnyL_norm (by simp only [Act.put, List.setIfInBounds_toArray, List.set_cons_zero, List.set_cons_succ]; rfl) ?_))
              refine wpAnyL_take (i := 9) (v := ?_) rfl (by kernel_rfl) (fun _ _ _ h => h) (Or.inl ⟨by rfl, ?_⟩) (by assumption) ?_; rotate_left; (focus (intro w hSw; skip; go_simp; (try with_reducible rfl))); (try (refine wpAnyL_norm (by simp only [Act.put, List.setIfInBounds_toArray, List.set_cons_zero, List.set_cons_succ]; rfl) ?_))
              refine wpAnyL_take (i := 10) rfl (by kernel_rfl) (fun _ _ _ h => h) (yields_load_cap (.tmp 111) rfl GB (j * 8) rfl 31 G (fun W h => h) j rfl c0 HGJ.out rfl) (by assumption) ?_; (try (refine wpAnyL_norm (by simp only [Act.put, List.setIfInBounds_toArray, List.set_cons_zero, List.set_cons_succ]; rfl) ?_))
              refine wpAnyL_ready (rs := [11]) (by kernel_rfl) (by simp) ?_; refine AllReadyL.cons rfl (fun K hK => ?_) AllReadyL.nil
              go_simp
              refine (CN0.out _).mono ?_
              rintro e w17 ⟨rfl, hf17⟩
              refine hK.out _ _ (fun _ => hHeld.fr hf17 (by simp)) (fun hHeld' => ?_); have hHeld := hHeld' (by decide); clear hHeld' hK K; (try (refine wpAnyL_norm (by simp only [Act.put, List.setIfInBounds_toArray, List.set_cons_zero, List.set_cons_succ]; rfl) ?_))
              refine wpAnyL_take (i := 12) (v := ?_) rfl (by kernel_rfl) (fun _ _ _ h => h) (Or.inl ⟨by rfl, ?_⟩) (by assumption) ?_; rotate_left; (focus (intro w hSw; skip; go_simp; (try with_reducible rfl))); (try (refine wpAnyL_norm (by simp only [Act.put, List.setIfInBounds_toArray, List.set_cons_zero, List.set_cons_succ]; rfl) ?_))
              refine wpAnyL_take (i := 13) (v := ?_) rfl (by kernel_rfl) (fun _ _ _ h => h) (Or.inl ⟨by rfl, ?_⟩) (by assumption) ?_; rotate_left; (focus (intro w hSw; skip; go_simp; (try with_reducible rfl))); (try (refine wpAnyL_norm (by simp only [Act.put, List.setIfInBounds_toArray, List.set_cons_zero, List.set_cons_succ]; rfl) ?_))
              refine wpAnyL_done (by kernel_rfl) ?_ _
              go_wp2_with fail
              go_roundw
              case rel => exact ⟨j + 1, by omega, by go_num, HFI.out.trans0 (hf17.hd rfl rfl rfl rfl)⟩
              case measure => simp [intOf]; omega
        · obtain rfl : j = 15 := by omega
          have ZA' := Lib.hid (YA.out.fr HFI.out (by simp))
          have ZW' := Lib.hid (YW.out.fr HFI.out (by simp))
          have ZS' := Lib.hid (YS.out.fr0 HFI.out)
          have ZX' := Lib.hid (YX.out.fr HFI.out (by simp))
          have ZY' := Lib.hid (YY.out.fr HFI.out (by simp))
          have ZG' := Lib.hid (YG.out.fr HFI.out (by simp))
          have ZF' := Lib.hid (YF.out.trans0 HFI.out)
          clear YA YW YS YX YY YG YF HFI
          go_wp2_with (first | (refine wpList_load_all rfl 31 (.tmp 14) rfl GB rfl 31 (cat G).toArray _ ZG'.out Try.underlying31 rfl (frInfo HGL.out) ?_) | (refine wpList_store_all rfl 31 (.tmp 10) (.tmp 116) rfl FB (cat G).toArray rfl rfl 31 (cat f1).toArray ZA'.out (frInfo HGL.out) (by rw [cat_size HF1L.out, cat_size HGL.out]) (cat_all _) ?_; intro w18 hA18 hF18))
          go_roundw
          case rel =>
            refine ⟨k1, G, BL1, SL1, v', a.opened, by have := HK1.out; omega, by rw [← HK1.out]; go_num, ⟨HGL.out, G16.out, HAC.out, HBL1.out, HSL1.out, by rw [← HK1.out]; exact HREL.out⟩, hA18, ZW'.out.fr hF18 (by simp <;> omega), ZS'.out.fr hF18 (by simp <;> omega) (fun g hg => by simpa using own_ne ZS'.out.2 ZA'.out (by decide) g hg), HVO.out, ZX'.out.fr hF18 (by simp <;> omega), ZY'.out.fr hF18 (by simp <;> omega), ZF'.out.trans hF18 (by simp <;> omega)⟩
          case measure => have := HK1.out; simp [intOf]; omega
    · have hkn' : k = n := by omega
      subst hkn'
      obtain ⟨wo, rfl⟩ : ∃ wo : World, wo = wr := ⟨_, rfl⟩
      clear K1 KP hFl hpc
      go_wp2_with fail
      go_loopw [17] (fun i wr => ∃ (m : Nat) (fr SL : List Cp) (v : Value), m ≤ k ∧ i = .int .i64 ((m : Int) - 1) ∧ (fr.length = 17 ∧ SL.length = 3 * m ∧ Rel m BL SL) ∧ At wr FB 31 (cat fr).toArray ∧ At wr WB 40 (cat BL).toArray ∧ St wr sp v SL ∧ At wr w.heap.size 38 #[.int .u32 p0, .int .u32 p1] ∧ Fr [] w wr) (fun i _ => (intOf i + 1).toNat)
      case atStart => exact ⟨k, fr, SL, v, Nat.le_refl _, rfl, ⟨KL.out, KSL.out, KR.out⟩, KA.out, KW.out, KS.out, K0.out, KF.out⟩
      case round =>
        clear KR KA KW KS KO K0 KF KL KSL
        obtain ⟨m, fr, SL, v, hm, rfl, ⟨hfl, hSL, hRel⟩, hA, hW, hS, hX, hF⟩ := hrel
        have MA := Lib.hid hA
        have MW := Lib.hid hW
        have MS := Lib.hid hS
        have MX := Lib.hid hX
        have MF := Lib.hid hF
        have KL := Lib.hid hfl
        have KR := Lib.hid hRel
        have KSL := Lib.hid hSL
        have hFl := hA.lt
        clear hA hW hS hX hF hfl hRel hSL
        rcases m with _ | d
        · obtain ⟨z, hz⟩ : ∃ z : Int, ((0 : Nat) : Int) - 1 = z := ⟨_, rfl⟩
          have hz0 : z < 0 := by omega
          rw [hz]
          clear hz
          have CR := sret_none wr sp v SL MS.out (by rw [KSL.out]; omega) fr
          rw [HZ.out] at CR
          have HCR := Lib.hid CR
          clear CR
          go_wp2_with (refine wpList_load_all rfl 31 (.tmp 10) rfl FB rfl 31 (cat fr).toArray _ MA.out Try.underlying31 rfl (frInfo KL.out) ?_)
          refine HCR.out.mono ?_
          rintro e w6 ⟨rfl, hf6⟩
          have NS := Lib.hid (MS.out.fr0 hf6)
          have NF := Lib.hid (MF.out.trans0 hf6)
          clear hf6 MS MA MW MX MF
          go_wp2_with (refine wpList_store_all rfl 31 (.tmp 20) (.tmp 211) rfl _ Z rfl rfl 31 Z (At.newq rfl) ZI.out rfl ZA.out ?_; intro w7 hA7 hF7)
          have hga : Fr [] w6 (w6.alloc (.cells Z 31)) := (by repeat (first | exact Fr.refl _ _ | assumption | refine Fr.trans0 ?_ (by assumption) | refine Fr.drewN ?_ _ | refine Fr.alloc ?_ _ | refine Fr.drew ?_))
          have OS := Lib.hid ((NS.out.fr0 hga).fr hF7 (by have := NS.out.1.lt; simp <;> omega) (fun g hg => by have := (NS.out.2.lt g hg).2; simp <;> omega))
          have OF := Lib.hid ((NF.out.trans0 hga).trans hF7 (by have := NF.out.size; simp <;> omega))
          clear hga hA7 hF7 NS NF
          refine (show Calls Try.prog 12 #[.pointer (some ⟨sp, 0, none⟩)] w7 fun r w' => r = .returned (.int .i64 0) ∧ w7 = w' from (sdepth_any OS.out).mono fun e w' h => ⟨by rw [h.1, KSL.out]; rfl, h.2⟩).mono ?_
          rintro e w' ⟨rfl, rfl⟩
          go_wp2_with fail
          refine (scapsl_any OS.out (by rw [KSL.out]; omega)).mono ?_
          rintro e w8 ⟨v8, rfl, h8, hf8⟩
          obtain ⟨va, vc, rfl, hvc⟩ := own_slice h8
          have hl0 := KSL.out
          have OF8 := Lib.hid (OF.out.trans0 hf8)
          simp only [Nat.mul_zero] at hl0
          rw [hl0]
          clear h8 hf8 hvc
          go_wp2_with fail
          go_ret
          exact ⟨rfl, OF8.out⟩
        · have e : (((d + 1 : Nat) : Int) - 1) = (d : Int) := by omega
          rw [e]
          have HE := Lib.hid e
          clear e
          have hd16 : (d : Int) < 16 := by omega
          have hd16n : d < 16 := by omega
          have hw32 : IntKind.u32.wrap (d : Int) = (d : Int) := by simp [IntKind.wrap, IntKind.signed, IntKind.bits]; omega
          obtain ⟨v1, hv1⟩ : ∃ v : Nat, (p0 + d) % 4294967296 = v := ⟨_, rfl⟩
          have hwv : IntKind.u32.wrap ((p0 : Int) + (d : Int)) = (v1 : Int) := by rw [wrap_add, hv1]
          clear hv1
          obtain ⟨p, x, y, b16, b14, b15, s0, s1, s2⟩ := KR.out d (by omega)
          have HB2 := Lib.hid KR.out.back
          obtain ⟨nx, hnx⟩ : ∃ n, (p.cur + 4) % 4294967296 = n := ⟨_, rfl⟩
          have hwr : IntKind.u32.wrap ((p.cur : Int) + 4) = (nx : Int) := by rw [← hnx]; simp [IntKind.wrap, IntKind.signed, IntKind.bits]
          rw [hnx] at s0
          obtain ⟨pc, hpc⟩ : ∃ c, p.addr nx = c := ⟨_, rfl⟩
          have hpcc : pc.cur = nx := by rw [← hpc]; rfl
          rw [hpc] at s0
          have HPC := Lib.hid hpcc
          have B16 := Lib.hid b16
          have B14 := Lib.hid b14
          have B15 := Lib.hid b15
          have S0 := Lib.hid s0
          have S1 := Lib.hid s1
          have S2 := Lib.hid s2
          obtain ⟨c1, hc1⟩ : ∃ c, numC v1 = c := ⟨_, rfl⟩
          obtain ⟨c2, hc2⟩ : ∃ c, numC p1 = c := ⟨_, rfl⟩
          obtain ⟨c3, hc3⟩ : ∃ c, numC 77 = c := ⟨_, rfl⟩
          obtain ⟨c0, hc0⟩ : ∃ c, numC 0 = c := ⟨_, rfl⟩
          have CN1 := Lib.hid fun W => CN.out W v1
          have CN2 := Lib.hid fun W => CN.out W p1
          have CN3 := Lib.hid fun W => CN.out W 77
          have CN0 := Lib.hid fun W => CN.out W 0
          rw [hc1] at CN1
          rw [hc2] at CN2
          rw [hc3] at CN3
          rw [hc0] at CN0
          have HC0 := Lib.hid hc0
          obtain ⟨f1, hf1⟩ : ∃ f, ((fr.set 10 c1).set 11 c2).set 5 c3 = f := ⟨_, rfl⟩
          have HF1 := Lib.hid hf1
          have HF1L := Lib.hid (show f1.length = 17 by rw [← hf1]; simp only [List.length_set, KL.out])
          have x0 := MX.out.cell 0
          simp only [List.getElem?_toArray, List.getElem?_cons_zero, List.getElem?_cons_succ] at x0
          clear hnx hpc hpcc b16 b14 b15 s0 s1 s2 hc1 hc2 hc3 hc0 hf1
          go_wp2_with fail
          refine (CN1.out _).mono ?_
          rintro e w6 ⟨rfl, hf6⟩
          have NA := Lib.hid (MA.out.fr hf6 (by simp))
          have NW := Lib.hid (MW.out.fr hf6 (by simp))
          have NS := Lib.hid (MS.out.fr0 hf6)
          have NX := Lib.hid (MX.out.fr hf6 (by simp))
          have NF := Lib.hid (MF.out.trans0 hf6)
          clear hf6 MA MW MS MX MF
          clear x0
          go_wp2_with (refine wpList_store_cap rfl (.tmp 130) (.tmp 128) rfl FB 80 c1 rfl rfl 31 fr NA.out 10 rfl (by rw [KL.out]; omega) ?_; intro w7 hA7 hF7; have x1 := (NX.out.fr hF7 (by simp <;> omega)).cell 1; simp only [List.getElem?_toArray, List.getElem?_cons_zero, List.getElem?_cons_succ] at x1)
          have OW := Lib.hid (NW.out.fr hF7 (by simp <;> omega))
          have OS := Lib.hid (NS.out.fr hF7 (by simp <;> omega) (fun g hg => by simpa using own_ne NS.out.2 NA.out (by decide) g hg))
          have OX := Lib.hid (NX.out.fr hF7 (by simp <;> omega))
          have OF := Lib.hid (NF.out.trans hF7 (by simp <;> omega))
          have OA := Lib.hid hA7
          clear hF7 hA7 NA NW NS NX NF
          refine (CN2.out _).mono ?_
          rintro e w8 ⟨rfl, hf8⟩
          have RA := Lib.hid (OA.out.fr hf8 (by simp))
          have RW := Lib.hid (OW.out.fr hf8 (by simp))
          have RS := Lib.hid (OS.out.fr0 hf8)
          have RX := Lib.hid (OX.out.fr hf8 (by simp))
          have RF := Lib.hid (OF.out.trans0 hf8)
          clear hf8 OA OW OS OX OF
          clear x1
          go_wp2_with (refine wpList_store_cap rfl (.tmp 135) (.tmp 133) rfl FB 88 c2 rfl rfl 31 _ RA.out 11 rfl (by rw [List.length_set, KL.out]; omega) ?_; intro w9 hA9 hF9)
          have TW := Lib.hid (RW.out.fr hF9 (by simp <;> omega))
          have TS := Lib.hid (RS.out.fr hF9 (by simp <;> omega) (fun g hg => by simpa using own_ne RS.out.2 RA.out (by decide) g hg))
          have TX := Lib.hid (RX.out.fr hF9 (by simp <;> omega))
          have TF := Lib.hid (RF.out.trans hF9 (by simp <;> omega))
          have TA := Lib.hid hA9
          clear hF9 hA9 RA RW RS RX RF
          refine (CN3.out _).mono ?_
          rintro e w10 ⟨rfl, hf10⟩
          have UA := Lib.hid (TA.out.fr hf10 (by simp))
          have UW := Lib.hid (TW.out.fr hf10 (by simp))
          have US := Lib.hid (TS.out.fr0 hf10)
          have UX := Lib.hid (TX.out.fr hf10 (by simp))
          have UF := Lib.hid (TF.out.trans0 hf10)
          clear hf10 TA TW TS TX TF
          go_wp2_with (first | (refine wpList_store_cap rfl (.tmp 138) (.tmp 136) rfl FB 40 c3 rfl rfl 31 _ UA.out 5 rfl (by rw [List.length_set, List.length_set, KL.out]; omega) ?_; intro w11 hA11 hF11; rw [HF1.out] at hA11) | (refine wpList_load_all rfl 31 (.tmp 10) rfl FB rfl 31 (cat f1).toArray _ hA11 Try.underlying31 rfl (frInfo HF1L.out) ?_))
          have VW := Lib.hid (UW.out.fr hF11 (by simp <;> omega))
          have VS := Lib.hid (US.out.fr hF11 (by simp <;> omega) (fun g hg => by simpa using own_ne US.out.2 UA.out (by decide) g hg))
          have VX := Lib.hid (UX.out.fr hF11 (by simp <;> omega))
          have VF := Lib.hid (UF.out.trans hF11 (by simp <;> omega))
          have VA := Lib.hid hA11
          clear hF11 hA11 UA UW US UX UF
          have e10 : f1[10]? = some c1 := by rw [← HF1.out, List.getElem?_set_ne (by omega), List.getElem?_set_ne (by omega), List.getElem?_set_self (by rw [KL.out]; omega)]
          have e11 : f1[11]? = some c2 := by rw [← HF1.out, List.getElem?_set_ne (by omega), List.getElem?_set_self (by rw [List.length_set, KL.out]; omega)]
          have CC : Calls Try.prog 15 #[.pointer (some ⟨sp, 0, none⟩), .agg (cat f1).toArray] w11 fun r w' => ∃ v', r = .returned (.tuple #[.agg (cat (hF f1 pc x y)).toArray, .int .i64 0]) ∧ St w' sp v' (SL.take (3 * d)) ∧ Fr [sp] w11 w' ∧ v'.ownBlock = v.ownBlock := sret_ok w11 sp v SL VS.out d KSL.out (by omega) pc x y S0.out S1.out S2.out f1 HF1L.out
          have HSL2 := Lib.hid (show (SL.take (3 * d)).length = 3 * d by rw [List.length_take, KSL.out]; omega)
          obtain ⟨SL2, hSL2⟩ : ∃ l, SL.take (3 * d) = l := ⟨_, rfl⟩
          obtain ⟨H, hH⟩ : ∃ l, hF f1 pc x y = l := ⟨_, rfl⟩
          have hHL : H.length = 17 := by rw [← hH]; exact hF_len _ _ _ _
          have h16 : H[16]? = some pc := by rw [← hH, hF_at _ _ _ _ 16 (by omega)]; rfl
          have h14 : H[14]? = some x := by rw [← hH, hF_at _ _ _ _ 14 (by omega)]; rfl
          have h15 : H[15]? = some y := by rw [← hH, hF_at _ _ _ _ 15 (by omega)]; rfl
          have h10 : H[10]? = some c1 := by rw [← hH, hF_at _ _ _ _ 10 (by omega)]; simp [List.getD_eq_getElem?_getD, e10]
          have h11 : H[11]? = some c2 := by rw [← hH, hF_at _ _ _ _ 11 (by omega)]; simp [List.getD_eq_getElem?_getD, e11]
          have h5 : H[5]? = some c0 := by rw [← hH, hF_at _ _ _ _ 5 (by omega), ← HC0.out, numC_zero]; rfl
          rw [hSL2] at CC HSL2 HB2
          rw [hH] at CC
          have HHL := Lib.hid hHL
          have H16 := Lib.hid h16
          have H14 := Lib.hid h14
          have H15 := Lib.hid h15
          have H10 := Lib.hid h10
          have H11 := Lib.hid h11
          have H5 := Lib.hid h5
          have E10 := Lib.hid e10
          have E11 := Lib.hid e11
          clear hSL2 hH hHL h16 h14 h15 h10 h11 h5 e10 e11 CN1 CN2 CN3 KR KSL HF1 HC0 S0 S1 S2 hwv hw32
          refine CC.mono ?_
          rintro e w12 ⟨v', rfl, hs12, hf12, hvv⟩
          have XA := Lib.hid (VA.out.fr hf12 (by simp <;> omega))
          have XW := Lib.hid (VW.out.fr hf12 (by simp <;> omega))
          have XX := Lib.hid (VX.out.fr hf12 (by simp <;> omega))
          have XS := Lib.hid hs12
          have XF := Lib.hid (VF.out.trans hf12 (by simp <;> omega))
          have hFBx := XA.out.lt
          clear hs12 hf12 hvv VA VW VX VS VF CC
          go_wp2_with (refine wpList_store_all rfl 31 (.tmp 18) (.tmp 143) rfl _ (cat H).toArray rfl rfl 31 Z (At.newq (by first | rfl | simp only [World.size_alloc])) (frInfo HHL.out) (show Z.size = _ by rw [← HZ.out, cat_size zf_len, cat_size HHL.out]) (cat_all _) ?_; intro w13 hA13 hF13)
          have hga : Fr [] w12 (w12.alloc (.cells Z 31)) := (by repeat (first | exact Fr.refl _ _ | assumption | refine Fr.trans0 ?_ (by assumption) | refine Fr.drewN ?_ _ | refine Fr.alloc ?_ _ | refine Fr.drew ?_))
          have hown : ∀ g, v'.ownBlock = some g → g ∉ [w12.heap.size] := fun g hg => by have := (XS.out.2.lt g hg).2; simp <;> omega
          have hsl := XS.out.1.lt
          have YS := Lib.hid ((XS.out.fr0 hga).fr hF13 (by simp <;> omega) hown)
          have YA := Lib.hid ((XA.out.fr hga (by simp)).fr hF13 (by simp <;> omega))
          have YW := Lib.hid ((XW.out.fr hga (by simp)).fr hF13 (by simp <;> omega))
          have YX := Lib.hid ((XX.out.fr hga (by simp)).fr hF13 (by simp <;> omega))
          have YF := Lib.hid ((XF.out.trans0 hga).trans hF13 (by have := XF.out.size; simp <;> omega))
          have YG := Lib.hid hA13
          have hsz12 := XF.out.size
          obtain ⟨GB, hGB⟩ : ∃ q, w12.heap.size = q := ⟨_, rfl⟩
          rw [hGB] at YG hFBx hsz12 hsl ⊢
          clear hga hown hA13 hF13 hGB XS XA XW XX XF
          refine wp_region_L (fun W => At W GB 31 (cat H).toArray ∧ At W WB 40 (cat BL).toArray ∧ At W FB 31 (cat f1).toArray) [] (by kernel_rfl) ⟨YG.out, YW.out, YA.out⟩ (fun hHeld => ?_)
          refine wpAnyL_take (i := 0) (v := ?_) rfl (by kernel_rfl) (fun _ _ _ h => h) (Or.inl ⟨by rfl, ?_⟩) (by assumption) ?_; rotate_left; (focus (intro w hSw; skip; go_simp; (try with_reducible rfl))); (try (refine wpAnyL_norm (by simp only [Act.put, List.setIfInBounds_toArray, List.set_cons_zero, List.set_cons_succ]; rfl) ?_))
          refine wpAnyL_take (i := 1) (v := ?_) rfl (by kernel_rfl) (fun _ _ _ h => h) (Or.inl ⟨by rfl, ?_⟩) (by assumption) ?_; rotate_left; (focus (intro w hSw; skip; go_simp; (try with_reducible rfl))); (try (refine wpAnyL_norm (by simp only [Act.put, List.setIfInBounds_toArray, List.set_cons_zero, List.set_cons_succ]; rfl) ?_))
          refine wpAnyL_take (i := 2) (v := ?_) rfl (by kernel_rfl) (fun _ _ _ h => h) (Or.inl ⟨by rfl, ?_⟩) (by assumption) ?_; rotate_left; (focus (intro w hSw; skip; go_simp; (try with_reducible rfl))); (try (refine wpAnyL_norm (by simp only [Act.put, List.setIfInBounds_toArray, List.set_cons_zero, List.set_cons_succ]; rfl) ?_))
          refine wpAnyL_take (i := 3) (v := ?_) rfl (by kernel_rfl) (fun _ _ _ h => h) (Or.inl ⟨by rfl, ?_⟩) (by assumption) ?_; rotate_left; (focus (intro w hSw; skip; go_simp; (try with_reducible rfl))); (try (refine wpAnyL_norm (by simp only [Act.put, List.setIfInBounds_toArray, List.set_cons_zero, List.set_cons_succ]; rfl) ?_))
          refine wpAnyL_take (i := 4) (v := ?_) rfl (by kernel_rfl) (fun _ _ _ h => h) (Or.inl ⟨by rfl, ?_⟩) (by assumption) ?_; rotate_left; (focus (intro w hSw; skip; go_simp; (try with_reducible rfl))); (try (refine wpAnyL_norm (by simp only [Act.put, List.setIfInBounds_toArray, List.set_cons_zero, List.set_cons_succ]; rfl) ?_))
          refine wpAnyL_take (i := 5) (v := ?_) rfl (by kernel_rfl) (fun _ _ _ h => h) (Or.inl ⟨by rfl, ?_⟩) (by assumption) ?_; rotate_left; (focus (intro w hSw; (have hcl := (cat_cell hSw.1 16 pc H16.out).1; rw [HPC.out] at hcl; simp only [Nat.reduceMul] at hcl); go_simp; (try with_reducible rfl))); (try (refine wpAnyL_norm (by simp only [Act.put, List.setIfInBounds_toArray, List.set_cons_zero, List.set_cons_succ]; rfl) ?_))
          refine wpAnyL_take (i := 6) (v := ?_) rfl (by kernel_rfl) (fun _ _ _ h => h) (Or.inl ⟨by rfl, ?_⟩) (by assumption) ?_; rotate_left; (focus (intro w hSw; skip; go_simp; (try with_reducible rfl))); (try (refine wpAnyL_norm (by simp only [Act.put, List.setIfInBounds_toArray, List.set_cons_zero, List.set_cons_succ]; rfl) ?_))
          refine wpAnyL_take (i := 7) (v := ?_) rfl (by kernel_rfl) (fun _ _ _ h => h) (Or.inl ⟨by rfl, ?_⟩) (by assumption) ?_; rotate_left; (focus (intro w hSw; skip; go_simp; (try with_reducible rfl))); (try (refine wpAnyL_norm (by simp only [Act.put, List.setIfInBounds_toArray, List.set_cons_zero, List.set_cons_succ]; rfl) ?_))
          refine wpAnyL_take (i := 8) (v := ?_) rfl (by kernel_rfl) (fun _ _ _ h => h) (Or.inl ⟨by rfl, ?_⟩) (by assumption) ?_; rotate_left; (focus (intro w hSw; skip; go_simp; (try with_reducible rfl))); (try (refine wpAnyL_norm (by simp only [Act.put, List.setIfInBounds_toArray, List.set_cons_zero, List.set_cons_succ]; rfl) ?_))
          refine wpAnyL_take (i := 9) (v := ?_) rfl (by kernel_rfl) (fun _ _ _ h => h) (Or.inl ⟨by rfl, ?_⟩) (by assumption) ?_; rotate_left; (focus (intro w hSw; skip; go_simp; (try with_reducible rfl))); (try (refine wpAnyL_norm (by simp only [Act.put, List.setIfInBounds_toArray, List.set_cons_zero, List.set_cons_succ]; rfl) ?_))
          refine wpAnyL_take (i := 10) (v := ?_) rfl (by kernel_rfl) (fun _ _ _ h => h) (Or.inl ⟨by rfl, ?_⟩) (by assumption) ?_; rotate_left; (focus (intro w hSw; (have hcl := (cat_cell hSw.2.1 (d * 17 + 16) p B16.out).1; rw [show (d * 17 + 16) * 8 = d * 136 + 128 by omega] at hcl); go_simp; (try with_reducible rfl))); (try (refine wpAnyL_norm (by simp only [Act.put, List.setIfInBounds_toArray, List.set_cons_zero, List.set_cons_succ]; rfl) ?_))
          refine wpAnyL_take (i := 11) (v := ?_) rfl (by kernel_rfl) (fun _ _ _ h => h) (Or.inl ⟨by rfl, ?_⟩) (by assumption) ?_; rotate_left; (focus (intro w hSw; skip; go_simp; (try with_reducible rfl))); (try (refine wpAnyL_norm (by simp only [Act.put, List.setIfInBounds_toArray, List.set_cons_zero, List.set_cons_succ]; rfl) ?_))
          refine wpAnyL_take (i := 12) (v := ?_) rfl (by kernel_rfl) (fun _ _ _ h => h) (Or.inl ⟨by rfl, ?_⟩) (by assumption) ?_; rotate_left; (focus (intro w hSw; skip; go_simp; (try with_reducible rfl))); (try (refine wpAnyL_norm (by simp only [Act.put, List.setIfInBounds_toArray, List.set_cons_zero, List.set_cons_succ]; rfl) ?_))
          refine wpAnyL_take (i := 13) (v := ?_) rfl (by kernel_rfl) (fun _ _ _ h => h) (Or.inl ⟨by rfl, ?_⟩) (by assumption) ?_; rotate_left; (focus (intro w hSw; skip; go_simp; (try with_reducible rfl))); (try (refine wpAnyL_norm (by simp only [Act.put, List.setIfInBounds_toArray, List.set_cons_zero, List.set_cons_succ]; rfl) ?_))
          refine wpAnyL_take (i := 14) (v := ?_) rfl (by kernel_rfl) (fun _ _ _ h => h) (Or.inl ⟨by rfl, ?_⟩) (by assumption) ?_; rotate_left; (focus (intro w hSw; skip; go_simp; (try with_reducible rfl))); (try (refine wpAnyL_norm (by simp only [Act.put, List.setIfInBounds_toArray, List.set_cons_zero, List.set_cons_succ]; rfl) ?_))
          refine wpAnyL_take (i := 15) (v := ?_) rfl (by kernel_rfl) (fun _ _ _ h => h) (Or.inl ⟨by rfl, ?_⟩) (by assumption) ?_; rotate_left; (focus (intro w hSw; skip; go_simp; (try with_reducible rfl))); (try (refine wpAnyL_norm (by simp only [Act.put, List.setIfInBounds_toArray, List.set_cons_zero, List.set_cons_succ]; rfl) ?_))
          refine wpAnyL_take (i := 16) (v := ?_) rfl (by kernel_rfl) (fun _ _ _ h => h) (Or.inl ⟨by rfl, ?_⟩) (by assumption) ?_; rotate_left; (focus (intro w hSw; skip; go_simp; (try with_reducible rfl))); (try (refine wpAnyL_norm (by simp only [Act.put, List.setIfInBounds_toArray, List.set_cons_zero, List.set_cons_succ]; rfl) ?_))
          refine wpAnyL_take (i := 17) rfl (by kernel_rfl) (fun _ _ _ h => h) (yields_load_cap (.tmp 161) rfl GB 112 rfl 31 H (fun W h => h.1) 14 rfl x H14.out rfl) (by assumption) ?_; (try (refine wpAnyL_norm (by simp only [Act.put, List.setIfInBounds_toArray, List.set_cons_zero, List.set_cons_succ]; rfl) ?_))
          refine wpAnyL_take (i := 18) (v := ?_) rfl (by kernel_rfl) (fun _ _ _ h => h) (Or.inl ⟨by rfl, ?_⟩) (by assumption) ?_; rotate_left; (focus (intro w hSw; skip; go_simp; (try with_reducible rfl))); (try (refine wpAnyL_norm (by simp only [Act.put, List.setIfInBounds_toArray, List.set_cons_zero, List.set_cons_succ]; rfl) ?_))
          refine wpAnyL_take (i := 19) (v := ?_) rfl (by kernel_rfl) (fun _ _ _ h => h) (Or.inl ⟨by rfl, ?_⟩) (by assumption) ?_; rotate_left; (focus (intro w hSw; skip; go_simp; (try with_reducible rfl))); (try (refine wpAnyL_norm (by simp only [Act.put, List.setIfInBounds_toArray, List.set_cons_zero, List.set_cons_succ]; rfl) ?_))
          refine wpAnyL_take (i := 20) (v := ?_) rfl (by kernel_rfl) (fun _ _ _ h => h) (Or.inl ⟨by rfl, ?_⟩) (by assumption) ?_; rotate_left; (focus (intro w hSw; skip; go_simp; (try with_reducible rfl))); (try (refine wpAnyL_norm (by simp only [Act.put, List.setIfInBounds_toArray, List.set_cons_zero, List.set_cons_succ]; rfl) ?_))
          refine wpAnyL_take (i := 21) (v := ?_) rfl (by kernel_rfl) (fun _ _ _ h => h) (Or.inl ⟨by rfl, ?_⟩) (by assumption) ?_; rotate_left; (focus (intro w hSw; skip; go_simp; (try with_reducible rfl))); (try (refine wpAnyL_norm (by simp only [Act.put, List.setIfInBounds_toArray, List.set_cons_zero, List.set_cons_succ]; rfl) ?_))
          refine wpAnyL_take (i := 22) rfl (by kernel_rfl) (fun _ _ _ h => h) (yields_load_cap (.tmp 166) rfl WB (d * 136 + 112) rfl 40 BL (fun W h => h.2.1) (d * 17 + 14) (by omega) x B14.out rfl) (by assumption) ?_; (try (refine wpAnyL_norm (by simp only [Act.put, List.setIfInBounds_toArray, List.set_cons_zero, List.set_cons_succ]; rfl) ?_))
          refine wpAnyL_take (i := 23) (v := ?_) rfl (by kernel_rfl) (fun _ _ _ h => h) (Or.inl ⟨by rfl, ?_⟩) (by assumption) ?_; rotate_left; (focus (intro w hSw; skip; go_simp; (try with_reducible rfl))); (try (refine wpAnyL_norm (by simp only [Act.put, List.setIfInBounds_toArray, List.set_cons_zero, List.set_cons_succ]; rfl) ?_))
          refine wpAnyL_take (i := 24) (v := ?_) rfl (by kernel_rfl) (fun _ _ _ h => h) (Or.inl ⟨by rfl, ?_⟩) (by assumption) ?_; rotate_left; (focus (intro w hSw; skip; go_simp; (try with_reducible rfl))); (try (refine wpAnyL_norm (by simp only [Act.put, List.setIfInBounds_toArray, List.set_cons_zero, List.set_cons_succ]; rfl) ?_))
          refine wpAnyL_take (i := 25) (v := ?_) rfl (by kernel_rfl) (fun _ _ _ h => h) (Or.inl ⟨by rfl, ?_⟩) (by assumption) ?_; rotate_left; (focus (intro w hSw; skip; go_simp; (try with_reducible rfl))); (try (refine wpAnyL_norm (by simp only [Act.put, List.setIfInBounds_toArray, List.set_cons_zero, List.set_cons_succ]; rfl) ?_))
          refine wpAnyL_take (i := 26) (v := ?_) rfl (by kernel_rfl) (fun _ _ _ h => h) (Or.inl ⟨by rfl, ?_⟩) (by assumption) ?_; rotate_left; (focus (intro w hSw; skip; go_simp; (try with_reducible rfl))); (try (refine wpAnyL_norm (by simp only [Act.put, List.setIfInBounds_toArray, List.set_cons_zero, List.set_cons_succ]; rfl) ?_))
          refine wpAnyL_take (i := 27) (v := ?_) rfl (by kernel_rfl) (fun _ _ _ h => h) (Or.inl ⟨by rfl, ?_⟩) (by assumption) ?_; rotate_left; (focus (intro w hSw; skip; go_simp; (try with_reducible rfl))); (try (refine wpAnyL_norm (by simp only [Act.put, List.setIfInBounds_toArray, List.set_cons_zero, List.set_cons_succ]; rfl) ?_))
          refine wpAnyL_take (i := 28) rfl (by kernel_rfl) (fun _ _ _ h => h) (yields_load_cap (.tmp 172) rfl GB 120 rfl 31 H (fun W h => h.1) 15 rfl y H15.out rfl) (by assumption) ?_; (try (refine wpAnyL_norm (by simp only [Act.put, List.setIfInBounds_toArray, List.set_cons_zero, List.set_cons_succ]; rfl) ?_))
          refine wpAnyL_take (i := 29) (v := ?_) rfl (by kernel_rfl) (fun _ _ _ h => h) (Or.inl ⟨by rfl, ?_⟩) (by assumption) ?_; rotate_left; (focus (intro w hSw; skip; go_simp; (try with_reducible rfl))); (try (refine wpAnyL_norm (by simp only [Act.put, List.setIfInBounds_toArray, List.set_cons_zero, List.set_cons_succ]; rfl) ?_))
          refine wpAnyL_take (i := 30) (v := ?_) rfl (by kernel_rfl) (fun _ _ _ h => h) (Or.inl ⟨by rfl, ?_⟩) (by assumption) ?_; rotate_left; (focus (intro w hSw; skip; go_simp; (try with_reducible rfl))); (try (refine wpAnyL_norm (by simp only [Act.put, List.setIfInBounds_toArray, List.set_cons_zero, List.set_cons_succ]; rfl) ?_))
          refine wpAnyL_take (i := 31) (v := ?_) rfl (by kernel_rfl) (fun _ _ _ h => h) (Or.inl ⟨by rfl, ?_⟩) (by assumption) ?_; rotate_left; (focus (intro w hSw; skip; go_simp; (try with_reducible rfl))); (try (refine wpAnyL_norm (by simp only [Act.put, List.setIfInBounds_toArray, List.set_cons_zero, List.set_cons_succ]; rfl) ?_))
          refine wpAnyL_take (i := 32) (v := ?_) rfl (by kernel_rfl) (fun _ _ _ h => h) (Or.inl ⟨by rfl, ?_⟩) (by assumption) ?_; rotate_left; (focus (intro w hSw; skip; go_simp; (try with_reducible rfl))); (try (refine wpAnyL_norm (by simp only [Act.put, List.setIfInBounds_toArray, List.set_cons_zero, List.set_cons_succ]; rfl) ?_))
          refine wpAnyL_take (i := 33) rfl (by kernel_rfl) (fun _ _ _ h => h) (yields_load_cap (.tmp 177) rfl WB (d * 136 + 120) rfl 40 BL (fun W h => h.2.1) (d * 17 + 15) (by omega) y B15.out rfl) (by assumption) ?_; (try (refine wpAnyL_norm (by simp only [Act.put, List.setIfInBounds_toArray, List.set_cons_zero, List.set_cons_succ]; rfl) ?_))
          refine wpAnyL_take (i := 34) (v := ?_) rfl (by kernel_rfl) (fun _ _ _ h => h) (Or.inl ⟨by rfl, ?_⟩) (by assumption) ?_; rotate_left; (focus (intro w hSw; skip; go_simp; (try with_reducible rfl))); (try (refine wpAnyL_norm (by simp only [Act.put, List.setIfInBounds_toArray, List.set_cons_zero, List.set_cons_succ]; rfl) ?_))
          refine wpAnyL_take (i := 35) (v := ?_) rfl (by kernel_rfl) (fun _ _ _ h => h) (Or.inl ⟨by rfl, ?_⟩) (by assumption) ?_; rotate_left; (focus (intro w hSw; skip; go_simp; (try with_reducible rfl))); (try (refine wpAnyL_norm (by simp only [Act.put, List.setIfInBounds_toArray, List.set_cons_zero, List.set_cons_succ]; rfl) ?_))
          refine wpAnyL_take (i := 36) (v := ?_) rfl (by kernel_rfl) (fun _ _ _ h => h) (Or.inl ⟨by rfl, ?_⟩) (by assumption) ?_; rotate_left; (focus (intro w hSw; skip; go_simp; (try with_reducible rfl))); (try (refine wpAnyL_norm (by simp only [Act.put, List.setIfInBounds_toArray, List.set_cons_zero, List.set_cons_succ]; rfl) ?_))
          refine wpAnyL_take (i := 37) (v := ?_) rfl (by kernel_rfl) (fun _ _ _ h => h) (Or.inl ⟨by rfl, ?_⟩) (by assumption) ?_; rotate_left; (focus (intro w hSw; skip; go_simp; (try with_reducible rfl))); (try (refine wpAnyL_norm (by simp only [Act.put, List.setIfInBounds_toArray, List.set_cons_zero, List.set_cons_succ]; rfl) ?_))
          refine wpAnyL_take (i := 38) (v := ?_) rfl (by kernel_rfl) (fun _ _ _ h => h) (Or.inl ⟨by rfl, ?_⟩) (by assumption) ?_; rotate_left; (focus (intro w hSw; skip; go_simp; (try with_reducible rfl))); (try (refine wpAnyL_norm (by simp only [Act.put, List.setIfInBounds_toArray, List.set_cons_zero, List.set_cons_succ]; rfl) ?_))
          refine wpAnyL_take (i := 39) rfl (by kernel_rfl) (fun _ _ _ h => h) (yields_load_cap (.tmp 183) rfl GB 80 rfl 31 H (fun W h => h.1) 10 rfl c1 H10.out rfl) (by assumption) ?_; (try (refine wpAnyL_norm (by simp only [Act.put, List.setIfInBounds_toArray, List.set_cons_zero, List.set_cons_succ]; rfl) ?_))
          refine wpAnyL_take (i := 40) (v := ?_) rfl (by kernel_rfl) (fun _ _ _ h => h) (Or.inl ⟨by rfl, ?_⟩) (by assumption) ?_; rotate_left; (focus (intro w hSw; skip; go_simp; (try with_reducible rfl))); (try (refine wpAnyL_norm (by simp only [Act.put, List.setIfInBounds_toArray, List.set_cons_zero, List.set_cons_succ]; rfl) ?_))
          refine wpAnyL_take (i := 41) (v := ?_) rfl (by kernel_rfl) (fun _ _ _ h => h) (Or.inl ⟨by rfl, ?_⟩) (by assumption) ?_; rotate_left; (focus (intro w hSw; skip; go_simp; (try with_reducible rfl))); (try (refine wpAnyL_norm (by simp only [Act.put, List.setIfInBounds_toArray, List.set_cons_zero, List.set_cons_succ]; rfl) ?_))
          refine wpAnyL_take (i := 42) rfl (by kernel_rfl) (fun _ _ _ h => h) (yields_load_cap (.tmp 186) rfl FB 80 rfl 31 f1 (fun W h => h.2.2) 10 rfl c1 E10.out rfl) (by assumption) ?_; (try (refine wpAnyL_norm (by simp only [Act.put, List.setIfInBounds_toArray, List.set_cons_zero, List.set_cons_succ]; rfl) ?_))
          refine wpAnyL_take (i := 43) (v := ?_) rfl (by kernel_rfl) (fun _ _ _ h => h) (Or.inl ⟨by rfl, ?_⟩) (by assumption) ?_; rotate_left; (focus (intro w hSw; skip; go_simp; (try with_reducible rfl))); (try (refine wpAnyL_norm (by simp only [Act.put, List.setIfInBounds_toArray, List.set_cons_zero, List.set_cons_succ]; rfl) ?_))
          refine wpAnyL_take (i := 44) (v := ?_) rfl (by kernel_rfl) (fun _ _ _ h => h) (Or.inl ⟨by rfl, ?_⟩) (by assumption) ?_; rotate_left; (focus (intro w hSw; skip; go_simp; (try with_reducible rfl))); (try (refine wpAnyL_norm (by simp only [Act.put, List.setIfInBounds_toArray, List.set_cons_zero, List.set_cons_succ]; rfl) ?_))
          refine wpAnyL_take (i := 45) (v := ?_) rfl (by kernel_rfl) (fun _ _ _ h => h) (Or.inl ⟨by rfl, ?_⟩) (by assumption) ?_; rotate_left; (focus (intro w hSw; skip; go_simp; (try with_reducible rfl))); (try (refine wpAnyL_norm (by simp only [Act.put, List.setIfInBounds_toArray, List.set_cons_zero, List.set_cons_succ]; rfl) ?_))
          refine wpAnyL_take (i := 46) (v := ?_) rfl (by kernel_rfl) (fun _ _ _ h => h) (Or.inl ⟨by rfl, ?_⟩) (by assumption) ?_; rotate_left; (focus (intro w hSw; skip; go_simp; (try with_reducible rfl))); (try (refine wpAnyL_norm (by simp only [Act.put, List.setIfInBounds_toArray, List.set_cons_zero, List.set_cons_succ]; rfl) ?_))
          refine wpAnyL_take (i := 47) (v := ?_) rfl (by kernel_rfl) (fun _ _ _ h => h) (Or.inl ⟨by rfl, ?_⟩) (by assumption) ?_; rotate_left; (focus (intro w hSw; skip; go_simp; (try with_reducible rfl))); (try (refine wpAnyL_norm (by simp only [Act.put, List.setIfInBounds_toArray, List.set_cons_zero, List.set_cons_succ]; rfl) ?_))
          refine wpAnyL_take (i := 48) rfl (by kernel_rfl) (fun _ _ _ h => h) (yields_load_cap (.tmp 192) rfl GB 88 rfl 31 H (fun W h => h.1) 11 rfl c2 H11.out rfl) (by assumption) ?_; (try (refine wpAnyL_norm (by simp only [Act.put, List.setIfInBounds_toArray, List.set_cons_zero, List.set_cons_succ]; rfl) ?_))
          refine wpAnyL_take (i := 49) (v := ?_) rfl (by kernel_rfl) (fun _ _ _ h => h) (Or.inl ⟨by rfl, ?_⟩) (by assumption) ?_; rotate_left; (focus (intro w hSw; skip; go_simp; (try with_reducible rfl))); (try (refine wpAnyL_norm (by simp only [Act.put, List.setIfInBounds_toArray, List.set_cons_zero, List.set_cons_succ]; rfl) ?_))
          refine wpAnyL_take (i := 50) (v := ?_) rfl (by kernel_rfl) (fun _ _ _ h => h) (Or.inl ⟨by rfl, ?_⟩) (by assumption) ?_; rotate_left; (focus (intro w hSw; skip; go_simp; (try with_reducible rfl))); (try (refine wpAnyL_norm (by simp only [Act.put, List.setIfInBounds_toArray, List.set_cons_zero, List.set_cons_succ]; rfl) ?_))
          refine wpAnyL_take (i := 51) rfl (by kernel_rfl) (fun _ _ _ h => h) (yields_load_cap (.tmp 195) rfl FB 88 rfl 31 f1 (fun W h => h.2.2) 11 rfl c2 E11.out rfl) (by assumption) ?_; (try (refine wpAnyL_norm (by simp only [Act.put, List.setIfInBounds_toArray, List.set_cons_zero, List.set_cons_succ]; rfl) ?_))
          refine wpAnyL_take (i := 52) (v := ?_) rfl (by kernel_rfl) (fun _ _ _ h => h) (Or.inl ⟨by rfl, ?_⟩) (by assumption) ?_; rotate_left; (focus (intro w hSw; skip; go_simp; (try with_reducible rfl))); (try (refine wpAnyL_norm (by simp only [Act.put, List.setIfInBounds_toArray, List.set_cons_zero, List.set_cons_succ]; rfl) ?_))
          refine wpAnyL_take (i := 53) (v := ?_) rfl (by kernel_rfl) (fun _ _ _ h => h) (Or.inl ⟨by rfl, ?_⟩) (by assumption) ?_; rotate_left; (focus (intro w hSw; skip; go_simp; (try with_reducible rfl))); (try (refine wpAnyL_norm (by simp only [Act.put, List.setIfInBounds_toArray, List.set_cons_zero, List.set_cons_succ]; rfl) ?_))
          refine wpAnyL_take (i := 54) (v := ?_) rfl (by kernel_rfl) (fun _ _ _ h => h) (Or.inl ⟨by rfl, ?_⟩) (by assumption) ?_; rotate_left; (focus (intro w hSw; skip; go_simp; (try with_reducible rfl))); (try (refine wpAnyL_norm (by simp only [Act.put, List.setIfInBounds_toArray, List.set_cons_zero, List.set_cons_succ]; rfl) ?_))
          refine wpAnyL_take (i := 55) (v := ?_) rfl (by kernel_rfl) (fun _ _ _ h => h) (Or.inl ⟨by rfl, ?_⟩) (by assumption) ?_; rotate_left; (focus (intro w hSw; skip; go_simp; (try with_reducible rfl))); (try (refine wpAnyL_norm (by simp only [Act.put, List.setIfInBounds_toArray, List.set_cons_zero, List.set_cons_succ]; rfl) ?_))
          refine wpAnyL_take (i := 56) (v := ?_) rfl (by kernel_rfl) (fun _ _ _ h => h) (Or.inl ⟨by rfl, ?_⟩) (by assumption) ?_; rotate_left; (focus (intro w hSw; skip; go_simp; (try with_reducible rfl))); (try (refine wpAnyL_norm (by simp only [Act.put, List.setIfInBounds_toArray, List.set_cons_zero, List.set_cons_succ]; rfl) ?_))
          refine wpAnyL_take (i := 57) rfl (by kernel_rfl) (fun _ _ _ h => h) (yields_load_cap (.tmp 201) rfl GB 40 rfl 31 H (fun W h => h.1) 5 rfl c0 H5.out rfl) (by assumption) ?_; (try (refine wpAnyL_norm (by simp only [Act.put, List.setIfInBounds_toArray, List.set_cons_zero, List.set_cons_succ]; rfl) ?_))
          refine wpAnyL_ready (rs := [58]) (by kernel_rfl) (by simp) ?_; refine AllReadyL.cons rfl (fun K hK => ?_) AllReadyL.nil
          go_simp
          refine (CN0.out _).mono ?_
          rintro e w14 ⟨rfl, hf14⟩
          refine hK.out _ _ (fun _ => ⟨hHeld.1.fr hf14 (by simp), hHeld.2.1.fr hf14 (by simp), hHeld.2.2.fr hf14 (by simp)⟩) (fun hHeld' => ?_); have hHeld := hHeld' (by decide); clear hHeld' hK K; (try (refine wpAnyL_norm (by simp only [Act.put, List.setIfInBounds_toArray, List.set_cons_zero, List.set_cons_succ]; rfl) ?_))
          refine wpAnyL_take (i := 59) (v := ?_) rfl (by kernel_rfl) (fun _ _ _ h => h) (Or.inl ⟨by rfl, ?_⟩) (by assumption) ?_; rotate_left; (focus (intro w hSw; skip; go_simp; (try with_reducible rfl))); (try (refine wpAnyL_norm (by simp only [Act.put, List.setIfInBounds_toArray, List.set_cons_zero, List.set_cons_succ]; rfl) ?_))
          refine wpAnyL_take (i := 60) (v := ?_) rfl (by kernel_rfl) (fun _ _ _ h => h) (Or.inl ⟨by rfl, ?_⟩) (by assumption) ?_; rotate_left; (focus (intro w hSw; skip; go_simp; (try with_reducible rfl))); (try (refine wpAnyL_norm (by simp only [Act.put, List.setIfInBounds_toArray, List.set_cons_zero, List.set_cons_succ]; rfl) ?_))
          refine wpAnyL_done (by kernel_rfl) ?_ _
          have hf14' : Fr [] w13 w14 := hf14.hd rfl rfl rfl rfl
          have ZA' := Lib.hid (YA.out.fr hf14' (by simp))
          have ZW' := Lib.hid (YW.out.fr hf14' (by simp))
          have ZS' := Lib.hid (YS.out.fr0 hf14')
          have ZX' := Lib.hid (YX.out.fr hf14' (by simp))
          have ZG' := Lib.hid (YG.out.fr hf14' (by simp))
          have ZF' := Lib.hid (YF.out.trans0 hf14')
          clear YA YW YS YX YG YF hf14 hf14' hHeld
          go_wp2_with (first | (refine wpList_load_all rfl 31 (.tmp 18) rfl GB rfl 31 (cat H).toArray _ ZG'.out Try.underlying31 rfl (frInfo HHL.out) ?_) | (refine wpList_store_all rfl 31 (.tmp 10) (.tmp 206) rfl FB (cat H).toArray rfl rfl 31 (cat f1).toArray ZA'.out (frInfo HHL.out) (by rw [cat_size HF1L.out, cat_size HHL.out]) (cat_all _) ?_; intro w18 hA18 hF18))
          go_roundw
          case rel =>
            refine ⟨d, H, SL2, v', by omega, by go_num, ⟨HHL.out, HSL2.out, HB2.out⟩, hA18, ZW'.out.fr hF18 (by simp <;> omega), ZS'.out.fr hF18 (by simp <;> omega) (fun g hg => by simpa using own_ne ZS'.out.2 ZA'.out (by decide) g hg), ZX'.out.fr hF18 (by simp <;> omega), ZF'.out.trans hF18 (by simp <;> omega)⟩
          case measure => first | (simp [intOf]; done) | (simp [intOf]; omega)
theorem fits2' {cs : List Value} (h : Fits [.i .u32, .i .u32] cs) : ∃ z0 z1 : Nat, cs = [.int .u32 z0, .int .u32 z1] ∧ z0 < 4294967296 ∧ z1 < 4294967296 := by
  obtain ⟨v0, c1, e0, ⟨z0, rfl, w0⟩, h1⟩ := h.cons
  obtain ⟨v1, c2, e1, ⟨z1, rfl, w1⟩, h2⟩ := h1.cons
  have b0 := bounds_u32 w0
  have b1 := bounds_u32 w1
  obtain ⟨n0, rfl⟩ := Int.eq_ofNat_of_zero_le b0.1
  obtain ⟨n1, rfl⟩ := Int.eq_ofNat_of_zero_le b1.1
  exact ⟨n0, n1, by rw [e0, e1, h2.nil], by omega, by omega⟩
theorem fits3' {cs : List Value} (h : Fits [.i .u32, .i .u32, .i .u32] cs) : ∃ z0 z1 z2 : Nat, cs = [.int .u32 z0, .int .u32 z1, .int .u32 z2] ∧ z0 < 4294967296 ∧ z1 < 4294967296 ∧ z2 < 4294967296 := by
  obtain ⟨v0, c1, e0, ⟨z0, rfl, w0⟩, h1⟩ := h.cons
  obtain ⟨n1, n2, rfl, k1, k2⟩ := fits2' h1
  have b0 := bounds_u32 w0
  obtain ⟨n0, rfl⟩ := Int.eq_ofNat_of_zero_le b0.1
  exact ⟨n0, n1, n2, e0, by omega, k1, k2⟩
theorem walk (a0 : Int) (w0 : (Lit.int .u8 a0).wf = true) (cs1 cs2 : List Value) (w : World) (w1 : Fits [.i .u32, .i .u32] cs1) (w2 : Fits [.i .u32, .i .u32, .i .u32] cs2) :
    Calls Try.prog 4 #[.int .u8 a0, .agg cs1.toArray, .agg cs2.toArray] w fun e w' => e = .returned (.bool true) ∧ Fr [] w w' := by
  have b0 := bounds_u8 w0
  obtain ⟨i, rfl⟩ := Int.eq_ofNat_of_zero_le b0.1
  obtain ⟨p0, p1, rfl, k1, k2⟩ := fits2' w1
  obtain ⟨o0, o1, o2, rfl, k3, k4, k5⟩ := fits3' w2
  exact walk_n i (by omega) p0 p1 o0 o1 o2 k1 k2 k3 k4 k5 w
theorem laidOut : laidOutB Try.prog = true := by kernel_rfl
set_option maxRecDepth 100000 in
theorem lifted (os : Os) (started : os.Started) (H : Type) (enc : TypeId × Value → H) :
    ReturnsInHanded {} Try.checked os 4 .any (Rows.compartBackSpec.pre6 enc Try.prog Try.f4 Rows.compartBackRow.domain false) (Rows.compartBackSpec.post enc Try.prog Try.f4 false true false false) := by
  refine returnsInHanded_of_change (C := Try.checked) own started (by kernel_rfl) Try.func4
    (ChangeSpec.witness6 (enc := enc) (C := Try.checked) false ⟨#[], #[.int .u8 0, .agg #[.int .u32 0, .int .u32 0], .agg #[.int .u32 0, .int .u32 0, .int .u32 0]], []⟩ 8 (by kernel_rfl) (by kernel_rfl) (by kernel_rfl) (by kernel_rfl)) ?_
  intro W base args ds gs before hval0 hW hcnd _
  have hval : ∀ (j : Nat) t v, Try.f4.params[j]? = some t → args[j]? = some v → Value.okWide Try.prog W .any base t v := hval0
  have hW' := hW
  obtain ⟨p, q, hA0, hV, rfl, hfz, hnd⟩ := hW
  have hA : DataW.TrodAll enc Try.prog W 0 (fun _ => true) true Try.f4.params.toList args.toList ds p := hA0
  rw [Try.params4] at hA hval
  obtain ⟨v0, vs0, d0, ds0, p0, q0, hargs, rfl, rfl, h0, r0⟩ := trodAll_cons hA
  obtain ⟨v1, vs1, d1, ds1, p1, q1, rfl, rfl, rfl, h1, r1⟩ := trodAll_cons r0
  obtain ⟨v2, vs2, d2, ds2, p2, q2, rfl, rfl, rfl, h2, r2⟩ := trodAll_cons r1
  obtain ⟨rfl, rfl, rfl⟩ := trodAll_nil r2
  obtain rfl : args = #[v0, v1, v2] := by cases args; simp_all
  obtain ⟨rfl, rfl⟩ := trodVars_none hV
  obtain ⟨a0, rfl, rfl, rfl, w0⟩ := open_int Try.underlying5 (hval 0 5 v0 rfl rfl) h0
  have k1 := h1
  have lt1 : ∀ x ∈ p1, x.block < W.heap.size := by obtain ⟨m, hm⟩ := k1; exact DataW.trod_lt m _ _ _ hm
  obtain ⟨cs1, rfl, w1⟩ := open_flat (n := 20) (by kernel_rfl : flat Try.prog 20 38 = some [.i .u32, .i .u32]) (by kernel_rfl) (hval 1 38 v1 rfl rfl) h1
  have k2 := h2
  have lt2 : ∀ x ∈ p2, x.block < W.heap.size := by obtain ⟨m, hm⟩ := k2; exact DataW.trod_lt m _ _ _ hm
  obtain ⟨cs2, rfl, w2⟩ := open_flat (n := 20) (by kernel_rfl : flat Try.prog 20 39 = some [.i .u32, .i .u32, .i .u32]) (by kernel_rfl) (hval 2 39 v2 rfl rfl) h2
  clear hA0 hval0
  refine (walk a0 w0 cs1 cs2 W w1 w2).mono fun e W' ⟨he, hg⟩ => ?_
  subst he
  have bel := hg.below
  exact ⟨_, rfl, _, _, _, [], _, [], hW', trodAll_mk1 (shut_bool Try.underlying4 _), (trodAll_cons_mk (shut_int Try.underlying5 w0) (trodAll_cons_mk (Below.trod laidOut (by kernel_rfl) (of_decide_eq_true (by kernel_rfl)) k1 bel lt1) (trodAll_cons_mk (Below.trod laidOut (by kernel_rfl) (of_decide_eq_true (by kernel_rfl)) k2 bel lt2) trodAll_mk0))), rfl, bel.frame _, fun h => by cases h⟩
theorem over : Rows.compartBackRow.holds Try.pinned (OpenSpec.ofChange Rows.compartBackSpec) :=
  OpenClaim.holds_of_wide 4 Try.f4 rfl rfl rfl rfl rfl rfl rfl ⟨rfl, rfl, rfl, rfl, rfl⟩ rfl rfl rfl rfl rfl (by kernel_rfl) Try.func4 (by kernel_rfl)
    (of_decide_eq_true (by kernel_rfl)) (by unfold Func.isWrapper; first | (rw [if_pos (by decide +kernel)]; kernel_rfl) | (rw [if_neg (by decide +kernel)]; exact ⟨rfl, rfl⟩))
    (fun os started H enc _ => lifted os started H enc)
/-- The statement, proved. -/
theorem proved : Rows.CompartBackSaid :=
  over
end compartBack
end Go.Proofs.Ytdfefnajhnlpdaa
