/-
  CompartPlays: a trusted stack does what the reference says, step by step. No condition.
-/





import Derived.Test.YtdfefnajhnlpdaaLay
import Derived.Test.YtdfefnajhnlpdaaSame
import Derived.Test.YtdfefnajhnlpdaaSscan
import Derived.Test.YtdfefnajhnlpdaaWorks
import Derived.Test.YtdfefnajhnlpdaaAdd
import Derived.Test.YtdfefnajhnlpdaaFrameEq
import Derived.Deep.CutBlock
import Derived.Deep.DeepCutAuto
set_option linter.unusedVariables false
namespace Go.Proofs.Ytdfefnajhnlpdaa
open Go.ChangeShapes Go.WideShapes Go.ChangeAt Go.RowKit
namespace compartPlays
set_option maxHeartbeats 4000000 in
set_option maxRecDepth 100000 in
theorem walk_n (fr0 : List Cp) (hl0 : fr0.length = 17) (hok : ∀ c ∈ fr0, c.Ok) (a1 : Option Addr) (len1 cap1 : Nat) (w : World) (w1 : Elems w a1 len1 doLeaves) :
    Calls Try.prog 7 #[.agg (cat fr0).toArray, .slice a1 len1 cap1] w fun e w' => e = .returned (.bool true) ∧ Fr [] w w' := by
  obtain ⟨hlen, hrec⟩ := w1
  have Hrec := Lib.hid hrec
  have hz := fun w => zeroFrame w
  have hb := fun w => builtFrame w
  have ZI := Lib.hid (frInfo zf_len)
  have ZA := Lib.hid (cat_all zf)
  obtain ⟨Z, hZ⟩ : ∃ Z, (cat zf).toArray = Z := ⟨_, rfl⟩
  rw [hZ] at hz hb ZI ZA
  have HZ := Lib.hid hZ
  clear hZ
  have hzd := fun w => zeroDo w
  have HZD := Lib.hid (show zDo.size = 51 from by kernel_rfl)
  obtain ⟨ZD, hZD⟩ : ∃ Z, zDo = Z := ⟨_, rfl⟩
  rw [hZD] at hzd HZD
  have A0 := Lib.hid (At.new w 31 (cat fr0).toArray)
  have F0 := Lib.hid (show Fr [] w (w.alloc (.cells (cat fr0).toArray 31)) from (by repeat (first | exact Fr.refl _ _ | assumption | refine Fr.trans0 ?_ (by assumption) | refine Fr.drewN ?_ _ | refine Fr.alloc ?_ _ | refine Fr.drew ?_)))
  have HL0 := Lib.hid hl0
  have HC0 := Lib.hid (show Cur fr0 from fun c hc => (hok c hc).cur)
  obtain ⟨A, hA⟩ : ∃ A, (cat fr0).toArray = A := ⟨_, rfl⟩
  have HA := Lib.hid hA
  rw [hA] at A0 F0 ⊢
  clear hrec hl0 hok hA hZD
  go_enter Try.func7, Try.ntmps7
  go_wp2_with fail
  refine (snew_any _).mono ?_
  rintro e w2 ⟨sp, rfl, hs2, hsp, hf2⟩
  rw [World.size_alloc] at hsp
  have S2 := Lib.hid hs2
  have F2 := Lib.hid (F0.out.trans0 hf2)
  have A2 := Lib.hid (A0.out.fr hf2 (by simp))
  clear hs2 hf2 A0 F0
  go_wp2_with fail
  go_loopw [5, 6, 7] (fun s m i wr => ∃ (k : Nat) (fr l : List Cp) (sp : Nat) (v : Value), k ≤ 40 ∧ i = .int .i64 k ∧ s = .pointer (some ⟨sp, 0, none⟩) ∧ Lay w wr fr l sp v m) (fun _ _ i _ => 40 - (intOf i).toNat)
  case atStart => exact ⟨0, fr0, [], sp, _, by omega, rfl, rfl, HL0.out, HC0.out, ⟨0, rfl, by omega⟩, (fun _ h => by cases h), by rw [HA.out]; exact A2.out, S2.out, World.ownsRow_nil _ _ _ _, by omega, (fun g hg => by simp [Value.ownBlock] at hg), (fun g hg => by simp [Value.ownBlock] at hg), F2.out⟩
  case round =>
    clear S2 F2 A2 HA HL0 HC0 hsp
    obtain ⟨k, fr, l, sp, v, hk, rfl, rfl, hlay⟩ := hrel
    have HLY := Lib.hid hlay
    obtain ⟨ua, uc, rfl, huc⟩ := own_slice hlay.own
    clear hlay
    by_cases hlt : k < len1 ∧ k < 40
    · obtain ⟨hl1, hl2⟩ := hlt
      obtain ⟨b, off, rfl, hb, hcells⟩ := Hrec.out.resolve_left (by omega)
      obtain ⟨cs, hfit, hcs⟩ := hcells k hl1
      obtain ⟨kd, r0, r1, r2, r3, cd, dt, ra, rs, rfl, hcok, wk, wra, wrs⟩ := do_of hfit
      have HCK := Lib.hid hcok
      have HX := Lib.hid fun j v (hv : (doL kd [r0, r1, r2, r3, cd, dt] ra rs)[j]? = some v) => show wr.cell? ((⟨b, off + k * 51, none⟩ : Addr).add j) = some v by
        have hj := (List.getElem?_eq_some_iff.1 hv).1
        rw [doL_len _ _ rfl] at hj
        rw [Go.WideShapes.add_plain, Nat.add_assoc]
        exact (HLY.out.f.cell (a := ⟨b, off + (k * 51 + j), none⟩) hb (by simp)).trans ((hcs j hj).trans hv)
      have HIX := Lib.hid (show (Try.prog.info? 59).map (·.size) = some (doL kd [r0, r1, r2, r3, cd, dt] ra rs).length by rw [infoDo, doL_len _ _ rfl])
      have HIY := Lib.hid (show (Try.prog.info? 59).map (·.size) = some (doL kd [r0, r1, r2, r3, cd, dt] ra rs).toArray.size by rw [infoDo, List.size_toArray, doL_len _ _ rfl])
      have HZS := Lib.hid (show ZD.size = (doL kd [r0, r1, r2, r3, cd, dt] ra rs).toArray.size by rw [HZD.out, List.size_toArray, doL_len _ _ rfl])
      obtain ⟨X, hXX⟩ : ∃ X, doL kd [r0, r1, r2, r3, cd, dt] ra rs = X := ⟨_, rfl⟩
      have HXX := Lib.hid hXX
      rw [hXX] at HX HIX HIY HZS
      have HXO := Lib.hid (show X.toArray.all (·.oneCell') = true by rw [← hXX]; exact doL_one _ _ _ _)
      have bkd := bounds_i64 wk
      obtain ⟨bra, bra2⟩ := bounds_u32 wra
      obtain ⟨brs, brs2⟩ := bounds_u32 wrs
      have hk1 : (k : Int) < (len1 : Int) := by omega
      have hk2 : (k : Int) < 40 := by omega
      clear hcells hcs hfit hcok wk wra wrs hXX
      go_upto_region 7 with (first | (refine wpList_load_at rfl 59 (.tmp 31) rfl ⟨b, off + k * 51, none⟩ rfl X _ HX.out Try.underlying59 rfl HIX.out ?_) | (refine wpList_store_all rfl 59 (.tmp 8) (.tmp 32) rfl _ X.toArray rfl rfl 59 ZD (At.newq rfl) HIY.out HZS.out HXO.out ?_; intro w3 hA3 hF3))
      have f3 : Fr [wr.heap.size] wr w3 := ((Fr.refl [] wr).alloc (.cells ZD 59)).more (T := [wr.heap.size]) (by simp) |>.trans hF3 (by simp)
      have hq0 := HLY.out.f.size
      have hq1 := HLY.out.fr.lt
      have L3 := Lib.hid (HLY.out.step f3 (by simp))
      obtain ⟨q8, hq8⟩ : ∃ q, wr.heap.size = q := ⟨_, rfl⟩
      rw [hq8] at hA3 f3 hq1
      have HQ8 := Lib.hid hq8
      have D3 := Lib.hid hA3
      clear hA3 hF3 f3 hq8 HX HIX HIY HZS HXO
      have dc : ∀ (W : World), At W q8 59 X.toArray → ∀ (i : Nat) (c : Cp), [r0, r1, r2, r3, cd, dt][i]? = some c → ∀ o, o = 1 + i * 8 → ∀ j v, c.l[j]? = some v → W.cell? ((⟨q8, o, none⟩ : Addr).add j) = some v := fun W h i c hi o ho => do_cap (by rw [HXX.out]; exact h) i c hi o ho
      have DC := Lib.hid dc
      have HFL := Lib.hid HLY.out.len
      have hne8 : q8 ∉ [w.heap.size] := by simp; omega
      rw [HQ8.out]
      clear dc
      go_upto_region 8 with (first | (refine wpList_load_at rfl 25 (.tmp 34) rfl ⟨q8, 1, none⟩ rfl r0.l _ (DC.out _ D3.out 0 r0 rfl 1 rfl) Try.underlying25 rfl infoCapS ?_) | (refine wpList_store_cap rfl (.tmp 37) (.tmp 35) rfl w.heap.size 80 r0 rfl rfl 31 fr L3.out.fr 10 rfl (by rw [HFL.out]; omega) ?_; intro w4 hA4 hF4))
      go_upto_region 9 with (first | (refine wpList_load_at rfl 25 (.tmp 39) rfl ⟨q8, 9, none⟩ rfl r1.l _ (DC.out _ (D3.out.fr hF4 hne8) 1 r1 rfl 9 rfl) Try.underlying25 rfl infoCapS ?_) | (refine wpList_store_cap rfl (.tmp 42) (.tmp 40) rfl w.heap.size 112 r1 rfl rfl 31 _ hA4 14 rfl (by rw [List.length_set, HFL.out]; omega) ?_; intro w5 hA5 hF5))
      go_upto_region 10 with (first | (refine wpList_load_at rfl 25 (.tmp 44) rfl ⟨q8, 17, none⟩ rfl r2.l _ (DC.out _ ((D3.out.fr hF4 hne8).fr hF5 hne8) 2 r2 rfl 17 rfl) Try.underlying25 rfl infoCapS ?_) | (refine wpList_store_cap rfl (.tmp 47) (.tmp 45) rfl w.heap.size 120 r2 rfl rfl 31 _ hA5 15 rfl (by rw [List.length_set, List.length_set, HFL.out]; omega) ?_; intro w6 hA6 hF6))
      go_upto_region 11 with (first | (refine wpList_load_at rfl 25 (.tmp 49) rfl ⟨q8, 25, none⟩ rfl r3.l _ (DC.out _ (((D3.out.fr hF4 hne8).fr hF5 hne8).fr hF6 hne8) 3 r3 rfl 25 rfl) Try.underlying25 rfl infoCapS ?_) | (refine wpList_store_cap rfl (.tmp 51) (.tmp 50) rfl w.heap.size 128 r3 rfl rfl 31 _ hA6 16 rfl (by rw [List.length_set, List.length_set, List.length_set, HFL.out]; omega) ?_; intro w7 hA7 hF7))
      have f7 : Fr [w.heap.size] w3 w7 := ((hF4.trans hF5 (fun k hk => .inl hk)).trans hF6 (fun k hk => .inl hk)).trans hF7 (fun k hk => .inl hk)
      obtain ⟨fr', hfr'⟩ : ∃ f, (((fr.set 10 r0).set 14 r1).set 15 r2).set 16 r3 = f := ⟨_, rfl⟩
      have L7 := Lib.hid (L3.out.put f7 hA7 (by rw [List.length_set, List.length_set, List.length_set, List.length_set, HFL.out]) ((((L3.out.cur.set (HCK.out r0 (by simp)).cur 10).set (HCK.out r1 (by simp)).cur 14).set (HCK.out r2 (by simp)).cur 15).set (HCK.out r3 (by simp)).cur 16))
      rw [hfr'] at L7
      have D7 := Lib.hid (D3.out.fr f7 hne8)
      clear hA4 hA5 hA6 hA7 hF4 hF5 hF6 hF7 f7 hfr' L3 D3 HFL HLY
      obtain ⟨q9, hq9⟩ : ∃ q, w7.heap.size = q := ⟨_, rfl⟩
      go_upto_region 12 with (fail)
      obtain ⟨w8, hw8⟩ : ∃ W, (w7.alloc (.cells Z 31)).alloc (.cells Z 31) = W := ⟨_, rfl⟩
      have f8 : Fr [] w7 w8 := by rw [← hw8]; exact (by repeat (first | exact Fr.refl _ _ | assumption | refine Fr.trans0 ?_ (by assumption) | refine Fr.drewN ?_ _ | refine Fr.alloc ?_ _ | refine Fr.drew ?_))
      have L8 := Lib.hid (L7.out.step f8 (by simp))
      have D8 := Lib.hid (D7.out.fr f8 (by simp))
      have P9 := Lib.hid (show At w8 q9 31 Z by rw [← hw8, ← hq9]; exact (At.new _ _ _).old _)
      have P10 := Lib.hid (show At w8 (q9 + 1) 31 Z by rw [← hw8, ← hq9]; exact At.newq (by simp only [World.size_alloc]))
      have hq79 : q8 < q9 ∧ w.heap.size < q9 := by have := D7.out.lt; have := L7.out.fr.lt; omega
      obtain ⟨hq89, hqw9⟩ := hq79
      rw [hw8]
      clear hw8 hq9 f8 L7 D7
      obtain ⟨rr, hrr⟩ : ∃ r, kd.tmod 4 = r := ⟨_, rfl⟩
      have hrb : -4 < rr ∧ rr < 4 := by rw [← hrr]; exact tmod4 kd
      obtain ⟨hrb1, hrb2⟩ := hrb
      obtain ⟨M, hM⟩ : ∃ M, (rr + 4) % 4 = M := ⟨_, rfl⟩
      have hMb : M = 0 ∨ M = 1 ∨ M = 2 ∨ M = 3 := by omega
      have HMb := Lib.hid hMb
      have kc : w8.cell? ⟨q8, 0, none⟩ = some (.int .i64 kd) := by rw [D8.out.cell, ← HXX.out]; rfl
      clear hMb
      go_upto_block 2 with (fail)
      rw [hM]
      have HM := Lib.hid hM
      clear hM
      go_cut [5, 6, 11, 12] from 57 to 120 (fun s5 s6 s11 s12 wx => ∃ (sp' : Nat) (v' : Value) (l' G : List Cp) (T : Int), s5 = .pointer (some ⟨sp', 0, none⟩) ∧ s11 = .int .i64 T ∧ s12 = .int .i64 T ∧ G.length = 17 ∧ Cur G ∧ Lay w wx fr' l' sp' v' s6 ∧ At wx q8 59 X.toArray ∧ At wx q9 31 (cat G).toArray ∧ At wx (q9 + 1) 31 (cat G).toArray)
      case first =>
        rcases HMb.out with rfl | rfl | rfl | rfl
        · obtain ⟨T, G, l', htw⟩ := call_twin l L8.out.deep L8.out.cur' fr' L8.out.len L8.out.cur cd dt (HCK.out cd (by simp)).cur (HCK.out dt (by simp)).cur
          have HTW := Lib.hid htw
          have HFI := Lib.hid (frInfo L8.out.len)
          have hcl : Value.agg cd.l.toArray = Value.agg cd.cells ∧ Value.agg dt.l.toArray = Value.agg dt.cells := ⟨rfl, rfl⟩
          have HCL := Lib.hid hcl
          clear htw hcl
          go_wp2_with (first | (refine wpList_load_all rfl 31 (.tmp 2) rfl w.heap.size rfl 31 (cat fr').toArray _ L8.out.fr Try.underlying31 rfl HFI.out ?_) | (refine wpList_load_at rfl 25 (.tmp 68) rfl ⟨q8, 33, none⟩ rfl cd.l _ (DC.out _ D8.out 4 cd rfl 33 rfl) Try.underlying25 rfl infoCapS ?_) | (refine wpList_load_at rfl 25 (.tmp 70) rfl ⟨q8, 41, none⟩ rfl dt.l _ (DC.out _ D8.out 5 dt rfl 41 rfl) Try.underlying25 rfl infoCapS ?_))
          have HGI := Lib.hid (frInfo HTW.out.len)
          have ZG := Lib.hid (show Z.size = (cat G).toArray.size by rw [← HZ.out, cat_size zf_len, cat_size HTW.out.len])
          have HGA := Lib.hid (cat_all G)
          refine (HTW.out.prog w8 sp v L8.out.st).mono ?_
          rintro e w9 ⟨v', rfl, hs9, hf9, hvb⟩
          have H9 := Lib.hid (L8.out.act hf9 hs9 hvb)
          have D9 := Lib.hid (D8.out.fr hf9 (St.ne L8.out.st D8.out (by decide) (by decide)))
          have R9 := Lib.hid (P9.out.fr hf9 (St.ne L8.out.st P9.out (by decide) (by decide)))
          have R10 := Lib.hid (P10.out.fr hf9 (St.ne L8.out.st P10.out (by decide) (by decide)))
          clear hs9 hf9 hvb L8 D8 P9 P10 kc
          go_upto_region 19 with (refine wpList_store_all rfl 31 (.tmp 9) (.tmp 73) rfl q9 (cat G).toArray rfl rfl 31 Z R9.out HGI.out ZG.out HGA.out ?_; intro w10 hA10 hF10)
          have H10 := Lib.hid (H9.out.keep hF10 R9.out (by decide) (by decide) hqw9)
          have D10 := Lib.hid (D9.out.fr hF10 (by simp; omega))
          have T9 := Lib.hid hA10
          have T10 := Lib.hid (R10.out.fr hF10 (by simp))
          clear hA10 hF10 H9 D9 R9 R10
          go_wp2_with (first | (refine wpList_load_all rfl 31 (.tmp 2) rfl w.heap.size rfl 31 (cat fr').toArray _ H10.out.fr Try.underlying31 rfl HFI.out ?_) | (refine wpList_load_at rfl 25 (.tmp 78) rfl ⟨q8, 33, none⟩ rfl cd.l _ (DC.out _ D10.out 4 cd rfl 33 rfl) Try.underlying25 rfl infoCapS ?_) | (refine wpList_load_at rfl 25 (.tmp 80) rfl ⟨q8, 41, none⟩ rfl dt.l _ (DC.out _ D10.out 5 dt rfl 41 rfl) Try.underlying25 rfl infoCapS ?_))
          refine (HTW.out.ref w10 _ H10.out.own).mono ?_
          rintro e w11 ⟨u', rfl, ho11, hf11, hub⟩
          have L11 := Lib.hid (H10.out.join hf11 ho11 hub HTW.out.deep HTW.out.cur')
          have D11 := Lib.hid (D10.out.fr hf11 (by simp))
          have U9 := Lib.hid (T9.out.fr hf11 (by simp))
          have U10 := Lib.hid (T10.out.fr hf11 (by simp))
          obtain ⟨ua', uc', rfl, huc'⟩ := own_slice ho11
          clear ho11 hf11 hub H10 D10 T9 T10
          go_wp2_with (refine wpList_store_all rfl 31 (.tmp 10) (.tmp 84) rfl (q9 + 1) (cat G).toArray rfl rfl 31 Z U10.out HGI.out ZG.out HGA.out ?_; intro w12 hA12 hF12)
          go_meet
          exact ⟨sp, v', l', G, T, rfl, rfl, rfl, HTW.out.len, HTW.out.cur, L11.out.keep hF12 U10.out (by decide) (by decide) (by omega), D11.out.fr hF12 (by simp; omega), U9.out.fr hF12 (by simp), hA12⟩
        · obtain ⟨T, G, l', htw⟩ := ret_twin l L8.out.deep L8.out.cur' fr' L8.out.len L8.out.cur
          have HTW := Lib.hid htw
          have HFI := Lib.hid (frInfo L8.out.len)
          clear htw
          go_wp2_with (refine wpList_load_all rfl 31 (.tmp 2) rfl w.heap.size rfl 31 (cat fr').toArray _ L8.out.fr Try.underlying31 rfl HFI.out ?_)
          have HGI := Lib.hid (frInfo HTW.out.len)
          have ZG := Lib.hid (show Z.size = (cat G).toArray.size by rw [← HZ.out, cat_size zf_len, cat_size HTW.out.len])
          have HGA := Lib.hid (cat_all G)
          refine (HTW.out.prog w8 sp v L8.out.st).mono ?_
          rintro e w9 ⟨v', rfl, hs9, hf9, hvb⟩
          have H9 := Lib.hid (L8.out.act hf9 hs9 hvb)
          have D9 := Lib.hid (D8.out.fr hf9 (St.ne L8.out.st D8.out (by decide) (by decide)))
          have R9 := Lib.hid (P9.out.fr hf9 (St.ne L8.out.st P9.out (by decide) (by decide)))
          have R10 := Lib.hid (P10.out.fr hf9 (St.ne L8.out.st P10.out (by decide) (by decide)))
          clear hs9 hf9 hvb L8 D8 P9 P10 kc
          go_upto_region 22 with (refine wpList_store_all rfl 31 (.tmp 9) (.tmp 92) rfl q9 (cat G).toArray rfl rfl 31 Z R9.out HGI.out ZG.out HGA.out ?_; intro w10 hA10 hF10)
          have H10 := Lib.hid (H9.out.keep hF10 R9.out (by decide) (by decide) hqw9)
          have D10 := Lib.hid (D9.out.fr hF10 (by simp; omega))
          have T9 := Lib.hid hA10
          have T10 := Lib.hid (R10.out.fr hF10 (by simp))
          clear hA10 hF10 H9 D9 R9 R10
          go_wp2_with (refine wpList_load_all rfl 31 (.tmp 2) rfl w.heap.size rfl 31 (cat fr').toArray _ H10.out.fr Try.underlying31 rfl HFI.out ?_)
          refine (HTW.out.ref w10 _ H10.out.own).mono ?_
          rintro e w11 ⟨u', rfl, ho11, hf11, hub⟩
          have L11 := Lib.hid (H10.out.join hf11 ho11 hub HTW.out.deep HTW.out.cur')
          have D11 := Lib.hid (D10.out.fr hf11 (by simp))
          have U9 := Lib.hid (T9.out.fr hf11 (by simp))
          have U10 := Lib.hid (T10.out.fr hf11 (by simp))
          obtain ⟨ua', uc', rfl, huc'⟩ := own_slice ho11
          clear ho11 hf11 hub H10 D10 T9 T10
          go_wp2_with (refine wpList_store_all rfl 31 (.tmp 10) (.tmp 99) rfl (q9 + 1) (cat G).toArray rfl rfl 31 Z U10.out HGI.out ZG.out HGA.out ?_; intro w12 hA12 hF12)
          go_meet
          exact ⟨sp, v', l', G, T, rfl, rfl, rfl, HTW.out.len, HTW.out.cur, L11.out.keep hF12 U10.out (by decide) (by decide) (by omega), D11.out.fr hF12 (by simp; omega), U9.out.fr hF12 (by simp), hA12⟩
        · have DR := Lib.hid fun (W : World) (h : At W q8 59 X.toArray) => do_reg (cl := [r0, r1, r2, r3, cd, dt]) rfl (k := kd) (ra := ra) (rs := rs) (by rw [HXX.out]; exact h)
          have HIR := Lib.hid (show (Try.prog.info? 53).map (·.size) = some 2 by kernel_rfl)
          have hll : l.length ≤ 1000 := by obtain ⟨d, h1, h2⟩ := L8.out.deep; omega
          have HLL := Lib.hid hll
          clear hll kc
          go_wp2_with fail
          refine (ptnew_any 256 _ (by omega)).mono ?_
          rintro e w9 ⟨pp, p, g, rfl, h9, hpp, hp, hg, hf9⟩
          have P9' := Lib.hid h9
          have F9 := Lib.hid hf9
          have D9 := Lib.hid (D8.out.fr hf9 (by simp))
          clear h9 hf9
          go_wp2_with (refine wpList_load_at rfl 53 (.tmp 105) rfl ⟨q8, 49, none⟩ rfl [.int .u32 ra, .int .u32 rs] _ (DR.out _ D9.out) Try.underlying53 rfl HIR.out ?_)
          refine (ptadd_any w9 pp p g 256 _ P9'.out ra rs bra bra2 brs brs2).mono ?_
          rintro e w10 ⟨rfl, h10, hf10⟩
          obtain ⟨nc, hnc⟩ : ∃ f, newC 256 (fun _ => false) ra rs true = f := ⟨_, rfl⟩
          rw [hnc] at h10
          have f10 : Fr [g] w8 w10 := (F9.out.more (T := [g]) (by simp)).trans hf10 (fun k hk => .inl hk)
          have L10 := Lib.hid (L8.out.step f10 (by simp; omega))
          have D10 := Lib.hid (D8.out.fr f10 (by have := D8.out.lt; simp; omega))
          have R9 := Lib.hid (P9.out.fr f10 (by have := P9.out.lt; simp; omega))
          have R10 := Lib.hid (P10.out.fr f10 (by have := P10.out.lt; simp; omega))
          have hspl := L8.out.st.1.lt
          have P10' := Lib.hid h10
          clear hf10 f10 hnc P9' F9 D9 h10 L8 D8 P9 P10
          go_wp2_with fail
          refine (sscan_any (Hs.of P10'.out) (Nat.le_refl _) sp v l L10.out.st L10.out.cur' HLL.out).mono ?_
          rintro e w11 ⟨v', rfl, hs11, hf11, hvb⟩
          obtain ⟨hs, hhs⟩ : ∃ hs, hasP 256 nc = hs := ⟨_, rfl⟩
          rw [hhs] at hs11 ⊢
          have h11 := Hs.of (P10'.out.fr hf11 (by simp; omega) (by simp; omega) (by simp; omega))
          rw [hhs] at h11
          have HS11 := Lib.hid h11
          have H11 := Lib.hid (L10.out.act (hf11.more (by simp)) hs11 (fun g hg => .inr (hvb g hg)))
          have hn1 : sp ∉ [q8] := by
            intro hm
            simp at hm
            subst hm
            exact absurd (D10.out.inj L10.out.st.1).1 (by decide)
          have D11 := Lib.hid (D10.out.fr (hf11.more (T := sp :: v.ownBlock.toList) (by simp)) (St.ne L10.out.st D10.out (by decide) (by decide)))
          have S9 := Lib.hid (R9.out.fr (hf11.more (T := sp :: v.ownBlock.toList) (by simp)) (St.ne L10.out.st R9.out (by decide) (by decide)))
          have S10 := Lib.hid (R10.out.fr (hf11.more (T := sp :: v.ownBlock.toList) (by simp)) (St.ne L10.out.st R10.out (by decide) (by decide)))
          have hdp := Lib.hid L10.out.deep
          have hcu := Lib.hid L10.out.cur'
          clear h11 hs11 hf11 hvb hhs hn1 L10 D10 R9 R10 P10' hspl hpp hp hg
          go_wp2_with fail
          refine (scaps_any HS11.out (Nat.le_refl _) ua uc l (own_in H11.out.own) hcu.out HLL.out).mono ?_
          rintro e w12 ⟨g', rfl, h12, hg', hf12⟩
          have hml : (l.map (cln hs)).length = l.length := by rw [List.length_map]
          have ho := own_new (b := 0) h12 (Nat.zero_le _) (by rw [hml]; exact HLL.out)
          have L12 := Lib.hid (H11.out.join (m' := .slice (some ⟨g', 0, none⟩) l.length l.length) hf12 (by rw [hml] at ho ⊢; exact ho) (fun g hg => .inr (by simp [Value.ownBlock] at hg; subst hg; exact hg')) (by obtain ⟨d, h1, h2⟩ := hdp.out; exact ⟨d, by rw [hml]; exact h1, h2⟩) (cur_map hcu.out hs))
          have E8 := Lib.hid (D11.out.fr hf12 (by simp))
          have E9 := Lib.hid (S9.out.fr hf12 (by simp))
          have E10 := Lib.hid (S10.out.fr hf12 (by simp))
          obtain ⟨sm, hsm⟩ : ∃ n, sums hs l = n := ⟨_, rfl⟩
          rw [hsm]
          clear hsm ho hml h12 hg' hf12 H11 D11 S9 S10 hdp hcu HS11
          go_wp2_with fail
          go_meet
          exact ⟨sp, v', _, zf, 0, rfl, rfl, rfl, zf_len, cur_zf, L12.out, E8.out, by rw [HZ.out]; exact E9.out, by rw [HZ.out]; exact E10.out⟩
        · have hll : l.length ≤ 1000 := by obtain ⟨d, h1, h2⟩ := L8.out.deep; omega
          have CC := Lib.hid (scopy_any L8.out.st hll)
          have HFI := Lib.hid (frInfo L8.out.len)
          obtain ⟨T, G, l', htw⟩ := ret_twin l L8.out.deep L8.out.cur' fr' L8.out.len L8.out.cur
          have HTW := Lib.hid htw
          clear hll kc htw
          go_wp2_with fail
          refine (CC.out).mono ?_
          rintro e w9 ⟨sp', v', rfl, hs9, hsp', hvb, hf9⟩
          have L9 := Lib.hid (L8.out.step hf9 (by simp))
          have D9 := Lib.hid (D8.out.fr hf9 (by simp))
          have R9 := Lib.hid (P9.out.fr hf9 (by simp))
          have R10 := Lib.hid (P10.out.fr hf9 (by simp))
          have hold : ∀ k ∈ sp :: v.ownBlock.toList, k < w8.heap.size := fun k hk => by
            rcases List.mem_cons.1 hk with rfl | hk
            · exact L8.out.st.1.lt
            · cases hv : v.ownBlock with
              | none => rw [hv] at hk; simp at hk
              | some r => rw [hv] at hk; simp at hk; subst hk; exact (L8.out.st.2.lt _ hv).2
          have HOL := Lib.hid hold
          have HM8 := Lib.hid fun g h => (L8.out.own.lt g h).2
          have hw8 := L8.out.f.size
          have hwq := L8.out.fr.lt
          have S9 := Lib.hid hs9
          have HVB := Lib.hid hvb
          clear hs9 hf9 hold hvb L8 D8 P9 P10 CC
          go_wp2_with (refine wpList_load_all rfl 31 (.tmp 2) rfl w.heap.size rfl 31 (cat fr').toArray _ L9.out.fr Try.underlying31 rfl HFI.out ?_)
          refine (HTW.out.prog w9 sp v L9.out.st).mono ?_
          rintro e w10 ⟨v0, rfl, hs10, hf10, hvb⟩
          have H10 := Lib.hid (L9.out.act hf10 hs10 hvb)
          have no : ∀ k, w8.heap.size ≤ k → k ∉ sp :: v.ownBlock.toList := fun k hk hm => by have := HOL.out k hm; omega
          have L10 := Lib.hid (H10.out.copy (wr := w9) (v := v) (v' := v') L9.out.deep L9.out.cur' (S9.out.fr hf10 (no _ hsp') (fun g hg => no _ (HVB.out g hg))) (by omega) (fun g hg => ⟨by have := HVB.out g hg; omega, fun hm => by have := HM8.out g hm; have := HVB.out g hg; omega⟩))
          have E8 := Lib.hid (D9.out.fr hf10 (St.ne L9.out.st D9.out (by decide) (by decide)))
          have E9 := Lib.hid (R9.out.fr hf10 (St.ne L9.out.st R9.out (by decide) (by decide)))
          have E10 := Lib.hid (R10.out.fr hf10 (St.ne L9.out.st R10.out (by decide) (by decide)))
          clear hs10 hf10 hvb no H10 L9 D9 R9 R10 S9 HVB HM8 HOL
          go_wp2_with fail
          go_meet
          exact ⟨sp', v', l, zf, 0, rfl, rfl, rfl, zf_len, cur_zf, L10.out, E8.out, by rw [HZ.out]; exact E9.out, by rw [HZ.out]; exact E10.out⟩
      obtain ⟨sp', v', l', G, T, rfl, rfl, rfl, hGl, hGc, hlay, hd8, hp9, hp10⟩ := hcut
      obtain ⟨d, hd1, hd2⟩ := hlay.deep
      have HST := Lib.hid hlay.st
      have HOW := Lib.hid hlay.own
      have hof := own_slice hlay.own
      rw [hd1] at hof
      obtain ⟨va, vc, rfl, hvc⟩ := hof
      have HLY := Lib.hid hlay
      have HD8 := Lib.hid hd8
      have HP9 := Lib.hid hp9
      have HP10 := Lib.hid hp10
      have HGL := Lib.hid hGl
      have HGC := Lib.hid hGc
      have HGI := Lib.hid (frInfo hGl)
      have HD1 := Lib.hid hd1
      obtain ⟨w9, rfl⟩ : ∃ W : World, W = wc := ⟨_, rfl⟩
      have FE := fun W => frame_eq G G hGl hGl W
      rw [eqF_self] at FE
      have CD : Calls Try.prog 12 #[.pointer (some ⟨sp', 0, none⟩)] w9 fun r w' => r = .returned (.int .i64 (d : Int)) ∧ w9 = w' := (sdepth_any HST.out).mono fun r w' ⟨e, f⟩ => ⟨by rw [e, hd1, Nat.mul_div_cancel_left _ (by omega)], f⟩
      have HCD := Lib.hid CD
      have q3 : (3 * (d : Int)) / 3 = (d : Int) := by omega
      have q4 : (3 * (d : Int)).tdiv 3 = (d : Int) := by rw [Int.tdiv_eq_ediv_of_nonneg (by omega)]; omega
      have HCC := Lib.hid (scapsl_any HST.out (by rw [hd1]; omega))
      have HSM := Lib.hid fun (W : World) (u : Value) (hW : Fr [] w9 W) (hu : W.ownsRow 0 25 8 u l'.length (cat l')) => same_any W u _ l' hu (own_fr0 HOW.out hW) (by rw [hd1]; omega)
      clear hGl hGc hlay hd8 hp9 hp10 hd1 CD
      go_wp2_with (first | (refine wpList_load_all rfl 31 (.tmp 9) rfl q9 rfl 31 (cat G).toArray _ HP9.out Try.underlying31 rfl HGI.out ?_) | (refine wpList_load_all rfl 31 (.tmp 10) rfl (q9 + 1) rfl 31 (cat G).toArray _ HP10.out Try.underlying31 rfl HGI.out ?_))
      refine (HCD.out).mono ?_
      rintro e w' ⟨rfl, rfl⟩
      go_wp2_with fail
      refine (HCC.out).mono ?_
      rintro e w10 ⟨vl, rfl, hol, hf10⟩
      have HSN := Lib.hid (HSM.out w10 vl hf10 (own_base hol (Nat.zero_le _)))
      have HF10 := Lib.hid hf10
      clear hol hf10
      go_wp2_with fail
      refine (HSN.out).mono ?_
      rintro e w11 ⟨rfl, hf11⟩
      have f11 := HF10.out.trans0 hf11
      have L11 := Lib.hid (HLY.out.step f11 (by simp))
      have E9 := Lib.hid (HP9.out.fr f11 (by simp))
      have kc : w11.cell? ⟨q8, 0, none⟩ = some (.int .i64 kd) := by rw [(HD8.out.fr f11 (by simp)).cell, ← HXX.out]; rfl
      have HGS := Lib.hid (show (cat fr').toArray.size = (cat G).toArray.size by rw [cat_size HLY.out.len, cat_size HGL.out])
      have HGA := Lib.hid (cat_all G)
      clear f11 hf11 HF10 HSN HSM HCC HCD FE q3 q4 HD8 HP9 HP10 HLY HOW HST
      obtain ⟨B, hB⟩ : ∃ B, (T == 0) = B := ⟨_, rfl⟩
      obtain ⟨B2, hB2⟩ : ∃ B, decide (kd < 2) = B := ⟨_, rfl⟩
      cases B
      · go_wp2_with fail
        go_roundw
        case rel => exact ⟨k + 1, fr', l', sp', v', by omega, by go_num, rfl, L11.out⟩
        case measure => simp [intOf]; omega
      · cases B2
        · go_wp2_with fail
          go_roundw
          case rel => exact ⟨k + 1, fr', l', sp', v', by omega, by go_num, rfl, L11.out⟩
          case measure => simp [intOf]; omega
        · go_wp2_with (first | (refine wpList_load_all rfl 31 (.tmp 9) rfl q9 rfl 31 (cat G).toArray _ E9.out Try.underlying31 rfl HGI.out ?_) | (refine wpList_store_all rfl 31 (.tmp 2) (.tmp 151) rfl w.heap.size (cat G).toArray rfl rfl 31 (cat fr').toArray L11.out.fr HGI.out HGS.out HGA.out ?_; intro w12 hA12 hF12))
          go_roundw
          case rel => exact ⟨k + 1, G, l', sp', v', by omega, by go_num, rfl, L11.out.put hF12 hA12 HGL.out HGC.out⟩
          case measure => simp [intOf]; omega
    · have HF := Lib.hid HLY.out.f
      by_cases h1 : k < len1
      · have h2 : ¬ ((k : Int) < 40) := by omega
        have h3 : (k : Int) < (len1 : Int) := by omega
        go_wp2_with fail
        refine (works_any _).mono ?_
        rintro e w3 ⟨rfl, hf3⟩
        go_wp2_with fail
        go_ret
        exact ⟨rfl, HF.out.trans0 hf3⟩
      · have h3 : ¬ ((k : Int) < (len1 : Int)) := by omega
        go_wp2_with fail
        refine (works_any _).mono ?_
        rintro e w3 ⟨rfl, hf3⟩
        go_wp2_with fail
        go_ret
        exact ⟨rfl, HF.out.trans0 hf3⟩
theorem walk (cs : List Value) (a1 : Option Addr) (len1 cap1 : Nat) (w : World) (w0 : Fits (List.replicate 17 c8).flatten cs) (w1 : Elems w a1 len1 doLeaves ∧ len1 ≤ cap1 ∧ cap1 ≤ maxLen ∧ (a1 = none → len1 = 0 ∧ cap1 = 0)) :
    Calls Try.prog 7 #[.agg cs.toArray, .slice a1 len1 cap1] w fun e w' => e = .returned (.bool true) ∧ Fr [] w w' := by
  obtain ⟨fr, rfl, hl, hok⟩ := frame_of 17 cs w0
  exact walk_n fr hl hok a1 len1 cap1 w w1.1
theorem laidOut : laidOutB Try.prog = true := by kernel_rfl
set_option maxRecDepth 100000 in
theorem lifted (os : Os) (started : os.Started) (H : Type) (enc : TypeId × Value → H) :
    ReturnsInHanded {} Try.checked os 7 .any (Rows.compartPlaysSpec.pre6 enc Try.prog Try.f7 Rows.compartPlaysRow.domain false) (Rows.compartPlaysSpec.post enc Try.prog Try.f7 false true false false) := by
  refine returnsInHanded_of_change (C := Try.checked) own started (by kernel_rfl) Try.func7
    (ChangeSpec.witness6 (enc := enc) (C := Try.checked) false ⟨#[], #[.agg #[.int .u32 0, .int .u8 0, .int .u16 0, .int .u16 0, .int .u16 0, .int .u16 0, .int .u32 0, .bool false, .int .u32 0, .int .u8 0, .int .u16 0, .int .u16 0, .int .u16 0, .int .u16 0, .int .u32 0, .bool false, .int .u32 0, .int .u8 0, .int .u16 0, .int .u16 0, .int .u16 0, .int .u16 0, .int .u32 0, .bool false, .int .u32 0, .int .u8 0, .int .u16 0, .int .u16 0, .int .u16 0, .int .u16 0, .int .u32 0, .bool false, .int .u32 0, .int .u8 0, .int .u16 0, .int .u16 0, .int .u16 0, .int .u16 0, .int .u32 0, .bool false, .int .u32 0, .int .u8 0, .int .u16 0, .int .u16 0, .int .u16 0, .int .u16 0, .int .u32 0, .bool false, .int .u32 0, .int .u8 0, .int .u16 0, .int .u16 0, .int .u16 0, .int .u16 0, .int .u32 0, .bool false, .int .u32 0, .int .u8 0, .int .u16 0, .int .u16 0, .int .u16 0, .int .u16 0, .int .u32 0, .bool false, .int .u32 0, .int .u8 0, .int .u16 0, .int .u16 0, .int .u16 0, .int .u16 0, .int .u32 0, .bool false, .int .u32 0, .int .u8 0, .int .u16 0, .int .u16 0, .int .u16 0, .int .u16 0, .int .u32 0, .bool false, .int .u32 0, .int .u8 0, .int .u16 0, .int .u16 0, .int .u16 0, .int .u16 0, .int .u32 0, .bool false, .int .u32 0, .int .u8 0, .int .u16 0, .int .u16 0, .int .u16 0, .int .u16 0, .int .u32 0, .bool false, .int .u32 0, .int .u8 0, .int .u16 0, .int .u16 0, .int .u16 0, .int .u16 0, .int .u32 0, .bool false, .int .u32 0, .int .u8 0, .int .u16 0, .int .u16 0, .int .u16 0, .int .u16 0, .int .u32 0, .bool false, .int .u32 0, .int .u8 0, .int .u16 0, .int .u16 0, .int .u16 0, .int .u16 0, .int .u32 0, .bool false, .int .u32 0, .int .u8 0, .int .u16 0, .int .u16 0, .int .u16 0, .int .u16 0, .int .u32 0, .bool false, .int .u32 0, .int .u8 0, .int .u16 0, .int .u16 0, .int .u16 0, .int .u16 0, .int .u32 0, .bool false], .slice none 0 0], []⟩ 8 (by kernel_rfl) (by kernel_rfl) (by kernel_rfl) (by kernel_rfl)) ?_
  intro W base args ds gs before hval0 hW hcnd _
  have hval : ∀ (j : Nat) t v, Try.f7.params[j]? = some t → args[j]? = some v → Value.okWide Try.prog W .any base t v := hval0
  have hW' := hW
  obtain ⟨p, q, hA0, hV, rfl, hfz, hnd⟩ := hW
  have hA : DataW.TrodAll enc Try.prog W 0 (fun _ => true) true Try.f7.params.toList args.toList ds p := hA0
  rw [Try.params7] at hA hval
  obtain ⟨v0, vs0, d0, ds0, p0, q0, hargs, rfl, rfl, h0, r0⟩ := trodAll_cons hA
  obtain ⟨v1, vs1, d1, ds1, p1, q1, rfl, rfl, rfl, h1, r1⟩ := trodAll_cons r0
  obtain ⟨rfl, rfl, rfl⟩ := trodAll_nil r1
  obtain rfl : args = #[v0, v1] := by cases args; simp_all
  obtain ⟨rfl, rfl⟩ := trodVars_none hV
  have k0 := h0
  have lt0 : ∀ x ∈ p0, x.block < W.heap.size := by obtain ⟨m, hm⟩ := k0; exact DataW.trod_lt m _ _ _ hm
  obtain ⟨cs0, rfl, w0⟩ := open_flat (n := 20) (by kernel_rfl : flat Try.prog 20 31 = some [.i .u32, .i .u8, .i .u16, .i .u16, .i .u16, .i .u16, .i .u32, .b, .i .u32, .i .u8, .i .u16, .i .u16, .i .u16, .i .u16, .i .u32, .b, .i .u32, .i .u8, .i .u16, .i .u16, .i .u16, .i .u16, .i .u32, .b, .i .u32, .i .u8, .i .u16, .i .u16, .i .u16, .i .u16, .i .u32, .b, .i .u32, .i .u8, .i .u16, .i .u16, .i .u16, .i .u16, .i .u32, .b, .i .u32, .i .u8, .i .u16, .i .u16, .i .u16, .i .u16, .i .u32, .b, .i .u32, .i .u8, .i .u16, .i .u16, .i .u16, .i .u16, .i .u32, .b, .i .u32, .i .u8, .i .u16, .i .u16, .i .u16, .i .u16, .i .u32, .b, .i .u32, .i .u8, .i .u16, .i .u16, .i .u16, .i .u16, .i .u32, .b, .i .u32, .i .u8, .i .u16, .i .u16, .i .u16, .i .u16, .i .u32, .b, .i .u32, .i .u8, .i .u16, .i .u16, .i .u16, .i .u16, .i .u32, .b, .i .u32, .i .u8, .i .u16, .i .u16, .i .u16, .i .u16, .i .u32, .b, .i .u32, .i .u8, .i .u16, .i .u16, .i .u16, .i .u16, .i .u32, .b, .i .u32, .i .u8, .i .u16, .i .u16, .i .u16, .i .u16, .i .u32, .b, .i .u32, .i .u8, .i .u16, .i .u16, .i .u16, .i .u16, .i .u32, .b, .i .u32, .i .u8, .i .u16, .i .u16, .i .u16, .i .u16, .i .u32, .b, .i .u32, .i .u8, .i .u16, .i .u16, .i .u16, .i .u16, .i .u32, .b]) (by kernel_rfl) (hval 0 31 v0 rfl rfl) h0
  obtain ⟨a1, len1, cap1, rfl⟩ := okWide_slice Try.underlying56 (hval 1 56 v1 rfl rfl)
  have k1 := h1
  have lt1 : ∀ x ∈ p1, x.block < W.heap.size := by obtain ⟨m, hm⟩ := k1; exact DataW.trod_lt m _ _ _ hm
  have w1 : Elems W a1 len1 [.i .i64, .i .u32, .i .u8, .i .u16, .i .u16, .i .u16, .i .u16, .i .u32, .b, .i .u32, .i .u8, .i .u16, .i .u16, .i .u16, .i .u16, .i .u32, .b, .i .u32, .i .u8, .i .u16, .i .u16, .i .u16, .i .u16, .i .u32, .b, .i .u32, .i .u8, .i .u16, .i .u16, .i .u16, .i .u16, .i .u32, .b, .i .u32, .i .u8, .i .u16, .i .u16, .i .u16, .i .u16, .i .u32, .b, .i .u32, .i .u8, .i .u16, .i .u16, .i .u16, .i .u16, .i .u32, .b, .i .u32, .i .u32] ∧ len1 ≤ cap1 ∧ cap1 ≤ maxLen ∧ (a1 = none → len1 = 0 ∧ cap1 = 0) := by
    obtain ⟨fuel, hf⟩ := h1
    exact open_elemsc (n := 20) Try.underlying56 (by kernel_rfl : flat Try.prog 20 59 = some [.i .i64, .i .u32, .i .u8, .i .u16, .i .u16, .i .u16, .i .u16, .i .u32, .b, .i .u32, .i .u8, .i .u16, .i .u16, .i .u16, .i .u16, .i .u32, .b, .i .u32, .i .u8, .i .u16, .i .u16, .i .u16, .i .u16, .i .u32, .b, .i .u32, .i .u8, .i .u16, .i .u16, .i .u16, .i .u16, .i .u32, .b, .i .u32, .i .u8, .i .u16, .i .u16, .i .u16, .i .u16, .i .u32, .b, .i .u32, .i .u8, .i .u16, .i .u16, .i .u16, .i .u16, .i .u32, .b, .i .u32, .i .u32]) (by kernel_rfl) (by decide) hf
  clear hA0 hval0
  refine (walk cs0 a1 len1 cap1 W w0 w1).mono fun e W' ⟨he, hg⟩ => ?_
  subst he
  have bel := hg.below
  exact ⟨_, rfl, _, _, _, [], _, [], hW', trodAll_mk1 (shut_bool Try.underlying4 _), (trodAll_cons_mk (Below.trod laidOut (by kernel_rfl) (of_decide_eq_true (by kernel_rfl)) k0 bel lt0) (trodAll_cons_mk (Below.trod laidOut (by kernel_rfl) (of_decide_eq_true (by kernel_rfl)) k1 bel lt1) trodAll_mk0)), rfl, bel.frame _, fun h => by cases h⟩
theorem over : Rows.compartPlaysRow.holds Try.pinned (OpenSpec.ofChange Rows.compartPlaysSpec) :=
  OpenClaim.holds_of_wide 7 Try.f7 rfl rfl rfl rfl rfl rfl rfl ⟨rfl, rfl, rfl, rfl, rfl⟩ rfl rfl rfl rfl rfl (by kernel_rfl) Try.func7 (by kernel_rfl)
    (of_decide_eq_true (by kernel_rfl)) (by unfold Func.isWrapper; first | (rw [if_pos (by decide +kernel)]; kernel_rfl) | (rw [if_neg (by decide +kernel)]; exact ⟨rfl, rfl⟩))
    (fun os started H enc _ => lifted os started H enc)
/-- The statement, proved. -/
theorem proved : Rows.CompartPlaysSaid :=
  over
end compartPlays
end Go.Proofs.Ytdfefnajhnlpdaa
