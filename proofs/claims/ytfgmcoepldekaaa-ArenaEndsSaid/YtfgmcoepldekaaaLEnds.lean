/-
  ArenaEnds: what does not lie within is refused, and changes nothing. No condition.
-/





import Derived.Test.YtfgmcoepldekaaaBoth
import Derived.Test.YtfgmcoepldekaaaArgs
import Derived.Deep.CutBlock
import Derived.Deep.DeepCutAuto
set_option linter.unusedVariables false
namespace Go.Proofs.Ytfgmcoepldekaaa
open Go.ChangeShapes Go.WideShapes Go.ChangeAt Go.RowKit
namespace arenaEnds
theorem res_rowz {P : Program} {fn : Func} {p : Tmp} {ty : TypeId} (h : fn.results = #[.cell p ty]) (tmps : Array Value) (w : World) (g : Nat) (t : TypeId) (cs : Array Value) (d : TypeDesc)
    (hp : tmps.getD p undef = .pointer (some ⟨g, 0, none⟩)) (hg : At w g t cs)
    (hu : P.underlying ty = some d) (hd : (match d with | .struct _ | .array _ _ => true | _ => false) = true) (hi : (P.info? ty).map (·.size) = some cs.size) :
    (results fn tmps).run P w = .ok (.agg cs) w := results_cell_row h tmps w g t cs (0, 0) d hp hg hu hd hi
def numZ (v : Nat) : Cp := ⟨v, 0, 0, 0, 0, 0, 0, false⟩
theorem number_any (w : World) (v : Nat) : Calls Try.prog 19 #[.int .u32 v] w fun r w' => r = .returned (.agg (numZ v).cells) ∧ Fr [] w w' := by
  have A0 := At.new w 30 noC.cells
  have A := A0.set 0 (.int .u32 v)
  have F : Fr [] w ((w.alloc (.cells noC.cells 30)).setCell ⟨w.heap.size, 0, none⟩ (.int .u32 v)) := (show Fr [] w (w.alloc (.cells noC.cells 30)) from (by repeat (first | exact Fr.refl _ _ | assumption | refine Fr.trans0 ?_ (by assumption) | refine Fr.drewN ?_ _ | refine Fr.alloc ?_ _ | refine Fr.drew ?_))).set (.inr (by simp)) _
  have HA := Lib.hid (show At ((w.alloc (.cells noC.cells 30)).setCell ⟨w.heap.size, 0, none⟩ (.int .u32 v)) w.heap.size 30 (numZ v).cells from A)
  have HF := Lib.hid F
  clear A A0 F
  go_enter Try.func19, Try.ntmps19
  go_wp2_with fail
  exact bodyPost_ret (res_rowz rfl _ _ w.heap.size 30 _ _ rfl (At.new w 30 (numZ v).cells) Try.underlying30 rfl (by kernel_rfl)) rfl ⟨rfl, (by repeat (first | exact Fr.refl _ _ | assumption | refine Fr.trans0 ?_ (by assumption) | refine Fr.drewN ?_ _ | refine Fr.alloc ?_ _ | refine Fr.drew ?_))⟩
def lens (B2 : Bool) (n : Nat) : Nat := if B2 = true then n else 0
set_option maxHeartbeats 2000000 in
set_option maxRecDepth 100000 in
theorem walk_n (a : Nat) (ha : a < 4294967296) (k : Int) (k1 : -9223372036854775808 ≤ k) (k2 : k ≤ 9223372036854775807) (n : Nat) (hn : n < 65536) (w : World) :
    Calls Try.prog 5 #[.int .u32 a, .int .i64 k, .int .u16 n] w fun e w' => e = .returned (.bool true) ∧ Fr [] w w' := by
  have l0 : (List.replicate 4096 0).length = 4096 := List.length_replicate
  obtain ⟨B0, hB0⟩ : ∃ B, List.replicate 4096 0 = B := ⟨_, rfl⟩
  have CL := Lib.hid (lmade_any w)
  rw [hB0] at CL l0
  obtain ⟨B1, hB1⟩ : ∃ B, okE 4096 a k = B := ⟨_, rfl⟩
  have HB1 := Lib.hid hB1
  have HL0 := Lib.hid l0
  clear hB0 hB1 l0
  go_enter Try.func5, Try.ntmps5
  go_wp2_with fail
  refine (CL.out).mono ?_
  rintro e w2 ⟨ap, p, g, bg, cap, rfl, h2, p1, p2, p3, p4, hf2⟩
  have A2 := Lib.hid h2
  have F2 := Lib.hid hf2
  clear h2 hf2 CL
  go_wp2_with fail
  refine (works_any _).mono ?_
  rintro e w3 ⟨rfl, hf3⟩
  have A3 := Lib.hid (A2.out.fr0 hf3)
  have F3 := Lib.hid (F2.out.trans0 hf3)
  clear hf3 A2 F2
  go_upto_region 4 with (fail)
  go_cut [8] (fun s8 wx => s8 = .bool B1 ∧ wx = w3)
  case first =>
    rcases wid_cases k with ⟨m, rfl, rfl | rfl | rfl⟩ | hk
    · have hb : decide ((a : Int) + 1 ≤ 4096) = B1 := by
        rw [← HB1.out]
        refine Eq.trans ?_ (okE_yes 4096 a 1 (by omega)).symm
        rw [decide_eq_decide]
        omega
      go_wp2_with fail
      go_meet
      exact ⟨by simp [hb], rfl⟩
    · have hb : decide ((a : Int) + 2 ≤ 4096) = B1 := by
        rw [← HB1.out]
        refine Eq.trans ?_ (okE_yes 4096 a 2 (by omega)).symm
        rw [decide_eq_decide]
        omega
      go_wp2_with fail
      go_meet
      exact ⟨by simp [hb], rfl⟩
    · have hb : decide ((a : Int) + 4 ≤ 4096) = B1 := by
        rw [← HB1.out]
        refine Eq.trans ?_ (okE_yes 4096 a 4 (by omega)).symm
        rw [decide_eq_decide]
        omega
      go_wp2_with fail
      go_meet
      exact ⟨by simp [hb], rfl⟩
    · have hb : B1 = false := by rw [← HB1.out]; exact okE_no 4096 a k hk
      have q1 : (k == 1) = false := by simpa using hk.1
      have q2 : (k == 2) = false := by simpa using hk.2.1
      have q4 : (k == 4) = false := by simpa using hk.2.2
      go_wp2_with fail
      go_meet
      exact ⟨by rw [hb], rfl⟩
  obtain ⟨h8, hw⟩ := hcut
  subst h8 hw
  have CLd := aload_b _ _ _ _ _ _ _ _ A3.out a ha k k1 k2
  rw [HL0.out, HB1.out] at CLd
  obtain ⟨V, hV⟩ : ∃ V, ldN B0 a k = V := ⟨_, rfl⟩
  rw [hV] at CLd
  go_wp2_with fail
  refine CLd.mono ?_
  rintro e w4 ⟨rfl, hf4⟩
  have A4 := Lib.hid (A3.out.fr0 hf4)
  have F4 := Lib.hid (F3.out.trans0 hf4)
  clear hf4 A3 F3 hV CLd
  have CSt := astore_b _ _ _ _ _ _ _ _ A4.out a ha k 4294967295 (by omega)
  rw [HL0.out, HB1.out] at CSt
  go_wp2_with fail
  refine CSt.mono ?_
  rintro e w5 ⟨rfl, h5, hf5⟩
  have hl5 := stL_len B0 a k 4294967295
  rw [HL0.out] at hl5
  obtain ⟨B5, hB5⟩ : ∃ B, stL B0 a k 4294967295 = B := ⟨_, rfl⟩
  obtain ⟨f5, hF5⟩ : ∃ B, stT B0 (fun _ => false) a k 4294967295 = B := ⟨_, rfl⟩
  rw [hB5, hF5] at h5
  rw [hB5] at hl5
  have A5 := Lib.hid h5
  have F5 := Lib.hid (F4.out.trans hf5 (by simp; omega))
  clear h5 hf5 A4 F4 CSt hB5 hF5
  have CR := aread_b _ _ _ _ _ _ _ _ A5.out a ha n (by omega) (by omega)
  rw [hl5, thB_nat] at CR
  have HL5 := Lib.hid hl5
  obtain ⟨B2, hB2⟩ : ∃ B, decide (a + n ≤ 4096) = B := ⟨_, rfl⟩
  have hlong : decide ((a : Int) + (n : Int) ≤ 4096) = B2 := by rw [← hB2, decide_eq_decide]; omega
  have HB2 := Lib.hid hB2
  rw [hB2] at CR
  have HLg : Hid (B2 = true → (sub B5 a (n : Int).toNat).length = n) := Lib.hid (fun h => by
    rw [← hB2, decide_eq_true_eq] at h
    unfold sub
    rw [List.length_take, List.length_drop, hl5]; simp; omega)
  obtain ⟨L, hL⟩ : ∃ L, (if B2 = true then sub B5 a (n : Int).toNat else []) = L := ⟨_, rfl⟩
  rw [hL] at CR
  have HLn : Hid (B2 = true → (BS L).size = n) := Lib.hid (fun h => by rw [BS_size, ← hL, if_pos h]; exact HLg.out h)
  unfold strV at CR
  obtain ⟨S, hS⟩ : ∃ S, BS L = S := ⟨_, rfl⟩
  rw [hS] at CR HLn
  clear hB2 hl5 hL hS HLg
  go_wp2_with fail
  refine CR.mono ?_
  rintro e w6 ⟨rfl, rfl⟩
  clear CR
  have hmk := fun W => run_make_row' (P := Try.prog) 50 5 (.int .u8 0) 1 Try.underlying50 infoU8 rfl .i64 .i64 n (by omega) (by omega) W
  simp only [made_bys] at hmk
  have hZL : (List.replicate n 0).length = n := by simp
  obtain ⟨Zl, hZl⟩ : ∃ L, List.replicate n 0 = L := ⟨_, rfl⟩
  have HZB := Lib.hid (show Byt Zl by rw [← hZl]; exact Byt.rep n)
  rw [hZl] at hZL
  simp only [hZl] at hmk
  have HZL := Lib.hid hZL
  have HZl := Lib.hid hZl
  have aZ := At.new w5 5 (bys Zl).toArray
  have fZ : Fr [] w5 (w5.alloc (.cells (bys Zl).toArray 5)) := (by repeat (first | exact Fr.refl _ _ | assumption | refine Fr.trans0 ?_ (by assumption) | refine Fr.drewN ?_ _ | refine Fr.alloc ?_ _ | refine Fr.drew ?_))
  have HIN : Hid (BIn (w5.alloc (.cells (bys Zl).toArray 5)) (some ⟨w5.heap.size, 0, none⟩) Zl) := Lib.hid (.inr ⟨_, 0, rfl, aZ.lt, fun j v hv => by rw [Nat.zero_add, aZ.cell]; simpa using hv⟩)
  have A6 := Lib.hid (A5.out.fr0 fZ)
  have F6 := Lib.hid (F5.out.trans0 fZ)
  have CWr := awrite_any _ _ _ _ _ _ _ _ A6.out a ha Zl (by rw [hZL]; omega) HZB.out
  rw [hZL, HL5.out, HB2.out] at CWr
  obtain ⟨sz, hsz⟩ : ∃ s, strV Zl = s := ⟨_, rfl⟩
  have HSZ := Lib.hid hsz
  rw [hsz] at CWr
  have HCW := Lib.hid CWr
  clear CWr hZL hZl aZ fZ hsz
  go_wp2_with (refine wpList_str rfl ⟨5, Try.underlying50, Try.underlying5⟩ Try.underlying9 (.tmp 72) rfl _ n n rfl Zl HZL.out HZB.out HIN.out (fun h => by cases h) ?_; rw [HSZ.out])
  refine HCW.out.mono ?_
  rintro e w7 ⟨rfl, h7, hf7⟩
  have hl7 := wrL_len B5 a Zl
  rw [HL5.out] at hl7
  obtain ⟨B7, hB7⟩ : ∃ B, wrL B5 a Zl = B := ⟨_, rfl⟩
  obtain ⟨f7, hF7⟩ : ∃ B, wrF B5 f5 a Zl = B := ⟨_, rfl⟩
  rw [hB7, hF7] at h7
  rw [hB7] at hl7
  have A7 := Lib.hid h7
  have F7 := Lib.hid (F6.out.trans hf7 (by simp; omega))
  clear h7 hf7 A6 F6 HCW hB7 hF7 A5 F5 hmk HIN
  have CZr := azero_any _ _ _ _ _ _ _ _ A7.out a n ha (by omega)
  rw [hl7, HB2.out] at CZr
  have hl8 : (wrL B7 a (List.replicate n 0)).length = 4096 := by rw [wrL_len]; exact hl7
  obtain ⟨B8, hB8⟩ : ∃ B, wrL B7 a (List.replicate n 0) = B := ⟨_, rfl⟩
  obtain ⟨f8, hF8⟩ : ∃ B, wrF B7 f7 a (List.replicate n 0) = B := ⟨_, rfl⟩
  rw [hB8, hF8] at CZr
  rw [hB8] at hl8
  have HL8 := Lib.hid hl8
  clear hB8 hF8 hl7 hl8
  go_wp2_with fail
  refine CZr.mono ?_
  rintro e w8 ⟨rfl, h8, hf8⟩
  have A8 := Lib.hid h8
  have F8 := Lib.hid (F7.out.trans hf8 (by simp; omega))
  clear h8 hf8 A7 F7 CZr
  obtain ⟨B3, hB3⟩ : ∃ B, whB 4096 a = B := ⟨_, rfl⟩
  have HB3 := Lib.hid hB3
  clear hB3
  go_upto_region 11 with (fail)
  go_cut [17] (fun s wx => s = .bool B3 ∧ wx = w8)
  case first =>
    by_cases h16 : a % 16 = 0
    · have hI : ((a : Int) % 16 == 0) = true := by simp; omega
      have hb : decide ((a : Int) + 16 ≤ 4096) = B3 := by
        rw [← HB3.out]
        unfold whB
        rw [decide_eq_true h16, Bool.true_and, decide_eq_decide]
        omega
      go_wp2_with fail
      go_meet
      exact ⟨by simp [hb], rfl⟩
    · have hI : ((a : Int) % 16 == 0) = false := by simp; omega
      have hb : B3 = false := by
        rw [← HB3.out]
        unfold whB
        rw [decide_eq_false h16, Bool.false_and]
      go_wp2_with fail
      go_meet
      exact ⟨by rw [hb], rfl⟩
  obtain ⟨h17, hw⟩ := hcut
  subst h17 hw
  have CLC := aloadc_b _ _ _ _ _ _ _ _ A8.out a ha
  rw [HL8.out, HB3.out] at CLC
  obtain ⟨C, hC⟩ : ∃ C, ldC B8 f8 a = C := ⟨_, rfl⟩
  rw [hC] at CLC
  have HIC := Lib.hid (show ∀ c : Cp, (Try.prog.info? 30).map (·.size) = some c.cells.size from fun c => by kernel_rfl)
  clear hC
  go_wp2_with fail
  refine CLC.mono ?_
  rintro e w9 ⟨rfl, hf9⟩
  have A9 := Lib.hid (A8.out.fr0 hf9)
  have F9 := Lib.hid (F8.out.trans0 hf9)
  clear hf9 A8 F8 CLC
  go_wp2_with (refine wpList_store_all rfl 30 (.tmp 18) (.tmp 94) rfl _ C.cells rfl rfl 30 noC.cells (At.nw rfl) (HIC.out C) rfl (cellz_all C) ?_; intro w10 hA10 hF10)
  have hga : Fr [] w9 (w9.alloc (.cells noC.cells 30)) := (by repeat (first | exact Fr.refl _ _ | assumption | refine Fr.trans0 ?_ (by assumption) | refine Fr.drewN ?_ _ | refine Fr.alloc ?_ _ | refine Fr.drew ?_))
  have hl9 := A9.out.lt
  have hs9 := F9.out.size
  have A10 := Lib.hid ((A9.out.fr0 hga).fr hF10 (by simp; omega) (by simp; omega) (by simp; omega) (by simp; omega))
  have F10 := Lib.hid ((F9.out.trans0 hga).trans hF10 (by simp; omega))
  clear hga hA10 hF10 A9 F9
  refine (number_any _ 1).mono ?_
  rintro e w11 ⟨rfl, hf11⟩
  have A11 := Lib.hid (A10.out.fr0 hf11)
  have F11 := Lib.hid (F10.out.trans0 hf11)
  clear hf11 A10 F10
  have CSC := astorec_b _ _ _ _ _ _ _ _ A11.out a ha (numZ 1) ⟨by decide, by decide, by decide, by decide, by decide, by decide, by decide⟩
  have hl12 := scL_len B8 a (numZ 1)
  have hun : unB (scL B8 a (numZ 1)) (scF B8 f8 a (numZ 1)) a = false := by
    unfold unB
    rw [hl12]
    cases hwb : whB B8.length a
    · rw [Bool.false_and]
    · rw [scF_at B8 f8 a (numZ 1) hwb]; rfl
  rw [HL8.out, HB3.out] at CSC
  obtain ⟨B12, hB12⟩ : ∃ B, scL B8 a (numZ 1) = B := ⟨_, rfl⟩
  obtain ⟨f12, hF12⟩ : ∃ B, scF B8 f8 a (numZ 1) = B := ⟨_, rfl⟩
  rw [hB12, hF12] at CSC hun
  have HUN := Lib.hid hun
  clear hB12 hF12 hl12 hun
  go_wp2_with fail
  refine CSC.mono ?_
  rintro e w12 ⟨rfl, h12, hf12⟩
  have F12 := Lib.hid (F11.out.trans hf12 (by simp; omega))
  have CU := auntag_any _ _ _ _ _ _ _ _ h12 a ha
  rw [HUN.out] at CU
  have HCU := Lib.hid CU
  have hln := HLn.out
  clear h12 hf12 A11 F11 CSC CU
  cases B2
  · go_wp2_with fail
    refine HCU.out.mono ?_
    rintro e w13 ⟨rfl, -, hf13⟩
    go_wp2_with fail
    go_ret
    exact ⟨rfl, F12.out.trans hf13 (by simp; omega)⟩
  · have hS : S.size = n := hln rfl
    go_wp2_with fail
    refine HCU.out.mono ?_
    rintro e w13 ⟨rfl, -, hf13⟩
    go_wp2_with fail
    go_ret
    exact ⟨rfl, F12.out.trans hf13 (by simp; omega)⟩
theorem walk (a0 : Int) (w0 : (Lit.int .u32 a0).wf = true) (a1 : Int) (w1 : (Lit.int .i64 a1).wf = true) (a2 : Int) (w2 : (Lit.int .u16 a2).wf = true) (w : World) :
    Calls Try.prog 5 #[.int .u32 a0, .int .i64 a1, .int .u16 a2] w fun e w' => e = .returned (.bool true) ∧ Fr [] w w' := by
  have b0 := bounds_u32 w0
  have b1 := bounds_i64 w1
  have b2 := bounds_u16 w2
  obtain ⟨a, rfl⟩ := Int.eq_ofNat_of_zero_le b0.1
  obtain ⟨n, rfl⟩ := Int.eq_ofNat_of_zero_le b2.1
  exact walk_n a (by omega) a1 (by omega) (by omega) n (by omega) w
theorem laidOut : laidOutB Try.prog = true := by kernel_rfl
set_option maxRecDepth 100000 in
theorem lifted (os : Os) (started : os.Started) (H : Type) (enc : TypeId × Value → H) :
    ReturnsInHanded {} Try.checked os 5 .any (Rows.arenaEndsSpec.pre6 enc Try.prog Try.f5 Rows.arenaEndsRow.domain false) (Rows.arenaEndsSpec.post enc Try.prog Try.f5 false true false false) := by
  refine returnsInHanded_of_change (C := Try.checked) own started (by kernel_rfl) Try.func5
    (ChangeSpec.witness6 (enc := enc) (C := Try.checked) false ⟨#[], #[.int .u32 0, .int .i64 0, .int .u16 0], []⟩ 8 (by kernel_rfl) (by kernel_rfl) (by kernel_rfl) (by kernel_rfl)) ?_
  intro W base args ds gs before hval0 hW hcnd _
  have hval : ∀ (j : Nat) t v, Try.f5.params[j]? = some t → args[j]? = some v → Value.okWide Try.prog W .any base t v := hval0
  have hW' := hW
  obtain ⟨p, q, hA0, hV, rfl, hfz, hnd⟩ := hW
  have hA : DataW.TrodAll enc Try.prog W 0 (fun _ => true) true Try.f5.params.toList args.toList ds p := hA0
  rw [Try.params5] at hA hval
  obtain ⟨v0, vs0, d0, ds0, p0, q0, hargs, rfl, rfl, h0, r0⟩ := trodAll_cons hA
  obtain ⟨v1, vs1, d1, ds1, p1, q1, rfl, rfl, rfl, h1, r1⟩ := trodAll_cons r0
  obtain ⟨v2, vs2, d2, ds2, p2, q2, rfl, rfl, rfl, h2, r2⟩ := trodAll_cons r1
  obtain ⟨rfl, rfl, rfl⟩ := trodAll_nil r2
  obtain rfl : args = #[v0, v1, v2] := by cases args; simp_all
  obtain ⟨rfl, rfl⟩ := trodVars_none hV
  obtain ⟨a0, rfl, rfl, rfl, w0⟩ := open_int Try.underlying28 (hval 0 28 v0 rfl rfl) h0
  obtain ⟨a1, rfl, rfl, rfl, w1⟩ := open_int Try.underlying3 (hval 1 3 v1 rfl rfl) h1
  obtain ⟨a2, rfl, rfl, rfl, w2⟩ := open_int Try.underlying27 (hval 2 27 v2 rfl rfl) h2
  clear hA0 hval0
  simp only [List.append_nil] at hW'
  refine (walk a0 w0 a1 w1 a2 w2 W ).mono fun e W' ⟨he, hg⟩ => ?_
  subst he
  exact ⟨_, rfl, post_fr (pa := []) (pv := []) hW' (fun _ _ _ => (trodAll_cons_mk (shut_bool Try.underlying4 _) trodAll_mk0)) (fun sp _ => (trodAll_cons_mk (shut_int Try.underlying28 w0) (trodAll_cons_mk (shut_int Try.underlying3 w1) (trodAll_cons_mk (shut_int Try.underlying27 w2) trodAll_mk0)))) (fun _ _ => rfl) rfl
    hg (ok_one (by kernel_rfl) rfl (okWide_bool_mk Try.underlying4 _))⟩
theorem over : Rows.arenaEndsRow.holds Try.pinned (OpenSpec.ofChange Rows.arenaEndsSpec) :=
  OpenClaim.holds_of_wide 5 Try.f5 rfl rfl rfl rfl rfl rfl rfl ⟨rfl, rfl, rfl, rfl, rfl⟩ rfl rfl rfl rfl rfl (by kernel_rfl) Try.func5 (by kernel_rfl)
    (of_decide_eq_true (by kernel_rfl)) (by unfold Func.isWrapper; first | (rw [if_pos (by decide +kernel)]; kernel_rfl) | (rw [if_neg (by decide +kernel)]; exact ⟨rfl, rfl⟩))
    (fun os started H enc _ => lifted os started H enc)
/-- The statement, proved. -/
theorem proved : Rows.ArenaEndsSaid :=
  over
end arenaEnds
end Go.Proofs.Ytfgmcoepldekaaa
