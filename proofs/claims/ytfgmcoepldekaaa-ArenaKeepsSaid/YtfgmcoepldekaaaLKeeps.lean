/-
  ArenaKeeps: a capability that is sound is loaded as it was stored, till a byte of it is stored; and a number at an address as it was, whatever is stored elsewhere. No condition.
-/





import Derived.Test.YtfgmcoepldekaaaBoth
import Derived.Test.YtfgmcoepldekaaaArgs
import Derived.Deep.CutBlock
import Derived.Deep.DeepCutAuto
import Derived.BigRegion
set_option linter.unusedVariables false
namespace Go.Proofs.Ytfgmcoepldekaaa
open Go.ChangeShapes Go.WideShapes Go.ChangeAt Go.RowKit
namespace arenaKeeps
/-- What of a capability is kept. -/
def keepC (c : Cp) : Cp := { c with rs := c.rs % 16777216, v := c.v && soundB c }
theorem keepC_ok (c : Cp) (h : c.Ok) : (keepC c).Ok := ⟨h.cur, h.e, h.b, h.t, h.pm, h.ty, by show c.rs % 16777216 < _; omega⟩
theorem keepC_sound (c : Cp) : ((keepC c).v && soundB (keepC c)) = (keepC c).v := by
  cases hv : (keepC c).v
  · rfl
  · have h : (c.v && soundB c) = true := hv
    rw [Bool.and_eq_true] at h
    have hs := (soundB_iff c).1 h.2
    have : soundB (keepC c) = true := (soundB_iff _).2 ⟨hs.1, hs.2.1, hs.2.2.1, hs.2.2.2.1, hs.2.2.2.2.1, by show c.rs % 16777216 < _; omega⟩
    rw [this]; rfl
theorem keepC_back (c : Cp) (h : c.Ok) : ofB (bytesC (keepC c)) (keepC c).v = keepC c := by
  rw [ofB_bytes _ (keepC_ok c h) _ (by show c.rs % 16777216 < _; omega), keepC_sound]
theorem tag_far (bs : List Nat) (f : Nat → Bool) (p v h : Nat) (hp : p / 16 ≠ h) : wrF bs f p (le 1 v) h = f h := by
  unfold wrF
  split
  · rw [show (le 1 v).length = 1 from rfl, putF_get]
    have : ¬ (p / 16 ≤ h ∧ h ≤ (p + 1 - 1) / 16) := by omega
    by_cases h1 : p / 16 ≤ h
    · rw [decide_eq_true h1, decide_eq_false (by omega)]; simp
    · rw [decide_eq_false h1]; simp
  · rfl
theorem tag_gone (bs : List Nat) (f : Nat → Bool) (h v : Nat) (hh : 16 * h + 16 ≤ bs.length) : wrF bs f (16 * h + 15) (le 1 v) h = false := by
  unfold wrF
  rw [show (le 1 v).length = 1 from rfl, if_pos ⟨by omega, by omega⟩, putF_get, decide_eq_true (by omega), decide_eq_true (by omega)]
  simp
set_option maxHeartbeats 2000000 in
set_option maxRecDepth 100000 in
theorem walk_n (c : Cp) (hok : c.Ok) (a0 a1 : Nat) (ha0 : a0 < 256) (ha1 : a1 < 256) (x : Option Addr) (n lc : Nat) (zs : List Int) (w : World) (wI : Ints .u16 w x n zs) :
    Calls Try.prog 4 #[.agg c.cells, .agg #[.int .u8 a0, .int .u8 a1], .slice x n lc] w fun e w' => e = .returned (.bool true) ∧ Fr [] w w' := by
  have HWI := Lib.hid wI
  have CS := Lib.hid fun W => sound_any W c hok
  have K0 := Lib.hid (keepC_ok c hok)
  have K1 := Lib.hid (keepC_sound c)
  have K2 := Lib.hid (keepC_back c hok)
  have hrs := hok.rs
  have A0 := Lib.hid ((At.new w 30 c.cells).old (.cells #[.int .u8 a0, .int .u8 a1] 39))
  have A1 := Lib.hid (At.nw (w := w.alloc (.cells c.cells 30)) (g := w.heap.size + 1) (t := 39) (cs := #[.int .u8 a0, .int .u8 a1]) (by simp only [World.size_alloc]))
  have F0 := Lib.hid (show Fr [] w ((w.alloc (.cells c.cells 30)).alloc (.cells #[.int .u8 a0, .int .u8 a1] 39)) from (by repeat (first | exact Fr.refl _ _ | assumption | refine Fr.trans0 ?_ (by assumption) | refine Fr.drewN ?_ _ | refine Fr.alloc ?_ _ | refine Fr.drew ?_)))
  have HIC := Lib.hid (show ∀ c : Cp, (Try.prog.info? 30).map (·.size) = some c.cells.size from fun c => by kernel_rfl)
  have l0 : (List.replicate 4096 0).length = 4096 := List.length_replicate
  obtain ⟨B0, hB0⟩ : ∃ B, List.replicate 4096 0 = B := ⟨_, rfl⟩
  have CL := Lib.hid fun W => lmade_any W
  rw [hB0] at l0
  simp only [hB0] at CL
  have HL0 := Lib.hid l0
  clear hB0 l0 wI
  go_enter Try.func4, Try.ntmps4
  go_wp2_with fail
  refine (CL.out _).mono ?_
  rintro e w2 ⟨ap, p, g, bg, cap, rfl, h2, p1, p2, p3, p4, hf2⟩
  have hp : w.heap.size + 1 < ap ∧ w.heap.size + 1 < p ∧ w.heap.size + 1 < g ∧ w.heap.size + 1 < bg := by simp at p1 p2 p3 p4; omega
  obtain ⟨q1, q2, q3, q4⟩ := hp
  have A2 := Lib.hid h2
  have F2 := Lib.hid (F0.out.trans0 hf2)
  have C2 := Lib.hid (A0.out.fr hf2 (by simp))
  have D2 := Lib.hid (A1.out.fr hf2 (by simp))
  clear h2 hf2 CL A0 A1 F0 p1 p2 p3 p4
  go_wp2_with fail
  refine (works_any _).mono ?_
  rintro e w3 ⟨rfl, hf3⟩
  have A3 := Lib.hid (A2.out.fr0 hf3)
  have F3 := Lib.hid (F2.out.trans0 hf3)
  have C3 := Lib.hid (C2.out.fr hf3 (by simp))
  have D3 := Lib.hid (D2.out.fr hf3 (by simp))
  clear hf3 A2 F2 C2 D2
  go_upto_region 4 with (fail)
  go_cut [26] (fun s wx => s = .bool (c.v && soundB c) ∧ At wx w.heap.size 30 ({ c with v := c.v && soundB c } : Cp).cells ∧ Fr [w.heap.size] w3 wx)
  case first =>
    have cv : w3.cell? ⟨w.heap.size, 7, none⟩ = some (.bool c.v) := C3.out.cell 7
    have zv := C3.out.froz 7
    obtain ⟨sb, hsb⟩ : ∃ b, soundB c = b := ⟨_, rfl⟩
    have HSB := Lib.hid hsb
    rw [hsb] at CS
    obtain ⟨b, hb⟩ : ∃ b, c.v = b := ⟨_, rfl⟩
    have HB := Lib.hid hb
    rw [hb] at cv
    clear hsb hb
    cases b
    · go_wp2_with fail
      go_meet
      have e : (c.v && soundB c) = false := by rw [HB.out]; rfl
      rw [e]
      exact ⟨rfl, C3.out.set 7 (.bool false), (Fr.refl _ _).set (.inl (by simp)) _⟩
    · go_wp2_with (refine wpList_load_all rfl 30 (.tmp 3) rfl w.heap.size rfl 30 c.cells _ C3.out Try.underlying30 rfl (HIC.out c) ?_)
      refine (CS.out _).mono ?_
      rintro e w4 ⟨rfl, hf4⟩
      have C4 := Lib.hid (C3.out.fr hf4 (by simp))
      have cv4 := C4.out.cell 7
      have zv4 := C4.out.froz 7
      have hf4' := Lib.hid hf4
      clear cv zv hf4
      unfold Cp.cells at cv4
      simp only [List.getElem?_toArray, List.getElem?_cons_zero, List.getElem?_cons_succ] at cv4
      go_wp2_with fail
      go_meet
      have e : (c.v && soundB c) = sb := by rw [HB.out, HSB.out]; rfl
      rw [e]
      exact ⟨rfl, C4.out.set 7 (.bool sb), (hf4'.out.more (by simp)).set (.inl (by simp)) _⟩
  obtain ⟨h26, hC, hF⟩ := hcut
  subst h26
  rename World => w4
  have C4 := Lib.hid hC
  have A4 := Lib.hid (A3.out.fr hF (by simp; omega) (by simp; omega) (by simp; omega) (by simp; omega))
  have F4 := Lib.hid (F3.out.trans hF (by simp))
  have D4 := Lib.hid (D3.out.fr hF (by simp))
  have cr : w4.cell? ⟨w.heap.size, 6, none⟩ = some (.int .u32 c.rs) := hC.cell 6
  have zr := hC.froz 6
  clear hC hF A3 F3 C3 D3
  go_upto_region 6 with (fail)
  have C5 := C4.out.set 6 (.int .u32 ((c.rs % 16777216 : Nat) : Int))
  have C5 : At (w4.setCell ⟨w.heap.size, 6, none⟩ (.int .u32 ((c.rs % 16777216 : Nat) : Int))) w.heap.size 30 (keepC c).cells := C5
  have fs : Fr [w.heap.size] w4 (w4.setCell ⟨w.heap.size, 6, none⟩ (.int .u32 ((c.rs % 16777216 : Nat) : Int))) := (Fr.refl _ _).set (.inl (by simp)) _
  have A5 := Lib.hid (A4.out.fr fs (by simp; omega) (by simp; omega) (by simp; omega) (by simp; omega))
  have F5 := Lib.hid (F4.out.trans fs (by simp))
  have D5 := D4.out.fr fs (by simp)
  have d0 := D5.cell 0
  have d1 := D5.cell 1
  simp only [List.getElem?_toArray, List.getElem?_cons_zero, List.getElem?_cons_succ] at d0 d1
  have hce : (((c.rs % 16777216 : Nat) : Int)) = (c.rs : Int) % 16777216 := by omega
  rw [hce] at C5 fs A5 F5 D5 d0 d1
  obtain ⟨w5, hw5⟩ : ∃ W, w4.setCell ⟨w.heap.size, 6, none⟩ (.int .u32 ((c.rs : Int) % 16777216)) = W := ⟨_, rfl⟩
  rw [hw5] at C5 A5 F5 d0 d1 ⊢
  have C5 := Lib.hid C5
  obtain ⟨kc, hkc⟩ : ∃ k, keepC c = k := ⟨_, rfl⟩
  rw [hkc] at C5 K0 K1 K2
  clear hw5 fs A4 F4 C4 D4 D5 cr zr hce hkc CS
  obtain ⟨V, hV⟩ : ∃ V : Nat, 305419896 = V := ⟨_, rfl⟩
  have HV := Lib.hid hV
  have z1 : ((16 * a1 : Nat) : Int) = 16 * (a1 : Int) := by omega
  have z0 : ((16 * a0 : Nat) : Int) = 16 * (a0 : Int) := by omega
  have v0 : ((V : Nat) : Int) = 305419896 := by omega
  have Z0 := Lib.hid z0
  have Z1 := Lib.hid z1
  have CSt := Lib.hid fun W (hW : Fr [] w5 W) => astore_any W _ _ _ _ _ _ _ (A5.out.fr0 hW) (16 * a1) (by omega) 4 V (by omega) (by omega)
  rw [z1, v0, HL0.out, decide_eq_true (by omega), wrF_false] at CSt
  have lb6 : (wrL B0 (16 * a1) (le 4 V)).length = 4096 := by rw [wrL_len]; exact HL0.out
  have sb6 : sub (wrL B0 (16 * a1) (le 4 V)) (16 * a1) 4 = le 4 V := wrL_sub _ _ _ (by rw [le_len, HL0.out]; omega) 4 (by rw [le_len])
  obtain ⟨B6, hB6⟩ : ∃ b, wrL B0 (16 * a1) (le 4 V) = b := ⟨_, rfl⟩
  rw [hB6] at CSt lb6 sb6
  have HL6 := Lib.hid lb6
  have HS6 := Lib.hid sb6
  clear z0 z1 v0 hV lb6 sb6 hB6
  go_region
  have fd : Fr [] w5 w5.drew := (Fr.refl _ _).drew
  by_cases h01 : a0 = a1
  · subst h01
    go_wp2_with fail
    go_ret
    exact ⟨rfl, (F5.out.trans0 fd)⟩
  · have hne : (16 * (a0 : Int) == 16 * (a1 : Int)) = false := by simp; omega
    go_wp2_with fail
    refine (CSt.out _ fd).mono ?_
    rintro e w6 ⟨rfl, h6, hf6⟩
    have A6 := Lib.hid h6
    have F6 := Lib.hid ((F5.out.trans0 fd).trans hf6 (by simp; omega))
    have C6 := Lib.hid ((C5.out.fr fd (by simp)).fr hf6 (by simp; omega))
    clear h6 hf6 fd A5 F5 C5 CSt d0 d1
    have CSC := astorec_yes _ _ _ _ _ _ _ _ A6.out (16 * a0) (by omega) (by rw [HL6.out]; omega) kc K0.out
    have l7 : (wrL B6 (16 * a0) (bytesC kc)).length = 4096 := by rw [wrL_len]; exact HL6.out
    have s7 : sub (wrL B6 (16 * a0) (bytesC kc)) (16 * a0) 16 = bytesC kc := wrL_sub _ _ _ (by rw [bytesC_len, HL6.out]; omega) 16 (by rw [bytesC_len])
    have r7 : sub (wrL B6 (16 * a0) (bytesC kc)) (16 * a1) 4 = le 4 V := by rw [wrL_sub_far _ _ _ _ _ (by rw [bytesC_len]; omega)]; exact HS6.out
    have f7 : stF B6 (fun _ => false) (16 * a0) kc a0 = kc.v := by
      unfold stF upd
      rw [if_pos (by omega), K1.out]
    obtain ⟨B7, hB7⟩ : ∃ b, wrL B6 (16 * a0) (bytesC kc) = b := ⟨_, rfl⟩
    obtain ⟨g7, hg7⟩ : ∃ b, stF B6 (fun _ => false) (16 * a0) kc = b := ⟨_, rfl⟩
    rw [Z0.out, hB7, hg7] at CSC
    rw [hB7] at l7 s7 r7
    rw [hg7] at f7
    have HCSC := Lib.hid CSC
    have HI := Lib.hid (And.intro l7 (And.intro s7 (And.intro r7 f7)))
    clear CSC l7 s7 r7 f7 hB7 hg7
    go_wp2_with (refine wpList_load_all rfl 30 (.tmp 3) rfl w.heap.size rfl 30 kc.cells _ C6.out Try.underlying30 rfl (HIC.out kc) ?_)
    refine (HCSC.out).mono ?_
    rintro e w7 ⟨rfl, h7, hf7⟩
    have A7 := Lib.hid h7
    have F7 := Lib.hid (F6.out.trans hf7 (by simp; omega))
    have C7 := Lib.hid (C6.out.fr hf7 (by simp; omega))
    clear h7 hf7 A6 F6 C6 HCSC
    go_wp2_with fail
    go_loopw [10] (fun i wr => ∃ (j : Nat) (bs : List Nat) (f : Nat → Bool), j ≤ 30 ∧ i = .int .i64 j ∧ Ar wr ap p g bg cap bs f ∧ (bs.length = 4096 ∧ sub bs (16 * a0) 16 = bytesC kc ∧ sub bs (16 * a1) 4 = le 4 V ∧ f a0 = kc.v) ∧ At wr w.heap.size 30 kc.cells ∧ Fr [] w wr) (fun i _ => 30 - (intOf i).toNat)
    case atStart => exact ⟨0, B7, g7, by omega, rfl, A7.out, HI.out, C7.out, F7.out⟩
    case round =>
      clear A7 F7 C7 HI HS6 HL6 HL0
      obtain ⟨j, bs, f, hj, rfl, hA, ⟨hl, hs0, hs1, hf0⟩, hC, hF⟩ := hrel
      have A := Lib.hid hA
      have C := Lib.hid hC
      have F := Lib.hid hF
      have HL := Lib.hid hl
      have HS0 := Lib.hid hs0
      have HS1 := Lib.hid hs1
      have HF0 := Lib.hid hf0
      clear hA hC hF hl hs0 hs1 hf0
      have hd0 : 16 * (a0 : Int) / 16 = (a0 : Int) := by omega
      have hd1 : 16 * (a1 : Int) / 16 = (a1 : Int) := by omega
      by_cases hjn : j < n ∧ j < 30
      · obtain ⟨hj1, hj2⟩ := hjn
        obtain ⟨b, off, rfl, hbl, hcl⟩ := HWI.out.2.2.2.resolve_left (by omega)
        have cz := (F.out.cell (a := ⟨b, off + j, none⟩) hbl (by simp)).trans (hcl j hj1)
        have hzm : zs.getD j 0 ∈ zs := by
          rw [List.getD_eq_getElem?_getD, List.getElem?_eq_getElem (by rw [HWI.out.2.1]; exact hj1)]
          exact List.getElem_mem _
        have hzb := bounds_u16 (HWI.out.2.2.1 _ hzm)
        obtain ⟨z, hz⟩ : ∃ z : Nat, zs.getD j 0 = (z : Int) := ⟨(zs.getD j 0).toNat, by omega⟩
        rw [hz] at cz hzb
        clear hz hzm hcl
        have hjI : (j : Int) < 30 := by omega
        by_cases hp0 : z % 4096 / 16 = a0
        · have e0 : ((z : Int) % 4096 / 16 != (a0 : Int)) = false := by simp; omega
          go_wp2_with fail
          go_roundw
          case rel => exact ⟨j + 1, bs, f, by omega, by go_num, A.out, ⟨HL.out, HS0.out, HS1.out, HF0.out⟩, C.out, F.out⟩
          case measure => simp [intOf]; omega
        · have e0 : ((z : Int) % 4096 / 16 != (a0 : Int)) = true := by simp; omega
          by_cases hp1 : z % 4096 / 16 = a1
          · have e1 : ((z : Int) % 4096 / 16 != (a1 : Int)) = false := by simp; omega
            go_wp2_with fail
            go_roundw
            case rel => exact ⟨j + 1, bs, f, by omega, by go_num, A.out, ⟨HL.out, HS0.out, HS1.out, HF0.out⟩, C.out, F.out⟩
            case measure => simp [intOf]; omega
          · have e1 : ((z : Int) % 4096 / 16 != (a1 : Int)) = true := by simp; omega
            have CS1 := astore_any _ _ _ _ _ _ _ _ A.out (z % 4096) (by omega) 1 z (by omega) (by omega)
            rw [HL.out, decide_eq_true (by omega), show ((z % 4096 : Nat) : Int) = (z : Int) % 4096 by omega] at CS1
            have HCS := Lib.hid CS1
            clear CS1
            go_wp2_with fail
            refine HCS.out.mono ?_
            rintro e w8 ⟨rfl, h8, hf8⟩
            have A8 := Lib.hid h8
            have C8 := Lib.hid (C.out.fr hf8 (by simp; omega))
            have F8 := Lib.hid (F.out.trans hf8 (by simp; omega))
            clear h8 hf8 HCS
            go_wp2_with fail
            go_roundw
            case rel =>
              refine ⟨j + 1, _, _, by omega, by go_num, A8.out, ⟨by rw [wrL_len]; exact HL.out, ?_, ?_, ?_⟩, C8.out, F8.out⟩
              · rw [wrL_sub_far _ _ _ _ _ (by rw [le_len]; omega)]; exact HS0.out
              · rw [wrL_sub_far _ _ _ _ _ (by rw [le_len]; omega)]; exact HS1.out
              · rw [tag_far _ _ _ _ _ hp0]; exact HF0.out
            case measure => simp [intOf]; omega
      · by_cases hjn2 : j < n
        · obtain rfl : j = 30 := by omega
          have CLC := aloadc_yes _ _ _ _ _ _ _ _ A.out (16 * a0) (by omega) (by rw [HL.out]; omega)
          rw [show (bs.drop (16 * a0)).take 16 = sub bs (16 * a0) 16 from rfl, HS0.out, show 16 * a0 / 16 = a0 by omega, HF0.out, K2.out, Z0.out] at CLC
          have HCL := Lib.hid CLC
          have CEQ := fun W => cap_eqz kc kc W rfl
          clear CLC
          go_wp2_with fail
          refine HCL.out.mono ?_
          rintro e w8 ⟨rfl, hf8⟩
          have A8 := Lib.hid (A.out.fr0 hf8)
          have C8 := Lib.hid (C.out.fr hf8 (by simp))
          have F8 := Lib.hid (F.out.trans0 hf8)
          clear hf8 A C F HCL
          go_wp2_with (refine wpList_store_all rfl 30 (.tmp 12) (.tmp 97) rfl _ kc.cells rfl rfl 30 noC.cells (At.nw rfl) (HIC.out kc) rfl (cellz_all kc) ?_; intro w9 hA9 hF9)
          have hga : Fr [] w8 (w8.alloc (.cells noC.cells 30)) := (by repeat (first | exact Fr.refl _ _ | assumption | refine Fr.trans0 ?_ (by assumption) | refine Fr.drewN ?_ _ | refine Fr.alloc ?_ _ | refine Fr.drew ?_))
          have hl8 := A8.out.lt
          have hc8 := C8.out.lt
          have hs8 := F8.out.size
          have A9 := Lib.hid ((A8.out.fr0 hga).fr hF9 (by simp; omega) (by simp; omega) (by simp; omega) (by simp; omega))
          have F9 := Lib.hid ((F8.out.trans0 hga).trans hF9 (by simp; omega))
          have C9 := Lib.hid ((C8.out.fr hga (by simp)).fr hF9 (by simp; omega))
          obtain ⟨q9, hq9⟩ : ∃ q, w8.heap.size = q := ⟨_, rfl⟩
          rw [hq9] at hA9 hl8 hc8 hs8 ⊢
          have Q9 := Lib.hid hA9
          clear hga hA9 hF9 hq9 A8 F8 C8
          have CLd := aload_yes _ _ _ _ _ _ _ _ A9.out (16 * a1) 4 (by omega) (by omega) (by rw [HL.out]; omega)
          rw [show (bs.drop (16 * a1)).take 4 = sub bs (16 * a1) 4 from rfl, HS1.out, unle_le, show V % 256 ^ 4 = V by have := HV.out; omega, Z1.out, show ((V : Nat) : Int) = 305419896 by have := HV.out; omega] at CLd
          have HCLd := Lib.hid CLd
          clear CLd
          refine HCLd.out.mono ?_
          rintro e w10 ⟨rfl, hf10⟩
          have A10 := Lib.hid (A9.out.fr0 hf10)
          have C10 := Lib.hid (C9.out.fr hf10 (by simp))
          have F10 := Lib.hid (F9.out.trans0 hf10)
          have Q10 := Lib.hid (Q9.out.fr hf10 (by simp))
          clear hf10 A9 C9 F9 Q9 HCLd
          have CS2 := astore_any _ _ _ _ _ _ _ _ A10.out (16 * a0 + 15) (by omega) 1 0 (by omega) (by omega)
          have hl11 : (wrL bs (16 * a0 + 15) (le 1 0)).length = 4096 := by rw [wrL_len]; exact HL.out
          have hg11 : wrF bs f (16 * a0 + 15) (le 1 0) a0 = false := tag_gone bs f a0 0 (by rw [HL.out]; omega)
          obtain ⟨B11, hB11⟩ : ∃ b, wrL bs (16 * a0 + 15) (le 1 0) = b := ⟨_, rfl⟩
          obtain ⟨g11, hG11⟩ : ∃ b, wrF bs f (16 * a0 + 15) (le 1 0) = b := ⟨_, rfl⟩
          rw [hB11, hG11, HL.out, decide_eq_true (by omega), show ((16 * a0 + 15 : Nat) : Int) = 16 * (a0 : Int) + 15 by omega] at CS2
          rw [hB11] at hl11
          rw [hG11] at hg11
          have HCS2 := Lib.hid CS2
          have HL11 := Lib.hid hl11
          have HG11 := Lib.hid hg11
          have hw15 : IntKind.u32.wrap (16 * (a0 : Int) + 15) = 16 * (a0 : Int) + 15 := by simp [IntKind.wrap, IntKind.signed, IntKind.bits]; omega
          clear CS2 hl11 hg11 hB11 hG11
          go_wp2_with (first | (refine wpList_load_all rfl 30 (.tmp 12) rfl q9 rfl 30 kc.cells _ Q10.out Try.underlying30 rfl (HIC.out kc) ?_) | (refine wpList_load_all rfl 30 (.tmp 3) rfl w.heap.size rfl 30 kc.cells _ C10.out Try.underlying30 rfl (HIC.out kc) ?_))
          refine HCS2.out.mono ?_
          rintro e w11 ⟨rfl, h11, hf11⟩
          have A11 := Lib.hid h11
          have F11 := Lib.hid (F10.out.trans hf11 (by simp; omega))
          clear h11 hf11 A10 C10 F10 Q10 HCS2
          have CL2 := aloadc_yes _ _ _ _ _ _ _ _ A11.out (16 * a0) (by omega) (by rw [HL11.out]; omega)
          rw [show 16 * a0 / 16 = a0 by omega, HG11.out, Z0.out] at CL2
          obtain ⟨E, hE⟩ : ∃ E, ofB ((B11.drop (16 * a0)).take 16) false = E := ⟨_, rfl⟩
          have hEv : E.v = false := by rw [← hE]; rfl
          rw [hE] at CL2
          have HCL2 := Lib.hid CL2
          clear CL2 hE
          go_wp2_with fail
          refine HCL2.out.mono ?_
          rintro e w12 ⟨rfl, hf12⟩
          have F12 := Lib.hid (F11.out.trans0 hf12)
          clear hf12 HCL2 A11 F11
          go_wp2_with (refine wpList_store_all rfl 30 (.tmp 16) (.tmp 128) rfl _ E.cells rfl rfl 30 noC.cells (At.nw rfl) (HIC.out E) rfl (cellz_all E) ?_; intro w13 hA13 hF13; have ce : w13.cell? ⟨w12.heap.size, 7, none⟩ = some (.bool E.v) := hA13.cell 7; rw [hEv] at ce)
          go_ret
          exact ⟨rfl, (F12.out.alloc _).trans hF13 (by have := F12.out.size; simp; omega)⟩
        · have hjI : ¬ (j : Int) < (n : Int) := by omega
          have CLC := aloadc_yes _ _ _ _ _ _ _ _ A.out (16 * a0) (by omega) (by rw [HL.out]; omega)
          rw [show (bs.drop (16 * a0)).take 16 = sub bs (16 * a0) 16 from rfl, HS0.out, show 16 * a0 / 16 = a0 by omega, HF0.out, K2.out, Z0.out] at CLC
          have HCL := Lib.hid CLC
          have CEQ := fun W => cap_eqz kc kc W rfl
          clear CLC
          go_wp2_with fail
          refine HCL.out.mono ?_
          rintro e w8 ⟨rfl, hf8⟩
          have A8 := Lib.hid (A.out.fr0 hf8)
          have C8 := Lib.hid (C.out.fr hf8 (by simp))
          have F8 := Lib.hid (F.out.trans0 hf8)
          clear hf8 A C F HCL
          go_wp2_with (refine wpList_store_all rfl 30 (.tmp 12) (.tmp 97) rfl _ kc.cells rfl rfl 30 noC.cells (At.nw rfl) (HIC.out kc) rfl (cellz_all kc) ?_; intro w9 hA9 hF9)
          have hga : Fr [] w8 (w8.alloc (.cells noC.cells 30)) := (by repeat (first | exact Fr.refl _ _ | assumption | refine Fr.trans0 ?_ (by assumption) | refine Fr.drewN ?_ _ | refine Fr.alloc ?_ _ | refine Fr.drew ?_))
          have hl8 := A8.out.lt
          have hc8 := C8.out.lt
          have hs8 := F8.out.size
          have A9 := Lib.hid ((A8.out.fr0 hga).fr hF9 (by simp; omega) (by simp; omega) (by simp; omega) (by simp; omega))
          have F9 := Lib.hid ((F8.out.trans0 hga).trans hF9 (by simp; omega))
          have C9 := Lib.hid ((C8.out.fr hga (by simp)).fr hF9 (by simp; omega))
          obtain ⟨q9, hq9⟩ : ∃ q, w8.heap.size = q := ⟨_, rfl⟩
          rw [hq9] at hA9 hl8 hc8 hs8 ⊢
          have Q9 := Lib.hid hA9
          clear hga hA9 hF9 hq9 A8 F8 C8
          have CLd := aload_yes _ _ _ _ _ _ _ _ A9.out (16 * a1) 4 (by omega) (by omega) (by rw [HL.out]; omega)
          rw [show (bs.drop (16 * a1)).take 4 = sub bs (16 * a1) 4 from rfl, HS1.out, unle_le, show V % 256 ^ 4 = V by have := HV.out; omega, Z1.out, show ((V : Nat) : Int) = 305419896 by have := HV.out; omega] at CLd
          have HCLd := Lib.hid CLd
          clear CLd
          refine HCLd.out.mono ?_
          rintro e w10 ⟨rfl, hf10⟩
          have A10 := Lib.hid (A9.out.fr0 hf10)
          have C10 := Lib.hid (C9.out.fr hf10 (by simp))
          have F10 := Lib.hid (F9.out.trans0 hf10)
          have Q10 := Lib.hid (Q9.out.fr hf10 (by simp))
          clear hf10 A9 C9 F9 Q9 HCLd
          have CS2 := astore_any _ _ _ _ _ _ _ _ A10.out (16 * a0 + 15) (by omega) 1 0 (by omega) (by omega)
          have hl11 : (wrL bs (16 * a0 + 15) (le 1 0)).length = 4096 := by rw [wrL_len]; exact HL.out
          have hg11 : wrF bs f (16 * a0 + 15) (le 1 0) a0 = false := tag_gone bs f a0 0 (by rw [HL.out]; omega)
          obtain ⟨B11, hB11⟩ : ∃ b, wrL bs (16 * a0 + 15) (le 1 0) = b := ⟨_, rfl⟩
          obtain ⟨g11, hG11⟩ : ∃ b, wrF bs f (16 * a0 + 15) (le 1 0) = b := ⟨_, rfl⟩
          rw [hB11, hG11, HL.out, decide_eq_true (by omega), show ((16 * a0 + 15 : Nat) : Int) = 16 * (a0 : Int) + 15 by omega] at CS2
          rw [hB11] at hl11
          rw [hG11] at hg11
          have HCS2 := Lib.hid CS2
          have HL11 := Lib.hid hl11
          have HG11 := Lib.hid hg11
          have hw15 : IntKind.u32.wrap (16 * (a0 : Int) + 15) = 16 * (a0 : Int) + 15 := by simp [IntKind.wrap, IntKind.signed, IntKind.bits]; omega
          clear CS2 hl11 hg11 hB11 hG11
          go_wp2_with (first | (refine wpList_load_all rfl 30 (.tmp 12) rfl q9 rfl 30 kc.cells _ Q10.out Try.underlying30 rfl (HIC.out kc) ?_) | (refine wpList_load_all rfl 30 (.tmp 3) rfl w.heap.size rfl 30 kc.cells _ C10.out Try.underlying30 rfl (HIC.out kc) ?_))
          refine HCS2.out.mono ?_
          rintro e w11 ⟨rfl, h11, hf11⟩
          have A11 := Lib.hid h11
          have F11 := Lib.hid (F10.out.trans hf11 (by simp; omega))
          clear h11 hf11 A10 C10 F10 Q10 HCS2
          have CL2 := aloadc_yes _ _ _ _ _ _ _ _ A11.out (16 * a0) (by omega) (by rw [HL11.out]; omega)
          rw [show 16 * a0 / 16 = a0 by omega, HG11.out, Z0.out] at CL2
          obtain ⟨E, hE⟩ : ∃ E, ofB ((B11.drop (16 * a0)).take 16) false = E := ⟨_, rfl⟩
          have hEv : E.v = false := by rw [← hE]; rfl
          rw [hE] at CL2
          have HCL2 := Lib.hid CL2
          clear CL2 hE
          go_wp2_with fail
          refine HCL2.out.mono ?_
          rintro e w12 ⟨rfl, hf12⟩
          have F12 := Lib.hid (F11.out.trans0 hf12)
          clear hf12 HCL2 A11 F11
          go_wp2_with (refine wpList_store_all rfl 30 (.tmp 16) (.tmp 128) rfl _ E.cells rfl rfl 30 noC.cells (At.nw rfl) (HIC.out E) rfl (cellz_all E) ?_; intro w13 hA13 hF13; have ce : w13.cell? ⟨w12.heap.size, 7, none⟩ = some (.bool E.v) := hA13.cell 7; rw [hEv] at ce)
          go_ret
          exact ⟨rfl, (F12.out.alloc _).trans hF13 (by have := F12.out.size; simp; omega)⟩
theorem fits2u {cs : List Value} (h : Fits [.i .u8, .i .u8] cs) : ∃ z0 z1 : Nat, cs = [.int .u8 z0, .int .u8 z1] ∧ z0 < 256 ∧ z1 < 256 := by
  obtain ⟨v0, c1, e0, ⟨z0, rfl, w0⟩, h1⟩ := h.cons
  obtain ⟨v1, c2, e1, ⟨z1, rfl, w1⟩, h2⟩ := h1.cons
  have b0 := bounds_u8 w0
  have b1 := bounds_u8 w1
  obtain ⟨n0, rfl⟩ := Int.eq_ofNat_of_zero_le b0.1
  obtain ⟨n1, rfl⟩ := Int.eq_ofNat_of_zero_le b1.1
  exact ⟨n0, n1, by rw [e0, e1, h2.nil], by omega, by omega⟩
theorem walk (cs0 cs1 : List Value) (a2 : Option Addr) (len2 cap2 : Nat) (z2 : List Int) (w : World) (w0 : Fits [.i .u32, .i .u8, .i .u16, .i .u16, .i .u16, .i .u16, .i .u32, .b] cs0) (w1 : Fits [.i .u8, .i .u8] cs1) (w2 : Ints .u16 w a2 len2 z2) :
    Calls Try.prog 4 #[.agg cs0.toArray, .agg cs1.toArray, .slice a2 len2 cap2] w fun e w' => e = .returned (.bool true) ∧ Fr [] w w' := by
  obtain ⟨c, rfl, hc⟩ := fitsC w0
  obtain ⟨x, y, rfl, k1, k2⟩ := fits2u w1
  exact walk_n c hc x y k1 k2 a2 len2 cap2 z2 w w2
theorem laidOut : laidOutB Try.prog = true := by kernel_rfl
set_option maxRecDepth 100000 in
theorem lifted (os : Os) (started : os.Started) (H : Type) (enc : TypeId × Value → H) :
    ReturnsInHanded {} Try.checked os 4 .any (Rows.arenaKeepsSpec.pre6 enc Try.prog Try.f4 Rows.arenaKeepsRow.domain false) (Rows.arenaKeepsSpec.post enc Try.prog Try.f4 false true false false) := by
  refine returnsInHanded_of_change (C := Try.checked) own started (by kernel_rfl) Try.func4
    (ChangeSpec.witness6 (enc := enc) (C := Try.checked) false ⟨#[], #[.agg #[.int .u32 0, .int .u8 0, .int .u16 0, .int .u16 0, .int .u16 0, .int .u16 0, .int .u32 0, .bool false], .agg #[.int .u8 0, .int .u8 0], .slice none 0 0], []⟩ 8 (by kernel_rfl) (by kernel_rfl) (by kernel_rfl) (by kernel_rfl)) ?_
  intro W base args ds gs before hval0 hW hcnd _
  have hval : ∀ (j : Nat) t v, Try.f4.params[j]? = some t → args[j]? = some v → Value.okWide Try.prog W .any base t v := hval0
  have hW' := hW
  obtain ⟨p, q, hA0, hV, rfl, hfz, hnd⟩ := hW
  have hA : DataW.TrodAll enc Try.prog W 0 (fun _ => true) true Try.f4.params.toList args.toList ds p := hA0
  rw [Try.params4] at hA hval
  obtain ⟨v0, vs0, d0, ds0, p0, q0, hargs, rfl, rfl, h0, r0⟩ := trodAll_cons hA
  obtain ⟨v1, vs1, d1, ds1, p1, q1, rfl, rfl, rfl, h1, r1⟩ := trodAll_cons r0
  obtain ⟨v2, vs2, d2, ds2, p2, q2, rfl, rfl, rfl, h2, r2⟩ := trodAll_cons r1
  obtain ⟨rfl, rfl, rfl⟩ := trodAll_nil r2
  obtain rfl : args = #[v0, v1, v2] := by cases args; simp_all
  obtain ⟨rfl, rfl⟩ := trodVars_none hV
  have k0 := h0
  have lt0 : ∀ x ∈ p0, x.block < W.heap.size := by obtain ⟨m, hm⟩ := k0; exact DataW.trod_lt m _ _ _ hm
  obtain ⟨cs0, rfl, w0⟩ := open_flat (n := 20) (by kernel_rfl : flat Try.prog 20 30 = some [.i .u32, .i .u8, .i .u16, .i .u16, .i .u16, .i .u16, .i .u32, .b]) (by kernel_rfl) (hval 0 30 v0 rfl rfl) h0
  have k1 := h1
  have lt1 : ∀ x ∈ p1, x.block < W.heap.size := by obtain ⟨m, hm⟩ := k1; exact DataW.trod_lt m _ _ _ hm
  obtain ⟨cs1, rfl, w1⟩ := open_flat (n := 20) (by kernel_rfl : flat Try.prog 20 39 = some [.i .u8, .i .u8]) (by kernel_rfl) (hval 1 39 v1 rfl rfl) h1
  obtain ⟨a2, len2, cap2, rfl⟩ := okWide_slice Try.underlying40 (hval 2 40 v2 rfl rfl)
  have k2 := h2
  have lt2 : ∀ x ∈ p2, x.block < W.heap.size := by obtain ⟨m, hm⟩ := k2; exact DataW.trod_lt m _ _ _ hm
  obtain ⟨z2, w2⟩ : ∃ zs, Ints .u16 W a2 len2 zs := by
    obtain ⟨fuel, hf⟩ := h2
    rcases open_ints Try.underlying40 Try.underlying27 (by kernel_rfl) hf with ⟨hcs, _⟩ | ⟨x, l, c, zs, hcs, _, hl, hm, hz, _, hcell, hwz⟩
    · simp [Value.cells] at hcs
      obtain ⟨rfl, rfl, rfl⟩ := hcs
      exact ⟨[], Ints.nil _⟩
    · simp [Value.cells] at hcs
      obtain ⟨rfl, rfl, rfl⟩ := hcs
      exact ⟨zs.take len2, Ints.of hl hm (by simpa using hz) hcell hwz⟩
  clear hA0 hval0
  refine (walk cs0 cs1 a2 len2 cap2 z2 W w0 w1 w2).mono fun e W' ⟨he, hg⟩ => ?_
  subst he
  have bel := hg.below
  exact ⟨_, rfl, _, _, _, [], _, [], hW', trodAll_mk1 (shut_bool Try.underlying4 _), (trodAll_cons_mk (Below.trod laidOut (by kernel_rfl) (of_decide_eq_true (by kernel_rfl)) k0 bel lt0) (trodAll_cons_mk (Below.trod laidOut (by kernel_rfl) (of_decide_eq_true (by kernel_rfl)) k1 bel lt1) (trodAll_cons_mk (Below.trod laidOut (by kernel_rfl) (of_decide_eq_true (by kernel_rfl)) k2 bel lt2) trodAll_mk0))), rfl, bel.frame _, fun h => by cases h⟩
theorem over : Rows.arenaKeepsRow.holds Try.pinned (OpenSpec.ofChange Rows.arenaKeepsSpec) :=
  OpenClaim.holds_of_wide 4 Try.f4 rfl rfl rfl rfl rfl rfl rfl ⟨rfl, rfl, rfl, rfl, rfl⟩ rfl rfl rfl rfl rfl (by kernel_rfl) Try.func4 (by kernel_rfl)
    (of_decide_eq_true (by kernel_rfl)) (by unfold Func.isWrapper; first | (rw [if_pos (by decide +kernel)]; kernel_rfl) | (rw [if_neg (by decide +kernel)]; exact ⟨rfl, rfl⟩))
    (fun os started H enc _ => lifted os started H enc)
/-- The statement, proved. -/
theorem proved : Rows.ArenaKeepsSaid :=
  over
end arenaKeeps
end Go.Proofs.Ytfgmcoepldekaaa
