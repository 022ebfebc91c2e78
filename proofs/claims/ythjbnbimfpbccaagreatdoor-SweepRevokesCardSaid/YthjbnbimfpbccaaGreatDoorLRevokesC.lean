/-
  SweepRevokes: whatever a program does between a sweep's steps, when it ends nobody holds a capability to what is let go. Condition: the table of math/bits is as the library lays it (the row lists it).
-/
import Derived.Test.YthjbnbimfpbccaaGreatDoorJ16









set_option linter.unusedVariables false
namespace Go.Proofs.YthjbnbimfpbccaaGreatDoor
open Go.ChangeShapes Go.WideShapes Go.ChangeAt Go.RowKit
namespace sweepRevokes
def bl (f : Nat → Bool) : Array Value := arr 32 fun j => .bool (f j)
theorem bl_get (f : Nat → Bool) (g : Nat) (hg : g < 32) : (bl f)[g]? = some (.bool (f g)) := arr_get 32 _ g hg
theorem bl_set (f : Nat → Bool) (g : Nat) (b : Bool) : (bl f).setIfInBounds g (.bool b) = bl (upd f g b) := by
  unfold bl
  rw [arr_set]
  refine arr_congr 32 _ _ fun j _ => ?_
  unfold upd
  by_cases e : j = g
  · rw [if_pos e, if_pos e]
  · rw [if_neg e, if_neg e]
theorem bl_size (f : Nat → Bool) : (bl f).size = 32 := arr_size 32 _
theorem infoBl (f : Nat → Bool) : (Tryz.prog.info? 94).map (·.size) = some (bl f).size := by rw [bl_size]; kernel_rfl
theorem bl_all (f : Nat → Bool) : (bl f).all (·.oneCell') = true := by
  rw [Array.all_eq_true_iff_forall_mem]
  intro v hv
  unfold bl arr at hv
  simp only [List.mem_toArray, List.mem_map] at hv
  obtain ⟨j, _, rfl⟩ := hv
  rfl
theorem mix_set (R R' : List Cp) (j : Nat) (C : Cp) (h : R'[j]? = some C) (hj : j < R.length) : (R'.take j ++ R.drop j).set j C = R'.take (j + 1) ++ R.drop (j + 1) := by
  have hl := (List.getElem?_eq_some_iff.1 h).1
  rw [List.set_append_right _ _ (by simp; omega), List.length_take, Nat.min_eq_left (by omega), Nat.sub_self, List.drop_eq_getElem_cons hj, List.set_cons_zero, List.take_add_one, h]
  simp
theorem bl_congr {f f' : Nat → Bool} (h : ∀ g, g < 32 → f g = f' g) : bl f = bl f' := arr_congr 32 _ _ fun j hj => by rw [h j hj]
def z4 : List Cp := List.replicate 4 noC
theorem zero4 (w : World) : (zeroValue 93).run Tryz.prog w = .ok (.agg (cat z4).toArray) w := by kernel_rfl
theorem zero32 (w : World) : (zeroValue 94).run Tryz.prog w = .ok (.agg (bl fun _ => false)) w := by kernel_rfl
theorem z4_ok : ∀ c ∈ z4, c.Ok := fun c hc => by
  rw [List.eq_of_mem_replicate hc]
  exact ⟨by decide, by decide, by decide, by decide, by decide, by decide, by decide⟩
theorem Rv.start : Rv 0 false z4 (fun _ => false) (fun _ => false) ⟨0, 0, fun _ => false, ⟨256, 0, false, [], []⟩, List.replicate 4096 0, fun _ => false, nohs⟩ := by
  refine ⟨rfl, rfl, rfl, List.length_replicate, Nat.le_refl _, ?_, rfl, z4_ok, fun r => ?_, fun r => ?_, (fun _ h => by cases h), fun _ _ _ => rfl, (fun h => by cases h), (fun h => by cases h), (fun h => by cases h)⟩
  · show 0 + cnt (fun _ => false) 16 ≤ _
    rw [cnt_none _ _ (fun _ _ => rfl)]
    exact Nat.zero_le _
  · constructor
    · intro h; cases h
    · rintro ⟨g, _, _, h, _⟩; cases h
  · constructor
    · intro h; cases h
    · rintro ⟨g, _, _, h⟩; cases h
def okB (c : Cp) : Bool := decide (c.cur < 4294967296) && decide (c.e < 256) && decide (c.b < 65536) && decide (c.t < 65536) && decide (c.pm < 65536) && decide (c.ty < 65536) && decide (c.rs < 4294967296)
theorem gr_cap (g : Nat) (hg : g < 32) : (ofC (2048 + 64 * g) 64).Ok ∧ (ofC (2048 + 64 * g) 64).base = ((2048 + 64 * g : Nat) : Int) := by
  obtain ⟨h1, h2, _, _⟩ := ofC_is (2048 + 64 * g) 64 (by omega) (by omega) (by omega)
  refine ⟨?_, h2⟩
  rw [h1]
  have h : ((List.range 32).all fun g => okB (mkC (2048 + 64 * g) 64 1)) = true := by decide +kernel
  have := List.all_eq_true.1 h g (List.mem_range.2 hg)
  unfold okB at this
  simp only [Bool.and_eq_true, decide_eq_true_eq] at this
  obtain ⟨⟨⟨⟨⟨⟨a1, a2⟩, a3⟩, a4⟩, a5⟩, a6⟩, a7⟩ := this
  exact ⟨a1, a2, a3, a4, a5, a6, a7⟩
/-- Everything together. -/
structure St (w wr : World) (i : Ids) (r6 q7 q8 k : Nat) (going : Bool) (R : List Cp) (fr tk : Nat → Bool) (x : Sm) : Prop where
  V : Rv k going R fr tk x
  O : On w wr i x
  R6 : At wr r6 93 (cat R).toArray
  Q7 : At wr q7 94 (bl fr)
  Q8 : At wr q8 94 (bl tk)
  lo : w.heap.size ≤ r6 ∧ w.heap.size ≤ q7 ∧ w.heap.size ≤ q8 ∧ q7 ≠ q8
section
variable {w wr w' : World} {i : Ids} {r6 q7 q8 k : Nat} {going : Bool} {R : List Cp} {fr tk : Nat → Bool} {x : Sm} (h : St w wr i r6 q7 q8 k going R fr tk x)
include h
theorem St.fr0 (f : Fr [] wr w') : St w w' i r6 q7 q8 k going R fr tk x := ⟨h.V, h.O.fr0 f, h.R6.fr f (by simp), h.Q7.fr f (by simp), h.Q8.fr f (by simp), h.lo⟩
theorem St.on {x' : Sm} (hV : Rv k going R fr tk x') (hO : On w w' i x') (hk : Kp wr w') : St w w' i r6 q7 q8 k going R fr tk x' :=
  ⟨hV, hO, hk.keep _ _ _ (by decide) h.R6, hk.keep _ _ _ (by decide) h.Q7, hk.keep _ _ _ (by decide) h.Q8, h.lo⟩
theorem St.reg {R' : List Cp} (hV : Rv k going R' fr tk x) (h6 : At w' r6 93 (cat R').toArray) (f : Fr [r6] wr w') : St w w' i r6 q7 q8 k going R' fr tk x := by
  have n7 : q7 ≠ r6 := h.Q7.diff h.R6 (by decide)
  have n8 : q8 ≠ r6 := h.Q8.diff h.R6 (by decide)
  exact ⟨hV, h.O.far h.R6 (by decide) h.lo.1 f, h6, h.Q7.fr f (by simpa using n7), h.Q8.fr f (by simpa using n8), h.lo⟩
theorem St.next : St w wr i r6 q7 q8 (k + 1) going R fr tk x := by
  obtain ⟨⟨a1, a2, a3, a4, a5, a6, a7, a8, a9, a10, a11, a12, a13, a14, a15⟩, b, c, d, e, f⟩ := h
  exact ⟨⟨a1, a2, a3, a4, by omega, a6, a7, a8, a9, a10, a11, a12, a13, a14, a15⟩, b, c, d, e, f⟩
end
/-- What was gathered so far: capabilities of which none is stale. -/
structure AllC (w0 wr : World) (hs : Int → Bool) (q7 q8 n bound ab : Nat) (A : List Cp) : Prop where
  len : A.length = n
  le : n ≤ bound
  at_ : CapsB wr ab A
  ok : ∀ c ∈ A, c.Ok ∧ stB hs c = false
  ne : ab ≠ q7 ∧ ab ≠ q8
  f : Fr [] w0 wr
theorem AllC.fr0 {w0 wr w' : World} {hs : Int → Bool} {q7 q8 n bound ab : Nat} {A : List Cp} (h : AllC w0 wr hs q7 q8 n bound ab A) (f : Fr [] wr w') : AllC w0 w' hs q7 q8 n bound ab A := ⟨h.len, h.le, h.at_.fr f (by simp), h.ok, h.ne, h.f.trans0 f⟩
theorem AllC.base {w0 w1 wr : World} {hs : Int → Bool} {q7 q8 n bound ab : Nat} {A : List Cp} (h : AllC w1 wr hs q7 q8 n bound ab A) (f : Fr [] w0 w1) : AllC w0 wr hs q7 q8 n bound ab A := ⟨h.len, h.le, h.at_, h.ok, h.ne, f.trans0 h.f⟩
theorem own_some {w : World} {b : Nat} {v : Value} {n : Nat} {xs : List Value} (h : w.ownsRow b 49 8 v (n + 1) xs) : ∃ g c, v = .slice (some ⟨g, 0, none⟩) (n + 1) c ∧ b ≤ g ∧ n + 1 ≤ c ∧ c ≤ maxLen := by
  rcases h.2 with ⟨_, h0⟩ | ⟨g, c, cur, hv, hb, _, h3, h4, _⟩
  · omega
  · exact ⟨g, c, hv, hb, h3, h4⟩
theorem built1c (w : World) (c : Cp) : (Instr.buildSlice 100 1 #[(0, .agg c.cells)]).run Tryz.prog w = .ok (.slice (some ⟨w.heap.size, 0, none⟩) 1 1) (w.alloc (.cells (cat [c]).toArray 49)) := by kernel_rfl
theorem bl_eq (w : World) : (Op.equalIn 10000 94 (.agg (bl fun _ => false)) (.agg (bl fun _ => false))).run Tryz.prog w = .ok true w := by kernel_rfl
theorem fitsDeed {cs : List Value} (h : Fits [.i .u8, .i .u8, .i .u16] cs) : ∃ a b c : Nat, cs = [.int .u8 (a : Int), .int .u8 (b : Int), .int .u16 (c : Int)] ∧ a < 256 ∧ b < 256 ∧ c < 65536 := by
  obtain ⟨v0, c1, rfl, ⟨z0, rfl, w0⟩, h1⟩ := h.cons
  obtain ⟨v1, c2, rfl, ⟨z1, rfl, w1⟩, h2⟩ := h1.cons
  obtain ⟨v2, c3, rfl, ⟨z2, rfl, w2⟩, h3⟩ := h2.cons
  rw [h3.nil]
  obtain ⟨b0, b1⟩ := bounds_u8 w0
  obtain ⟨b2, b3⟩ := bounds_u8 w1
  obtain ⟨b4, b5⟩ := bounds_u16 w2
  obtain ⟨a, rfl⟩ := Int.eq_ofNat_of_zero_le b0
  obtain ⟨b, rfl⟩ := Int.eq_ofNat_of_zero_le b2
  obtain ⟨c, rfl⟩ := Int.eq_ofNat_of_zero_le b4
  exact ⟨a, b, c, rfl, by omega, by omega, by omega⟩
set_option maxHeartbeats 8000000 in
set_option maxRecDepth 100000 in
theorem walk (a0 : Option Addr) (len0 cap0 : Nat) (w : World) (w0 : Elems w a0 len0 [.i .u8, .i .u8, .i .u16]) (hT : Tab w) :
    Calls Tryz.prog 6 #[.slice a0 len0 cap0] w fun e w' => e = .returned (.bool true) ∧ Fr [] w w' := by
  have hz4 := zero4
  have hz32 := zero32
  obtain ⟨hlen, hrec⟩ := w0
  have Hrec := Lib.hid hrec
  have HT := Lib.hid hT
  have HIC := Lib.hid (show ∀ c : Cp, (Tryz.prog.info? 49).map (·.size) = some c.cells.size from fun c => by kernel_rfl)
  have HCA := Lib.hid cellz_all
  have CB := Lib.hid (begun_any w hT)
  clear hrec hT
  go_enter Tryz.func6, Tryz.ntmps6
  go_wp2_with fail
  refine CB.out.mono ?_
  rintro e w1 ⟨i, rfl, hon, -⟩
  have O1 := Lib.hid hon
  clear hon CB
  go_wp2_with fail
  have hf4 : Fr [] w1 (((w1.alloc (.cells (cat z4).toArray 93)).alloc (.cells (bl fun _ => false) 94)).alloc (.cells (bl fun _ => false) 94)) := (by repeat (first | exact Fr.refl _ _ | assumption | refine Fr.trans0 ?_ (by assumption) | refine Fr.drewN ?_ _ | refine Fr.alloc ?_ _ | refine Fr.drew ?_))
  have a6 : At (((w1.alloc (.cells (cat z4).toArray 93)).alloc (.cells (bl fun _ => false) 94)).alloc (.cells (bl fun _ => false) 94)) w1.heap.size 93 (cat z4).toArray := At.old (At.old (At.new _ _ _) _) _
  have a7 : At (((w1.alloc (.cells (cat z4).toArray 93)).alloc (.cells (bl fun _ => false) 94)).alloc (.cells (bl fun _ => false) 94)) (w1.heap.size + 1) 94 (bl fun _ => false) := At.old (At.nw (by simp only [World.size_alloc])) _
  have a8 : At (((w1.alloc (.cells (cat z4).toArray 93)).alloc (.cells (bl fun _ => false) 94)).alloc (.cells (bl fun _ => false) 94)) (w1.heap.size + 1 + 1) 94 (bl fun _ => false) := At.nw (by simp only [World.size_alloc])
  obtain ⟨w4, hw4⟩ : ∃ W, ((w1.alloc (.cells (cat z4).toArray 93)).alloc (.cells (bl fun _ => false) 94)).alloc (.cells (bl fun _ => false) 94) = W := ⟨_, rfl⟩
  obtain ⟨r6, hr6⟩ : ∃ q, w1.heap.size = q := ⟨_, rfl⟩
  obtain ⟨q7, hq7⟩ : ∃ q, r6 + 1 = q := ⟨_, rfl⟩
  obtain ⟨q8, hq8⟩ : ∃ q, q7 + 1 = q := ⟨_, rfl⟩
  have hlo := O1.out.f.size
  rw [hw4] at hf4 a6 a7 a8 ⊢
  rw [hr6] at a6 a7 a8 hlo ⊢
  rw [hq7] at a7 a8 ⊢
  rw [hq8] at a8 ⊢
  have S4 : Hid (St w w4 i r6 q7 q8 0 false z4 (fun _ => false) (fun _ => false) ⟨0, 0, fun _ => false, ⟨256, 0, false, [], []⟩, List.replicate 4096 0, fun _ => false, nohs⟩) := Lib.hid ⟨Rv.start, O1.out.fr0 hf4, a6, a7, a8, by omega⟩
  clear hz4 hz32 hf4 a6 a7 a8 hw4 hr6 hq7 hq8 O1 hlo
  go_loopw [9, 10] (fun gv kv wr => ∃ (k : Nat) (going : Bool) (R : List Cp) (fr tk : Nat → Bool) (x : Sm), k ≤ len0 ∧ k ≤ 150 ∧ gv = .bool going ∧ kv = .int .i64 k ∧ St w wr i r6 q7 q8 k going R fr tk x) (fun _ kv _ => len0 - (intOf kv).toNat)
  case atStart => exact ⟨0, false, _, _, _, _, by omega, by omega, rfl, rfl, S4.out⟩
  case round =>
    clear S4
    obtain ⟨k, going, R, fr, tk, x, hk, hk150, rfl, rfl, hst⟩ := hrel
    have S1 := Lib.hid hst
    clear hst
    by_cases h1 : k < len0
    · by_cases h2 : k < 150
      · obtain ⟨b, off, rfl, hb, hcells⟩ := Hrec.out.resolve_left (by omega)
        obtain ⟨cs, hfit, hcs⟩ := hcells k h1
        obtain ⟨dw, dr, da, rfl, hdw, hdr, hda⟩ := fitsDeed hfit
        have FW := S1.out.O.f
        have c0 := (FW.cell (a := ⟨b, off + k * 3, none⟩) hb (by simp)).trans (hcs 0 (by simp))
        have c1 := (FW.cell (a := ⟨b, off + k * 3 + 1, none⟩) hb (by simp)).trans (hcs 1 (by simp))
        have c2 := (FW.cell (a := ⟨b, off + k * 3 + 2, none⟩) hb (by simp)).trans (hcs 2 (by simp))
        simp only [List.getElem?_cons_zero, List.getElem?_cons_succ] at c0 c1 c2
        clear hcs hcells hfit FW hb
        obtain ⟨r, hr⟩ : ∃ r, dr % 4 = r := ⟨_, rfl⟩
        obtain ⟨g, hg⟩ : ∃ g, da % 32 = g := ⟨_, rfl⟩
        obtain ⟨j, hj⟩ : ∃ j, da % 2048 / 16 = j := ⟨_, rfl⟩
        obtain ⟨wt, hwt⟩ : ∃ wt, dw % 8 = wt := ⟨_, rfl⟩
        obtain ⟨G, hG⟩ : ∃ G, 2048 + 64 * g = G := ⟨_, rfl⟩
        obtain ⟨A, hA⟩ : ∃ A, 16 * j = A := ⟨_, rfl⟩
        have er : (dr : Int) % 4 = (r : Int) := by omega
        have eg : (da : Int) % 32 = (g : Int) := by omega
        have ej : (da : Int) % 2048 / 16 * 16 = (A : Int) := by omega
        have ew : (dw : Int) % 8 = (wt : Int) := by omega
        have eG : 2048 + 64 * (g : Int) = (G : Int) := by omega
        have hr4 : r < 4 := by omega
        have hg32 : g < 32 := by omega
        have hj128 : j < 128 := by omega
        have hwt8 : wt < 8 := by omega
        have hGb : G < 4096 := by omega
        have hAb : A < 2048 := by omega
        have HJA := Lib.hid hA
        have HGG := Lib.hid hG
        clear hr hg hj hwt hG hA
        go_upto_region 55 with (fail)
        have hf2 : Fr [] wr ((wr.alloc (.cells #[.int .u8 dw, .int .u8 dr, .int .u16 da] 96)).alloc (.cells #[.int .u32 G, .int .u32 64] 45)) := (by repeat (first | exact Fr.refl _ _ | assumption | refine Fr.trans0 ?_ (by assumption) | refine Fr.drewN ?_ _ | refine Fr.alloc ?_ _ | refine Fr.drew ?_))
        have hB : At ((wr.alloc (.cells #[.int .u8 dw, .int .u8 dr, .int .u16 da] 96)).alloc (.cells #[.int .u32 G, .int .u32 64] 45)) (wr.heap.size + 1) 45 #[.int .u32 G, .int .u32 64] := At.nw (by simp only [World.size_alloc])
        obtain ⟨w2, hw2⟩ : ∃ W, (wr.alloc (.cells #[.int .u8 dw, .int .u8 dr, .int .u16 da] 96)).alloc (.cells #[.int .u32 G, .int .u32 64] 45) = W := ⟨_, rfl⟩
        obtain ⟨q14, hq14⟩ : ∃ q, wr.heap.size + 1 = q := ⟨_, rfl⟩
        obtain ⟨q11, hq11⟩ : ∃ q, wr.heap.size = q := ⟨_, rfl⟩
        rw [hw2] at hf2 hB ⊢
        rw [hq14] at hB ⊢
        rw [hq11] at ⊢
        have S2 := Lib.hid (S1.out.fr0 hf2)
        have B2 := Lib.hid hB
        clear hf2 hB hw2 hq14 hq11 S1 c0 c1 c2 er eg ej eG hdw hdr hda
        rename World => wp
        rcases (show wt = 0 ∨ wt = 1 ∨ wt = 2 ∨ wt = 3 ∨ wt = 4 ∨ 5 ≤ wt by omega) with hwc | hwc | hwc | hwc | hwc | hwc
        · as_aux_lemma =>
            have t0 : ((dw : Int) % 8 == 0) = true := by rw [ew]; simp; omega
            clear hwt8 hwc ew
            obtain ⟨P, hP⟩ : ∃ P, j / 16 = P := ⟨_, rfl⟩
            have ep : (A : Int) / 256 = (P : Int) := by have := HJA.out; omega
            have hP16 : P < 16 := by omega
            have HPJ := Lib.hid hP
            clear hP
            cases going with
            | false =>
              have CO := Lib.hid (on_old S2.out.O (by rw [S2.out.V.st]; simp) P)
              rw [show decide (x.st ≠ 0) = false by rw [S2.out.V.st]; rfl, Bool.false_and] at CO
              go_wp2_with fail
              refine CO.out.mono ?_
              rintro e w' ⟨rfl, rfl⟩
              clear CO
              have S3 := S2
              have HF3 := Lib.hid (show false = true → x.F (j / 16) = false from fun e => by cases e)
              obtain ⟨x3, hx3⟩ : ∃ y, y = x := ⟨_, rfl⟩
              subst hx3
              clear S2
              have HVL := Lib.hid (S3.out.V.load (r := r) S3.out.O.byt hj128 HF3.out)
              have CL := Lib.hid (on_loadc S3.out.O A (by omega))
              rw [HJA.out] at HVL
              rw [HVL.out.2] at CL
              obtain ⟨C, hC⟩ : ∃ C, ldC x3.bs x3.f A = C := ⟨_, rfl⟩
              rw [hC] at CL HVL
              clear hC
              go_wp2_with fail
              refine CL.out.mono ?_
              rintro e w4 ⟨rfl, hf4⟩
              have S4 := Lib.hid (S3.out.fr0 hf4)
              clear hf4 CL S3
              go_upto_region 60 with (refine wpList_store_all rfl 49 (.tmp 17) (.tmp 232) rfl _ C.cells rfl rfl 49 noC.cells (At.nw rfl) (HIC.out C) rfl (HCA.out C) ?_; intro w5 hA5 hF5)
              have hga : Fr [] w4 (w4.alloc (.cells noC.cells 49)) := (by repeat (first | exact Fr.refl _ _ | assumption | refine Fr.trans0 ?_ (by assumption) | refine Fr.drewN ?_ _ | refine Fr.alloc ?_ _ | refine Fr.drew ?_))
              have S5 := Lib.hid (S4.out.fr0 ((hga.more (T := [w4.heap.size]) (by simp)).trans hF5 (fun k hk => .inl hk) |>.more (T := []) (by simp)))
              have A5 := Lib.hid hA5
              have R5 := Lib.hid S5.out.R6
              have hRl := S5.out.V.rl
              obtain ⟨q17, hq17⟩ : ∃ q, w4.heap.size = q := ⟨_, rfl⟩
              rw [hq17] at A5 ⊢
              clear hga hA5 hF5 hq17 S4
              go_wp2_with (first
                | (refine wpList_load_all (by rfl) 49 (.tmp 17) rfl q17 rfl 49 C.cells _ A5.out Tryz.underlying49 rfl (HIC.out C) ?_)
                | (refine wpList_store_cap (by rfl) (.tmp 238) (.tmp 237) rfl r6 (r * 8) C rfl rfl 93 R R5.out r rfl (by omega) ?_; intro w6 h6 hf6))
              go_roundw
              case rel => exact ⟨k + 1, _, R.set r C, fr, tk, x3, by omega, by omega, rfl, by go_num, (S5.out.reg HVL.out.1 h6 hf6).next⟩
              case measure => simp [intOf]; omega
            | true =>
              have CO := Lib.hid (on_old S2.out.O (by rw [S2.out.V.st]; simp) P)
              rw [show decide (x.st ≠ 0) = true by rw [S2.out.V.st]; rfl, Bool.true_and, inR_nat _ _ hP16, Bool.true_and, Int.toNat_natCast] at CO
              cases hFP : x.F P with
              | false =>
                rw [hFP] at CO
                have HFP := Lib.hid hFP
                clear hFP
                go_wp2_with fail
                refine CO.out.mono ?_
                rintro e w' ⟨rfl, rfl⟩
                clear CO
                have HF3 := Lib.hid (show true = true → x.F (j / 16) = false from fun _ => by rw [HPJ.out]; exact HFP.out)
                have S3 := S2
                obtain ⟨x3, hx3⟩ : ∃ y, y = x := ⟨_, rfl⟩
                subst hx3
                clear S2
                have HVL := Lib.hid (S3.out.V.load (r := r) S3.out.O.byt hj128 HF3.out)
                have CL := Lib.hid (on_loadc S3.out.O A (by omega))
                rw [HJA.out] at HVL
                rw [HVL.out.2] at CL
                obtain ⟨C, hC⟩ : ∃ C, ldC x3.bs x3.f A = C := ⟨_, rfl⟩
                rw [hC] at CL HVL
                clear hC
                go_wp2_with fail
                refine CL.out.mono ?_
                rintro e w4 ⟨rfl, hf4⟩
                have S4 := Lib.hid (S3.out.fr0 hf4)
                clear hf4 CL S3
                go_upto_region 60 with (refine wpList_store_all rfl 49 (.tmp 17) (.tmp 232) rfl _ C.cells rfl rfl 49 noC.cells (At.nw rfl) (HIC.out C) rfl (HCA.out C) ?_; intro w5 hA5 hF5)
                have hga : Fr [] w4 (w4.alloc (.cells noC.cells 49)) := (by repeat (first | exact Fr.refl _ _ | assumption | refine Fr.trans0 ?_ (by assumption) | refine Fr.drewN ?_ _ | refine Fr.alloc ?_ _ | refine Fr.drew ?_))
                have S5 := Lib.hid (S4.out.fr0 ((hga.more (T := [w4.heap.size]) (by simp)).trans hF5 (fun k hk => .inl hk) |>.more (T := []) (by simp)))
                have A5 := Lib.hid hA5
                have R5 := Lib.hid S5.out.R6
                have hRl := S5.out.V.rl
                obtain ⟨q17, hq17⟩ : ∃ q, w4.heap.size = q := ⟨_, rfl⟩
                rw [hq17] at A5 ⊢
                clear hga hA5 hF5 hq17 S4
                go_wp2_with (first
                  | (refine wpList_load_all (by rfl) 49 (.tmp 17) rfl q17 rfl 49 C.cells _ A5.out Tryz.underlying49 rfl (HIC.out C) ?_)
                  | (refine wpList_store_cap (by rfl) (.tmp 238) (.tmp 237) rfl r6 (r * 8) C rfl rfl 93 R R5.out r rfl (by omega) ?_; intro w6 h6 hf6))
                go_roundw
                case rel => exact ⟨k + 1, _, R.set r C, fr, tk, x3, by omega, by omega, rfl, by go_num, (S5.out.reg HVL.out.1 h6 hf6).next⟩
                case measure => simp [intOf]; omega
              | true =>
                rw [hFP] at CO
                have CV := Lib.hid (on_visit_yes S2.out.O P hP16 hFP (by rw [S2.out.V.st]; rfl) (by have := S2.out.V.vis; have := S2.out.V.ep; omega))
                have HV := Lib.hid (S2.out.V.visit hP16 hFP)
                clear hFP
                go_wp2_with fail
                refine CO.out.mono ?_
                rintro e w' ⟨rfl, rfl⟩
                clear CO
                go_wp2_with fail
                refine CV.out.mono ?_
                rintro e w3 ⟨rfl, h3, k3⟩
                have S3 := Lib.hid (S2.out.on HV.out h3 k3)
                obtain ⟨x3, hx3⟩ : ∃ y : Sm, { x with vis := x.vis + 1, F := upd x.F P false, f := pgT x.bs x.hs x.f (tgP x.bs.length x.f P) } = y := ⟨_, rfl⟩
                rw [hx3] at S3
                have HF3 := Lib.hid (show true = true → x3.F (j / 16) = false from fun _ => by rw [← hx3]; show (upd x.F P false) (j / 16) = false; rw [HPJ.out]; unfold upd; rw [if_pos rfl])
                clear h3 k3 CV HV hx3 S2
                have HVL := Lib.hid (S3.out.V.load (r := r) S3.out.O.byt hj128 HF3.out)
                have CL := Lib.hid (on_loadc S3.out.O A (by omega))
                rw [HJA.out] at HVL
                rw [HVL.out.2] at CL
                obtain ⟨C, hC⟩ : ∃ C, ldC x3.bs x3.f A = C := ⟨_, rfl⟩
                rw [hC] at CL HVL
                clear hC
                go_wp2_with fail
                refine CL.out.mono ?_
                rintro e w4 ⟨rfl, hf4⟩
                have S4 := Lib.hid (S3.out.fr0 hf4)
                clear hf4 CL S3
                go_upto_region 60 with (refine wpList_store_all rfl 49 (.tmp 17) (.tmp 232) rfl _ C.cells rfl rfl 49 noC.cells (At.nw rfl) (HIC.out C) rfl (HCA.out C) ?_; intro w5 hA5 hF5)
                have hga : Fr [] w4 (w4.alloc (.cells noC.cells 49)) := (by repeat (first | exact Fr.refl _ _ | assumption | refine Fr.trans0 ?_ (by assumption) | refine Fr.drewN ?_ _ | refine Fr.alloc ?_ _ | refine Fr.drew ?_))
                have S5 := Lib.hid (S4.out.fr0 ((hga.more (T := [w4.heap.size]) (by simp)).trans hF5 (fun k hk => .inl hk) |>.more (T := []) (by simp)))
                have A5 := Lib.hid hA5
                have R5 := Lib.hid S5.out.R6
                have hRl := S5.out.V.rl
                obtain ⟨q17, hq17⟩ : ∃ q, w4.heap.size = q := ⟨_, rfl⟩
                rw [hq17] at A5 ⊢
                clear hga hA5 hF5 hq17 S4
                go_wp2_with (first
                  | (refine wpList_load_all (by rfl) 49 (.tmp 17) rfl q17 rfl 49 C.cells _ A5.out Tryz.underlying49 rfl (HIC.out C) ?_)
                  | (refine wpList_store_cap (by rfl) (.tmp 238) (.tmp 237) rfl r6 (r * 8) C rfl rfl 93 R R5.out r rfl (by omega) ?_; intro w6 h6 hf6))
                go_roundw
                case rel => exact ⟨k + 1, _, R.set r C, fr, tk, x3, by omega, by omega, rfl, by go_num, (S5.out.reg HVL.out.1 h6 hf6).next⟩
                case measure => simp [intOf]; omega
        · as_aux_lemma =>
            have t0 : ((dw : Int) % 8 == 0) = false := by rw [ew]; simp; omega
            have t1 : ((dw : Int) % 8 == 1) = true := by rw [ew]; simp; omega
            clear hwt8 hwc ew
            obtain ⟨C, hC⟩ : ∃ C, R[r]? = some C := ⟨_, List.getElem?_eq_getElem (by rw [S2.out.V.rl]; exact hr4)⟩
            have HVS := Lib.hid (S2.out.V.storec hj128 hC)
            rw [HJA.out] at HVS
            have CS := Lib.hid (on_storec S2.out.O A (by omega) C (S2.out.V.ok C (List.mem_of_getElem? hC)))
            rw [HVS.out.2] at CS
            have R2 := Lib.hid S2.out.R6
            have HC := Lib.hid hC
            clear hC
            go_wp2_with (refine wpList_load_cap (by rfl) (.tmp 244) rfl r6 (r * 8) rfl 93 R R2.out r rfl C HC.out ?_)
            refine CS.out.mono ?_
            rintro e w3 ⟨rfl, h3, k3⟩
            have S3 := Lib.hid ((S2.out.on HVS.out.1 h3 k3).next)
            clear h3 k3 CS
            go_wp2_with fail
            go_roundw
            case rel => exact ⟨k + 1, _, _, _, _, _, by omega, by omega, rfl, by go_num, S3.out⟩
            case measure => simp [intOf]; omega
        · as_aux_lemma =>
            have t0 : ((dw : Int) % 8 == 0) = false := by rw [ew]; simp; omega
            have t1 : ((dw : Int) % 8 == 1) = false := by rw [ew]; simp; omega
            have t2 : ((dw : Int) % 8 == 2) = true := by rw [ew]; simp; omega
            clear hwt8 hwc ew
            have cg := (S2.out.Q7.cell g).trans (bl_get fr g hg32)
            cases hfg : fr g with
            | true =>
              rw [hfg] at cg
              clear hfg
              go_wp2_with fail
              go_roundw
              case rel => exact ⟨k + 1, _, _, _, _, _, by omega, by omega, rfl, by go_num, S2.out.next⟩
              case measure => simp [intOf]; omega
            | false =>
              rw [hfg] at cg
              have HGC := Lib.hid (gr_cap g hg32)
              rw [HGG.out] at HGC
              have CO := Lib.hid fun W => of_anyC W G 64 (by omega) (by omega)
              obtain ⟨C, hC⟩ : ∃ C, ofC G 64 = C := ⟨_, rfl⟩
              rw [hC] at HGC CO
              have HVG := Lib.hid (S2.out.V.grant (r := r) hg32 hfg HGC.out.1 (by rw [HGG.out]; exact HGC.out.2))
              have b0 := B2.out.cell 0
              have b1 := B2.out.cell 1
              simp only [List.getElem?_toArray, List.getElem?_cons_zero, List.getElem?_cons_succ] at b0 b1
              have hRl := S2.out.V.rl
              clear hfg hC
              go_wp2_with fail
              refine (CO.out _).mono ?_
              rintro e w3 ⟨rfl, hf3⟩
              have S3 := Lib.hid (S2.out.fr0 hf3)
              have R3 := Lib.hid S3.out.R6
              clear hf3 CO
              go_wp2_with (refine wpList_store_cap (by rfl) (.tmp 260) (.tmp 259) rfl r6 (r * 8) C rfl rfl 93 R R3.out r rfl (by omega) ?_; intro w6 h6 hf6)
              go_roundw
              case rel => exact ⟨k + 1, _, _, _, _, _, by omega, by omega, rfl, by go_num, (S3.out.reg HVG.out h6 hf6).next⟩
              case measure => simp [intOf]; omega
        · as_aux_lemma =>
            have t0 : ((dw : Int) % 8 == 0) = false := by rw [ew]; simp; omega
            have t1 : ((dw : Int) % 8 == 1) = false := by rw [ew]; simp; omega
            have t2 : ((dw : Int) % 8 == 2) = false := by rw [ew]; simp; omega
            have t3 : ((dw : Int) % 8 == 3) = true := by rw [ew]; simp; omega
            clear hwt8 hwc ew
            have HFB := Lib.hid (S2.out.V.frB_is hg32)
            have HVF := Lib.hid (S2.out.V.free hg32)
            rw [HGG.out] at HFB HVF
            have CF := Lib.hid fun W (hW : Fr [] wp W) => on_free (S2.out.O.fr0 hW) G 64 (by omega) (by omega)
            rw [HFB.out] at CF
            obtain ⟨fb, hfb⟩ : ∃ fb, fr g = fb := ⟨_, rfl⟩
            rw [hfb] at CF
            have HFG := Lib.hid hfb
            have he : ((!fb) == fb) = false := by cases fb <;> rfl
            have hgi0 : (0 : Int) ≤ (g : Int) := by omega
            have hgi : (g : Int) < 32 := by omega
            have Q2 := Lib.hid S2.out.Q7
            clear hfb
            go_upto_region 70 with (fail)
            have b0 := B2.out.cell 0
            have b1 := B2.out.cell 1
            simp only [List.getElem?_toArray, List.getElem?_cons_zero, List.getElem?_cons_succ] at b0 b1
            refine wp_region_L (fun W => At W q7 94 (bl fr)) [] (by kernel_rfl) (Q2.out.hp rfl) (fun hHeld => ?_)
            refine wpAnyL_take (i := 0) (v := ?_) rfl (by kernel_rfl) (fun _ _ _ h => h) (Or.inl ⟨by rfl, ?_⟩) (by assumption) ?_; rotate_left; (focus (intro w hSw; skip; go_simp; (try with_reducible rfl))); (try (refine wpAnyL_norm (by simp only [Act.put, List.setIfInBounds_toArray, List.set_cons_zero, List.set_cons_succ]; rfl) ?_))
            refine wpAnyL_take (i := 3) (v := ?_) rfl (by kernel_rfl) (fun _ _ _ h => h) (Or.inl ⟨by rfl, ?_⟩) (by assumption) ?_; rotate_left; (focus (intro w hSw; skip; go_simp; (try with_reducible rfl))); (try (refine wpAnyL_norm (by simp only [Act.put, List.setIfInBounds_toArray, List.set_cons_zero, List.set_cons_succ]; rfl) ?_))
            refine wpAnyL_take (i := 4) (v := ?_) rfl (by kernel_rfl) (fun _ _ _ h => h) (Or.inl ⟨by rfl, ?_⟩) (by assumption) ?_; rotate_left; (focus (intro w hSw; skip; go_simp; (try with_reducible rfl))); (try (refine wpAnyL_norm (by simp only [Act.put, List.setIfInBounds_toArray, List.set_cons_zero, List.set_cons_succ]; rfl) ?_))
            refine wpAnyL_take (i := 5) (v := ?_) rfl (by kernel_rfl) (fun _ _ _ h => h) (Or.inl ⟨by rfl, ?_⟩) (by assumption) ?_; rotate_left; (focus (intro w hSw; (have cc := (hSw.cell g).trans (bl_get fr g hg32); rw [HFG.out] at cc); go_simp; (try with_reducible rfl))); (try (refine wpAnyL_norm (by simp only [Act.put, List.setIfInBounds_toArray, List.set_cons_zero, List.set_cons_succ]; rfl) ?_))
            refine wpAnyL_ready (rs := [1]) (by kernel_rfl) (by simp) ?_; refine AllReadyL.cons rfl (fun K hK => ?_) AllReadyL.nil
            go_simp
            refine hK.out _ _ (fun _ => hHeld) (fun hHeld' => ?_); have hHeld := hHeld' (by decide); clear hHeld' hK K; (try (refine wpAnyL_norm (by simp only [Act.put, List.setIfInBounds_toArray, List.set_cons_zero, List.set_cons_succ]; rfl) ?_))
            refine wpAnyL_ready (rs := [2]) (by kernel_rfl) (by simp) ?_; refine AllReadyL.cons rfl (fun K hK => ?_) AllReadyL.nil
            go_simp
            refine (CF.out _ ((Fr.refl [] wp).drew)).mono ?_
            rintro e w3 ⟨rfl, h3, k3⟩
            have Q3 := Lib.hid (k3.keep _ _ _ (by decide) hHeld)
            have T3 := Lib.hid (k3.keep _ _ _ (by decide) ((S2.out.fr0 (Fr.refl [] wp).drew).R6))
            have U3 := Lib.hid (k3.keep _ _ _ (by decide) ((S2.out.fr0 (Fr.refl [] wp).drew).Q8))
            have O3 := Lib.hid h3
            refine hK.out _ _ (fun _ => Q3.out) (fun hHeld' => ?_); have hHeld := hHeld' (by decide); clear hHeld' hK K; (try (refine wpAnyL_norm (by simp only [Act.put, List.setIfInBounds_toArray, List.set_cons_zero, List.set_cons_succ]; rfl) ?_))
            clear h3 k3 CF b0 b1
            refine wpAnyL_take (i := 6) (v := ?_) rfl (by kernel_rfl) (fun _ _ _ h => h) (Or.inl ⟨by rfl, ?_⟩) (by assumption) ?_; rotate_left; (focus (intro w hSw; skip; go_simp; (try with_reducible rfl))); (try (refine wpAnyL_norm (by simp only [Act.put, List.setIfInBounds_toArray, List.set_cons_zero, List.set_cons_succ]; rfl) ?_))
            refine wpAnyL_done (by kernel_rfl) ?_ _
            have cg := (Q3.out.cell g).trans (bl_get fr g hg32)
            rw [HFG.out] at cg
            have zg := Q3.out.froz g
            have F4 := Lib.hid ((Fr.refl [q7] w3).set (.inl (by simp)) (a := ⟨q7, g, none⟩) (.bool true))
            have Q4 := Lib.hid (Q3.out.set g (.bool true))
            rw [bl_set] at Q4
            have hl := S2.out.lo
            have S4 : Hid (St w (w3.setCell ⟨q7, g, none⟩ (.bool true)) i r6 q7 q8 k going R (upd fr g true) tk { x with m := mFree x.m G 64 }) := Lib.hid
              ⟨HVF.out, O3.out.far Q3.out (by decide) hl.2.1 F4.out, T3.out.fr F4.out (by simpa using Ne.symm (Q3.out.diff T3.out (by decide))), Q4.out, U3.out.fr F4.out (by simpa using Ne.symm hl.2.2.2), hl⟩
            clear hHeld
            go_wp2_with fail
            go_roundw
            case rel => exact ⟨k + 1, _, _, _, _, _, by omega, by omega, rfl, by go_num, S4.out.next⟩
            case measure => simp [intOf]; omega
        · as_aux_lemma =>
            have t0 : ((dw : Int) % 8 == 0) = false := by rw [ew]; simp; omega
            have t1 : ((dw : Int) % 8 == 1) = false := by rw [ew]; simp; omega
            have t2 : ((dw : Int) % 8 == 2) = false := by rw [ew]; simp; omega
            have t3 : ((dw : Int) % 8 == 3) = false := by rw [ew]; simp; omega
            have t4 : ((dw : Int) % 8 == 4) = true := by rw [ew]; simp; omega
            clear hwt8 hwc ew
            have HVS := Lib.hid (S2.out.V.store (v := k) hj128)
            rw [HJA.out] at HVS
            have CS := Lib.hid (on_store S2.out.O A (by omega) 4 k (by omega))
            rw [HVS.out.2] at CS
            go_wp2_with fail
            refine CS.out.mono ?_
            rintro e w3 ⟨rfl, h3, k3⟩
            have S3 := Lib.hid ((S2.out.on HVS.out.1 h3 k3).next)
            clear h3 k3 CS
            go_wp2_with fail
            go_roundw
            case rel => exact ⟨k + 1, _, _, _, _, _, by omega, by omega, rfl, by go_num, S3.out⟩
            case measure => simp [intOf]; omega
        · as_aux_lemma =>
            have t0 : ((dw : Int) % 8 == 0) = false := by rw [ew]; simp; omega
            have t1 : ((dw : Int) % 8 == 1) = false := by rw [ew]; simp; omega
            have t2 : ((dw : Int) % 8 == 2) = false := by rw [ew]; simp; omega
            have t3 : ((dw : Int) % 8 == 3) = false := by rw [ew]; simp; omega
            have t4 : ((dw : Int) % 8 == 4) = false := by rw [ew]; simp; omega
            clear hwt8 hwc ew
            clear B2
            cases going with
            | false =>
              have he1 : x.st = 0 := by rw [S2.out.V.st]; rfl
              have hep := S2.out.V.ep
              have CB := Lib.hid (on_begin_yes S2.out.O he1 (by omega))
              have HVB := Lib.hid (S2.out.V.begin rfl)
              have hun := S2.out.V.un
              have HMB := Lib.hid (show (mBegin x.m).n = 256 ∧ (mBegin x.m).lb = x.m.lw from by unfold mBegin; rw [hun, if_neg (by simp)]; exact ⟨S2.out.V.n, rfl⟩)
              clear he1 hep hun
              go_wp2_with fail
              refine CB.out.mono ?_
              rintro e w3 ⟨rfl, h3, k3⟩
              obtain ⟨x3, hx3⟩ : ∃ y : Sm, { x with st := 1, m := mBegin x.m, F := fstF 16, hs := hasP 256 (cov x.m.lw) } = y := ⟨_, rfl⟩
              have HX3 := Lib.hid hx3
              rw [hx3] at h3
              have O3 := Lib.hid h3
              have R3 := Lib.hid (k3.keep _ _ _ (by decide) S2.out.R6)
              have P3 := Lib.hid (k3.keep _ _ _ (by decide) S2.out.Q7)
              have U3 := Lib.hid (k3.keep _ _ _ (by decide) S2.out.Q8)
              have CST := Lib.hid (on_stop O3.out)
              rw [show decide (x3.st = 1) = true by rw [← hx3]; rfl] at CST
              have CP := Lib.hid fun W (hW : Fr [] w3 W) => on_paint (O3.out.fr0 hW)
              rw [show x3.m.n = 256 by rw [← hx3]; exact HMB.out.1, show x3.m.lb = x.m.lw by rw [← hx3]; exact HMB.out.2] at CP
              have CSC := Lib.hid fun W p q g (hpt : Pt W p q g 256 (cov x.m.lw)) (h6 : At W r6 93 (cat R).toArray) => scaps_any (Hs.of hpt) (Nat.le_refl _) (some ⟨r6, 0, none⟩) 4 R (.inr ⟨_, rfl, fun j v hv => by rw [Go.WideShapes.add_plain, Nat.zero_add, h6.cell, List.getElem?_toArray]; exact hv⟩) (fun c hc => (S2.out.V.ok c hc).cur) (by rw [S2.out.V.rl]; omega)
              rw [S2.out.V.rl] at CSC
              obtain ⟨R', hR'⟩ : ∃ l, R.map (cln (hasP 256 (cov x.m.lw))) = l := ⟨_, rfl⟩
              rw [hR'] at CSC HVB
              have hRl := S2.out.V.rl
              have hRl' := HVB.out.rl
              clear h3 k3 CB hR' hx3
              go_wp2_with fail
              refine CST.out.mono ?_
              rintro e w' ⟨rfl, rfl⟩
              clear CST
              go_upto_region 20 with (fail)
              refine wp_region_L (fun W => Fr [] w3 W) [] (by kernel_rfl) ((Fr.refl _ _).drew) (fun hHeld => ?_)
              refine wpAnyL_take (i := 0) (v := ?_) rfl (by kernel_rfl) (fun _ _ _ h => h) (Or.inl ⟨by rfl, ?_⟩) (by assumption) ?_; rotate_left; (focus (intro w hSw; skip; go_simp; (try with_reducible rfl))); (try (refine wpAnyL_norm (by simp only [Act.put, List.setIfInBounds_toArray, List.set_cons_zero, List.set_cons_succ]; rfl) ?_))
              refine wpAnyL_take (i := 1) (v := ?_) rfl (by kernel_rfl) (fun _ _ _ h => h) (Or.inl ⟨by rfl, ?_⟩) (by assumption) ?_; rotate_left; (focus (intro w hSw; skip; go_simp; (try with_reducible rfl))); (try (refine wpAnyL_norm (by simp only [Act.put, List.setIfInBounds_toArray, List.set_cons_zero, List.set_cons_succ]; rfl) ?_))
              refine wpAnyL_ready (rs := [2]) (by kernel_rfl) (by simp) ?_; refine AllReadyL.cons rfl (fun K hK => ?_) AllReadyL.nil
              go_simp
              refine (CP.out _ hHeld).mono ?_
              rintro e w4 ⟨pp, pq, pg, rfl, hpt, -, hf4⟩
              have PT4 := Lib.hid hpt
              refine hK.out _ _ (fun _ => hHeld.trans0 hf4) (fun hHeld' => ?_); have hHeld := hHeld' (by decide); clear hHeld' hK K; (try (refine wpAnyL_norm (by simp only [Act.put, List.setIfInBounds_toArray, List.set_cons_zero, List.set_cons_succ]; rfl) ?_))
              clear hpt hf4 CP
              refine wpAnyL_ready (rs := [3]) (by kernel_rfl) (by simp) ?_; refine AllReadyL.cons rfl (fun K hK => ?_) AllReadyL.nil
              go_simp
              refine (CSC.out _ _ _ _ PT4.out (R3.out.fr hHeld (by simp))).mono ?_
              rintro e w5 ⟨g5, rfl, hg5, -, hf5⟩
              have G5 := Lib.hid hg5
              refine hK.out _ _ (fun _ => hHeld.trans0 hf5) (fun hHeld' => ?_); have hHeld := hHeld' (by decide); clear hHeld' hK K; (try (refine wpAnyL_norm (by simp only [Act.put, List.setIfInBounds_toArray, List.set_cons_zero, List.set_cons_succ]; rfl) ?_))
              clear hg5 hf5 CSC PT4
              refine wpAnyL_take (i := 4) (v := ?_) rfl (by kernel_rfl) (fun _ _ _ h => h) (Or.inl ⟨by rfl, ?_⟩) (by assumption) ?_; rotate_left; (focus (intro w hSw; skip; go_simp; (try with_reducible rfl))); (try (refine wpAnyL_norm (by simp only [Act.put, List.setIfInBounds_toArray, List.set_cons_zero, List.set_cons_succ]; rfl) ?_))
              refine wpAnyL_take (i := 5) (v := ?_) rfl (by kernel_rfl) (fun _ _ _ h => h) (Or.inl ⟨by rfl, ?_⟩) (by assumption) ?_; rotate_left; (focus (intro w hSw; skip; go_simp; (try with_reducible rfl))); (try (refine wpAnyL_norm (by simp only [Act.put, List.setIfInBounds_toArray, List.set_cons_zero, List.set_cons_succ]; rfl) ?_))
              refine wpAnyL_take (i := 6) (v := ?_) rfl (by kernel_rfl) (fun _ _ _ h => h) (Or.inl ⟨by rfl, ?_⟩) (by assumption) ?_; rotate_left; (focus (intro w hSw; skip; go_simp; (try with_reducible rfl))); (try (refine wpAnyL_norm (by simp only [Act.put, List.setIfInBounds_toArray, List.set_cons_zero, List.set_cons_succ]; rfl) ?_))
              refine wpAnyL_take (i := 7) (v := ?_) rfl (by kernel_rfl) (fun _ _ _ h => h) (Or.inl ⟨by rfl, ?_⟩) (by assumption) ?_; rotate_left; (focus (intro w hSw; skip; go_simp; (try with_reducible rfl))); (try (refine wpAnyL_norm (by simp only [Act.put, List.setIfInBounds_toArray, List.set_cons_zero, List.set_cons_succ]; rfl) ?_))
              refine wpAnyL_take (i := 8) (v := ?_) rfl (by kernel_rfl) (fun _ _ _ h => h) (Or.inl ⟨by rfl, ?_⟩) (by assumption) ?_; rotate_left; (focus (intro w hSw; skip; go_simp; (try with_reducible rfl))); (try (refine wpAnyL_norm (by simp only [Act.put, List.setIfInBounds_toArray, List.set_cons_zero, List.set_cons_succ]; rfl) ?_))
              refine wpAnyL_done (by kernel_rfl) ?_ _
              have F5 := Lib.hid hHeld
              have R5 := Lib.hid (R3.out.fr hHeld (by simp))
              clear hHeld
              have hlo := S2.out.lo
              have HR0 := Lib.hid (show R'.take 0 ++ R.drop 0 = R by simp)
              have HR4 := Lib.hid (show R'.take 4 ++ R.drop 4 = R' by rw [List.drop_eq_nil_of_le (by omega), List.append_nil, List.take_of_length_le (by omega)])
              have HG56 := Lib.hid (show g5 ≠ r6 from G5.out.diff R5.out (by decide))
              go_wp2_with fail
              go_loopw [23] (fun v wr => ∃ jj : Nat, jj ≤ 4 ∧ v = .int .i64 jj ∧ At wr r6 93 (cat (R'.take jj ++ R.drop jj)).toArray ∧ Fr [r6] w5 wr) (fun v _ => 4 - (intOf v).toNat)
              case atStart => exact ⟨0, by omega, rfl, by rw [HR0.out]; exact R5.out, Fr.refl _ _⟩
              case round =>
                obtain ⟨jj, hjj, rfl, h6, hf⟩ := hrel
                have R7 := Lib.hid h6
                have F7 := Lib.hid hf
                clear h6 hf
                by_cases hj4 : jj < 4
                · have hj4i : (jj : Int) < 4 := by omega
                  have hj4d : decide ((jj : Int) < 4) = true := by simpa using hj4i
                  obtain ⟨C, hC⟩ : ∃ C, R'[jj]? = some C := ⟨_, List.getElem?_eq_getElem (by omega)⟩
                  have HC := Lib.hid hC
                  have G7 := Lib.hid (G5.out.fr F7.out (by simpa using HG56.out))
                  have hml := Lib.hid (show jj < (R'.take jj ++ R.drop jj).length by simp; omega)
                  clear hC
                  go_wp2_with (first
                    | (refine wpList_load_cap (by rfl) (.tmp 113) rfl g5 (jj * 8) rfl 49 R' G7.out jj rfl C HC.out ?_)
                    | (refine wpList_store_cap (by rfl) (.tmp 115) (.tmp 114) rfl r6 (jj * 8) C rfl rfl 93 (R'.take jj ++ R.drop jj) R7.out jj rfl hml.out ?_; intro w8 h8 hf8))
                  go_roundw
                  case rel => exact ⟨jj + 1, by omega, by go_num, by rw [← mix_set R R' jj C HC.out (by omega)]; exact h8, F7.out.trans hf8 (fun k hk => .inl hk)⟩
                  case measure => simp [intOf]; omega
                · obtain rfl : jj = 4 := by omega
                  rw [HR4.out] at R7
                  have O7 := Lib.hid ((O3.out.fr0 F5.out).far R5.out (by decide) hlo.1 F7.out)
                  have P7 := Lib.hid ((P3.out.fr F5.out (by simp)).fr F7.out (by simpa using P3.out.diff R3.out (by decide)))
                  have U7 := Lib.hid ((U3.out.fr F5.out (by simp)).fr F7.out (by simpa using U3.out.diff R3.out (by decide)))
                  have CG := Lib.hid (on_go_yes O7.out (by rw [← HX3.out]))
                  go_wp2_with fail
                  refine CG.out.mono ?_
                  rintro e w8 ⟨rfl, h8, k8⟩
                  have O8 := Lib.hid h8
                  have R8 := Lib.hid (k8.keep _ _ _ (by decide) R7.out)
                  have P8 := Lib.hid (k8.keep _ _ _ (by decide) P7.out)
                  have U8 := Lib.hid (k8.keep _ _ _ (by decide) U7.out)
                  clear h8 k8 CG O7 P7 U7 R7
                  go_wp2_with (first
                    | (refine wpList_load_all (by rfl) 94 (.tmp 7) rfl q7 rfl 94 (bl fr) _ P8.out Tryz.underlying94 rfl (infoBl fr) ?_)
                    | (refine wpList_store_all rfl 94 (.tmp 8) (.tmp 119) rfl q8 (bl fr) rfl rfl 94 (bl tk) U8.out (infoBl fr) (by rw [bl_size, bl_size]) (bl_all fr) ?_; intro w9 h9 hf9))
                  have S9 : Hid (St w w9 i r6 q7 q8 (k + 1) true R' fr fr { x with st := 2, m := mBegin x.m, F := fstF 16, hs := hasP 256 (cov x.m.lw) }) := Lib.hid
                    ⟨HVB.out, by rw [← HX3.out] at O8; exact O8.out.far U8.out (by decide) hlo.2.2.1 hf9, R8.out.fr hf9 (by simpa using R8.out.diff U8.out (by decide)), P8.out.fr hf9 (by simpa using hlo.2.2.2), h9, hlo⟩
                  go_roundw
                  case rel => exact ⟨k + 1, _, _, _, _, _, by omega, by omega, rfl, by go_num, S9.out⟩
                  case measure => simp [intOf]; omega
            | true =>
              have he2 : x.st = 2 := by rw [S2.out.V.st]; rfl
              have hvis := S2.out.V.vis
              have hep := S2.out.V.ep
              rcases nxt_case x.F 16 with ⟨hB, hN, hc0, hall⟩ | ⟨P, hP16, hFP, hN, hB, _, _⟩
              rotate_left
              · have CP := Lib.hid (on_page_yes S2.out.O P hP16 hFP hB hN he2 (by omega))
                have HV := Lib.hid (S2.out.V.visit hP16 hFP)
                clear hFP hN hB he2 hvis hep
                go_wp2_with fail
                refine CP.out.mono ?_
                rintro e w3 ⟨rfl, h3, k3⟩
                have S3 := Lib.hid ((S2.out.on HV.out h3 k3).next)
                clear h3 k3 CP
                go_wp2_with fail
                go_roundw
                case rel => exact ⟨k + 1, _, _, _, _, _, by omega, by omega, rfl, by go_num, S3.out⟩
                case measure => simp [intOf]; omega
              · have CPN := Lib.hid (on_page_no S2.out.O he2 hB)
                have CE := Lib.hid fun W (hW : Fr [] wp W) => on_end_yes (S2.out.O.fr0 hW) he2 hc0
                have HVE := Lib.hid (S2.out.V.stop rfl hc0)
                have HALL := Lib.hid hall
                have HGD := Lib.hid S2.out.O.good
                have hLb := S2.out.O.good.len
                rw [S2.out.V.n] at hLb
                have HLBG := Lib.hid fun r (hr : r ∈ x.m.lb) => (S2.out.V.lb r).1 hr
                obtain ⟨lb, hlb⟩ : ∃ l, x.m.lb = l := ⟨_, rfl⟩
                rw [hlb] at CE HGD hLb HLBG
                have HLB := Lib.hid hlb
                obtain ⟨L, hL⟩ : ∃ L, lb.length = L := ⟨_, rfl⟩
                rw [hL] at CE hLb
                have HL := Lib.hid hL
                clear hB hN hc0 hall he2 hvis hep hlb hL
                go_wp2_with fail
                refine CPN.out.mono ?_
                rintro e w3 ⟨rfl, hf3⟩
                have S3 := Lib.hid (S2.out.fr0 hf3)
                have F3 := Lib.hid hf3
                clear hf3 CPN
                go_wp2_with fail
                refine (CE.out _ F3.out).mono ?_
                rintro e w4 ⟨v, rfl, hrow, h4, k4⟩
                obtain ⟨va, vc, rfl, -⟩ := own_slice hrow
                have ROW := Lib.hid hrow
                have O4 := Lib.hid h4
                have R4 := Lib.hid (k4.keep _ _ _ (by decide) S3.out.R6)
                have P4 := Lib.hid (k4.keep _ _ _ (by decide) S3.out.Q7)
                have U4 := Lib.hid (k4.keep _ _ _ (by decide) S3.out.Q8)
                have hlo := S2.out.lo
                have A4 : Hid (AllC w4 w4 x.hs q7 q8 4 4 r6 R) := Lib.hid ⟨S2.out.V.rl, Nat.le_refl _, CapsB.of R4.out, fun c hc => ⟨S2.out.V.ok c hc, S2.out.V.reg rfl c hc⟩, ⟨R4.out.diff P4.out (by decide), R4.out.diff U4.out (by decide)⟩, Fr.refl _ _⟩
                have h78 := Lib.hid (show q7 < w4.heap.size ∧ q8 < w4.heap.size from ⟨P4.out.lt, U4.out.lt⟩)
                clear hrow h4 k4 CE S3
                go_wp2_with fail
                go_loopw [28, 29] (fun av pv wr => ∃ (pg n cap ab : Nat) (A : List Cp), pg ≤ 16 ∧ av = .slice (some ⟨ab, 0, none⟩) n cap ∧ pv = .int .i64 pg ∧ n ≤ cap ∧ cap ≤ 9223372036854775807 ∧ AllC w4 wr x.hs q7 q8 n (4 + 16 * pg) ab A) (fun _ pv _ => 16 - (intOf pv).toNat)
                case atStart => exact ⟨0, 4, 4, r6, R, by omega, rfl, rfl, by omega, by omega, A4.out⟩
                case round =>
                  clear A4
                  obtain ⟨pg, n, cap, ab, A, hpg, rfl, rfl, hcap, hcap2, hall⟩ := hrel
                  have A5 := Lib.hid hall
                  have hnb := hall.le
                  clear hall
                  by_cases hpg2 : pg < 16
                  · have CT := Lib.hid (on_tagged (O4.out.fr0 A5.out.f) (pg : Int))
                    dsimp only at CT
                    have hxl := S2.out.V.len
                    rw [hxl] at CT
                    have HG := Lib.hid (tgP_grs 4096 x.f (pg : Int))
                    have hll := tgP_len 4096 x.f (pg : Int)
                    obtain ⟨l, hl⟩ : ∃ l, tgP 4096 x.f (pg : Int) = l := ⟨_, rfl⟩
                    rw [hl] at CT HG hll
                    obtain ⟨T, hT⟩ : ∃ T, l.length = T := ⟨_, rfl⟩
                    have HTL := Lib.hid hT
                    rw [hT] at CT hll
                    clear hxl hl hT
                    go_wp2_with fail
                    refine CT.out.mono ?_
                    rintro e w5 ⟨v5, rfl, ho5, hf5⟩
                    obtain ⟨ta, tc, rfl, -⟩ := own_slice ho5
                    have OT := Lib.hid ho5
                    have A6 := Lib.hid (A5.out.fr0 hf5)
                    have F6 := Lib.hid (A5.out.f.trans0 hf5)
                    clear ho5 hf5 CT A5
                    go_wp2_with fail
                    go_loopw [28, 31] (fun av qv wr => ∃ (q n cap ab : Nat) (A : List Cp), q ≤ T ∧ av = .slice (some ⟨ab, 0, none⟩) n cap ∧ qv = .int .i64 q ∧ n ≤ cap ∧ cap ≤ 9223372036854775807 ∧ AllC w5 wr x.hs q7 q8 n (4 + 16 * pg + q) ab A) (fun _ qv _ => T - (intOf qv).toNat)
                    case atStart => exact ⟨0, n, cap, ab, A, by omega, rfl, rfl, hcap, hcap2, ⟨A6.out.len, by omega, A6.out.at_, A6.out.ok, A6.out.ne, Fr.refl _ _⟩⟩
                    case round =>
                      clear A6 hcap hcap2 hnb
                      obtain ⟨q, n, cap, ab, A, hq, rfl, rfl, hcap, hcap2, hall⟩ := hrel
                      have A7 := Lib.hid hall
                      have hnb := hall.le
                      clear hall
                      by_cases hq2 : q < T
                      · obtain ⟨a, hka⟩ : ∃ a, l[q]? = some a := ⟨_, List.getElem?_eq_getElem (by rw [HTL.out]; exact hq2)⟩
                        have hma := List.mem_of_getElem? hka
                        have hfit := HG.out.fit a hma
                        have hmod := HG.out.mod a hma
                        have hset := HG.out.set a hma
                        obtain ⟨gl, cl, he, -, -, hgll, hcl, -⟩ := own_open OT.out (by omega)
                        injection he with e1 e2 e3
                        subst e1 e3
                        have ct := (A7.out.f.cell (a := ⟨gl, q, none⟩) hgll (by simp)).trans ((hcl q hq2).trans (u32s_get l q a hka))
                        have CL := Lib.hid (on_loadc (O4.out.fr0 (F6.out.trans0 A7.out.f)) a (by omega))
                        dsimp only at CL
                        have hw : whB x.bs.length a = true := by unfold whB; rw [S2.out.V.len]; simp; omega
                        have eC : ldC x.bs x.f a = ofB (sub x.bs a 16) true := by unfold ldC; rw [if_pos hw, hset]
                        have hsu : sU x.bs x.hs a = false := by
                          have h1 := S2.out.V.tag rfl (a / 16) (by omega) hset (HALL.out (a / 16 / 16) (by omega))
                          rwa [show 16 * (a / 16) = a by omega] at h1
                        rw [hw, eC] at CL
                        obtain ⟨C, hC⟩ : ∃ C, ofB (sub x.bs a 16) true = C := ⟨_, rfl⟩
                        have HOK := Lib.hid (show C.Ok ∧ stB x.hs C = false from by rw [← hC]; exact ⟨ofB_Ok _ _ (sub_byt S2.out.O.byt _ _), hsu⟩)
                        rw [hC] at CL
                        have hqi : (q : Int) < (T : Int) := by omega
                        have hab := Lib.hid (show q7 < wr.heap.size ∧ q8 < wr.heap.size from by have := h78.out; have := F6.out.size; have := A7.out.f.size; omega)
                        clear hka hma hmod hset hcl hw eC hsu hC hgll
                        go_wp2_with fail
                        refine CL.out.mono ?_
                        rintro e w7 ⟨rfl, hf7⟩
                        have A8 := Lib.hid (A7.out.fr0 hf7)
                        have hs7 := Lib.hid hf7.size
                        clear hf7 CL A7 ct
                        go_upto_region 44 with (refine wpList_store_all rfl 49 (.tmp 32) (.tmp 154) rfl _ C.cells rfl rfl 49 noC.cells (At.nw rfl) (HIC.out C) rfl (HCA.out C) ?_; intro w8 hA8 hF8)
                        have hga : Fr [] w7 (w7.alloc (.cells noC.cells 49)) := (by repeat (first | exact Fr.refl _ _ | assumption | refine Fr.trans0 ?_ (by assumption) | refine Fr.drewN ?_ _ | refine Fr.alloc ?_ _ | refine Fr.drew ?_))
                        have g78 : Fr [] w7 w8 := (hga.more (T := [w7.heap.size]) (by simp)).trans hF8 (fun k hk => .inl hk) |>.more (T := []) (by simp)
                        have A9 := Lib.hid (A8.out.fr0 g78)
                        have hs8 := Lib.hid g78.size
                        have B8 := Lib.hid hA8
                        obtain ⟨q32, hq32⟩ : ∃ q, w7.heap.size = q := ⟨_, rfl⟩
                        rw [hq32] at B8 ⊢
                        clear hga g78 hA8 hF8 hq32 A8
                        have k1 : (0 : Int) ≤ (n : Int) := by omega
                        have k2 : (n : Int) ≤ (cap : Int) := by omega
                        obtain ⟨i0, hi, hz0, hz1, hz2⟩ := info_parts infoCap
                        refine wp_region_L (fun W => At W q32 49 C.cells) [] (by kernel_rfl) (B8.out.hp rfl) (fun hHeld => ?_)
                        refine wpAnyL_take (i := 0) (v := ?_) rfl (by kernel_rfl) (fun _ _ _ h => h) (Or.inl ⟨by rfl, ?_⟩) (by assumption) ?_; rotate_left; (focus (intro w hSw; skip; go_simp; (try with_reducible rfl))); (try (refine wpAnyL_norm (by simp only [Act.put, List.setIfInBounds_toArray, List.set_cons_zero, List.set_cons_succ]; rfl) ?_))
                        refine wpAnyL_take (i := 1) (v := ?_) rfl (by kernel_rfl) (fun _ _ _ h => h) (Or.inl ⟨by rfl, ?_⟩) (by assumption) ?_; rotate_left; (focus (intro w hSw; skip; go_simp; (try with_reducible rfl))); (try (refine wpAnyL_norm (by simp only [Act.put, List.setIfInBounds_toArray, List.set_cons_zero, List.set_cons_succ]; rfl) ?_))
                        refine wpAnyL_take (i := 2) (v := ?_) rfl (by kernel_rfl) (fun _ _ _ h => h) (Or.inl ⟨by rfl, ?_⟩) (by assumption) ?_; rotate_left; (focus (intro w hSw; skip; go_simp; (try with_reducible rfl))); (try (refine wpAnyL_norm (by simp only [Act.put, List.setIfInBounds_toArray, List.set_cons_zero, List.set_cons_succ]; rfl) ?_))
                        refine wpAnyL_take (i := 3) (v := ?_) rfl (by kernel_rfl) (fun _ _ _ h => h) (Or.inl ⟨by rfl, ?_⟩) (by assumption) ?_; rotate_left; (focus (intro w hSw; skip; go_simp; (try with_reducible rfl))); (try (refine wpAnyL_norm (by simp only [Act.put, List.setIfInBounds_toArray, List.set_cons_zero, List.set_cons_succ]; rfl) ?_))
                        refine wpAnyL_take (i := 4) (v := ?_) rfl (by kernel_rfl) (fun _ _ _ h => h) (Or.inl ⟨by rfl, ?_⟩) (by assumption) ?_; rotate_left; (focus (intro w hSw; skip; go_simp; (try with_reducible rfl))); (try (refine wpAnyL_norm (by simp only [Act.put, List.setIfInBounds_toArray, List.set_cons_zero, List.set_cons_succ]; rfl) ?_))
                        refine wpAnyL_take (i := 5) (v := ?_) rfl (by kernel_rfl) (fun _ _ _ h => h) (Or.inl ⟨by rfl, ?_⟩) (by assumption) ?_; rotate_left; (focus (intro w hSw; skip; go_simp; (try with_reducible rfl))); (try (refine wpAnyL_norm (by simp only [Act.put, List.setIfInBounds_toArray, List.set_cons_zero, List.set_cons_succ]; rfl) ?_))
                        refine wpAnyL_take (i := 6) rfl (by kernel_rfl) (fun _ _ _ h => h) (yields_load_at 49 (.tmp 32) rfl ⟨q32, 0, none⟩ rfl C.l _ (fun W h j v hv => by rw [Go.WideShapes.add_plain, Nat.zero_add, h.cell, Cp.cells_l, List.getElem?_toArray]; exact hv) Tryz.underlying49 rfl infoCapS rfl) (by assumption) ?_; (try (refine wpAnyL_norm (by simp only [Act.put, List.setIfInBounds_toArray, List.set_cons_zero, List.set_cons_succ]; rfl) ?_))
                        refine wpAnyL_ready (rs := [7]) (by kernel_rfl) (by simp) ?_; refine AllReadyL.cons rfl (fun K hK => ?_) AllReadyL.nil
                        rw [if_pos (by rfl)]
                        refine wp_buildSl 100 1 _ _ _ _ (built1c _ C) rfl (by kernel_rfl) ?_
                        have B9 := hHeld.old (.cells (cat [C]).toArray 49)
                        refine hK.out _ _ (fun _ => B9) (fun hHeld' => ?_); have hHeld := hHeld' (by decide); clear hHeld' hK K; (try (refine wpAnyL_norm (by simp only [Act.put, List.setIfInBounds_toArray, List.set_cons_zero, List.set_cons_succ]; rfl) ?_))
                        have N9 := Lib.hid (At.new w8.drew 49 (cat [C]).toArray)
                        have f9 : Fr [] w8 (w8.drew.alloc (.cells (cat [C]).toArray 49)) := ((Fr.refl [] w8).drew).alloc _
                        have A10 := Lib.hid (A9.out.fr0 f9)
                        have hs9 := Lib.hid f9.size
                        obtain ⟨w9, hw9⟩ : ∃ W, w8.drew.alloc (.cells (cat [C]).toArray 49) = W := ⟨_, rfl⟩
                        rw [hw9] at N9 A10 hs9 hHeld ⊢
                        clear hw9 B9 f9 A9
                        refine wpAnyL_ready (rs := [8]) (by kernel_rfl) (by simp) ?_; refine AllReadyL.cons rfl (fun K hK => ?_) AllReadyL.nil
                        rw [if_pos (by rfl)]
                        refine wp_append_full (.tmp 161) (.tmp 163) 100 rfl 49 i0 (.agg noC.cells) 8 24 Tryz.underlying100 hi hz0 hz1 hz2 rfl (by omega) ⟨ab, 0, none⟩ n n (cat A) rfl (by rw [cat_len, A10.out.len]) (fun j u hu => by rw [Go.WideShapes.add_plain, Nat.zero_add]; exact A10.out.at_.2 j u hu) ⟨w8.drew.heap.size, 0, none⟩ 1 1 (cat [C]) rfl rfl (fun j u hu => by rw [Go.WideShapes.add_plain, Nat.zero_add, N9.out.cell, List.getElem?_toArray]; exact hu) (by omega) (by unfold maxLen; omega) (by omega) ?_
                        intro v' w10 hown hg10
                        obtain ⟨ab', c', rfl, hab', hc1, hc2⟩ := own_some hown
                        have f10 : Fr [] w9 w10 := (Fr.grown hg10).more (by simp)
                        rw [← cat_append] at hown
                        have A11 : Hid (AllC w5 w10 x.hs q7 q8 (n + 1) (4 + 16 * pg + (q + 1)) ab' (A ++ [C])) := Lib.hid ⟨by rw [List.length_append, A10.out.len]; rfl, by omega, CapsB.own hown, fun c hc => by
                          rcases List.mem_append.1 hc with h | h
                          · exact A10.out.ok c h
                          · rw [List.mem_singleton] at h; rw [h]; exact HOK.out, by have := hab.out; have := hs7.out; have := hs8.out; have := hs9.out; omega, A10.out.f.trans0 f10⟩
                        have hc3 : c' ≤ 9223372036854775807 := by unfold maxLen at hc2; omega
                        refine hK.out _ _ (fun _ => (hHeld.fr f10 (by simp))) (fun hHeld' => ?_); have hHeld := hHeld' (by decide); clear hHeld' hK K; (try (refine wpAnyL_norm (by simp only [Act.put, List.setIfInBounds_toArray, List.set_cons_zero, List.set_cons_succ]; rfl) ?_))
                        clear hown hg10 f10 A10 N9 hc2 hi hz0 hz1 hz2 B8
                        refine wpAnyL_take (i := 9) (v := ?_) rfl (by kernel_rfl) (fun _ _ _ h => h) (Or.inl ⟨by rfl, ?_⟩) (by assumption) ?_; rotate_left; (focus (intro w hSw; skip; go_simp; (try with_reducible rfl))); (try (refine wpAnyL_norm (by simp only [Act.put, List.setIfInBounds_toArray, List.set_cons_zero, List.set_cons_succ]; rfl) ?_))
                        refine wpAnyL_done (by kernel_rfl) ?_ _
                        clear hHeld
                        go_wp2_with fail
                        go_roundw
                        case rel => exact ⟨q + 1, n + 1, c', ab', A ++ [C], by omega, rfl, by go_num, hc1, hc3, A11.out⟩
                        case measure => simp [intOf]; omega
                      · obtain rfl : q = T := by omega
                        go_wp2_with fail
                        go_roundw
                        case rel => exact ⟨pg + 1, n, cap, ab, A, by omega, rfl, by go_num, hcap, hcap2, ⟨A7.out.len, by omega, A7.out.at_, A7.out.ok, A7.out.ne, F6.out.trans0 A7.out.f⟩⟩
                        case measure => simp [intOf]; omega
                  · obtain rfl : pg = 16 := by omega
                    have O5 := Lib.hid (O4.out.fr0 A5.out.f)
                    have R5 := Lib.hid (R4.out.fr A5.out.f (by simp))
                    have P5 := Lib.hid (P4.out.fr A5.out.f (by simp))
                    have U5 := Lib.hid (U4.out.fr A5.out.f (by simp))
                    have ROW5 := Lib.hid (own_fr0 ROW.out A5.out.f)
                    have hn7 : q7 ≠ q8 := hlo.2.2.2
                    have hn8 : q8 ≠ q7 := Ne.symm hn7
                    clear ROW O4 R4 P4 U4
                    go_wp2_with fail
                    go_loopw [34] (fun v wz => ∃ jj : Nat, jj ≤ L ∧ v = .int .i64 jj ∧ Fr [q7, q8] wr wz ∧ On w wz i { x with st := 0, m := mEnd x.m } ∧ At wz r6 93 (cat R).toArray ∧ At wz q7 94 (bl (lft fr lb jj)) ∧ At wz q8 94 (bl (lft tk lb jj))) (fun v _ => L - (intOf v).toNat)
                    case atStart => exact ⟨0, by omega, rfl, Fr.refl _ _, O5.out, R5.out, by rw [lft_zero]; exact P5.out, by rw [lft_zero]; exact U5.out⟩
                    case round =>
                      clear O5 R5
                      obtain ⟨jj, hjj, rfl, hf, ho, h6, h7, h8⟩ := hrel
                      rename World => wz
                      have F7 := Lib.hid hf
                      have O7 := Lib.hid ho
                      have R7 := Lib.hid h6
                      have P7 := Lib.hid h7
                      have U7 := Lib.hid h8
                      clear hf ho h6 h7 h8
                      by_cases hjL : jj < L
                      · obtain ⟨rg, hrg⟩ : ∃ rg, lb[jj]? = some rg := ⟨_, List.getElem?_eq_getElem (by rw [HL.out]; exact hjL)⟩
                        have hmem := List.mem_of_getElem? hrg
                        obtain ⟨nn, hn32, rfl, htk⟩ := HLBG.out rg hmem
                        have hlt := lft_at tk HGD.out jj nn hrg htk
                        have HS7 := Lib.hid (lft_succ fr lb jj nn hrg)
                        have HS8 := Lib.hid (lft_succ tk lb jj nn hrg)
                        have hrow := own_fr ROW5.out F7.out (fun g hg => by have e1 := own_ne ROW5.out P5.out (by decide) g hg; have e2 := own_ne ROW5.out U5.out (by decide) g hg; simp; omega)
                        rcases rows_open hrow with ⟨_, h0⟩ | ⟨gb, gcap, cur, hv, -, hA, g1, g2, g3, g4⟩
                        · omega
                        injection hv with e1 e2 e3
                        subst e1 e3
                        have q0 := rows_at (n := L) (cap := vc) hA g4 (jj * 2) 0 (.int .u32 (2048 + 64 * nn : Nat)) (by rw [List.getElem?_drop]; exact (rgv_get _ jj (gr nn) hrg).1)
                        have q1 := rows_at (n := L) (cap := vc) hA g4 (jj * 2) 1 (.int .u32 (64 : Nat)) (by rw [List.getElem?_drop]; exact (rgv_get _ jj (gr nn) hrg).2)
                        obtain ⟨GN, hGN⟩ : ∃ GN, 2048 + 64 * nn = GN := ⟨_, rfl⟩
                        rw [hGN] at q0
                        replace q0 : wz.cell? ⟨gb, jj * 2, none⟩ = some (.int .u32 GN) := q0
                        replace q1 : wz.cell? ⟨gb, jj * 2 + 1, none⟩ = some (.int .u32 64) := q1
                        have eM : (GN : Int) - 2048 = ((64 * nn : Nat) : Int) := by omega
                        have CH := Lib.hid (held_no wz ab n cap A A5.out.len (A5.out.at_.fr F7.out (by have := A5.out.ne; simp; omega)) (fun c hc => (A5.out.ok c hc).1.cur) (by have := A5.out.le; omega) GN 64 (by omega) (by omega) (by omega) (fun c hc hv => by
                          have := S2.out.V.unheld rfl (A5.out.ok c hc).2 (r := gr nn) (by rw [HLB.out]; exact hmem) hv
                          unfold gr at this
                          dsimp only at this
                          rw [hGN] at this
                          exact this))
                        obtain ⟨M, hM⟩ : ∃ M, 64 * nn = M := ⟨_, rfl⟩
                        rw [hM] at eM
                        have eN : (M : Int) / 64 = (nn : Int) := by omega
                        have d1 : decide ((nn : Int) < 0) = false := by simp
                        have d2 : decide ((31 : Int) < (nn : Int)) = false := by simp; omega
                        have ni0 : (0 : Int) ≤ (nn : Int) := by omega
                        have ni32 : (nn : Int) < 32 := by omega
                        have jji : (jj : Int) < (L : Int) := by omega
                        have c8 := (U7.out.cell nn).trans (bl_get _ nn hn32)
                        rw [hlt] at c8
                        have hMb : M < 4096 := by omega
                        have hGNb : 2048 ≤ GN ∧ GN < 4096 := by omega
                        clear hrow hmem hrg hA g1 g2 g3 g4 hGN hM htk hlt
                        go_wp2_with fail
                        refine CH.out.mono ?_
                        rintro e w11 ⟨rfl, hf11⟩
                        have F11 := Lib.hid (F7.out.trans0 hf11)
                        have O11 := Lib.hid (O7.out.fr0 hf11)
                        have R11 := Lib.hid (R7.out.fr hf11 (by simp))
                        have P11 := Lib.hid (P7.out.fr hf11 (by simp))
                        have U11 := Lib.hid (U7.out.fr hf11 (by simp))
                        have c8 := (U11.out.cell nn).trans (bl_get _ nn hn32)
                        have z8 := U11.out.froz nn
                        have c7 := (P11.out.cell nn).trans (bl_get _ nn hn32)
                        have z7 := P11.out.froz nn
                        clear hf11 CH O7 R7 P7 U7
                        go_wp2_with fail
                        go_roundw
                        case rel =>
                          have fa : Fr [q8] w11 (w11.setCell ⟨q8, nn, none⟩ (.bool false)) := (Fr.refl _ _).set (.inl (by simp)) _
                          have fb : Fr [q7] (w11.setCell ⟨q8, nn, none⟩ (.bool false)) ((w11.setCell ⟨q8, nn, none⟩ (.bool false)).setCell ⟨q7, nn, none⟩ (.bool false)) := (Fr.refl _ _).set (.inl (by simp)) _
                          have p1 := P11.out.fr fa (by simpa using hn7)
                          have p2 := p1.set nn (.bool false)
                          have u1 := U11.out.set nn (.bool false)
                          have u2 := u1.fr fb (by simpa using hn8)
                          rw [bl_set, HS7.out] at p2
                          rw [bl_set, HS8.out] at u2
                          have o1 := O11.out.far U11.out (by decide) hlo.2.2.1 fa
                          have key : (∃ jj_1 : Nat, jj_1 ≤ L ∧ Value.int .i64 ((jj : Int) + 1) = Value.int .i64 (jj_1 : Int) ∧ Fr [q7, q8] wr ((w11.setCell ⟨q8, nn, none⟩ (.bool false)).setCell ⟨q7, nn, none⟩ (.bool false)) ∧ On w ((w11.setCell ⟨q8, nn, none⟩ (.bool false)).setCell ⟨q7, nn, none⟩ (.bool false)) i { x with st := 0, m := mEnd x.m } ∧ At ((w11.setCell ⟨q8, nn, none⟩ (.bool false)).setCell ⟨q7, nn, none⟩ (.bool false)) r6 93 (cat R).toArray ∧ At ((w11.setCell ⟨q8, nn, none⟩ (.bool false)).setCell ⟨q7, nn, none⟩ (.bool false)) q7 94 (bl (lft fr lb jj_1)) ∧ At ((w11.setCell ⟨q8, nn, none⟩ (.bool false)).setCell ⟨q7, nn, none⟩ (.bool false)) q8 94 (bl (lft tk lb jj_1))) := ⟨jj + 1, by omega, by go_num, (F11.out.trans fa (by simp)).trans fb (by simp), o1.far p1 (by decide) hlo.2.1 fb, (R11.out.fr fa (by simpa using R11.out.diff U11.out (by decide))).fr fb (by simpa using R11.out.diff P11.out (by decide)), p2, u2⟩
                          repeat apply Exists.intro
                          exact ⟨key, rfl⟩
                        case measure => simp [intOf]; omega
                      · obtain rfl : jj = L := by omega
                        have eT : lb.take jj = lb := List.take_of_length_le (by rw [HL.out]; omega)
                        have e8 : bl (lft tk lb jj) = bl fun _ => false := bl_congr fun g hg => by
                          unfold lft
                          rw [eT, ← HLB.out, S2.out.V.inb hg]
                          cases tk g <;> rfl
                        have e7 : bl (lft fr lb jj) = bl fun g => fr g && !tk g := bl_congr fun g hg => by
                          unfold lft
                          rw [eT, ← HLB.out, S2.out.V.inb hg]
                        rw [e8] at U7
                        rw [e7] at P7
                        have S9 : Hid (St w wz i r6 q7 q8 k false R (fun g => fr g && !tk g) (fun _ => false) { x with st := 0, m := mEnd x.m }) := Lib.hid ⟨HVE.out, O7.out, R7.out, P7.out, U7.out, hlo⟩
                        have EQ := bl_eq
                        have hz32 := zero32
                        clear e7 e8 eT O7 R7 P7 ROW5 A5
                        go_wp2_with (refine wpList_load_all (by rfl) 94 (.tmp 8) rfl q8 rfl 94 (bl fun _ => false) _ U7.out Tryz.underlying94 rfl (infoBl _) ?_)
                        go_roundw
                        case rel => exact ⟨k + 1, _, _, _, _, _, by omega, by omega, rfl, by go_num, S9.out.next⟩
                        case measure => simp [intOf]; omega
      · go_wp2_with fail
        refine (works_any _ (HT.out.fr S1.out.O.f (by simp))).mono ?_
        rintro e w9 ⟨rfl, hf9⟩
        go_wp2_with fail
        go_ret
        exact ⟨rfl, S1.out.O.f.trans0 hf9⟩
    · go_wp2_with fail
      refine (works_any _ (HT.out.fr S1.out.O.f (by simp))).mono ?_
      rintro e w9 ⟨rfl, hf9⟩
      go_wp2_with fail
      go_ret
      exact ⟨rfl, S1.out.O.f.trans0 hf9⟩
theorem laidOut : laidOutB Tryz.prog = true := by kernel_rfl
set_option maxRecDepth 100000 in
theorem lifted (os : Os) (started : os.Started) (H : Type) (enc : TypeId × Value → H) :
    ReturnsInHanded {} Tryz.checked os 6 .any (fun w args => (Rows.sweepRevokesSpec.pre enc Tryz.prog Tryz.f6 [] false w args ∧ laidMetH Tryz.prog laidL w) ∧ sizedMet enc Tryz.prog Tryz.f6 (OpenSpec.ofChange Rows.sweepRevokesSpec) false w args) (Rows.sweepRevokesSpec.post enc Tryz.prog Tryz.f6 false true false false) := by
  refine returnsInHanded_of_change_and (C := Tryz.checked) (X := fun w _ => laidMetH Tryz.prog laidL w) (fun _ _ _ hh h => h.of_heap hh) own started (by kernel_rfl) Tryz.func6
    (ChangeSpec.witness_at (enc := enc) (C := Tryz.checked) (os := os) (X := fun w _ => laidMetH Tryz.prog laidL w) false (laidWorld os) #[.slice none 0 0] 8 rfl (by kernel_rfl) (by kernel_rfl) (by kernel_rfl) (by kernel_rfl) (by kernel_rfl) (laidWorld_met os _)) ?_
  intro W base args ds gs before hval0 hW _ _ hL _
  have hT := tab_of_laid hL
  have hval : ∀ (j : Nat) t v, Tryz.f6.params[j]? = some t → args[j]? = some v → Value.okWide Tryz.prog W .any base t v := hval0
  have hW' := hW
  obtain ⟨p, q, hA0, hV, rfl, hfz, hnd⟩ := hW
  have hA : DataW.TrodAll enc Tryz.prog W 0 (fun _ => true) true Tryz.f6.params.toList args.toList ds p := hA0
  rw [Tryz.params6] at hA hval
  obtain ⟨v0, vs0, d0, ds0, p0, q0, hargs, rfl, rfl, h0, r0⟩ := trodAll_cons hA
  obtain ⟨rfl, rfl, rfl⟩ := trodAll_nil r0
  obtain rfl : args = #[v0] := by cases args; simp_all
  obtain ⟨rfl, rfl⟩ := trodVars_none hV
  obtain ⟨a0, len0, cap0, rfl⟩ := okWide_slice Tryz.underlying92 (hval 0 92 v0 rfl rfl)
  have k0 := h0
  have lt0 : ∀ x ∈ p0, x.block < W.heap.size := by obtain ⟨m, hm⟩ := k0; exact DataW.trod_lt m _ _ _ hm
  have w0 : Elems W a0 len0 [.i .u8, .i .u8, .i .u16] := by
    obtain ⟨fuel, hf⟩ := h0
    exact open_elems (n := 20) Tryz.underlying92 (by kernel_rfl : flat Tryz.prog 20 96 = some [.i .u8, .i .u8, .i .u16]) (by kernel_rfl) (by decide) hf
  clear hA0 hval0
  refine (walk a0 len0 cap0 W w0 hT).mono fun e W' ⟨he, hg⟩ => ?_
  subst he
  have bel := hg.below
  exact ⟨_, rfl, _, _, _, [], _, [], hW', trodAll_mk1 (shut_bool Tryz.underlying4 _), (trodAll_cons_mk (Below.trod laidOut (by kernel_rfl) (of_decide_eq_true (by kernel_rfl)) k0 bel lt0) trodAll_mk0), rfl, bel.frame _, fun h => by cases h⟩
theorem over : Rows.sweepRevokesRow.holds Tryz.pinned (OpenSpec.ofChange Rows.sweepRevokesSpec) :=
  OpenClaim.holds_of_wide 6 Tryz.f6 rfl rfl rfl rfl rfl rfl rfl ⟨rfl, rfl, rfl, rfl, rfl⟩ rfl rfl rfl rfl rfl (by kernel_rfl) Tryz.func6 (by kernel_rfl)
    (of_decide_eq_true (by kernel_rfl)) (by unfold Func.isWrapper; first | (rw [if_pos (by decide +kernel)]; kernel_rfl) | (rw [if_neg (by decide +kernel)]; exact ⟨rfl, rfl⟩))
    (fun os started H enc _ => lifted os started H enc)
set_option maxRecDepth 100000 in
/-- The card, tied. -/
theorem proved : Rows.SweepRevokesCardSaid :=
  Claim7.holds_tied_plain_at .later [] [.data] true (true, "3062cd3652c7f1f2e100f7b0f94cb3f25dbd22d1cdbeb8dec48f85c1172530cd") false
    over (fun _ h => by cases h) (by kernel_rfl) (fun _ h => by cases h) sweepRevokes_row_tie rfl ⟨rfl, rfl⟩ (by kernel_rfl) rfl
    (fun f fn hf hfn => by
      obtain rfl : f = 6 := Option.some.inj ((show Tryz.prog.funcNamed "fallow/fallowlaw19.SweepRevokes" = some 6 by kernel_rfl).symm.trans hf) |>.symm
      obtain rfl : fn = Tryz.f6 := (Option.some.inj (Tryz.func6.symm.trans hfn)).symm
      exact ⟨by kernel_rfl, fun j t ht => by
        have hm : t ∈ Tryz.f6.params.toList := by simpa using Array.mem_of_getElem? ht
        have hall : (Tryz.f6.params.toList.all fun u => !Tryz.prog.wantsStandIn u) = true := by kernel_rfl
        exact (show Tryz.prog.wantsStandIn t = false by simpa using List.all_eq_true.1 hall t hm)⟩)
    (by kernel_rfl)
end sweepRevokes
end Go.Proofs.YthjbnbimfpbccaaGreatDoor
