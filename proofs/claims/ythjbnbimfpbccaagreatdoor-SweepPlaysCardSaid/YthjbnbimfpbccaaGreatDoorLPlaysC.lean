/-
  SweepPlays: a sweeper does what the document says, step by step. Condition: the table of math/bits is as the library lays it (the row lists it).
-/
import Derived.Deep.CutBlock
import Derived.Deep.DeepCutAuto
import Derived.Lib.MinMax
import Derived.Test.YthjbnbimfpbccaaGreatDoorJ9










set_option linter.unusedVariables false
namespace Go.Proofs.YthjbnbimfpbccaaGreatDoor
open Go.ChangeShapes Go.WideShapes Go.ChangeAt Go.RowKit
namespace sweepPlays
theorem Fits.app {a b : List Leaf} {cs : List Value} (h : Fits (a ++ b) cs) : ∃ c1 c2, cs = c1 ++ c2 ∧ Fits a c1 ∧ Fits b c2 := by
  have hl := h.len
  rw [List.length_append] at hl
  refine ⟨cs.take a.length, cs.drop a.length, (List.take_append_drop _ _).symm, ⟨by rw [List.length_take]; omega, fun j l hj => ?_⟩, ⟨by rw [List.length_drop]; omega, fun j l hj => ?_⟩⟩
  · have hjl := (List.getElem?_eq_some_iff.1 hj).1
    obtain ⟨v, hv, ok⟩ := h.at_ j l (by rw [List.getElem?_append_left hjl]; exact hj)
    exact ⟨v, by rw [List.getElem?_take, if_pos hjl]; exact hv, ok⟩
  · obtain ⟨v, hv, ok⟩ := h.at_ (a.length + j) l (by rw [List.getElem?_append_right (by omega), Nat.add_sub_cancel_left]; exact hj)
    exact ⟨v, by rw [List.getElem?_drop]; exact hv, ok⟩
def ac (z page many : Int) (A : Nat) (c : Cp) (a r : Nat) : List Value := [.int .i64 z, .int .i64 page, .int .i64 many, .int .u32 (A : Nat), .int .u32 (c.cur : Nat), .int .u8 (c.e : Nat), .int .u16 (c.b : Nat), .int .u16 (c.t : Nat), .int .u16 (c.pm : Nat), .int .u16 (c.ty : Nat), .int .u32 (c.rs : Nat), .bool c.v, .int .u32 (a : Nat), .int .u32 (r : Nat)]
theorem ac_cap {z page many : Int} {A : Nat} {c : Cp} {a r j : Nat} {v : Value} (h : c.l[j]? = some v) : (ac z page many A c a r)[4 + j]? = some v := by
  have hj : j < 8 := (List.getElem?_eq_some_iff.1 h).1
  unfold Cp.l at h
  unfold ac
  rcases (show j = 0 ∨ j = 1 ∨ j = 2 ∨ j = 3 ∨ j = 4 ∨ j = 5 ∨ j = 6 ∨ j = 7 by omega) with rfl | rfl | rfl | rfl | rfl | rfl | rfl | rfl <;> simpa using h
theorem ac_reg {z page many : Int} {A : Nat} {c : Cp} {a r j : Nat} {v : Value} (h : [Value.int .u32 (a : Nat), .int .u32 (r : Nat)][j]? = some v) : (ac z page many A c a r)[12 + j]? = some v := by
  have hj : j < 2 := (List.getElem?_eq_some_iff.1 h).1
  rcases (show j = 0 ∨ j = 1 by omega) with rfl | rfl <;> simpa [ac] using h
theorem fitsAct {cs : List Value} (h : Fits [.i .i64, .i .i64, .i .i64, .i .u32, .i .u32, .i .u8, .i .u16, .i .u16, .i .u16, .i .u16, .i .u32, .b, .i .u32, .i .u32] cs) :
    ∃ (z page many : Int) (A : Nat) (c : Cp) (a r : Nat), cs = ac z page many A c a r ∧ A < 4294967296 ∧ c.Ok ∧ a < 4294967296 ∧ r < 4294967296 := by
  obtain ⟨v0, c1, rfl, ⟨z0, rfl, w0⟩, h1⟩ := h.cons
  obtain ⟨v1, c2, rfl, ⟨z1, rfl, w1⟩, h2⟩ := h1.cons
  obtain ⟨v2, c3, rfl, ⟨z2, rfl, w2⟩, h3⟩ := h2.cons
  obtain ⟨v3, c4, rfl, ⟨z3, rfl, w3⟩, h4⟩ := h3.cons
  obtain ⟨d1, d2, rfl, k1, k2⟩ := Fits.app (a := [.i .u32, .i .u8, .i .u16, .i .u16, .i .u16, .i .u16, .i .u32, .b]) (b := [.i .u32, .i .u32]) h4
  obtain ⟨c, rfl, hc⟩ := fitsC k1
  obtain ⟨v5, c6, rfl, ⟨z5, rfl, w5⟩, h6⟩ := k2.cons
  obtain ⟨v6, c7, rfl, ⟨z6, rfl, w6⟩, h7⟩ := h6.cons
  rw [h7.nil]
  obtain ⟨b30, b31⟩ := bounds_u32 w3
  obtain ⟨b50, b51⟩ := bounds_u32 w5
  obtain ⟨b60, b61⟩ := bounds_u32 w6
  obtain ⟨A, rfl⟩ := Int.eq_ofNat_of_zero_le b30
  obtain ⟨a, rfl⟩ := Int.eq_ofNat_of_zero_le b50
  obtain ⟨r, rfl⟩ := Int.eq_ofNat_of_zero_le b60
  exact ⟨z0, z1, z2, A, c, a, r, rfl, by omega, hc, by omega, by omega⟩
theorem infoAc (z page many : Int) (A : Nat) (c : Cp) (a r : Nat) : (Tryz.prog.info? 75).map (·.size) = some (ac z page many A c a r).length := by kernel_rfl
theorem infoAcA (z page many : Int) (A : Nat) (c : Cp) (a r : Nat) : (Tryz.prog.info? 75).map (·.size) = some (ac z page many A c a r).toArray.size := by kernel_rfl
theorem ac_one (z page many : Int) (A : Nat) (c : Cp) (a r : Nat) : (ac z page many A c a r).toArray.all (·.oneCell') = true := by simp [ac, Value.oneCell']
def x0 (B : List Nat) : Sm := ⟨0, 0, fun _ => false, ⟨256, 0, false, [], []⟩, B, fun _ => false, nohs⟩
theorem pp0 {B : List Nat} (h : B.length = 4096) : Pp 0 (x0 B) := ⟨h, Nat.zero_le _, rfl, rfl, fun _ => cnt_none _ _ (fun _ _ => rfl), Nat.le_refl _, by show 0 + cnt (fun _ => false) 16 ≤ _; rw [cnt_none _ _ (fun _ _ => rfl)]; exact Nat.zero_le _, dj_nil, dj_nil, fun h => absurd rfl h⟩
/-- Both sides. -/
structure St (w wr : World) (i : Ids) (d : RId) (k : Nat) (s : YS) (x : Sm) (pv wa : Option Addr) (wc : Nat) (la : Option Addr) (lc : Nat) (ga : Option Addr) (gc : Nat) : Prop where
  S : Sw w wr i s x pv
  R : RS w wr i d s x wa wc la lc ga gc
  P : Pp k x
def StE (w wr : World) (i : Ids) (d : RId) (k : Nat) : Prop := ∃ s x pv wa wc la lc ga gc, St w wr i d k s x pv wa wc la lc ga gc
section
variable {ops : Array Oper} {rest : List Oper} {o : Oper} {a : Act} {w : World} {Q : Exit → Act → World → Prop} {r : Nat} {x : Sm} {wa : Option Addr} {wc : Nat} {la : Option Addr} {lc : Nat} {ga : Option Addr} {gc : Nat}
theorem rsw_size : (rsw r x wa wc la lc ga gc).toArray.size = 10 := sw3_size rsw_s3
theorem ld_rsw (hgd : Region.wanted o (yielded ops a.tmps) = true) (y : Operand) (ho : o.op = .load 72 y) (g : Nat) (hx : a.eval y = .pointer (some ⟨g, 0, none⟩)) (hg : At w g 72 (rsw r x wa wc la lc ga gc).toArray)
    (hK : wpList Tryz.prog ops Q rest (a.put o.dst (.agg (rsw r x wa wc la lc ga gc).toArray)) w) : wpList Tryz.prog ops Q (o :: rest) a w := wpList_load_sw rsw_s3 hgd y ho g hx hg hK
theorem st_rsw (hgd : o.guard = none) (y z : Operand) (ho : o.op = .store 72 y z) (g : Nat) (hx : a.eval y = .pointer (some ⟨g, 0, none⟩)) (hy : a.eval z = .agg (rsw r x wa wc la lc ga gc).toArray) (cur : Array Value) (hg : At w g 72 cur) (hc : cur.size = 10)
    (hK : ∀ w', At w' g 72 (rsw r x wa wc la lc ga gc).toArray → Fr [g] w w' → wpList Tryz.prog ops Q rest (a.put o.dst undef) w') : wpList Tryz.prog ops Q (o :: rest) a w := wpList_store_sw rsw_s3 hgd y z ho g hx hy cur hg hc hK
theorem ld_y (hgd : Region.wanted o (yielded ops a.tmps) = true) (y : Operand) (ho : o.op = .load 65 y) (g : Nat) (hx : a.eval y = .pointer (some ⟨g, 1, none⟩)) (hg : At w g 72 (rsw r x wa wc la lc ga gc).toArray)
    (hK : wpList Tryz.prog ops Q rest (a.put o.dst (.agg (ryl 4096 wa x.m.lw.length wc la x.m.lb.length lc x.m.ep x.m.un).toArray)) w) : wpList Tryz.prog ops Q (o :: rest) a w := wpList_load_y rsw_s3 hgd y ho g hx hg hK
theorem st_y {wa' : Option Addr} {wc' : Nat} {la' : Option Addr} {lc' : Nat} (m' : MS) (he : m'.ep = x.m.ep) (hgd : Region.wanted o (yielded ops a.tmps) = true) (y z : Operand) (ho : o.op = .store 65 y z) (g : Nat) (hx : a.eval y = .pointer (some ⟨g, 1, none⟩)) (hy : a.eval z = .agg (ryl 4096 wa' m'.lw.length wc' la' m'.lb.length lc' m'.ep m'.un).toArray) (hg : At w g 72 (rsw r x wa wc la lc ga gc).toArray)
    (hK : ∀ w', At w' g 72 (rsw r { x with m := m' } wa' wc' la' lc' ga gc).toArray → Fr [g] w w' → wpList Tryz.prog ops Q rest (a.put o.dst undef) w') : wpList Tryz.prog ops Q (o :: rest) a w :=
  wpList_store_y rsw_s3 hgd y z ho g ryl_s3 hx hy hg (fun w' h1 h2 => hK w' (by
    unfold rsw
    dsimp only
    rw [show bkl (m'.ep : Int) (.slice ga 16 gc) = bkl (x.m.ep : Int) (.slice ga 16 gc) by rw [he]]
    exact h1) h2)
end
theorem free_ep (m : MS) (a r : Nat) : (mFree m a r).ep = m.ep := by
  unfold mFree
  by_cases h : frB m a r = true
  · rw [if_pos h]
  · rw [if_neg h]
set_option maxHeartbeats 8000000 in
set_option maxRecDepth 100000 in
theorem walk (a0 : Option Addr) (len0 cap0 : Nat) (w : World) (w0 : Elems w a0 len0 [.i .i64, .i .i64, .i .i64, .i .u32, .i .u32, .i .u8, .i .u16, .i .u16, .i .u16, .i .u16, .i .u32, .b, .i .u32, .i .u32]) (hT : Tab w) :
    Calls Tryz.prog 5 #[.slice a0 len0 cap0] w fun e w' => e = .returned (.bool true) ∧ Fr [] w w' := by
  obtain ⟨hlen, hrec⟩ := w0
  have Hrec := Lib.hid hrec
  have HT := Lib.hid hT
  have CA := Lib.hid (anew_any w 16 (by omega) (by omega))
  have CR := Lib.hid fun W => rnewA_any W 16 (by omega) (by omega)
  have CY := Lib.hid fun W => (show Calls Tryz.prog 25 #[.int .i64 4096] W fun e w' => ∃ y s, e = .returned (.pointer (some ⟨y, 0, none⟩)) ∧ Yw W w' y ⟨256, 0, false, [], []⟩ s ∧ (W.heap.size ≤ s.c ∧ W.heap.size ≤ s.c') ∧ Fr [] W w' from new_c W 256 (by omega))
  have CZ := Lib.hid fun W => (show Calls Tryz.prog 26 #[.int .i64 4096] W fun e w' => e = .returned (.tuple #[.agg #[.int .i64 4096, .slice none 0 0, .slice none 0 0, .int .u64 0, .bool false], .bool true]) ∧ Fr [] W w' from rnew_any W 256 (by omega))
  have HB0 := Lib.hid (show (List.replicate (256 * 16) 0).length = 4096 from rfl)
  unfold newPost at CR
  obtain ⟨B, hB⟩ : ∃ B, List.replicate (256 * 16) 0 = B := ⟨_, rfl⟩
  rw [hB] at CA CR HB0
  clear hrec hT hB
  go_enter Tryz.func5, Tryz.ntmps5
  go_wp2_with fail
  refine CA.out.mono ?_
  rintro e w1 ⟨ap, q, ag, bg, cap, rfl, ha, i1, i2, i3, i4, hf1⟩
  have A1 := Lib.hid ha
  have F1 := Lib.hid hf1
  have hs1 := hf1.size
  have hal := ha.lt
  clear ha hf1 CA
  go_wp2_with fail
  refine (CR.out _).mono ?_
  rintro e w2 ⟨r, bb, tb, cb, ct, rfl, hr, j1, j2, j3, hf2⟩
  have R2 := Lib.hid hr
  have A2 := Lib.hid (A1.out.fr0 hf2)
  have F2 := Lib.hid (F1.out.trans0 hf2)
  have hs2 := hf2.size
  have hrl := hr.lt
  clear hr hf2 CR A1 F1
  go_wp2_with fail
  refine (CY.out _).mono ?_
  rintro e w3 ⟨y, s, rfl, hy, hfoot, hf3⟩
  have Y3 := Lib.hid (hy.base F2.out)
  have R3 := Lib.hid (R2.out.fr0 hf3)
  have A3 := Lib.hid (A2.out.fr0 hf3)
  have F3 := Lib.hid (F2.out.trans0 hf3)
  have hs3 := hf3.size
  clear hy hf3 CY R2 A2 F2
  go_wp2_with fail
  refine (CZ.out _).mono ?_
  rintro e w4 ⟨rfl, hf4⟩
  have Y4 := Lib.hid (Y3.out.fr hf4)
  have R4 := Lib.hid (R3.out.fr0 hf4)
  have A4 := Lib.hid (A3.out.fr0 hf4)
  have F4 := Lib.hid (F3.out.trans0 hf4)
  have hs4 := hf4.size
  clear hf4 CZ R3 A3 F3 Y3
  go_wp2_with fail
  have f5 : Fr [] w4 (w4.alloc (.cells #[.int .i64 4096, .slice none 0 0, .slice none 0 0, .int .u64 0, .bool false] 65)) := (by repeat (first | exact Fr.refl _ _ | assumption | refine Fr.trans0 ?_ (by assumption) | refine Fr.drewN ?_ _ | refine Fr.alloc ?_ _ | refine Fr.drew ?_))
  have z5 : At (w4.alloc (.cells #[.int .i64 4096, .slice none 0 0, .slice none 0 0, .int .u64 0, .bool false] 65)) w4.heap.size 65 (ryl 4096 none 0 0 none 0 0 0 false).toArray := At.new _ _ _
  obtain ⟨w5, hw5⟩ : ∃ W, w4.alloc (.cells #[.int .i64 4096, .slice none 0 0, .slice none 0 0, .int .u64 0, .bool false] 65) = W := ⟨_, rfl⟩
  obtain ⟨q8, hq8⟩ : ∃ q, w4.heap.size = q := ⟨_, rfl⟩
  rw [hw5] at f5 z5 ⊢
  rw [hq8] at z5 ⊢
  have Z5 := Lib.hid z5
  have R5 := Lib.hid (R4.out.fr0 f5)
  have F5 := Lib.hid (F4.out.trans0 f5)
  have hs5 := f5.size
  have CS := Lib.hid (swnew_any w w5 ap q ag bg cap y B _ _ s (A4.out.fr0 f5) HB0.out (Y4.out.fr f5) HT.out rfl rfl rfl i3 i4 (by omega))
  clear f5 z5 hw5 hq8 R4 F4 A4 Y4
  refine CS.out.mono ?_
  rintro e w6 ⟨sp, gp, p, g, rfl, hs, hf6⟩
  have S6 := Lib.hid hs
  have Z6 := Lib.hid (Z5.out.fr hf6 (by simp))
  have R6 := Lib.hid (R5.out.fr0 hf6)
  have F6 := Lib.hid (F5.out.trans0 hf6)
  have hs6 := hf6.size
  clear hs hf6 CS Z5 R5 F5
  go_wp2_with (refine wpList_load_all (by rfl) 65 (.tmp 8) rfl q8 rfl 65 _ _ Z6.out Tryz.underlying65 rfl infoYA ?_)
  refine (r19new_any w6 r).mono ?_
  rintro e w7 ⟨ga, gc, rfl, hb, hf7⟩
  have B7 := Lib.hid hb
  clear hb
  have S7 := Lib.hid (S6.out.fr0 hf7)
  have R7 := Lib.hid (R6.out.fr0 hf7)
  have F7 := Lib.hid (F6.out.trans0 hf7)
  have hs7 := hf7.size
  clear hf7 Z6 S6 R6 F6
  go_upto_region 11 with (refine wpList_store_sw ryl_s3 rfl (.tmp 11) (.tmp 77) rfl w7.heap.size rfl rfl zsw.toArray (At.new w7 72 zsw.toArray) rfl ?_; intro w8 h8 hf8)
  have f8 : Fr [] w7 (w7.alloc (.cells zsw.toArray 72)) := (by repeat (first | exact Fr.refl _ _ | assumption | refine Fr.trans0 ?_ (by assumption) | refine Fr.drewN ?_ _ | refine Fr.alloc ?_ _ | refine Fr.drew ?_))
  have n8 := At.new w7 72 zsw.toArray
  have g8 : Fr [] w7 w8 := (f8.more (T := [w7.heap.size]) (by simp)).trans hf8 (fun k hk => .inl hk) |>.more (T := []) (by simp)
  obtain ⟨t11, ht11⟩ : ∃ q, w7.heap.size = q := ⟨_, rfl⟩
  rw [ht11] at h8 hf8 n8 ⊢
  have S8 : Hid (StE w w8 ⟨sp, gp, p, g, ap, q, ag, bg, cap, y⟩ ⟨r, bb, tb, cb, ct, t11⟩ 0) := Lib.hid ⟨s, x0 B, none, none, 0, none, 0, ga, gc, S7.out.fr0 g8, RH.put (x := x0 B) (d := ⟨r, bb, tb, cb, ct, t11⟩) ⟨R7.out.fr0 f8, ⟨World.ownsRow_nil _ _ _ _, World.ownsRow_nil _ _ _ _, (fun g hg => by cases hg), (fun g hg => by cases hg)⟩, own_base (own_fr0 B7.out f8) (Nat.zero_le _), (fun g hg e => by have := own_geR B7.out g hg; dsimp only at e; omega), ⟨⟨by dsimp only; omega, by dsimp only; omega, by dsimp only; omega, by dsimp only; omega⟩, by dsimp only; omega⟩⟩ n8 hf8 h8, pp0 HB0.out⟩
  have F8 := Lib.hid (F7.out.trans0 g8)
  obtain ⟨i, hi⟩ : ∃ i : Ids, (⟨sp, gp, p, g, ap, q, ag, bg, cap, y⟩ : Ids) = i := ⟨_, rfl⟩
  obtain ⟨d, hd⟩ : ∃ d : RId, (⟨r, bb, tb, cb, ct, t11⟩ : RId) = d := ⟨_, rfl⟩
  rw [hi, hd] at S8
  obtain rfl : ap = i.ap := by rw [← hi]
  obtain rfl : y = i.y := by rw [← hi]
  obtain rfl : sp = i.sp := by rw [← hi]
  obtain rfl : r = d.r := by rw [← hd]
  obtain rfl : t11 = d.q := by rw [← hd]
  clear h8 hf8 f8 n8 g8 ht11 hi hd S7 R7 B7 F7 hs1 hs2 hs3 hs4 hs5 hs6 hs7 hal hrl i1 i2 i3 i4 j1 j2 j3 hfoot HB0
  go_wp2_with fail
  go_loopw [12] (fun iv wr => ∃ k : Nat, k ≤ 40 ∧ iv = .int .i64 k ∧ StE w wr i d k) (fun iv _ => 40 - (intOf iv).toNat)
  case atStart => exact ⟨0, by omega, rfl, S8.out⟩
  case round =>
    clear S8 F8
    obtain ⟨k, hk, rfl, s, x, pv, wa, wc, la, lc, ga, gc, hst⟩ := hrel
    have S1 := Lib.hid hst
    clear hst
    by_cases h1 : k < len0 ∧ k < 40
    · obtain ⟨h1, h2⟩ := h1
      obtain ⟨b, off, rfl, hb, hcells⟩ := Hrec.out.resolve_left (by omega)
      obtain ⟨cs, hfit, hcs⟩ := hcells k h1
      obtain ⟨z, page, many, A, c, a, rr, rfl, hA, hc, ha, hrr⟩ := fitsAct hfit
      simp only [List.length_cons, List.length_nil, Nat.zero_add, Nat.reduceAdd] at hcs
      have HCS := Lib.hid fun W (hW : Fr [] w W) (q : Nat) v (hx : (ac z page many A c a rr)[q]? = some v) => (show W.cell? ((⟨b, off + k * 14, none⟩ : Addr).add q) = some v from by
        have hq : q < 14 := (List.getElem?_eq_some_iff.1 hx).1
        rw [Go.WideShapes.add_plain, Nat.add_assoc, (hW.cell (a := ⟨b, off + (k * 14 + q), none⟩) hb (by simp)), hcs q hq, hx])
      have FW := Lib.hid S1.out.S.Y.f
      have hkl : (k : Int) < (len0 : Int) := by omega
      have hk4 : (k : Int) < 40 := by omega
      clear hcs hcells hfit
      go_upto_region 15 with (first
        | (refine wpList_load_at (by rfl) 75 (.tmp 90) rfl ⟨b, off + k * 14, none⟩ rfl (ac z page many A c a rr) _ (HCS.out wr FW.out) Tryz.underlying75 rfl (infoAc _ _ _ _ _ _ _) ?_)
        | (refine wpList_store_all rfl 75 (.tmp 13) (.tmp 91) rfl wr.heap.size _ rfl rfl 75 _ (At.nw rfl) (infoAcA _ _ _ _ _ _ _) rfl (ac_one _ _ _ _ _ _ _) ?_; intro w2 hA2 hF2))
      have f2 : Fr [] wr w2 := (((Fr.refl [] wr).alloc _).more (T := [wr.heap.size]) (by simp)).trans hF2 (fun k hk => .inl hk) |>.more (T := []) (by simp)
      obtain ⟨q13, hq13⟩ : ∃ q, wr.heap.size = q := ⟨_, rfl⟩
      rw [hq13] at hA2 ⊢
      have A2 := Lib.hid hA2
      have S2 : Hid (Sw w w2 i s x pv) := Lib.hid (S1.out.S.fr0 f2)
      have R2 : Hid (RS w w2 i d s x wa wc la lc ga gc) := Lib.hid (S1.out.R.fr0 f2)
      have P2 : Hid (Pp k x) := Lib.hid S1.out.P
      have c0 : w2.cell? ⟨q13, 0, none⟩ = some (.int .i64 z) := (A2.out.cell 0).trans rfl
      clear f2 hA2 hF2 hq13 HCS FW S1 hkl hk4 hb
      go_upto_block 2 with (fail)
      clear c0
      go_cut [16] (fun _ wx => StE w wx i d (k + 1) ∧ At wx q13 75 (ac z page many A c a rr).toArray)
      case first =>
        rcases (show z = 0 ∨ z = 1 ∨ z = 2 ∨ z = 3 ∨ z = 4 ∨ z = 5 ∨ (z ≠ 0 ∧ z ≠ 1 ∧ z ≠ 2 ∧ z ≠ 3 ∧ z ≠ 4 ∧ z ≠ 5) by omega) with rfl | rfl | rfl | rfl | rfl | rfl | hz
        · as_aux_lemma =>
            have f3 : Fr [] w2 w2.drew := (Fr.refl [] w2).drew
            have CP := Lib.hid (sp_storec w w2.drew i s x pv (S2.out.fr0 f3) A hA c hc)
            have CR := Lib.hid fun W (hR : RS w W i d s x wa wc la lc ga gc) => pr_storec w W i d s x wa wc la lc ga gc hR A hA c hc
            have R3 := Lib.hid (R2.out.fr0 f3)
            obtain ⟨b1, hb1⟩ : ∃ b1, whB x.bs.length A = b1 := ⟨_, rfl⟩
            rw [hb1] at CP CR
            have hbb : ∀ i : Bool, (i != i) = false := fun i => by simp
            clear hb1 f3 S2 R2
            go_upto_region 22 with (fail)
            refine wp_region_L (fun W => At W q13 75 (ac 0 page many A c a rr).toArray) [] (by kernel_rfl) (A2.out.hp rfl) (fun hHeld => ?_)
            refine wpAnyL_take (i := 0) (v := ?_) rfl (by kernel_rfl) (fun _ _ _ h => h) (Or.inl ⟨by rfl, ?_⟩) (by assumption) ?_; rotate_left; (focus (intro w hSw; skip; go_simp; (try with_reducible rfl))); (try (refine wpAnyL_norm (by simp only [Act.put, List.setIfInBounds_toArray, List.set_cons_zero, List.set_cons_succ]; rfl) ?_))
            refine wpAnyL_take (i := 1) (v := ?_) rfl (by kernel_rfl) (fun _ _ _ h => h) (Or.inl ⟨by rfl, ?_⟩) (by assumption) ?_; rotate_left; (focus (intro w hSw; skip; go_simp; (try with_reducible rfl))); (try (refine wpAnyL_norm (by simp only [Act.put, List.setIfInBounds_toArray, List.set_cons_zero, List.set_cons_succ]; rfl) ?_))
            refine wpAnyL_take (i := 2) (v := ?_) rfl (by kernel_rfl) (fun _ _ _ h => h) (Or.inl ⟨by rfl, ?_⟩) (by assumption) ?_; rotate_left; (focus (intro w hSw; (have cc : w.cell? ⟨q13, 3, none⟩ = some (.int .u32 (A : Nat)) := (hSw.cell 3).trans rfl); go_simp; (try with_reducible rfl))); (try (refine wpAnyL_norm (by simp only [Act.put, List.setIfInBounds_toArray, List.set_cons_zero, List.set_cons_succ]; rfl) ?_))
            refine wpAnyL_take (i := 3) (v := ?_) rfl (by kernel_rfl) (fun _ _ _ h => h) (Or.inl ⟨by rfl, ?_⟩) (by assumption) ?_; rotate_left; (focus (intro w hSw; skip; go_simp; (try with_reducible rfl))); (try (refine wpAnyL_norm (by simp only [Act.put, List.setIfInBounds_toArray, List.set_cons_zero, List.set_cons_succ]; rfl) ?_))
            refine wpAnyL_take (i := 4) rfl (by kernel_rfl) (fun _ _ _ h => h) (yields_load_at 49 (.tmp 120) rfl ⟨q13, 4, none⟩ rfl c.l _ (fun W h j v hv => by rw [Go.WideShapes.add_plain, h.cell, List.getElem?_toArray]; exact ac_cap hv) Tryz.underlying49 rfl infoCapS rfl) (by assumption) ?_; (try (refine wpAnyL_norm (by simp only [Act.put, List.setIfInBounds_toArray, List.set_cons_zero, List.set_cons_succ]; rfl) ?_))
            refine wpAnyL_take (i := 6) (v := ?_) rfl (by kernel_rfl) (fun _ _ _ h => h) (Or.inl ⟨by rfl, ?_⟩) (by assumption) ?_; rotate_left; (focus (intro w hSw; skip; go_simp; (try with_reducible rfl))); (try (refine wpAnyL_norm (by simp only [Act.put, List.setIfInBounds_toArray, List.set_cons_zero, List.set_cons_succ]; rfl) ?_))
            refine wpAnyL_take (i := 7) (v := ?_) rfl (by kernel_rfl) (fun _ _ _ h => h) (Or.inl ⟨by rfl, ?_⟩) (by assumption) ?_; rotate_left; (focus (intro w hSw; skip; go_simp; (try with_reducible rfl))); (try (refine wpAnyL_norm (by simp only [Act.put, List.setIfInBounds_toArray, List.set_cons_zero, List.set_cons_succ]; rfl) ?_))
            refine wpAnyL_take (i := 8) (v := ?_) rfl (by kernel_rfl) (fun _ _ _ h => h) (Or.inl ⟨by rfl, ?_⟩) (by assumption) ?_; rotate_left; (focus (intro w hSw; (have cc : w.cell? ⟨q13, 3, none⟩ = some (.int .u32 (A : Nat)) := (hSw.cell 3).trans rfl); go_simp; (try with_reducible rfl))); (try (refine wpAnyL_norm (by simp only [Act.put, List.setIfInBounds_toArray, List.set_cons_zero, List.set_cons_succ]; rfl) ?_))
            refine wpAnyL_take (i := 9) (v := ?_) rfl (by kernel_rfl) (fun _ _ _ h => h) (Or.inl ⟨by rfl, ?_⟩) (by assumption) ?_; rotate_left; (focus (intro w hSw; skip; go_simp; (try with_reducible rfl))); (try (refine wpAnyL_norm (by simp only [Act.put, List.setIfInBounds_toArray, List.set_cons_zero, List.set_cons_succ]; rfl) ?_))
            refine wpAnyL_take (i := 10) rfl (by kernel_rfl) (fun _ _ _ h => h) (yields_load_at 49 (.tmp 126) rfl ⟨q13, 4, none⟩ rfl c.l _ (fun W h j v hv => by rw [Go.WideShapes.add_plain, h.cell, List.getElem?_toArray]; exact ac_cap hv) Tryz.underlying49 rfl infoCapS rfl) (by assumption) ?_; (try (refine wpAnyL_norm (by simp only [Act.put, List.setIfInBounds_toArray, List.set_cons_zero, List.set_cons_succ]; rfl) ?_))
            refine wpAnyL_ready (rs := [5]) (by kernel_rfl) (by simp) ?_; refine AllReadyL.cons rfl (fun K hK => ?_) AllReadyL.nil
            go_simp
            refine CP.out.mono ?_
            rintro e w4 ⟨rfl, hs4, hps⟩
            have S4 := Lib.hid hs4
            have R4 := Lib.hid (hps.rs _ _ _ _ _ _ _ _ R3.out)
            refine hK.out _ _ (fun _ => (hps.kp.keep _ _ _ (by decide) (by assumption))) (fun hHeld' => ?_); have hHeld := hHeld' (by decide); clear hHeld' hK K; (try (refine wpAnyL_norm (by simp only [Act.put, List.setIfInBounds_toArray, List.set_cons_zero, List.set_cons_succ]; rfl) ?_))
            clear hs4 hps R3 CP A2
            refine wpAnyL_ready (rs := [11]) (by kernel_rfl) (by simp) ?_; refine AllReadyL.cons rfl (fun K hK => ?_) AllReadyL.nil
            go_simp
            refine (CR.out _ R4.out).mono ?_
            rintro e w5 ⟨rfl, hr5, hrs⟩
            have S5 := Lib.hid (hrs.sw _ _ S4.out)
            have R5 := Lib.hid hr5
            refine hK.out _ _ (fun _ => (hrs.kr.keep _ _ _ (by decide) (by decide) (by assumption))) (fun hHeld' => ?_); have hHeld := hHeld' (by decide); clear hHeld' hK K; (try (refine wpAnyL_norm (by simp only [Act.put, List.setIfInBounds_toArray, List.set_cons_zero, List.set_cons_succ]; rfl) ?_))
            clear hr5 hrs S4 R4 CR
            refine wpAnyL_take (i := 12) (v := ?_) rfl (by kernel_rfl) (fun _ _ _ h => h) (Or.inl ⟨by rfl, ?_⟩) (by assumption) ?_; rotate_left; (focus (intro w hSw; skip; go_simp; (try with_reducible rfl))); (try (refine wpAnyL_norm (by simp only [Act.put, List.setIfInBounds_toArray, List.set_cons_zero, List.set_cons_succ]; rfl) ?_))
            refine wpAnyL_done (by kernel_rfl) ?_ _
            have A5 := Lib.hid hHeld
            clear hHeld
            go_wp2_with fail
            go_meet
            exact ⟨⟨_, _, _, _, _, _, _, _, _, S5.out, R5.out, (P2.out.storec A c).next⟩, A5.out⟩
        · as_aux_lemma =>
            have CR := Lib.hid (pr_free w w2 i d s x wa wc la lc ga gc R2.out S2.out.foot_lt S2.out.n S2.out.good a rr ha hrr)
            have CP := Lib.hid fun W (hW : Sw w W i s x pv) => sp_free w W i s x pv hW a rr ha hrr
            have HE := Lib.hid (free_ep x.m a rr)
            have HP := Lib.hid (P2.out.free (show Good x.m.n x.m.lw from by rw [S2.out.n]; exact S2.out.good.1) a rr)
            obtain ⟨b1, hb1⟩ : ∃ b1, frB x.m a rr = b1 := ⟨_, rfl⟩
            obtain ⟨m', hm'⟩ : ∃ m', mFree x.m a rr = m' := ⟨_, rfl⟩
            rw [hb1, hm'] at CP CR
            rw [hm'] at HE HP
            clear hb1 hm'
            go_wp2_with (first
              | (refine ld_y (by rfl) (.tmp 133) rfl d.q rfl R2.out.Q ?_)
              | (refine wpList_load_at (by rfl) 45 (.tmp 135) rfl ⟨q13, 12, none⟩ rfl [.int .u32 (a : Nat), .int .u32 (rr : Nat)] _ (fun j v hv => by rw [Go.WideShapes.add_plain, A2.out.cell, List.getElem?_toArray]; exact ac_reg hv) Tryz.underlying45 rfl (by kernel_rfl) ?_))
            refine CR.out.mono ?_
            rintro e w3 ⟨wa', wc', la', lc', rfl, hh, hf⟩
            have H3 := Lib.hid hh
            have S3 := Lib.hid (S2.out.fr0 hf)
            have Q3 := Lib.hid (R2.out.Q.fr hf (by simp))
            have A3 := Lib.hid (A2.out.fr hf (by simp))
            clear hh hf CR S2 R2 A2
            go_upto_region 26 with (refine wpList_store_all rfl 65 (.tmp 14) (.tmp 138) rfl w3.heap.size _ rfl rfl 65 zy.toArray (At.new w3 65 zy.toArray) infoYA rfl ryl_all ?_; intro w4 h4 hf4)
            have fz : Fr [] w3 (w3.alloc (.cells zy.toArray 65)) := (by repeat (first | exact Fr.refl _ _ | assumption | refine Fr.trans0 ?_ (by assumption) | refine Fr.drewN ?_ _ | refine Fr.alloc ?_ _ | refine Fr.drew ?_))
            have g4 : Fr [] w3 w4 := (fz.more (T := [w3.heap.size]) (by simp)).trans hf4 (fun k hk => .inl hk) |>.more (T := []) (by simp)
            obtain ⟨q4, hq4⟩ : ∃ q, w3.heap.size = q := ⟨_, rfl⟩
            rw [hq4] at h4 ⊢
            have Z4 := Lib.hid h4
            have H4 := Lib.hid (H3.out.fr0 g4)
            have Q4 := Lib.hid (Q3.out.fr g4 (by simp))
            have S4 := Lib.hid (S3.out.fr0 g4)
            have A4 := Lib.hid (A3.out.fr g4 (by simp))
            clear h4 hf4 fz g4 hq4 H3 Q3 S3 A3
            go_upto_region 27 with (first
              | (refine wpList_load_all (by rfl) 65 (.tmp 14) rfl q4 rfl 65 _ _ Z4.out Tryz.underlying65 rfl infoYA ?_)
              | (refine st_y m' HE.out (by rfl) (.tmp 141) (.tmp 140) rfl d.q rfl rfl Q4.out ?_; intro w6 h6 hf6))
            have R6 := Lib.hid (H4.out.put Q4.out hf6 h6)
            have S6 := Lib.hid (S4.out.putq Q4.out H4.out.lo.1.2.2.2 hf6)
            have A6 := Lib.hid (A4.out.fr hf6 (by simpa using A4.out.diff Q4.out (by decide)))
            clear h6 hf6 H4 Q4 S4 A4 Z4
            have hbb : ∀ i : Bool, (i != i) = false := fun i => by simp
            go_wp2_with (refine wpList_load_at (by rfl) 45 (.tmp 143) rfl ⟨q13, 12, none⟩ rfl [.int .u32 (a : Nat), .int .u32 (rr : Nat)] _ (fun j v hv => by rw [Go.WideShapes.add_plain, A6.out.cell, List.getElem?_toArray]; exact ac_reg hv) Tryz.underlying45 rfl (by kernel_rfl) ?_)
            refine (CP.out _ S6.out).mono ?_
            rintro e w7 ⟨rfl, s7, hs7, hps⟩
            have S7 := Lib.hid hs7
            have R7 := Lib.hid (hps.rs _ _ _ _ _ _ _ _ R6.out)
            have A7 := Lib.hid (hps.kp.keep _ _ _ (by decide) A6.out)
            clear hs7 hps CP S6 R6 A6
            go_wp2_with fail
            go_meet
            exact ⟨⟨_, _, _, _, _, _, _, _, _, S7.out, R7.out, HP.out.next⟩, A7.out⟩
        · as_aux_lemma =>
            have CP := Lib.hid (sp_begin w w2 i s x pv k S2.out P2.out (by omega))
            have CR := Lib.hid fun W s' (hR : RS w W i d s' x wa wc la lc ga gc) => pr_begin w W i d s' x wa wc la lc ga gc k hR P2.out (by omega)
            obtain ⟨N, hN⟩ : ∃ N, begN x = N := ⟨_, rfl⟩
            obtain ⟨b1, hb1⟩ : ∃ b1, begB x = b1 := ⟨_, rfl⟩
            rw [hN, hb1] at CP CR
            clear hN hb1
            go_wp2_with fail
            refine CP.out.mono ?_
            rintro e w3 ⟨rfl, s3, pv3, hs3, hps⟩
            have S3 := Lib.hid hs3
            have R3 := Lib.hid (hps.rs _ _ _ _ _ _ _ _ R2.out)
            have A3 := Lib.hid (hps.kp.keep _ _ _ (by decide) A2.out)
            clear hs3 hps CP S2 R2 A2
            go_wp2_with (refine ld_rsw (by rfl) (.tmp 11) rfl d.q rfl R3.out.Q ?_)
            refine (CR.out _ _ R3.out).mono ?_
            rintro e w4 ⟨wa', wc', la', lc', ga', gc', rfl, hh, hf⟩
            have H4 := Lib.hid hh
            have S4 := Lib.hid (S3.out.fr0 hf)
            have Q4 := Lib.hid (R3.out.Q.fr hf (by simp))
            have A4 := Lib.hid (A3.out.fr hf (by simp))
            clear hh hf CR S3 R3 A3
            go_upto_region 32 with (refine st_rsw rfl (.tmp 18) (.tmp 158) rfl w4.heap.size rfl rfl zsw.toArray (At.new w4 72 zsw.toArray) rfl ?_; intro w5 h5 hf5)
            have fz : Fr [] w4 (w4.alloc (.cells zsw.toArray 72)) := (by repeat (first | exact Fr.refl _ _ | assumption | refine Fr.trans0 ?_ (by assumption) | refine Fr.drewN ?_ _ | refine Fr.alloc ?_ _ | refine Fr.drew ?_))
            have g5 : Fr [] w4 w5 := (fz.more (T := [w4.heap.size]) (by simp)).trans hf5 (fun k hk => .inl hk) |>.more (T := []) (by simp)
            obtain ⟨q5, hq5⟩ : ∃ q, w4.heap.size = q := ⟨_, rfl⟩
            rw [hq5] at h5 ⊢
            have Z5 := Lib.hid h5
            have H5 := Lib.hid (H4.out.fr0 g5)
            have Q5 := Lib.hid (Q4.out.fr g5 (by simp))
            have S5 := Lib.hid (S4.out.fr0 g5)
            have A5 := Lib.hid (A4.out.fr g5 (by simp))
            clear h5 hf5 fz g5 hq5 H4 Q4 S4 A4
            go_upto_region 33 with (first
              | (refine ld_rsw (by rfl) (.tmp 18) rfl q5 rfl Z5.out ?_)
              | (refine st_rsw rfl (.tmp 11) (.tmp 161) rfl d.q rfl rfl _ Q5.out rsw_size ?_; intro w6 h6 hf6))
            have R6 := Lib.hid (H5.out.put Q5.out hf6 h6)
            have S6 := Lib.hid (S5.out.putq Q5.out H5.out.lo.1.2.2.2 hf6)
            have A6 := Lib.hid (A5.out.fr hf6 (by simpa using A5.out.diff Q5.out (by decide)))
            clear h6 hf6 H5 Q5 S5 A5 Z5
            have hii : ∀ i : Int, (i != i) = false := fun i => by simp
            have hbb : ∀ i : Bool, (i != i) = false := fun i => by simp
            go_wp2_with fail
            go_meet
            exact ⟨⟨_, _, _, _, _, _, _, _, _, S6.out, R6.out, P2.out.begX⟩, A6.out⟩
        · as_aux_lemma =>
            have CP := Lib.hid fun W (hW : Sw w W i s x pv) => sp_go w W i s x pv hW
            have CR := Lib.hid (pr_go w w2 i d s x wa wc la lc ga gc R2.out)
            obtain ⟨b1, hb1⟩ : ∃ b1, goB x = b1 := ⟨_, rfl⟩
            rw [hb1] at CP CR
            clear hb1
            go_wp2_with (refine ld_rsw (by rfl) (.tmp 11) rfl d.q rfl R2.out.Q ?_)
            refine CR.out.mono ?_
            rintro e w4 ⟨rfl, hh, hf⟩
            have H4 := Lib.hid hh
            have S4 := Lib.hid (S2.out.fr0 hf)
            have Q4 := Lib.hid (R2.out.Q.fr hf (by simp))
            have A4 := Lib.hid (A2.out.fr hf (by simp))
            clear hh hf CR S2 R2 A2
            go_upto_region 37 with (refine st_rsw rfl (.tmp 21) (.tmp 175) rfl w4.heap.size rfl rfl zsw.toArray (At.new w4 72 zsw.toArray) rfl ?_; intro w5 h5 hf5)
            have fz : Fr [] w4 (w4.alloc (.cells zsw.toArray 72)) := (by repeat (first | exact Fr.refl _ _ | assumption | refine Fr.trans0 ?_ (by assumption) | refine Fr.drewN ?_ _ | refine Fr.alloc ?_ _ | refine Fr.drew ?_))
            have g5 : Fr [] w4 w5 := (fz.more (T := [w4.heap.size]) (by simp)).trans hf5 (fun k hk => .inl hk) |>.more (T := []) (by simp)
            obtain ⟨q5, hq5⟩ : ∃ q, w4.heap.size = q := ⟨_, rfl⟩
            rw [hq5] at h5 ⊢
            have Z5 := Lib.hid h5
            have H5 := Lib.hid (H4.out.fr0 g5)
            have Q5 := Lib.hid (Q4.out.fr g5 (by simp))
            have S5 := Lib.hid (S4.out.fr0 g5)
            have A5 := Lib.hid (A4.out.fr g5 (by simp))
            clear h5 hf5 fz g5 hq5 H4 Q4 S4 A4
            go_upto_region 38 with (first
              | (refine ld_rsw (by rfl) (.tmp 21) rfl q5 rfl Z5.out ?_)
              | (refine st_rsw rfl (.tmp 11) (.tmp 177) rfl d.q rfl rfl _ Q5.out rsw_size ?_; intro w6 h6 hf6))
            have R6 := Lib.hid (H5.out.put Q5.out hf6 h6)
            have S6 := Lib.hid (S5.out.putq Q5.out H5.out.lo.1.2.2.2 hf6)
            have A6 := Lib.hid (A5.out.fr hf6 (by simpa using A5.out.diff Q5.out (by decide)))
            clear h6 hf6 H5 Q5 S5 A5 Z5
            have hbb : ∀ i : Bool, (i != i) = false := fun i => by simp
            go_wp2_with fail
            refine (CP.out _ S6.out).mono ?_
            rintro e w7 ⟨rfl, hs7, hps⟩
            have S7 := Lib.hid hs7
            have R7 := Lib.hid (hps.rs _ _ _ _ _ _ _ _ R6.out)
            have A7 := Lib.hid (hps.kp.keep _ _ _ (by decide) A6.out)
            clear hs7 hps CP S6 R6 A6
            go_wp2_with fail
            go_meet
            exact ⟨⟨_, _, _, _, _, _, _, _, _, S7.out, R7.out, P2.out.goX.next⟩, A7.out⟩
        · as_aux_lemma =>
            have CP := Lib.hid fun W (hW : Sw w W i s x pv) => sp_visit w W i s x pv k hW P2.out (by omega) page
            have CR := Lib.hid (pr_visit w w2 i d s x wa wc la lc ga gc k R2.out P2.out (by omega) S2.out.good.2 page)
            obtain ⟨b1, hb1⟩ : ∃ b1, visB x page = b1 := ⟨_, rfl⟩
            rw [hb1] at CP CR
            clear hb1
            have c1 : w2.cell? ⟨q13, 1, none⟩ = some (.int .i64 page) := (A2.out.cell 1).trans rfl
            go_wp2_with (refine ld_rsw (by rfl) (.tmp 11) rfl d.q rfl R2.out.Q ?_)
            refine CR.out.mono ?_
            rintro e w4 ⟨ga', gc', rfl, hh, hq, hrs⟩
            have H4 := Lib.hid hh
            have S4 := Lib.hid (hrs.sw _ _ S2.out)
            have Q4 := Lib.hid hq
            have A4 := Lib.hid (hrs.kr.keep _ _ _ (by decide) (by decide) A2.out)
            clear hh hq hrs CR S2 R2 A2 c1
            go_upto_region 42 with (refine st_rsw rfl (.tmp 23) (.tmp 189) rfl w4.heap.size rfl rfl zsw.toArray (At.new w4 72 zsw.toArray) rfl ?_; intro w5 h5 hf5)
            have fz : Fr [] w4 (w4.alloc (.cells zsw.toArray 72)) := (by repeat (first | exact Fr.refl _ _ | assumption | refine Fr.trans0 ?_ (by assumption) | refine Fr.drewN ?_ _ | refine Fr.alloc ?_ _ | refine Fr.drew ?_))
            have g5 : Fr [] w4 w5 := (fz.more (T := [w4.heap.size]) (by simp)).trans hf5 (fun k hk => .inl hk) |>.more (T := []) (by simp)
            obtain ⟨q5, hq5⟩ : ∃ q, w4.heap.size = q := ⟨_, rfl⟩
            rw [hq5] at h5 ⊢
            have Z5 := Lib.hid h5
            have H5 := Lib.hid (H4.out.fr0 g5)
            have Q5 := Lib.hid (Q4.out.fr g5 (by simp))
            have S5 := Lib.hid (S4.out.fr0 g5)
            have A5 := Lib.hid (A4.out.fr g5 (by simp))
            clear h5 hf5 fz g5 hq5 H4 Q4 S4 A4
            go_upto_region 43 with (first
              | (refine ld_rsw (by rfl) (.tmp 23) rfl q5 rfl Z5.out ?_)
              | (refine st_rsw rfl (.tmp 11) (.tmp 191) rfl d.q rfl rfl _ Q5.out rsw_size ?_; intro w6 h6 hf6))
            have R6 := Lib.hid (H5.out.put Q5.out hf6 h6)
            have S6 := Lib.hid (S5.out.putq Q5.out H5.out.lo.1.2.2.2 hf6)
            have A6 := Lib.hid (A5.out.fr hf6 (by simpa using A5.out.diff Q5.out (by decide)))
            clear h6 hf6 H5 Q5 S5 A5 Z5
            have hbb : ∀ i : Bool, (i != i) = false := fun i => by simp
            have c1 : w6.cell? ⟨q13, 1, none⟩ = some (.int .i64 page) := (A6.out.cell 1).trans rfl
            go_wp2_with fail
            refine (CP.out _ S6.out).mono ?_
            rintro e w7 ⟨rfl, hs7, hps⟩
            have S7 := Lib.hid hs7
            have R7 := Lib.hid (hps.rs _ _ _ _ _ _ _ _ R6.out)
            have A7 := Lib.hid (hps.kp.keep _ _ _ (by decide) A6.out)
            clear hs7 hps CP S6 R6 A6 c1
            go_wp2_with fail
            go_meet
            exact ⟨⟨_, _, _, _, _, _, _, _, _, S7.out, R7.out, (P2.out.visX page).next⟩, A7.out⟩
        · obtain ⟨M, hM, hM20⟩ : ∃ M : Nat, max 1 (min many 20) = (M : Int) ∧ M ≤ 20 := ⟨(max 1 (min many 20)).toNat, by omega, by omega⟩
          have c2 : w2.cell? ⟨q13, 2, none⟩ = some (.int .i64 many) := (A2.out.cell 2).trans rfl
          go_wp2_with fail
          go_loopw [25] (fun jv wz => ∃ j : Nat, j ≤ M ∧ jv = .int .i64 j ∧ StE w wz i d k ∧ At wz q13 75 (ac 5 page many A c a rr).toArray) (fun jv _ => M - (intOf jv).toNat)
          case atStart => exact ⟨0, by omega, rfl, ⟨_, _, _, _, _, _, _, _, _, S2.out, R2.out, P2.out⟩, A2.out⟩
          case round =>
            clear S2 R2 P2 A2 c2
            obtain ⟨j, hj, rfl, ⟨s, x, pv, wa, wc, la, lc, ga, gc, hst⟩, hat⟩ := hrel
            rename World => wz
            have S2 : Hid (Sw w wz i s x pv) := Lib.hid hst.S
            have R2 : Hid (RS w wz i d s x wa wc la lc ga gc) := Lib.hid hst.R
            have P2 : Hid (Pp k x) := Lib.hid hst.P
            have A2 := Lib.hid hat
            have c2 : wz.cell? ⟨q13, 2, none⟩ = some (.int .i64 many) := (A2.out.cell 2).trans rfl
            clear hst hat
            by_cases hjM : j < M
            · have hji : (j : Int) < (M : Int) := by omega
              have CP := Lib.hid (sp_page w wz i s x pv k S2.out P2.out (by omega))
              have CR := Lib.hid fun W s' (hR : RS w W i d s' x wa wc la lc ga gc) => pr_page w W i d s' x wa wc la lc ga gc k hR P2.out (by omega) S2.out.good.2
              obtain ⟨N, hN⟩ : ∃ N, pagN x = N := ⟨_, rfl⟩
              obtain ⟨b1, hb1⟩ : ∃ b1, pagB x = b1 := ⟨_, rfl⟩
              rw [hN, hb1] at CP CR
              clear hN hb1
              go_wp2_with fail
              refine CP.out.mono ?_
              rintro e w3 ⟨rfl, hs3, hps⟩
              have S3 := Lib.hid hs3
              have R3 := Lib.hid (hps.rs _ _ _ _ _ _ _ _ R2.out)
              have A3 := Lib.hid (hps.kp.keep _ _ _ (by decide) A2.out)
              clear hs3 hps CP S2 R2 A2 c2
              go_wp2_with (refine ld_rsw (by rfl) (.tmp 11) rfl d.q rfl R3.out.Q ?_)
              refine (CR.out _ _ R3.out).mono ?_
              rintro e w4 ⟨ga', gc', rfl, hh, hq, hrs⟩
              have H4 := Lib.hid hh
              have S4 := Lib.hid (hrs.sw _ _ S3.out)
              have Q4 := Lib.hid hq
              have A4 := Lib.hid (hrs.kr.keep _ _ _ (by decide) (by decide) A3.out)
              clear hh hq hrs CR S3 R3 A3
              go_upto_region 51 with (refine st_rsw rfl (.tmp 28) (.tmp 216) rfl w4.heap.size rfl rfl zsw.toArray (At.new w4 72 zsw.toArray) rfl ?_; intro w5 h5 hf5)
              have fz : Fr [] w4 (w4.alloc (.cells zsw.toArray 72)) := (by repeat (first | exact Fr.refl _ _ | assumption | refine Fr.trans0 ?_ (by assumption) | refine Fr.drewN ?_ _ | refine Fr.alloc ?_ _ | refine Fr.drew ?_))
              have g5 : Fr [] w4 w5 := (fz.more (T := [w4.heap.size]) (by simp)).trans hf5 (fun k hk => .inl hk) |>.more (T := []) (by simp)
              obtain ⟨q5, hq5⟩ : ∃ q, w4.heap.size = q := ⟨_, rfl⟩
              rw [hq5] at h5 ⊢
              have Z5 := Lib.hid h5
              have H5 := Lib.hid (H4.out.fr0 g5)
              have Q5 := Lib.hid (Q4.out.fr g5 (by simp))
              have S5 := Lib.hid (S4.out.fr0 g5)
              have A5 := Lib.hid (A4.out.fr g5 (by simp))
              clear h5 hf5 fz g5 hq5 H4 Q4 S4 A4
              go_upto_region 52 with (first
                | (refine ld_rsw (by rfl) (.tmp 28) rfl q5 rfl Z5.out ?_)
                | (refine st_rsw rfl (.tmp 11) (.tmp 219) rfl d.q rfl rfl _ Q5.out rsw_size ?_; intro w6 h6 hf6))
              have R6 := Lib.hid (H5.out.put Q5.out hf6 h6)
              have S6 := Lib.hid (S5.out.putq Q5.out H5.out.lo.1.2.2.2 hf6)
              have A6 := Lib.hid (A5.out.fr hf6 (by simpa using A5.out.diff Q5.out (by decide)))
              clear h6 hf6 H5 Q5 S5 A5 Z5
              have hii : ∀ i : Int, (i != i) = false := fun i => by simp
              have hbb : ∀ i : Bool, (i != i) = false := fun i => by simp
              go_wp2_with fail
              go_roundw
              case rel => exact ⟨j + 1, by omega, by go_num, ⟨_, _, _, _, _, _, _, _, _, S6.out, R6.out, P2.out.pagX⟩, A6.out⟩
              case measure => simp [intOf]; omega
            · have hji : ¬ (j : Int) < (M : Int) := by omega
              go_wp2_with fail
              go_meet
              exact ⟨⟨_, _, _, _, _, _, _, _, _, S2.out, R2.out, P2.out.next⟩, A2.out⟩
        · as_aux_lemma =>
            have t0 : (z == 0) = false := beq_false_of_ne hz.1
            have t1 : (z == 1) = false := beq_false_of_ne hz.2.1
            have t2 : (z == 2) = false := beq_false_of_ne hz.2.2.1
            have t3 : (z == 3) = false := beq_false_of_ne hz.2.2.2.1
            have t4 : (z == 4) = false := beq_false_of_ne hz.2.2.2.2.1
            have t5 : (z == 5) = false := beq_false_of_ne hz.2.2.2.2.2
            have CP := Lib.hid (sp_end w w2 i s x pv S2.out)
            have CR := Lib.hid fun W s' (hR : RS w W i d s' x wa wc la lc ga gc) => pr_end w W i d s' x wa wc la lc ga gc k hR P2.out
            obtain ⟨b1, hb1⟩ : ∃ b1, endB x = b1 := ⟨_, rfl⟩
            have HLL := Lib.hid (show (endL x).length ≤ 1000000 from by
              unfold endL
              have := S2.out.good.2.len
              by_cases hb : endB x = true
              · rw [if_pos hb]; omega
              · rw [if_neg hb]; exact Nat.zero_le _)
            obtain ⟨ll, hll⟩ : ∃ ll, endL x = ll := ⟨_, rfl⟩
            rw [hb1, hll] at CP CR
            rw [hll] at HLL
            clear hb1 hll hz
            go_wp2_with fail
            refine CP.out.mono ?_
            rintro e w3 ⟨v3, s3, rfl, ho3, hs3, hps⟩
            have O3 := Lib.hid ho3
            have S3 := Lib.hid hs3
            have R3 := Lib.hid (hps.rs _ _ _ _ _ _ _ _ R2.out)
            have A3 := Lib.hid (hps.kp.keep _ _ _ (by decide) A2.out)
            clear hs3 hps CP S2 R2 A2 ho3
            go_wp2_with (refine ld_rsw (by rfl) (.tmp 11) rfl d.q rfl R3.out.Q ?_)
            refine (CR.out _ _ R3.out).mono ?_
            rintro e w4 ⟨wa', wc', la', lc', v4, rfl, ho4, hh, hf⟩
            have V4 := Lib.hid ho4
            have O4 := Lib.hid (own_fr0 O3.out hf)
            have H4 := Lib.hid hh
            have S4 := Lib.hid (S3.out.fr0 hf)
            have Q4 := Lib.hid (R3.out.Q.fr hf (by simp))
            have A4 := Lib.hid (A3.out.fr hf (by simp))
            clear hh hf CR S3 R3 A3 ho4 O3
            go_upto_region 18 with (refine st_rsw rfl (.tmp 33) (.tmp 102) rfl w4.heap.size rfl rfl zsw.toArray (At.new w4 72 zsw.toArray) rfl ?_; intro w5 h5 hf5)
            have fz : Fr [] w4 (w4.alloc (.cells zsw.toArray 72)) := (by repeat (first | exact Fr.refl _ _ | assumption | refine Fr.trans0 ?_ (by assumption) | refine Fr.drewN ?_ _ | refine Fr.alloc ?_ _ | refine Fr.drew ?_))
            have g5 : Fr [] w4 w5 := (fz.more (T := [w4.heap.size]) (by simp)).trans hf5 (fun k hk => .inl hk) |>.more (T := []) (by simp)
            obtain ⟨q5, hq5⟩ : ∃ q, w4.heap.size = q := ⟨_, rfl⟩
            rw [hq5] at h5 ⊢
            have Z5 := Lib.hid h5
            have H5 := Lib.hid (H4.out.fr0 g5)
            have Q5 := Lib.hid (Q4.out.fr g5 (by simp))
            have S5 := Lib.hid (S4.out.fr0 g5)
            have A5 := Lib.hid (A4.out.fr g5 (by simp))
            have O5 := Lib.hid (own_fr0 O4.out g5)
            have V5 := Lib.hid (own_fr0 V4.out g5)
            clear O4 V4
            clear h5 hf5 fz g5 hq5 H4 Q4 S4 A4
            go_upto_region 19 with (first
              | (refine ld_rsw (by rfl) (.tmp 33) rfl q5 rfl Z5.out ?_)
              | (refine st_rsw rfl (.tmp 11) (.tmp 105) rfl d.q rfl rfl _ Q5.out rsw_size ?_; intro w6 h6 hf6))
            have R6 := Lib.hid (H5.out.put Q5.out hf6 h6)
            have S6 := Lib.hid (S5.out.putq Q5.out H5.out.lo.1.2.2.2 hf6)
            have A6 := Lib.hid (A5.out.fr hf6 (by simpa using A5.out.diff Q5.out (by decide)))
            have O6 := Lib.hid (own_apartT O5.out hf6 (fun k hk => by simp only [List.mem_singleton] at hk; subst hk; exact ⟨_, _, Q5.out, by decide⟩))
            have V6 := Lib.hid (own_apartT V5.out hf6 (fun k hk => by simp only [List.mem_singleton] at hk; subst hk; exact ⟨_, _, Q5.out, by decide⟩))
            clear O5 V5
            clear h6 hf6 H5 Q5 S5 A5 Z5
            have hbb : ∀ i : Bool, (i != i) = false := fun i => by simp
            go_wp2_with fail
            refine (rsame_any w6 v3 v4 ll 0 0 O6.out V6.out HLL.out).mono ?_
            rintro e w7 ⟨rfl, hf7⟩
            have S7 := Lib.hid (S6.out.fr0 hf7)
            have R7 := Lib.hid (R6.out.fr0 hf7)
            have A7 := Lib.hid (A6.out.fr hf7 (by simp))
            clear hf7 S6 R6 A6 O6 V6
            go_wp2_with fail
            go_meet
            exact ⟨⟨_, _, _, _, _, _, _, _, _, S7.out, R7.out, P2.out.endX.next⟩, A7.out⟩
      case rest =>
        clear S2 R2 P2 A2
        obtain ⟨⟨s, x, pv, wa, wc, la, lc, ga, gc, hst⟩, hA3⟩ := hcut
        rename World => wx
        as_aux_lemma =>
          have S3 : Hid (Sw w wx i s x pv) := Lib.hid hst.S
          have R3 : Hid (RS w wx i d s x wa wc la lc ga gc) := Lib.hid hst.R
          have P3 : Hid (Pp (k + 1) x) := Lib.hid hst.P
          have A3 := Lib.hid hA3
          clear hst hA3
          have C1 := Lib.hid fun W (hW : Fr [] wx W) => swstop_any w W i s x pv (S3.out.fr0 hW)
          have C2 := Lib.hid fun W (hW : Fr [] wx W) => swleft_any w W i s x pv (S3.out.fr0 hW)
          have C3 := Lib.hid fun W (hW : Fr [] wx W) => swvis_any w W i s x pv (S3.out.fr0 hW)
          have C4 := Lib.hid fun W (hW : Fr [] wx W) => swold_any w W i s x pv (S3.out.fr0 hW) P3.out.st page
          have C5 := Lib.hid fun W (hW : Fr [] wx W) => sweep_m (S3.out.fr0 hW).Y
          have D2 := Lib.hid fun W (hW : Fr [] wx W) => (show Calls Tryz.prog 36 #[.agg (bkl x.m.ep (.slice ga 16 gc)).toArray] W _ from r18left_any W 0 x.m.ep (.slice ga 16 gc) 16 x.F (own_fr0 R3.out.B hW) (by omega))
          have D4 := Lib.hid fun W (hW : Fr [] wx W) => (show Calls Tryz.prog 37 #[.agg (rsw d.r x wa wc la lc ga gc).toArray, .int .i64 page] W _ from r19old_any W d.r _ x.m.ep (.slice ga 16 gc) x.st x.vis rsw_s3 x.F (own_fr0 R3.out.B hW) page)
          have G8 := Lib.hid fun W (hW : Fr [] wx W) => (show W.cell? ⟨d.q, 8, none⟩ = some (.int .i64 (x.st : Int)) from ((R3.out.Q.fr hW (by simp)).cell 8).trans (sw3_ast rsw_s3))
          have G9 := Lib.hid fun W (hW : Fr [] wx W) => (show W.cell? ⟨d.q, 9, none⟩ = some (.int .u64 (x.vis : Int)) from ((R3.out.Q.fr hW (by simp)).cell 9).trans (sw3_avis rsw_s3))
          have G5 := Lib.hid fun W (hW : Fr [] wx W) => (show W.cell? ⟨d.q, 5, none⟩ = some (.bool x.m.un) from ((R3.out.Q.fr hW (by simp)).cell 5).trans rfl)
          have G1 := Lib.hid fun W (hW : Fr [] wx W) => (show W.cell? ⟨q13, 1, none⟩ = some (.int .i64 page) from ((A3.out.fr hW (by simp)).cell 1).trans rfl)
          have GQ := Lib.hid fun W (hW : Fr [] wx W) => R3.out.Q.fr hW (by simp)
          obtain ⟨b1, hb1⟩ : ∃ b1, decide (x.st = 1) = b1 := ⟨_, rfl⟩
          have e1 : ((x.st : Int) == 1) = b1 := by
            rw [← hb1]
            by_cases h : x.st = 1
            · rw [h]; rfl
            · rw [decide_eq_false h]; simp; omega
          obtain ⟨b2, hb2⟩ : ∃ b2, (decide (x.st ≠ 0) && (inR page 16 && x.F page.toNat)) = b2 := ⟨_, rfl⟩
          obtain ⟨nl, hnl⟩ : ∃ nl, cnt x.F 16 = nl := ⟨_, rfl⟩
          obtain ⟨un, hun⟩ : ∃ un, x.m.un = un := ⟨_, rfl⟩
          rw [hb1] at C1
          rw [hnl] at C2 D2
          rw [hb2] at C4 D4
          rw [hun] at C5 G5
          clear hb1 hb2 hnl hun
          have hii : ∀ i : Int, (i != i) = false := fun i => by simp
          have hbb : ∀ i : Bool, (i != i) = false := fun i => by simp
          go_upto_region 54 with (fail)
          refine wp_region_L (fun W => Fr [] wx W) [] (by kernel_rfl) ((Fr.refl _ _).drew) (fun hHeld => ?_)
          refine wpAnyL_take (i := 0) (v := ?_) rfl (by kernel_rfl) (fun _ _ _ h => h) (Or.inl ⟨by rfl, ?_⟩) (by assumption) ?_; rotate_left; (focus (intro w hSw; skip; go_simp; (try with_reducible rfl))); (try (refine wpAnyL_norm (by simp only [Act.put, List.setIfInBounds_toArray, List.set_cons_zero, List.set_cons_succ]; rfl) ?_))
          refine wpAnyL_take (i := 2) (v := ?_) rfl (by kernel_rfl) (fun _ _ _ h => h) (Or.inl ⟨by rfl, ?_⟩) (by assumption) ?_; rotate_left; (focus (intro w hSw; skip; go_simp; (try with_reducible rfl))); (try (refine wpAnyL_norm (by simp only [Act.put, List.setIfInBounds_toArray, List.set_cons_zero, List.set_cons_succ]; rfl) ?_))
          refine wpAnyL_take (i := 3) (v := ?_) rfl (by kernel_rfl) (fun _ _ _ h => h) (Or.inl ⟨by rfl, ?_⟩) (by assumption) ?_; rotate_left; (focus (intro w hSw; (have cc := G8.out _ hSw); go_simp; (try with_reducible rfl))); (try (refine wpAnyL_norm (by simp only [Act.put, List.setIfInBounds_toArray, List.set_cons_zero, List.set_cons_succ]; rfl) ?_))
          refine wpAnyL_take (i := 4) (v := ?_) rfl (by kernel_rfl) (fun _ _ _ h => h) (Or.inl ⟨by rfl, ?_⟩) (by assumption) ?_; rotate_left; (focus (intro w hSw; skip; go_simp; (try with_reducible rfl))); (try (refine wpAnyL_norm (by simp only [Act.put, List.setIfInBounds_toArray, List.set_cons_zero, List.set_cons_succ]; rfl) ?_))
          refine wpAnyL_ready (rs := [1]) (by kernel_rfl) (by simp) ?_; refine AllReadyL.cons rfl (fun K hK => ?_) AllReadyL.nil
          go_simp
          refine (C1.out _ hHeld).mono ?_
          rintro e w4 ⟨rfl, rfl⟩
          refine hK.out _ _ (fun _ => hHeld) (fun hHeld' => ?_); have hHeld := hHeld' (by decide); clear hHeld' hK K; (try (refine wpAnyL_norm (by simp only [Act.put, List.setIfInBounds_toArray, List.set_cons_zero, List.set_cons_succ]; rfl) ?_))
          refine wpAnyL_take (i := 5) (v := ?_) rfl (by kernel_rfl) (fun _ _ _ h => h) (Or.inl ⟨by rfl, ?_⟩) (by assumption) ?_; rotate_left; (focus (intro w hSw; skip; go_simp; (try with_reducible rfl))); (try (refine wpAnyL_norm (by simp only [Act.put, List.setIfInBounds_toArray, List.set_cons_zero, List.set_cons_succ]; rfl) ?_))
          refine wpAnyL_take (i := 6) (v := ?_) rfl (by kernel_rfl) (fun _ _ _ h => h) (Or.inl ⟨by rfl, ?_⟩) (by assumption) ?_; rotate_left; (focus (intro w hSw; skip; go_simp; (try with_reducible rfl))); (try (refine wpAnyL_norm (by simp only [Act.put, List.setIfInBounds_toArray, List.set_cons_zero, List.set_cons_succ]; rfl) ?_))
          refine wpAnyL_take (i := 7) (v := ?_) rfl (by kernel_rfl) (fun _ _ _ h => h) (Or.inl ⟨by rfl, ?_⟩) (by assumption) ?_; rotate_left; (focus (intro w hSw; skip; go_simp; (try with_reducible rfl))); (try (refine wpAnyL_norm (by simp only [Act.put, List.setIfInBounds_toArray, List.set_cons_zero, List.set_cons_succ]; rfl) ?_))
          refine wpAnyL_take (i := 9) (v := ?_) rfl (by kernel_rfl) (fun _ _ _ h => h) (Or.inl ⟨by rfl, ?_⟩) (by assumption) ?_; rotate_left; (focus (intro w hSw; skip; go_simp; (try with_reducible rfl))); (try (refine wpAnyL_norm (by simp only [Act.put, List.setIfInBounds_toArray, List.set_cons_zero, List.set_cons_succ]; rfl) ?_))
          refine wpAnyL_take (i := 10) rfl (by kernel_rfl) (fun _ _ _ h => h) (yields_load_at 70 (.tmp 237) rfl ⟨d.q, 6, none⟩ rfl (bkl x.m.ep (.slice ga 16 gc)) _ (fun W h j v hv => by rw [Go.WideShapes.add_plain, (GQ.out W h).cell, List.getElem?_toArray]; exact sw3_b rsw_s3 j v hv) Tryz.underlying70 rfl (by kernel_rfl) rfl) (by assumption) ?_; (try (refine wpAnyL_norm (by simp only [Act.put, List.setIfInBounds_toArray, List.set_cons_zero, List.set_cons_succ]; rfl) ?_))
          refine wpAnyL_ready (rs := [8]) (by kernel_rfl) (by simp) ?_; refine AllReadyL.cons rfl (fun K hK => ?_) AllReadyL.nil
          (try rw [if_pos (by rfl)])
          go_simp
          refine (C2.out _ hHeld).mono ?_
          rintro e w4 ⟨rfl, rfl⟩
          refine hK.out _ _ (fun _ => hHeld) (fun hHeld' => ?_); have hHeld := hHeld' (by decide); clear hHeld' hK K; (try (refine wpAnyL_norm (by simp only [Act.put, List.setIfInBounds_toArray, List.set_cons_zero, List.set_cons_succ]; rfl) ?_))
          refine wpAnyL_ready (rs := [11]) (by kernel_rfl) (by simp) ?_; refine AllReadyL.cons rfl (fun K hK => ?_) AllReadyL.nil
          (try rw [if_pos (by rfl)])
          go_simp
          refine (D2.out _ hHeld).mono ?_
          rintro e w4 ⟨rfl, hf4⟩
          refine hK.out _ _ (fun _ => (Fr.trans0 hHeld hf4)) (fun hHeld' => ?_); have hHeld := hHeld' (by decide); clear hHeld' hK K; (try (refine wpAnyL_norm (by simp only [Act.put, List.setIfInBounds_toArray, List.set_cons_zero, List.set_cons_succ]; rfl) ?_))
          clear hf4
          refine wpAnyL_take (i := 12) (v := ?_) rfl (by kernel_rfl) (fun _ _ _ h => h) (Or.inl ⟨by rfl, ?_⟩) (by assumption) ?_; rotate_left; (focus (intro w hSw; skip; go_simp; (try with_reducible rfl))); (try (refine wpAnyL_norm (by simp only [Act.put, List.setIfInBounds_toArray, List.set_cons_zero, List.set_cons_succ]; rfl) ?_))
          refine wpAnyL_take (i := 13) (v := ?_) rfl (by kernel_rfl) (fun _ _ _ h => h) (Or.inl ⟨by rfl, ?_⟩) (by assumption) ?_; rotate_left; (focus (intro w hSw; skip; go_simp; (try with_reducible rfl))); (try (refine wpAnyL_norm (by simp only [Act.put, List.setIfInBounds_toArray, List.set_cons_zero, List.set_cons_succ]; rfl) ?_))
          refine wpAnyL_take (i := 14) (v := ?_) rfl (by kernel_rfl) (fun _ _ _ h => h) (Or.inl ⟨by rfl, ?_⟩) (by assumption) ?_; rotate_left; (focus (intro w hSw; skip; go_simp; (try with_reducible rfl))); (try (refine wpAnyL_norm (by simp only [Act.put, List.setIfInBounds_toArray, List.set_cons_zero, List.set_cons_succ]; rfl) ?_))
          refine wpAnyL_take (i := 15) (v := ?_) rfl (by kernel_rfl) (fun _ _ _ h => h) (Or.inl ⟨by rfl, ?_⟩) (by assumption) ?_; rotate_left; (focus (intro w hSw; skip; go_simp; (try with_reducible rfl))); (try (refine wpAnyL_norm (by simp only [Act.put, List.setIfInBounds_toArray, List.set_cons_zero, List.set_cons_succ]; rfl) ?_))
          refine wpAnyL_take (i := 17) (v := ?_) rfl (by kernel_rfl) (fun _ _ _ h => h) (Or.inl ⟨by rfl, ?_⟩) (by assumption) ?_; rotate_left; (focus (intro w hSw; skip; go_simp; (try with_reducible rfl))); (try (refine wpAnyL_norm (by simp only [Act.put, List.setIfInBounds_toArray, List.set_cons_zero, List.set_cons_succ]; rfl) ?_))
          refine wpAnyL_take (i := 18) (v := ?_) rfl (by kernel_rfl) (fun _ _ _ h => h) (Or.inl ⟨by rfl, ?_⟩) (by assumption) ?_; rotate_left; (focus (intro w hSw; (have cc := G9.out _ hSw); go_simp; (try with_reducible rfl))); (try (refine wpAnyL_norm (by simp only [Act.put, List.setIfInBounds_toArray, List.set_cons_zero, List.set_cons_succ]; rfl) ?_))
          refine wpAnyL_ready (rs := [16]) (by kernel_rfl) (by simp) ?_; refine AllReadyL.cons rfl (fun K hK => ?_) AllReadyL.nil
          (try rw [if_pos (by rfl)])
          go_simp
          refine (C3.out _ hHeld).mono ?_
          rintro e w5 ⟨rfl, rfl⟩
          refine hK.out _ _ (fun _ => hHeld) (fun hHeld' => ?_); have hHeld := hHeld' (by decide); clear hHeld' hK K; (try (refine wpAnyL_norm (by simp only [Act.put, List.setIfInBounds_toArray, List.set_cons_zero, List.set_cons_succ]; rfl) ?_))
          refine wpAnyL_take (i := 19) (v := ?_) rfl (by kernel_rfl) (fun _ _ _ h => h) (Or.inl ⟨by rfl, ?_⟩) (by assumption) ?_; rotate_left; (focus (intro w hSw; skip; go_simp; (try with_reducible rfl))); (try (refine wpAnyL_norm (by simp only [Act.put, List.setIfInBounds_toArray, List.set_cons_zero, List.set_cons_succ]; rfl) ?_))
          refine wpAnyL_take (i := 20) (v := ?_) rfl (by kernel_rfl) (fun _ _ _ h => h) (Or.inl ⟨by rfl, ?_⟩) (by assumption) ?_; rotate_left; (focus (intro w hSw; skip; go_simp; (try with_reducible rfl))); (try (refine wpAnyL_norm (by simp only [Act.put, List.setIfInBounds_toArray, List.set_cons_zero, List.set_cons_succ]; rfl) ?_))
          refine wpAnyL_take (i := 21) (v := ?_) rfl (by kernel_rfl) (fun _ _ _ h => h) (Or.inl ⟨by rfl, ?_⟩) (by assumption) ?_; rotate_left; (focus (intro w hSw; skip; go_simp; (try with_reducible rfl))); (try (refine wpAnyL_norm (by simp only [Act.put, List.setIfInBounds_toArray, List.set_cons_zero, List.set_cons_succ]; rfl) ?_))
          refine wpAnyL_take (i := 22) (v := ?_) rfl (by kernel_rfl) (fun _ _ _ h => h) (Or.inl ⟨by rfl, ?_⟩) (by assumption) ?_; rotate_left; (focus (intro w hSw; skip; go_simp; (try with_reducible rfl))); (try (refine wpAnyL_norm (by simp only [Act.put, List.setIfInBounds_toArray, List.set_cons_zero, List.set_cons_succ]; rfl) ?_))
          refine wpAnyL_take (i := 23) (v := ?_) rfl (by kernel_rfl) (fun _ _ _ h => h) (Or.inl ⟨by rfl, ?_⟩) (by assumption) ?_; rotate_left; (focus (intro w hSw; skip; go_simp; (try with_reducible rfl))); (try (refine wpAnyL_norm (by simp only [Act.put, List.setIfInBounds_toArray, List.set_cons_zero, List.set_cons_succ]; rfl) ?_))
          refine wpAnyL_take (i := 24) (v := ?_) rfl (by kernel_rfl) (fun _ _ _ h => h) (Or.inl ⟨by rfl, ?_⟩) (by assumption) ?_; rotate_left; (focus (intro w hSw; (have cc := G1.out _ hSw); go_simp; (try with_reducible rfl))); (try (refine wpAnyL_norm (by simp only [Act.put, List.setIfInBounds_toArray, List.set_cons_zero, List.set_cons_succ]; rfl) ?_))
          refine wpAnyL_take (i := 26) rfl (by kernel_rfl) (fun _ _ _ h => h) (yields_load_at 72 (.tmp 11) rfl ⟨d.q, 0, none⟩ rfl (rsw d.r x wa wc la lc ga gc) _ (fun W h j v hv => by rw [Go.WideShapes.add_plain, Nat.zero_add, (GQ.out W h).cell, List.getElem?_toArray]; exact hv) Tryz.underlying72 rfl (by kernel_rfl) rfl) (by assumption) ?_; (try (refine wpAnyL_norm (by simp only [Act.put, List.setIfInBounds_toArray, List.set_cons_zero, List.set_cons_succ]; rfl) ?_))
          refine wpAnyL_take (i := 27) (v := ?_) rfl (by kernel_rfl) (fun _ _ _ h => h) (Or.inl ⟨by rfl, ?_⟩) (by assumption) ?_; rotate_left; (focus (intro w hSw; skip; go_simp; (try with_reducible rfl))); (try (refine wpAnyL_norm (by simp only [Act.put, List.setIfInBounds_toArray, List.set_cons_zero, List.set_cons_succ]; rfl) ?_))
          refine wpAnyL_take (i := 28) (v := ?_) rfl (by kernel_rfl) (fun _ _ _ h => h) (Or.inl ⟨by rfl, ?_⟩) (by assumption) ?_; rotate_left; (focus (intro w hSw; (have cc := G1.out _ hSw); go_simp; (try with_reducible rfl))); (try (refine wpAnyL_norm (by simp only [Act.put, List.setIfInBounds_toArray, List.set_cons_zero, List.set_cons_succ]; rfl) ?_))
          refine wpAnyL_ready (rs := [25]) (by kernel_rfl) (by simp) ?_; refine AllReadyL.cons rfl (fun K hK => ?_) AllReadyL.nil
          (try rw [if_pos (by rfl)])
          go_simp
          refine (C4.out _ hHeld).mono ?_
          rintro e w5 ⟨rfl, rfl⟩
          refine hK.out _ _ (fun _ => hHeld) (fun hHeld' => ?_); have hHeld := hHeld' (by decide); clear hHeld' hK K; (try (refine wpAnyL_norm (by simp only [Act.put, List.setIfInBounds_toArray, List.set_cons_zero, List.set_cons_succ]; rfl) ?_))
          refine wpAnyL_ready (rs := [29]) (by kernel_rfl) (by simp) ?_; refine AllReadyL.cons rfl (fun K hK => ?_) AllReadyL.nil
          (try rw [if_pos (by rfl)])
          go_simp
          refine (D4.out _ hHeld).mono ?_
          rintro e w6 ⟨rfl, hf6⟩
          refine hK.out _ _ (fun _ => (Fr.trans0 hHeld hf6)) (fun hHeld' => ?_); have hHeld := hHeld' (by decide); clear hHeld' hK K; (try (refine wpAnyL_norm (by simp only [Act.put, List.setIfInBounds_toArray, List.set_cons_zero, List.set_cons_succ]; rfl) ?_))
          clear hf6
          refine wpAnyL_take (i := 30) (v := ?_) rfl (by kernel_rfl) (fun _ _ _ h => h) (Or.inl ⟨by rfl, ?_⟩) (by assumption) ?_; rotate_left; (focus (intro w hSw; skip; go_simp; (try with_reducible rfl))); (try (refine wpAnyL_norm (by simp only [Act.put, List.setIfInBounds_toArray, List.set_cons_zero, List.set_cons_succ]; rfl) ?_))
          refine wpAnyL_take (i := 31) (v := ?_) rfl (by kernel_rfl) (fun _ _ _ h => h) (Or.inl ⟨by rfl, ?_⟩) (by assumption) ?_; rotate_left; (focus (intro w hSw; skip; go_simp; (try with_reducible rfl))); (try (refine wpAnyL_norm (by simp only [Act.put, List.setIfInBounds_toArray, List.set_cons_zero, List.set_cons_succ]; rfl) ?_))
          refine wpAnyL_take (i := 32) (v := ?_) rfl (by kernel_rfl) (fun _ _ _ h => h) (Or.inl ⟨by rfl, ?_⟩) (by assumption) ?_; rotate_left; (focus (intro w hSw; skip; go_simp; (try with_reducible rfl))); (try (refine wpAnyL_norm (by simp only [Act.put, List.setIfInBounds_toArray, List.set_cons_zero, List.set_cons_succ]; rfl) ?_))
          refine wpAnyL_take (i := 33) (v := ?_) rfl (by kernel_rfl) (fun _ _ _ h => h) (Or.inl ⟨by rfl, ?_⟩) (by assumption) ?_; rotate_left; (focus (intro w hSw; skip; go_simp; (try with_reducible rfl))); (try (refine wpAnyL_norm (by simp only [Act.put, List.setIfInBounds_toArray, List.set_cons_zero, List.set_cons_succ]; rfl) ?_))
          refine wpAnyL_take (i := 35) (v := ?_) rfl (by kernel_rfl) (fun _ _ _ h => h) (Or.inl ⟨by rfl, ?_⟩) (by assumption) ?_; rotate_left; (focus (intro w hSw; skip; go_simp; (try with_reducible rfl))); (try (refine wpAnyL_norm (by simp only [Act.put, List.setIfInBounds_toArray, List.set_cons_zero, List.set_cons_succ]; rfl) ?_))
          refine wpAnyL_take (i := 36) (v := ?_) rfl (by kernel_rfl) (fun _ _ _ h => h) (Or.inl ⟨by rfl, ?_⟩) (by assumption) ?_; rotate_left; (focus (intro w hSw; skip; go_simp; (try with_reducible rfl))); (try (refine wpAnyL_norm (by simp only [Act.put, List.setIfInBounds_toArray, List.set_cons_zero, List.set_cons_succ]; rfl) ?_))
          refine wpAnyL_take (i := 37) (v := ?_) rfl (by kernel_rfl) (fun _ _ _ h => h) (Or.inl ⟨by rfl, ?_⟩) (by assumption) ?_; rotate_left; (focus (intro w hSw; (have cc := G5.out _ hSw); go_simp; (try with_reducible rfl))); (try (refine wpAnyL_norm (by simp only [Act.put, List.setIfInBounds_toArray, List.set_cons_zero, List.set_cons_succ]; rfl) ?_))
          refine wpAnyL_ready (rs := [34]) (by kernel_rfl) (by simp) ?_; refine AllReadyL.cons rfl (fun K hK => ?_) AllReadyL.nil
          (try rw [if_pos (by rfl)])
          go_simp
          refine (C5.out _ hHeld).mono ?_
          rintro e w7 ⟨rfl, rfl⟩
          refine hK.out _ _ (fun _ => hHeld) (fun hHeld' => ?_); have hHeld := hHeld' (by decide); clear hHeld' hK K; (try (refine wpAnyL_norm (by simp only [Act.put, List.setIfInBounds_toArray, List.set_cons_zero, List.set_cons_succ]; rfl) ?_))
          refine wpAnyL_take (i := 38) (v := ?_) rfl (by kernel_rfl) (fun _ _ _ h => h) (Or.inl ⟨by rfl, ?_⟩) (by assumption) ?_; rotate_left; (focus (intro w hSw; skip; go_simp; (try with_reducible rfl))); (try (refine wpAnyL_norm (by simp only [Act.put, List.setIfInBounds_toArray, List.set_cons_zero, List.set_cons_succ]; rfl) ?_))
          refine wpAnyL_take (i := 39) (v := ?_) rfl (by kernel_rfl) (fun _ _ _ h => h) (Or.inl ⟨by rfl, ?_⟩) (by assumption) ?_; rotate_left; (focus (intro w hSw; skip; go_simp; (try with_reducible rfl))); (try (refine wpAnyL_norm (by simp only [Act.put, List.setIfInBounds_toArray, List.set_cons_zero, List.set_cons_succ]; rfl) ?_))
          refine wpAnyL_done (by kernel_rfl) ?_ _
          have HH := Lib.hid hHeld
          clear hHeld C1 C2 C3 C4 C5 D2 D4 G1 G5 G8 G9 GQ
          go_wp2_with fail
          go_roundw
          case rel => exact ⟨k + 1, by omega, by go_num, ⟨_, _, _, _, _, _, _, _, _, S3.out.fr0 HH.out, R3.out.fr0 HH.out, P3.out⟩⟩
          case measure => simp [intOf]; omega
    · have F1 := Lib.hid S1.out.S.Y.f
      by_cases h2 : k < len0
      · have hkl : (k : Int) < (len0 : Int) := by omega
        have hk4 : ¬ (k : Int) < 40 := by omega
        as_aux_lemma =>
          have PA := Lib.hid fun W (hW : Fr [] wr W) => (S1.out.S.fr0 hW).A
          have PR := Lib.hid fun W (hW : Fr [] wr W) => S1.out.R.R.fr0 hW
          have HL := Lib.hid S1.out.P.len
          clear S1
          go_wp2_with fail
          go_loopw [36] (fun pv wz => ∃ pg : Nat, pg ≤ 16 ∧ pv = .int .i64 pg ∧ Fr [] wr wz) (fun pv _ => 16 - (intOf pv).toNat)
          case atStart => exact ⟨0, by omega, rfl, Fr.refl _ _⟩
          case round =>
            obtain ⟨pg, hpg, rfl, hfz⟩ := hrel
            rename World => wz
            have FZ := Lib.hid hfz
            clear hfz
            by_cases hp16 : pg < 16
            · have hpi : (pg : Int) < 16 := by omega
              have CTA := Lib.hid (atagged_any _ _ _ _ _ _ _ _ (PA.out _ FZ.out) (pg : Int))
              have CTR := Lib.hid fun W (hW : Fr [] wr W) => rtagged_any W _ _ _ _ _ _ _ (PR.out _ hW) (by rw [HL.out]) (pg : Int)
              obtain ⟨l, hl⟩ : ∃ l, tgP x.bs.length x.f (pg : Int) = l := ⟨_, rfl⟩
              rw [hl] at CTA CTR
              have hll : l.length ≤ 16 := by rw [← hl]; exact tgP_len _ _ _
              obtain ⟨n, hn⟩ : ∃ n, l.length = n := ⟨_, rfl⟩
              rw [hn] at CTA CTR hll
              have HN' := Lib.hid hn
              clear hl hn
              go_wp2_with fail
              refine (CTA.out).mono ?_
              rintro e w5 ⟨v1, rfl, ho1, hf5⟩
              have F5 := Lib.hid (FZ.out.trans0 hf5)
              obtain ⟨va1, vc1, rfl, -⟩ := own_slice ho1
              have O1 := Lib.hid ho1
              clear ho1 hf5 CTA
              go_wp2_with fail
              refine (CTR.out _ F5.out).mono ?_
              rintro e w6 ⟨v2, rfl, ho2, hf6⟩
              have F6 := Lib.hid (F5.out.trans0 hf6)
              obtain ⟨va2, vc2, rfl, -⟩ := own_slice ho2
              have O2 := Lib.hid ho2
              replace O1 := Lib.hid (own_fr0 O1.out hf6)
              clear ho2 hf6 CTR
              go_wp2_with fail
              go_loopw [39] (fun iv wq => ∃ j : Nat, j ≤ n ∧ iv = .int .i64 j ∧ Fr [] w6 wq) (fun iv _ => n - (intOf iv).toNat)
              case atStart => exact ⟨0, by omega, rfl, Fr.refl _ _⟩
              case round =>
                obtain ⟨j, hj, rfl, hf⟩ := hrel
                rename World => wq
                have FQ := Lib.hid hf
                clear hf
                by_cases h8 : j < n
                · obtain ⟨a, hka⟩ : ∃ a, l[j]? = some a := ⟨_, List.getElem?_eq_getElem (by rw [HN'.out]; exact h8)⟩
                  obtain ⟨g1, c1, e1', -, -, hg1, hc1, -⟩ := own_open O1.out (by omega)
                  obtain ⟨g2, c2, e2', -, -, hg2, hc2, -⟩ := own_open O2.out (by omega)
                  injection e1' with x1 x2 x3
                  injection e2' with y1 y2 y3
                  subst x1 x3 y1 y3
                  have d1 := hc1 j h8
                  have d2 := hc2 j h8
                  rw [u32s_get l j a hka] at d1 d2
                  have D1 := Lib.hid (fun W (hW : Fr [] wq W) => (((FQ.out.trans0 hW).cell (a := ⟨g1, j, none⟩) hg1 (by simp)).trans d1))
                  have D2 := Lib.hid (fun W (hW : Fr [] wq W) => (((FQ.out.trans0 hW).cell (a := ⟨g2, j, none⟩) hg2 (by simp)).trans d2))
                  have hji : (j : Int) < n := by omega
                  clear hka hc1 hc2 d1 d2
                  go_wp2_with fail
                  refine wp_region_L (fun W => Fr [] wq W) [] (by kernel_rfl) ((Fr.refl _ _).drew) (fun hHeld => ?_)
                  refine wpAnyL_take (i := 0) (v := ?_) rfl (by kernel_rfl) (fun _ _ _ h => h) (Or.inl ⟨by rfl, ?_⟩) (by assumption) ?_; rotate_left; (focus (intro w hSw; skip; go_simp; (try with_reducible rfl))); (try (refine wpAnyL_norm (by simp only [Act.put, List.setIfInBounds_toArray, List.set_cons_zero, List.set_cons_succ]; rfl) ?_))
                  refine wpAnyL_take (i := 1) (v := ?_) rfl (by kernel_rfl) (fun _ _ _ h => h) (Or.inl ⟨by rfl, ?_⟩) (by assumption) ?_; rotate_left; (focus (intro w hSw; skip; go_simp; (try with_reducible rfl))); (try (refine wpAnyL_norm (by simp only [Act.put, List.setIfInBounds_toArray, List.set_cons_zero, List.set_cons_succ]; rfl) ?_))
                  refine wpAnyL_take (i := 2) (v := ?_) rfl (by kernel_rfl) (fun _ _ _ h => h) (Or.inl ⟨by rfl, ?_⟩) (by assumption) ?_; rotate_left; (focus (intro w hSw; skip; go_simp; (try with_reducible rfl))); (try (refine wpAnyL_norm (by simp only [Act.put, List.setIfInBounds_toArray, List.set_cons_zero, List.set_cons_succ]; rfl) ?_))
                  refine wpAnyL_take (i := 3) (v := ?_) rfl (by kernel_rfl) (fun _ _ _ h => h) (Or.inl ⟨by rfl, ?_⟩) (by assumption) ?_; rotate_left; (focus (intro w hSw; (have cc := D1.out _ hSw); go_simp; (try with_reducible rfl))); (try (refine wpAnyL_norm (by simp only [Act.put, List.setIfInBounds_toArray, List.set_cons_zero, List.set_cons_succ]; rfl) ?_))
                  refine wpAnyL_take (i := 4) (v := ?_) rfl (by kernel_rfl) (fun _ _ _ h => h) (Or.inl ⟨by rfl, ?_⟩) (by assumption) ?_; rotate_left; (focus (intro w hSw; skip; go_simp; (try with_reducible rfl))); (try (refine wpAnyL_norm (by simp only [Act.put, List.setIfInBounds_toArray, List.set_cons_zero, List.set_cons_succ]; rfl) ?_))
                  refine wpAnyL_take (i := 5) (v := ?_) rfl (by kernel_rfl) (fun _ _ _ h => h) (Or.inl ⟨by rfl, ?_⟩) (by assumption) ?_; rotate_left; (focus (intro w hSw; skip; go_simp; (try with_reducible rfl))); (try (refine wpAnyL_norm (by simp only [Act.put, List.setIfInBounds_toArray, List.set_cons_zero, List.set_cons_succ]; rfl) ?_))
                  refine wpAnyL_take (i := 6) (v := ?_) rfl (by kernel_rfl) (fun _ _ _ h => h) (Or.inl ⟨by rfl, ?_⟩) (by assumption) ?_; rotate_left; (focus (intro w hSw; skip; go_simp; (try with_reducible rfl))); (try (refine wpAnyL_norm (by simp only [Act.put, List.setIfInBounds_toArray, List.set_cons_zero, List.set_cons_succ]; rfl) ?_))
                  refine wpAnyL_take (i := 7) (v := ?_) rfl (by kernel_rfl) (fun _ _ _ h => h) (Or.inl ⟨by rfl, ?_⟩) (by assumption) ?_; rotate_left; (focus (intro w hSw; (have cc := D2.out _ hSw); go_simp; (try with_reducible rfl))); (try (refine wpAnyL_norm (by simp only [Act.put, List.setIfInBounds_toArray, List.set_cons_zero, List.set_cons_succ]; rfl) ?_))
                  refine wpAnyL_take (i := 8) (v := ?_) rfl (by kernel_rfl) (fun _ _ _ h => h) (Or.inl ⟨by rfl, ?_⟩) (by assumption) ?_; rotate_left; (focus (intro w hSw; skip; go_simp; (try with_reducible rfl))); (try (refine wpAnyL_norm (by simp only [Act.put, List.setIfInBounds_toArray, List.set_cons_zero, List.set_cons_succ]; rfl) ?_))
                  refine wpAnyL_done (by kernel_rfl) ?_ _
                  have F9 := Lib.hid (FQ.out.trans0 hHeld)
                  clear hHeld D1 D2
                  have hii : ∀ i : Int, (i != i) = false := fun i => by simp
                  go_wp2_with fail
                  go_roundw
                  case rel => exact ⟨j + 1, by omega, by go_num, F9.out⟩
                  case measure => simp [intOf]; omega
                · have F7 := Lib.hid (F6.out.trans0 FQ.out)
                  have hji : ¬ (j : Int) < n := by omega
                  clear FQ O1 O2
                  go_wp2_with fail
                  go_roundw
                  case rel => exact ⟨pg + 1, by omega, by go_num, F7.out⟩
                  case measure => simp [intOf]; omega
            · have hpi : ¬ (pg : Int) < 16 := by omega
              have F9 := Lib.hid (F1.out.trans0 FZ.out)
              go_wp2_with fail
              refine (works_any _ (HT.out.fr F9.out (by simp))).mono ?_
              rintro e w9 ⟨rfl, hf9⟩
              go_wp2_with fail
              go_ret
              exact ⟨rfl, F9.out.trans0 hf9⟩
      · have hkl : ¬ (k : Int) < (len0 : Int) := by omega
        as_aux_lemma =>
          have PA := Lib.hid fun W (hW : Fr [] wr W) => (S1.out.S.fr0 hW).A
          have PR := Lib.hid fun W (hW : Fr [] wr W) => S1.out.R.R.fr0 hW
          have HL := Lib.hid S1.out.P.len
          clear S1
          go_wp2_with fail
          go_loopw [36] (fun pv wz => ∃ pg : Nat, pg ≤ 16 ∧ pv = .int .i64 pg ∧ Fr [] wr wz) (fun pv _ => 16 - (intOf pv).toNat)
          case atStart => exact ⟨0, by omega, rfl, Fr.refl _ _⟩
          case round =>
            obtain ⟨pg, hpg, rfl, hfz⟩ := hrel
            rename World => wz
            have FZ := Lib.hid hfz
            clear hfz
            by_cases hp16 : pg < 16
            · have hpi : (pg : Int) < 16 := by omega
              have CTA := Lib.hid (atagged_any _ _ _ _ _ _ _ _ (PA.out _ FZ.out) (pg : Int))
              have CTR := Lib.hid fun W (hW : Fr [] wr W) => rtagged_any W _ _ _ _ _ _ _ (PR.out _ hW) (by rw [HL.out]) (pg : Int)
              obtain ⟨l, hl⟩ : ∃ l, tgP x.bs.length x.f (pg : Int) = l := ⟨_, rfl⟩
              rw [hl] at CTA CTR
              have hll : l.length ≤ 16 := by rw [← hl]; exact tgP_len _ _ _
              obtain ⟨n, hn⟩ : ∃ n, l.length = n := ⟨_, rfl⟩
              rw [hn] at CTA CTR hll
              have HN' := Lib.hid hn
              clear hl hn
              go_wp2_with fail
              refine (CTA.out).mono ?_
              rintro e w5 ⟨v1, rfl, ho1, hf5⟩
              have F5 := Lib.hid (FZ.out.trans0 hf5)
              obtain ⟨va1, vc1, rfl, -⟩ := own_slice ho1
              have O1 := Lib.hid ho1
              clear ho1 hf5 CTA
              go_wp2_with fail
              refine (CTR.out _ F5.out).mono ?_
              rintro e w6 ⟨v2, rfl, ho2, hf6⟩
              have F6 := Lib.hid (F5.out.trans0 hf6)
              obtain ⟨va2, vc2, rfl, -⟩ := own_slice ho2
              have O2 := Lib.hid ho2
              replace O1 := Lib.hid (own_fr0 O1.out hf6)
              clear ho2 hf6 CTR
              go_wp2_with fail
              go_loopw [39] (fun iv wq => ∃ j : Nat, j ≤ n ∧ iv = .int .i64 j ∧ Fr [] w6 wq) (fun iv _ => n - (intOf iv).toNat)
              case atStart => exact ⟨0, by omega, rfl, Fr.refl _ _⟩
              case round =>
                obtain ⟨j, hj, rfl, hf⟩ := hrel
                rename World => wq
                have FQ := Lib.hid hf
                clear hf
                by_cases h8 : j < n
                · obtain ⟨a, hka⟩ : ∃ a, l[j]? = some a := ⟨_, List.getElem?_eq_getElem (by rw [HN'.out]; exact h8)⟩
                  obtain ⟨g1, c1, e1', -, -, hg1, hc1, -⟩ := own_open O1.out (by omega)
                  obtain ⟨g2, c2, e2', -, -, hg2, hc2, -⟩ := own_open O2.out (by omega)
                  injection e1' with x1 x2 x3
                  injection e2' with y1 y2 y3
                  subst x1 x3 y1 y3
                  have d1 := hc1 j h8
                  have d2 := hc2 j h8
                  rw [u32s_get l j a hka] at d1 d2
                  have D1 := Lib.hid (fun W (hW : Fr [] wq W) => (((FQ.out.trans0 hW).cell (a := ⟨g1, j, none⟩) hg1 (by simp)).trans d1))
                  have D2 := Lib.hid (fun W (hW : Fr [] wq W) => (((FQ.out.trans0 hW).cell (a := ⟨g2, j, none⟩) hg2 (by simp)).trans d2))
                  have hji : (j : Int) < n := by omega
                  clear hka hc1 hc2 d1 d2
                  go_wp2_with fail
                  refine wp_region_L (fun W => Fr [] wq W) [] (by kernel_rfl) ((Fr.refl _ _).drew) (fun hHeld => ?_)
                  refine wpAnyL_take (i := 0) (v := ?_) rfl (by kernel_rfl) (fun _ _ _ h => h) (Or.inl ⟨by rfl, ?_⟩) (by assumption) ?_; rotate_left; (focus (intro w hSw; skip; go_simp; (try with_reducible rfl))); (try (refine wpAnyL_norm (by simp only [Act.put, List.setIfInBounds_toArray, List.set_cons_zero, List.set_cons_succ]; rfl) ?_))
                  refine wpAnyL_take (i := 1) (v := ?_) rfl (by kernel_rfl) (fun _ _ _ h => h) (Or.inl ⟨by rfl, ?_⟩) (by assumption) ?_; rotate_left; (focus (intro w hSw; skip; go_simp; (try with_reducible rfl))); (try (refine wpAnyL_norm (by simp only [Act.put, List.setIfInBounds_toArray, List.set_cons_zero, List.set_cons_succ]; rfl) ?_))
                  refine wpAnyL_take (i := 2) (v := ?_) rfl (by kernel_rfl) (fun _ _ _ h => h) (Or.inl ⟨by rfl, ?_⟩) (by assumption) ?_; rotate_left; (focus (intro w hSw; skip; go_simp; (try with_reducible rfl))); (try (refine wpAnyL_norm (by simp only [Act.put, List.setIfInBounds_toArray, List.set_cons_zero, List.set_cons_succ]; rfl) ?_))
                  refine wpAnyL_take (i := 3) (v := ?_) rfl (by kernel_rfl) (fun _ _ _ h => h) (Or.inl ⟨by rfl, ?_⟩) (by assumption) ?_; rotate_left; (focus (intro w hSw; (have cc := D1.out _ hSw); go_simp; (try with_reducible rfl))); (try (refine wpAnyL_norm (by simp only [Act.put, List.setIfInBounds_toArray, List.set_cons_zero, List.set_cons_succ]; rfl) ?_))
                  refine wpAnyL_take (i := 4) (v := ?_) rfl (by kernel_rfl) (fun _ _ _ h => h) (Or.inl ⟨by rfl, ?_⟩) (by assumption) ?_; rotate_left; (focus (intro w hSw; skip; go_simp; (try with_reducible rfl))); (try (refine wpAnyL_norm (by simp only [Act.put, List.setIfInBounds_toArray, List.set_cons_zero, List.set_cons_succ]; rfl) ?_))
                  refine wpAnyL_take (i := 5) (v := ?_) rfl (by kernel_rfl) (fun _ _ _ h => h) (Or.inl ⟨by rfl, ?_⟩) (by assumption) ?_; rotate_left; (focus (intro w hSw; skip; go_simp; (try with_reducible rfl))); (try (refine wpAnyL_norm (by simp only [Act.put, List.setIfInBounds_toArray, List.set_cons_zero, List.set_cons_succ]; rfl) ?_))
                  refine wpAnyL_take (i := 6) (v := ?_) rfl (by kernel_rfl) (fun _ _ _ h => h) (Or.inl ⟨by rfl, ?_⟩) (by assumption) ?_; rotate_left; (focus (intro w hSw; skip; go_simp; (try with_reducible rfl))); (try (refine wpAnyL_norm (by simp only [Act.put, List.setIfInBounds_toArray, List.set_cons_zero, List.set_cons_succ]; rfl) ?_))
                  refine wpAnyL_take (i := 7) (v := ?_) rfl (by kernel_rfl) (fun _ _ _ h => h) (Or.inl ⟨by rfl, ?_⟩) (by assumption) ?_; rotate_left; (focus (intro w hSw; (have cc := D2.out _ hSw); go_simp; (try with_reducible rfl))); (try (refine wpAnyL_norm (by simp only [Act.put, List.setIfInBounds_toArray, List.set_cons_zero, List.set_cons_succ]; rfl) ?_))
                  refine wpAnyL_take (i := 8) (v := ?_) rfl (by kernel_rfl) (fun _ _ _ h => h) (Or.inl ⟨by rfl, ?_⟩) (by assumption) ?_; rotate_left; (focus (intro w hSw; skip; go_simp; (try with_reducible rfl))); (try (refine wpAnyL_norm (by simp only [Act.put, List.setIfInBounds_toArray, List.set_cons_zero, List.set_cons_succ]; rfl) ?_))
                  refine wpAnyL_done (by kernel_rfl) ?_ _
                  have F9 := Lib.hid (FQ.out.trans0 hHeld)
                  clear hHeld D1 D2
                  have hii : ∀ i : Int, (i != i) = false := fun i => by simp
                  go_wp2_with fail
                  go_roundw
                  case rel => exact ⟨j + 1, by omega, by go_num, F9.out⟩
                  case measure => simp [intOf]; omega
                · have F7 := Lib.hid (F6.out.trans0 FQ.out)
                  have hji : ¬ (j : Int) < n := by omega
                  clear FQ O1 O2
                  go_wp2_with fail
                  go_roundw
                  case rel => exact ⟨pg + 1, by omega, by go_num, F7.out⟩
                  case measure => simp [intOf]; omega
            · have hpi : ¬ (pg : Int) < 16 := by omega
              have F9 := Lib.hid (F1.out.trans0 FZ.out)
              go_wp2_with fail
              refine (works_any _ (HT.out.fr F9.out (by simp))).mono ?_
              rintro e w9 ⟨rfl, hf9⟩
              go_wp2_with fail
              go_ret
              exact ⟨rfl, F9.out.trans0 hf9⟩
theorem laidOut : laidOutB Tryz.prog = true := by kernel_rfl
set_option maxRecDepth 100000 in
theorem lifted (os : Os) (started : os.Started) (H : Type) (enc : TypeId × Value → H) :
    ReturnsInHanded {} Tryz.checked os 5 .any (fun w args => (Rows.sweepPlaysSpec.pre enc Tryz.prog Tryz.f5 [] false w args ∧ laidMetH Tryz.prog laidL w) ∧ sizedMet enc Tryz.prog Tryz.f5 (OpenSpec.ofChange Rows.sweepPlaysSpec) false w args) (Rows.sweepPlaysSpec.post enc Tryz.prog Tryz.f5 false true false false) := by
  refine returnsInHanded_of_change_and (C := Tryz.checked) (X := fun w _ => laidMetH Tryz.prog laidL w) (fun _ _ _ hh h => h.of_heap hh) own started (by kernel_rfl) Tryz.func5
    (ChangeSpec.witness_at (enc := enc) (C := Tryz.checked) (os := os) (X := fun w _ => laidMetH Tryz.prog laidL w) false (laidWorld os) #[.slice none 0 0] 8 rfl (by kernel_rfl) (by kernel_rfl) (by kernel_rfl) (by kernel_rfl) (by kernel_rfl) (laidWorld_met os _)) ?_
  intro W base args ds gs before hval0 hW _ _ hL _
  have hT := tab_of_laid hL
  have hval : ∀ (j : Nat) t v, Tryz.f5.params[j]? = some t → args[j]? = some v → Value.okWide Tryz.prog W .any base t v := hval0
  have hW' := hW
  obtain ⟨p, q, hA0, hV, rfl, hfz, hnd⟩ := hW
  have hA : DataW.TrodAll enc Tryz.prog W 0 (fun _ => true) true Tryz.f5.params.toList args.toList ds p := hA0
  rw [Tryz.params5] at hA hval
  obtain ⟨v0, vs0, d0, ds0, p0, q0, hargs, rfl, rfl, h0, r0⟩ := trodAll_cons hA
  obtain ⟨rfl, rfl, rfl⟩ := trodAll_nil r0
  obtain rfl : args = #[v0] := by cases args; simp_all
  obtain ⟨rfl, rfl⟩ := trodVars_none hV
  obtain ⟨a0, len0, cap0, rfl⟩ := okWide_slice Tryz.underlying57 (hval 0 57 v0 rfl rfl)
  have k0 := h0
  have lt0 : ∀ x ∈ p0, x.block < W.heap.size := by obtain ⟨m, hm⟩ := k0; exact DataW.trod_lt m _ _ _ hm
  have w0 : Elems W a0 len0 [.i .i64, .i .i64, .i .i64, .i .u32, .i .u32, .i .u8, .i .u16, .i .u16, .i .u16, .i .u16, .i .u32, .b, .i .u32, .i .u32] := by
    obtain ⟨fuel, hf⟩ := h0
    exact open_elems (n := 20) Tryz.underlying57 (by kernel_rfl : flat Tryz.prog 20 75 = some [.i .i64, .i .i64, .i .i64, .i .u32, .i .u32, .i .u8, .i .u16, .i .u16, .i .u16, .i .u16, .i .u32, .b, .i .u32, .i .u32]) (by kernel_rfl) (by decide) hf
  clear hA0 hval0
  refine (walk a0 len0 cap0 W w0 hT).mono fun e W' ⟨he, hg⟩ => ?_
  subst he
  have bel := hg.below
  exact ⟨_, rfl, _, _, _, [], _, [], hW', trodAll_mk1 (shut_bool Tryz.underlying4 _), (trodAll_cons_mk (Below.trod laidOut (by kernel_rfl) (of_decide_eq_true (by kernel_rfl)) k0 bel lt0) trodAll_mk0), rfl, bel.frame _, fun h => by cases h⟩
theorem over : Rows.sweepPlaysRow.holds Tryz.pinned (OpenSpec.ofChange Rows.sweepPlaysSpec) :=
  OpenClaim.holds_of_wide 5 Tryz.f5 rfl rfl rfl rfl rfl rfl rfl ⟨rfl, rfl, rfl, rfl, rfl⟩ rfl rfl rfl rfl rfl (by kernel_rfl) Tryz.func5 (by kernel_rfl)
    (of_decide_eq_true (by kernel_rfl)) (by unfold Func.isWrapper; first | (rw [if_pos (by decide +kernel)]; kernel_rfl) | (rw [if_neg (by decide +kernel)]; exact ⟨rfl, rfl⟩))
    (fun os started H enc _ => lifted os started H enc)
set_option maxRecDepth 100000 in
/-- The card, tied. -/
theorem proved : Rows.SweepPlaysCardSaid :=
  Claim7.holds_tied_plain_at .later [] [.data] true (true, "3062cd3652c7f1f2e100f7b0f94cb3f25dbd22d1cdbeb8dec48f85c1172530cd") false
    over (fun _ h => by cases h) (by kernel_rfl) (fun _ h => by cases h) sweepPlays_row_tie rfl ⟨rfl, rfl⟩ (by kernel_rfl) rfl
    (fun f fn hf hfn => by
      obtain rfl : f = 5 := Option.some.inj ((show Tryz.prog.funcNamed "fallow/fallowlaw19.SweepPlays" = some 5 by kernel_rfl).symm.trans hf) |>.symm
      obtain rfl : fn = Tryz.f5 := (Option.some.inj (Tryz.func5.symm.trans hfn)).symm
      exact ⟨by kernel_rfl, fun j t ht => by
        have hm : t ∈ Tryz.f5.params.toList := by simpa using Array.mem_of_getElem? ht
        have hall : (Tryz.f5.params.toList.all fun u => !Tryz.prog.wantsStandIn u) = true := by kernel_rfl
        exact (show Tryz.prog.wantsStandIn t = false by simpa using List.all_eq_true.1 hall t hm)⟩)
    (by kernel_rfl)
end sweepPlays
end Go.Proofs.YthjbnbimfpbccaaGreatDoor
