/-
  The reference's sweeper goes, tells what is old, begins, ends. Condition: a million sweeps at most.
-/
import Derived.Test.YthjbnbimfpbccaaGreatDoorJ7








set_option linter.unusedVariables false
namespace Go.Proofs.YthjbnbimfpbccaaGreatDoor
open Go.ChangeShapes Go.WideShapes Go.ChangeAt Go.RowKit
theorem own_apartT {w w' : World} {b n size : Nat} {e : TypeId} {v : Value} {xs : List Value} {S : List Nat} (h : w.ownsRow b e size v n xs) (f : Fr S w w') (hS : ∀ k ∈ S, ∃ t cs, At w k t cs ∧ t ≠ e) : w'.ownsRow b e size v n xs :=
  own_fr h f (fun g hg hk => by
    obtain ⟨t, cs, h1, h2⟩ := hS g hk
    exact own_ne h h1 h2 g hg rfl)
theorem Rl.apart {w w' : World} {m : MS} {s : YS} {wa la : Option Addr} {wc lc : Nat} {S : List Nat} (h : Rl w s m wa wc la lc) (f : Fr S w w') (hS : ∀ k ∈ S, ∃ t cs, At w k t cs ∧ t ≠ 45) : Rl w' s m wa wc la lc :=
  ⟨own_apartT h.ow f hS, own_apartT h.ol f hS, h.fw, h.fl⟩
def bkl (ge : Int) (gv : Value) : List Value := [.int .u64 ge, gv]
section
variable (w : World) (r : Nat) (yc bk : List Value) (st vis : Nat) (h : S3 yc bk)
include h
set_option maxRecDepth 100000 in
theorem r19go_no (h1 : st ≠ 1) : Calls Tryz.prog 31 #[.agg (sw3 r yc bk st vis).toArray] w fun e w' => e = .returned (.tuple #[.agg (sw3 r yc bk st vis).toArray, .bool false]) ∧ Fr [] w w' := by
  have A1 := Lib.hid (At.old (At.new w 72 (sw3 r yc bk st vis).toArray) (.cells zsw.toArray 72))
  have Z1 := Lib.hid (show At ((w.alloc (.cells (sw3 r yc bk st vis).toArray 72)).alloc (.cells zsw.toArray 72)) (w.heap.size + 1) 72 zsw.toArray from At.nw (by simp only [World.size_alloc]))
  have F1 := Lib.hid (show Fr [] w ((w.alloc (.cells (sw3 r yc bk st vis).toArray 72)).alloc (.cells zsw.toArray 72)) from (by repeat (first | exact Fr.refl _ _ | assumption | refine Fr.trans0 ?_ (by assumption) | refine Fr.drewN ?_ _ | refine Fr.alloc ?_ _ | refine Fr.drew ?_)))
  obtain ⟨w1, hw1⟩ : ∃ W, (w.alloc (.cells (sw3 r yc bk st vis).toArray 72)).alloc (.cells zsw.toArray 72) = W := ⟨_, rfl⟩
  obtain ⟨q, hq⟩ : ∃ q, w.heap.size = q := ⟨_, rfl⟩
  have HW := Lib.hid hw1
  have HQ := Lib.hid hq
  rw [hw1] at A1 Z1 F1
  rw [hq] at A1 Z1
  unfold zsw at HW
  clear hw1 hq
  have H3 := Lib.hid h
  have hd : ((st : Int) != 1) = true := by simp; omega
  clear h h1
  go_enter Tryz.func31, Tryz.ntmps31
  go_upto_region 1 with (fail)
  rw [HW.out, HQ.out]
  have c8 := (A1.out.cell 8).trans (sw3_ast H3.out)
  go_wp2_with (first
    | (refine wpList_load_sw H3.out (by rfl) (.tmp 1) rfl q rfl A1.out ?_)
    | (refine wpList_store_sw H3.out rfl (.tmp 2) (.tmp 7) rfl (q + 1) rfl rfl _ Z1.out rfl ?_; intro w9 h9 hf9))
  refine bodyPost_ret (res_row_tmp rfl _ _ (q + 1) 72 _ _ rfl h9 Tryz.underlying72 rfl (infoSw (sw3_len H3.out))) rfl ⟨rfl, ?_⟩
  exact F1.out.trans hf9 (fun k hk => .inr (by simp at hk; rw [hk, HQ.out]; omega))
end
set_option maxRecDepth 100000 in
theorem r19old_any (w : World) (r : Nat) (yc : List Value) (ge : Int) (gv : Value) (st vis : Nat) (h : S3 yc (bkl ge gv)) (F : Nat → Bool) (hB : Bs 0 w gv 16 F) (page : Int) : Calls Tryz.prog 37 #[.agg (sw3 r yc (bkl ge gv) st vis).toArray, .int .i64 page] w fun e w' => e = .returned (.bool (decide (st ≠ 0) && (inR page 16 && F page.toNat))) ∧ Fr [] w w' := by
  have A1 := Lib.hid (At.new w 72 (sw3 r yc (bkl ge gv) st vis).toArray)
  have F1 := Lib.hid (show Fr [] w (w.alloc (.cells (sw3 r yc (bkl ge gv) st vis).toArray 72)) from (by repeat (first | exact Fr.refl _ _ | assumption | refine Fr.trans0 ?_ (by assumption) | refine Fr.drewN ?_ _ | refine Fr.alloc ?_ _ | refine Fr.drew ?_)))
  have CO := Lib.hid fun W (hW : Fr [] w W) => r18old_any W 0 ge gv 16 F (own_fr0 hB hW) (by omega) page
  obtain ⟨B, hBB⟩ : ∃ B, (inR page 16 && F page.toNat) = B := ⟨_, rfl⟩
  rw [hBB] at CO ⊢
  have H3 := Lib.hid h
  have c8 := (A1.out.cell 8).trans (sw3_ast H3.out)
  clear h hB hBB
  by_cases h0 : st = 0
  · subst h0
    go_enter Tryz.func37, Tryz.ntmps37
    go_wp2_with fail
    go_ret
    exact ⟨rfl, F1.out⟩
  · have hd : ((st : Int) != 0) = true := by simp; omega
    rw [decide_eq_true h0, Bool.true_and]
    clear h0
    go_enter Tryz.func37, Tryz.ntmps37
    go_wp2_with (refine wpList_load_b H3.out (by rfl) (.tmp 9) rfl w.heap.size rfl A1.out ?_)
    refine (CO.out _ F1.out).mono ?_
    rintro e w2 ⟨rfl, hf2⟩
    go_wp2_with fail
    go_ret
    exact ⟨rfl, F1.out.trans0 hf2⟩
def ryl (b : Int) (wa : Option Addr) (wn wc : Nat) (la : Option Addr) (ln lc : Nat) (ep : Nat) (un : Bool) : List Value := [.int .i64 b, .slice wa wn wc, .slice la ln lc, .int .u64 ep, .bool un]
theorem ryl_is (b : Int) (wa : Option Addr) (wn wc : Nat) (la : Option Addr) (ln lc : Nat) (ep : Nat) (un : Bool) : (ryl b wa wn wc la ln lc ep un).toArray = ryc b wa wn wc la ln lc ep un := rfl
theorem ryl_s3 {b : Int} {wa : Option Addr} {wn wc : Nat} {la : Option Addr} {ln lc : Nat} {ep : Nat} {un : Bool} {ge : Int} {ga : Option Addr} {gn gc : Nat} : S3 (ryl b wa wn wc la ln lc ep un) (bkl ge (.slice ga gn gc)) := by
  refine ⟨rfl, rfl, fun v hv => ?_, fun v hv => ?_⟩
  · unfold ryl at hv
    simp only [List.mem_cons, List.not_mem_nil, or_false] at hv
    rcases hv with rfl | rfl | rfl | rfl | rfl <;> rfl
  · unfold bkl at hv
    simp only [List.mem_cons, List.not_mem_nil, or_false] at hv
    rcases hv with rfl | rfl <;> rfl
def zy : List Value := [.int .i64 0, .slice none 0 0, .slice none 0 0, .int .u64 0, .bool false]
theorem infoYA {b : Int} {wa : Option Addr} {wn wc : Nat} {la : Option Addr} {ln lc : Nat} {ep : Nat} {un : Bool} : (Tryz.prog.info? 65).map (·.size) = some (ryl b wa wn wc la ln lc ep un).toArray.size := by kernel_rfl
theorem ryl_all {b : Int} {wa : Option Addr} {wn wc : Nat} {la : Option Addr} {ln lc : Nat} {ep : Nat} {un : Bool} : (ryl b wa wn wc la ln lc ep un).toArray.all (·.oneCell') = true := by simp [ryl, Value.oneCell']
section
variable (w : World) (r : Nat) (yc bk : List Value) (st vis : Nat) (h : S3 yc bk)
include h
set_option maxRecDepth 100000 in
theorem r19begin_no (h1 : st ≠ 0) : Calls Tryz.prog 30 #[.agg (sw3 r yc bk st vis).toArray] w fun e w' => e = .returned (.tuple #[.agg (sw3 r yc bk st vis).toArray, .int .u64 0, .bool false]) ∧ Fr [] w w' := by
  have A1 := Lib.hid (At.old (At.new w 72 (sw3 r yc bk st vis).toArray) (.cells zsw.toArray 72))
  have Z1 := Lib.hid (show At ((w.alloc (.cells (sw3 r yc bk st vis).toArray 72)).alloc (.cells zsw.toArray 72)) (w.heap.size + 1) 72 zsw.toArray from At.nw (by simp only [World.size_alloc]))
  have F1 := Lib.hid (show Fr [] w ((w.alloc (.cells (sw3 r yc bk st vis).toArray 72)).alloc (.cells zsw.toArray 72)) from (by repeat (first | exact Fr.refl _ _ | assumption | refine Fr.trans0 ?_ (by assumption) | refine Fr.drewN ?_ _ | refine Fr.alloc ?_ _ | refine Fr.drew ?_)))
  obtain ⟨w1, hw1⟩ : ∃ W, (w.alloc (.cells (sw3 r yc bk st vis).toArray 72)).alloc (.cells zsw.toArray 72) = W := ⟨_, rfl⟩
  obtain ⟨q, hq⟩ : ∃ q, w.heap.size = q := ⟨_, rfl⟩
  have HW := Lib.hid hw1
  have HQ := Lib.hid hq
  rw [hw1] at A1 Z1 F1
  rw [hq] at A1 Z1
  unfold zsw at HW
  clear hw1 hq
  have H3 := Lib.hid h
  have hd : ((st : Int) != 0) = true := by simp; omega
  clear h h1
  go_enter Tryz.func30, Tryz.ntmps30
  go_upto_region 1 with (fail)
  rw [HW.out, HQ.out]
  have c8 := (A1.out.cell 8).trans (sw3_ast H3.out)
  go_wp2_with (first
    | (refine wpList_load_sw H3.out (by rfl) (.tmp 1) rfl q rfl A1.out ?_)
    | (refine wpList_store_sw H3.out rfl (.tmp 2) (.tmp 11) rfl (q + 1) rfl rfl _ Z1.out rfl ?_; intro w9 h9 hf9))
  refine bodyPost_ret (res_row_tmp2 rfl _ _ (q + 1) 72 _ _ rfl h9 Tryz.underlying72 rfl (infoSw (sw3_len H3.out))) rfl ⟨rfl, ?_⟩
  exact F1.out.trans hf9 (fun k hk => .inr (by simp at hk; rw [hk, HQ.out]; omega))
end
section
variable (w : World) (r : Nat) (m : MS) (s : YS) (wa la : Option Addr) (wc lc : Nat) (ge : Int) (ga : Option Addr) (gc : Nat) (F : Nat → Bool) (vis : Nat) (hl : Rl w s m wa wc la lc) (hB : Bs 0 w (.slice ga 16 gc) 16 F) (hs : ∀ k ∈ s.foot, k < w.heap.size)
include hl hB
set_option maxHeartbeats 1000000 in
set_option maxRecDepth 100000 in
theorem r19begin_yes (hu : m.un = false) (he : m.ep < 1000000) (hg : ge ≤ m.ep) (hc : cnt F 16 = 0) :
    Calls Tryz.prog 30 #[.agg (sw3 r (ryl 4096 wa m.lw.length wc la m.lb.length lc m.ep m.un) (bkl ge (.slice ga 16 gc)) 0 vis).toArray] w fun e w' => ∃ wa' wc' la' lc' ga' gc', e = .returned (.tuple #[.agg (sw3 r (ryl 4096 wa' (mBegin m).lw.length wc' la' (mBegin m).lb.length lc' (mBegin m).ep (mBegin m).un) (bkl (m.ep + 1 : Nat) (.slice ga' 16 gc')) 1 vis).toArray, .int .u64 (m.ep + 1 : Nat), .bool true]) ∧ Rl w' s (mBegin m) wa' wc' la' lc' ∧ Bs w.heap.size w' (.slice ga' 16 gc') 16 (fstF 16) ∧ Fr [] w w' := by
  have h : S3 (ryl 4096 wa m.lw.length wc la m.lb.length lc m.ep m.un) (bkl ge (.slice ga 16 gc)) := ryl_s3
  obtain ⟨yc, hyc⟩ : ∃ l, ryl 4096 wa m.lw.length wc la m.lb.length lc m.ep m.un = l := ⟨_, rfl⟩
  obtain ⟨bk, hbk⟩ : ∃ l, bkl ge (.slice ga 16 gc) = l := ⟨_, rfl⟩
  have CB := Lib.hid fun W (hW : Fr [] w W) => (show Calls Tryz.prog 78 #[.agg yc.toArray] W _ from by
    rw [← hyc, ryl_is]
    exact rbegin_m W 256 m s wa la wc lc (hl.fr hW) he)
  have CS := Lib.hid fun W (hW : Fr [] w W) => (show Calls Tryz.prog 79 #[.agg bk.toArray, .int .u64 (m.ep + 1 : Nat)] W _ from by
    rw [← hbk]
    exact r18start_yes W 0 ge _ 16 F (own_fr0 hB hW) (by omega) (m.ep + 1 : Nat) (by omega) hc)
  rw [hu, if_neg (by simp), Bool.not_false] at CB
  rw [hyc, hbk] at h ⊢
  obtain ⟨N, hN⟩ : ∃ N, m.ep + 1 = N := ⟨_, rfl⟩
  rw [hN] at CB CS ⊢
  obtain ⟨st, hst⟩ : ∃ st, 0 = st := ⟨_, rfl⟩
  rw [show sw3 r yc bk 0 vis = sw3 r yc bk st vis from by rw [← hst]]
  have A1 := Lib.hid (At.old (At.new w 72 (sw3 r yc bk st vis).toArray) (.cells zsw.toArray 72))
  have Z1 := Lib.hid (show At ((w.alloc (.cells (sw3 r yc bk st vis).toArray 72)).alloc (.cells zsw.toArray 72)) (w.heap.size + 1) 72 zsw.toArray from At.nw (by simp only [World.size_alloc]))
  have F1 := Lib.hid (show Fr [] w ((w.alloc (.cells (sw3 r yc bk st vis).toArray 72)).alloc (.cells zsw.toArray 72)) from (by repeat (first | exact Fr.refl _ _ | assumption | refine Fr.trans0 ?_ (by assumption) | refine Fr.drewN ?_ _ | refine Fr.alloc ?_ _ | refine Fr.drew ?_)))
  obtain ⟨w1, hw1⟩ : ∃ W, (w.alloc (.cells (sw3 r yc bk st vis).toArray 72)).alloc (.cells zsw.toArray 72) = W := ⟨_, rfl⟩
  obtain ⟨q, hq⟩ : ∃ q, w.heap.size = q := ⟨_, rfl⟩
  have HW := Lib.hid hw1
  have HQ := Lib.hid hq
  rw [hw1] at A1 Z1 F1
  rw [hq] at A1 Z1
  unfold zsw at HW
  clear hw1 hq
  have H3 := Lib.hid h
  subst hst
  clear hl hB hu he hg hc hyc hbk hN h
  go_enter Tryz.func30, Tryz.ntmps30
  go_upto_region 1 with (fail)
  rw [HW.out, HQ.out]
  have c8 := (A1.out.cell 8).trans (sw3_ast H3.out)
  go_wp2_with (refine wpList_load_y H3.out (by rfl) (.tmp 13) rfl q rfl A1.out ?_)
  refine (CB.out _ F1.out).mono ?_
  rintro e w2 ⟨wa', wc', la', lc', rfl, hl2, hf2⟩
  rw [← ryl_is]
  have HL2 := Lib.hid hl2
  have F2 := Lib.hid (F1.out.trans0 hf2)
  have A2 := Lib.hid (A1.out.fr hf2 (by simp))
  have Z2 := Lib.hid (Z1.out.fr hf2 (by simp))
  have H3' : Hid (S3 (ryl 4096 wa' (mBegin m).lw.length wc' la' (mBegin m).lb.length lc' (mBegin m).ep (mBegin m).un) bk) := Lib.hid ⟨rfl, H3.out.bl, ryl_s3 (ge := 0) (ga := none) (gn := 0) (gc := 0) |>.yo, H3.out.bo⟩
  have HIY : Hid ((Tryz.prog.info? 65).map (·.size) = some (ryl 4096 wa' (mBegin m).lw.length wc' la' (mBegin m).lb.length lc' (mBegin m).ep (mBegin m).un).toArray.size) := Lib.hid infoYA
  have HYO : Hid ((ryl 4096 wa' (mBegin m).lw.length wc' la' (mBegin m).lb.length lc' (mBegin m).ep (mBegin m).un).toArray.all (·.oneCell') = true) := Lib.hid ryl_all
  obtain ⟨yc', hyc'⟩ : ∃ l, ryl 4096 wa' (mBegin m).lw.length wc' la' (mBegin m).lb.length lc' (mBegin m).ep (mBegin m).un = l := ⟨_, rfl⟩
  have HYC := Lib.hid hyc'
  rw [show (4096 : Int) = ((16 * 256 : Nat) : Int) from rfl] at hyc'
  rw [hyc']
  rw [show (4096 : Int) = ((16 * 256 : Nat) : Int) from rfl, hyc'] at H3' HIY HYO
  have N2 := Lib.hid (And.intro A2.out Z2.out)
  clear hl2 hf2 CB hyc'
  have HSZ := Lib.hid (show zy.toArray.size = yc'.toArray.size by rw [show yc'.toArray.size = yc'.length from List.size_toArray, H3'.out.yl]; rfl)
  go_upto_region 4 with (refine wpList_store_all rfl 65 (.tmp 5) (.tmp 16) rfl _ yc'.toArray rfl rfl 65 zy.toArray (At.nw rfl) HIY.out HSZ.out HYO.out ?_; intro w3 h3 hf3)
  have fz : Fr [] w2 (w2.alloc (.cells zy.toArray 65)) := (by repeat (first | exact Fr.refl _ _ | assumption | refine Fr.trans0 ?_ (by assumption) | refine Fr.drewN ?_ _ | refine Fr.alloc ?_ _ | refine Fr.drew ?_))
  have F3 := Lib.hid ((fz.more (T := [w2.heap.size]) (by simp)).trans hf3 (fun k hk => .inl hk) |>.more (T := []) (by simp))
  have Y3 := Lib.hid h3
  have A3 := Lib.hid (A2.out.fr F3.out (by simp))
  have Z3 := Lib.hid (Z2.out.fr F3.out (by simp))
  have hq5 := Lib.hid (show q + 1 < w2.heap.size from Z2.out.lt)
  obtain ⟨q5, hq5'⟩ : ∃ q, w2.heap.size = q := ⟨_, rfl⟩
  rw [hq5'] at Y3 hq5 ⊢
  clear fz h3 hf3 hq5' HSZ A2 Z2
  go_upto_region 7 with (first
    | (refine wpList_load_all (by rfl) 65 (.tmp 5) rfl q5 rfl 65 yc'.toArray _ Y3.out Tryz.underlying65 rfl HIY.out ?_)
    | (refine wpList_store_y H3.out (by rfl) (.tmp 23) (.tmp 22) rfl q H3'.out rfl rfl A3.out ?_; intro w4 h4 hf4))
  have A4 := Lib.hid h4
  have F4 := Lib.hid hf4
  have Z4 := Lib.hid (Z3.out.fr hf4 (by simp))
  clear h4 hf4 A3 Z3
  go_wp2_with (refine wpList_load_b H3'.out (by rfl) (.tmp 25) rfl q rfl A4.out ?_)
  have fw4 : Hid (Fr [] w w4) := Lib.hid ((F2.out.trans0 F3.out).trans F4.out (fun k hk => .inr (by simp at hk; rw [hk, HQ.out]; exact Nat.le_refl _)))
  refine (CS.out _ fw4.out).mono ?_
  rintro e w5 ⟨gv', rfl, hb5, hf5⟩
  obtain ⟨ga', gc', rfl, -⟩ := own_slice hb5
  have A5 := Lib.hid (A4.out.fr hf5 (by simp))
  have Z5 := Lib.hid (Z4.out.fr hf5 (by simp))
  have F5 := Lib.hid (fw4.out.trans0 hf5)
  have N5 := Lib.hid (And.intro A5.out Z5.out)
  have HB5 := Lib.hid hb5
  have H5 : Hid (S3 yc' (bkl (N : Int) (.slice ga' 16 gc'))) := Lib.hid ⟨H3'.out.yl, rfl, H3'.out.yo, ryl_s3 (b := 0) (wa := none) (wn := 0) (wc := 0) (la := none) (ln := 0) (lc := 0) (ep := 0) (un := true) |>.bo⟩
  have f45 := Lib.hid hf5
  clear hb5 hf5 CS A4 Z4 c8
  go_upto_region 8 with (refine wpList_store_b H3'.out (by rfl) (.tmp 31) (.tmp 29) rfl q H5.out rfl rfl A5.out ?_; intro w6 h6 hf6)
  have A6 := Lib.hid h6
  have F6 := Lib.hid hf6
  have Z6 := Lib.hid (Z5.out.fr hf6 (by simp))
  have c8 := (A6.out.cell 8).trans (sw3_ast H5.out)
  have z8 := A6.out.froz 8
  clear h6 hf6 A5 Z5
  go_upto_region 9 with (fail)
  have f7 : Fr [q] w6 (w6.setCell ⟨q, 8, none⟩ (.int .i64 1)) := (Fr.refl _ _).set (.inl (by simp)) _
  have A7 := A6.out.set 8 (.int .i64 ((1 : Nat) : Int))
  rw [sw3_setst H5.out] at A7
  have Z7 := Lib.hid (Z6.out.fr f7 (by simp))
  obtain ⟨w7, hw7⟩ : ∃ W, w6.setCell ⟨q, 8, none⟩ (.int .i64 1) = W := ⟨_, rfl⟩
  rw [show (w6.setCell ⟨q, 8, none⟩ (.int .i64 ((1 : Nat) : Int))) = w7 from hw7] at A7
  rw [hw7] at f7 Z7 ⊢
  have A7 := Lib.hid A7
  have F7 := Lib.hid f7
  clear c8 z8 hw7 f7
  go_wp2_with (first
    | (refine wpList_load_sw H5.out (by rfl) (.tmp 1) rfl q rfl A7.out ?_)
    | (refine wpList_store_sw H5.out rfl (.tmp 2) (.tmp 33) rfl (q + 1) rfl rfl _ Z7.out rfl ?_; intro w9 h9 hf9))
  have eq1 : (ryl 4096 wa' (mBegin m).lw.length wc' la' (mBegin m).lb.length lc' (mBegin m).ep (mBegin m).un) = yc' := HYC.out
  have f59 : Fr [q, q + 1] w5 w9 := ((F6.out.more (T := [q, q + 1]) (by simp)).trans (F7.out.more (T := [q, q + 1]) (by simp)) (fun k hk => .inl hk)).trans hf9 (by simp)
  refine bodyPost_ret (res_row_tmp2 rfl _ _ (q + 1) 72 _ _ rfl h9 Tryz.underlying72 rfl (infoSw (sw3_len H5.out))) rfl ⟨wa', wc', la', lc', ga', gc', by rw [eq1]; rfl, ?_, ?_, ?_⟩
  · refine HL2.out.apart (S := [q, q + 1]) (((F3.out.more (T := [q, q + 1]) (by simp)).trans (F4.out.more (T := [q, q + 1]) (by simp)) (fun k hk => .inl hk)).trans ((f45.out.more (T := [q, q + 1]) (by simp)).trans f59 (fun k hk => .inl hk)) (fun k hk => .inl hk)) ?_
    intro k hk
    simp only [List.mem_cons, List.not_mem_nil, or_false] at hk
    rcases hk with rfl | rfl
    · exact ⟨_, _, N2.out.1, by decide⟩
    · exact ⟨_, _, N2.out.2, by decide⟩
  · have hb : Bs w.heap.size w5 (.slice ga' 16 gc') 16 (fstF 16) := own_base HB5.out fw4.out.size
    refine own_apartT hb f59 ?_
    intro k hk
    simp only [List.mem_cons, List.not_mem_nil, or_false] at hk
    rcases hk with rfl | rfl
    · exact ⟨_, _, N5.out.1, by decide⟩
    · exact ⟨_, _, N5.out.2, by decide⟩
  · exact F5.out.trans f59 (fun k hk => .inr (by simp at hk; have := HQ.out; omega))
end
end Go.Proofs.YthjbnbimfpbccaaGreatDoor
/-
  The reference's paint of a batch. Condition: regions that are aligned, within, apart.
-/








set_option linter.unusedVariables false
namespace Go.Proofs.YthjbnbimfpbccaaGreatDoor
open Go.ChangeShapes Go.WideShapes Go.ChangeAt Go.RowKit
/-- Regions of which no two have a byte in common. -/
def Dj (l : List (Nat × Nat)) : Prop := ∀ r ∈ l, ∀ s ∈ l, r = s ∨ r.1 + r.2 ≤ s.1 ∨ s.1 + s.2 ≤ r.1
theorem dj_nil : Dj [] := fun r hr => by cases hr
theorem tch_not {f : Nat → Bool} {A R : Nat} (h : ∀ j, A ≤ j → j < A + R → f j = false) : tch f A R = false := by
  unfold tch
  rw [List.any_eq_false]
  intro k hk
  rw [List.mem_range] at hk
  rw [h _ (by omega) (by omega)]
  simp
theorem dj_put {n : Nat} {l : List (Nat × Nat)} (hd : Dj l) (hg : Good n l) (a s : Nat) (ha : a % 16 = 0) (hs : s % 16 = 0) (hs0 : 0 < s) (ht : tch (cov l) (a / 16) (s / 16) = false) : Dj (put l (a, s)) := by
  have key : ∀ r ∈ l, r.1 + r.2 ≤ a ∨ a + s ≤ r.1 := fun r hr => by
    have h1 := hg.al r hr
    rcases Nat.lt_or_ge a (r.1 + r.2) with h2 | h2
    · rcases Nat.lt_or_ge r.1 (a + s) with h3 | h3
      · exfalso
        have hj : cov l (max a r.1 / 16) = true := by
          unfold cov
          rw [List.any_eq_true]
          refine ⟨r, hr, ?_⟩
          simp only [Bool.and_eq_true, decide_eq_true_eq]
          omega
        rw [tch_no ht _ (by omega) (by omega)] at hj
        cases hj
      · exact .inr h3
    · exact .inl h2
  intro r hr t htm
  unfold put at hr htm
  rw [insL_mem] at hr htm
  rcases hr with rfl | hr <;> rcases htm with rfl | htm
  · exact .inl rfl
  · rcases key t htm with h | h
    · exact .inr (.inr h)
    · exact .inr (.inl h)
  · rcases key r hr with h | h
    · exact .inr (.inl h)
    · exact .inr (.inr h)
  · exact hd r hr t htm
theorem dj_step {n : Nat} {l : List (Nat × Nat)} (hd : Dj l) (hg : Good n l) (j : Nat) (r : Nat × Nat) (hr : l[j]? = some r) :
    okC n (cov (l.take j)) (r.1 : Int) (r.2 : Int) true = true ∧ newC n (cov (l.take j)) (r.1 : Int) (r.2 : Int) true = cov (l.take (j + 1)) := by
  have hm := List.mem_of_getElem? hr
  obtain ⟨a1, a2, a3, a4⟩ := hg.al r hm
  have ht : tch (cov (l.take j)) (r.1 / 16) (r.2 / 16) = false := tch_not fun k h1 h2 => by
    unfold cov
    rw [List.any_eq_false]
    intro s hs
    obtain ⟨i, hi, he⟩ := List.getElem_of_mem hs
    rw [List.getElem_take] at he
    have hij : i < j := by simp at hi; omega
    have hil : i < l.length := by simp at hi; omega
    have hlt := hg.rise i j s r hij (by rw [List.getElem?_eq_getElem hil, he]) hr
    have hsm := List.mem_of_mem_take hs
    obtain ⟨b1, b2, b3, b4⟩ := hg.al s hsm
    simp only [Bool.and_eq_true, decide_eq_true_eq]
    rcases hd s hsm r hm with h | h | h
    · rw [h] at hlt; omega
    · omega
    · omega
  have e1 : r.1 = 16 * (r.1 / 16) := by omega
  have e2 : r.2 = 16 * (r.2 / 16) := by omega
  obtain ⟨p1, p2⟩ := paint_ins (n := n) (l.take j) (r.1 / 16) (r.2 / 16) 0 (by omega) (by omega) ht
  rw [← e1, ← e2] at p1 p2
  refine ⟨p1, p2.trans ?_⟩
  funext k
  rw [cov_ins, List.take_add_one, hr]
  unfold cov
  rw [List.any_append, Bool.or_comm]
  rfl
theorem r15chg_from (w : World) (B b : Nat) (hBb : B ≤ b) (hBw : B ≤ w.heap.size) (v : Value) (n : Nat) (f : Nat → Bool) (h : Bs b w v n f) (hn : n ≤ 16384) (a s : Int) (tb : Bool) (ha : 0 ≤ a) (ha2 : a ≤ 4294967295) (hs : 0 ≤ s) (hs2 : s ≤ 4294967295) :
    Calls Tryz.prog 140 #[.agg #[v], .agg #[.int .u32 a, .int .u32 s], .bool tb] w fun r w' => ∃ v', r = .returned (.tuple #[.agg #[v'], .bool (okC n f a s tb)]) ∧ Bs B w' v' n (newC n f a s tb) ∧ Fr [] w w' := by
  rcases okC_cases n a s ha hs with hb | ⟨A, R, rfl, rfl, hR, hAR⟩
  · rw [(okC_no hb).1, (okC_no hb).2]
    exact (r15chg_no w b v n f h hn a s tb ha ha2 hs hs2 hb).mono fun e w' ⟨he, hf⟩ => ⟨v, he, own_base (own_fr0 h hf) hBb, hf⟩
  · rw [(okC_nat hR hAR).1, (okC_nat hR hAR).2]
    exact (r15chg_yes w b v n f h hn _ _ tb A R rfl rfl hR hAR).mono fun e w' ⟨⟨v', he, ht⟩, hf⟩ => ⟨v', he, own_base ht (by split; exact hBw; exact hBb), hf⟩
theorem r15add_from (w : World) (B b : Nat) (hBb : B ≤ b) (hBw : B ≤ w.heap.size) (v : Value) (n : Nat) (f : Nat → Bool) (h : Bs b w v n f) (hn : n ≤ 16384) (a s : Int) (ha : 0 ≤ a) (ha2 : a ≤ 4294967295) (hs : 0 ≤ s) (hs2 : s ≤ 4294967295) :
    Calls Tryz.prog 117 #[.agg #[v], .agg #[.int .u32 a, .int .u32 s]] w fun r w' => ∃ v', r = .returned (.tuple #[.agg #[v'], .bool (okC n f a s true)]) ∧ Bs B w' v' n (newC n f a s true) ∧ Fr [] w w' := by
  have C := Lib.hid fun (W : World) (hW : Fr [] w W) => r15chg_from W B b hBb (Nat.le_trans hBw hW.size) v n f (own_fr0 h hW) hn a s true ha ha2 hs hs2
  obtain ⟨av, cv, rfl, hcv⟩ := own_slice h
  clear h
  generalize okC n f a s true = ok at *
  generalize newC n f a s true = f' at *
  go_enter Tryz.func117, Tryz.ntmps117
  go_wp2_with (go_at_call 140; refine (C.out _ (by repeat (first | exact Fr.refl _ _ | assumption | refine Fr.trans0 ?_ (by assumption) | refine Fr.drewN ?_ _ | refine Fr.alloc ?_ _ | refine Fr.drew ?_))).mono ?_; rintro e w2 ⟨v', rfl, h2, hf2⟩; obtain ⟨av', cv', rfl, hcv'⟩ := own_slice h2; have a2 := ((At.new ((w.alloc (.cells #[.slice av n cv] 147)).alloc (.cells #[.int .u32 a, .int .u32 s] 45)) 147 #[.slice none 0 0]).fr (S := []) (w' := w2) hf2 (by simp)); simp only [World.size_alloc] at a2; have c2 := a2.cell 0; have f2 := a2.froz 0; simp only [List.getElem?_toArray, List.getElem?_cons_zero] at c2; have H2 := Lib.hid h2; have A2 := Lib.hid a2; clear h2 a2)
  have q0 := (A2.out.set 0 (.slice av' n cv')).cell 0
  refine bodyPost_ret (v := .tuple #[.agg #[.slice av' n cv'], .bool ok]) (by simp [results, Tryz.results117, go_sem, q0]) rfl ⟨_, rfl, ?_, Fr.set (Fr.trans0 (by repeat (first | exact Fr.refl _ _ | assumption | refine Fr.trans0 ?_ (by assumption) | refine Fr.drewN ?_ _ | refine Fr.alloc ?_ _ | refine Fr.drew ?_)) hf2) (.inr (by show w.heap.size ≤ w.heap.size + 1 + 1; omega)) _⟩
  exact own_fr H2.out ((Fr.refl [w.heap.size + 1 + 1] _).set (.inl (by simp)) _) (fun g hg => by simp; exact own_ne H2.out A2.out (by decide) g hg)
set_option maxHeartbeats 1000000 in
set_option maxRecDepth 100000 in
theorem r19paint_any (w : World) (wa : Option Addr) (wn wc : Nat) (la : Option Addr) (lc : Nat) (ep : Nat) (un : Bool) (lb : List (Nat × Nat)) (ho : w.ownsRow 0 45 2 (.slice la lb.length lc) lb.length (rgv lb)) (hg : Good 256 lb) (hd : Dj lb) :
    Calls Tryz.prog 82 #[.agg (ryl 4096 wa wn wc la lb.length lc ep un).toArray] w fun e w' => ∃ v, e = .returned (.agg #[v]) ∧ Bs w.heap.size w' v 256 (cov lb) ∧ Fr [] w w' := by
  have CN := Lib.hid fun W => (show Calls Tryz.prog 116 #[.int .i64 4096] W _ from r15new_yes 256 W (by omega))
  have HO := Lib.hid ho
  have HG := Lib.hid hg
  have HD := Lib.hid hd
  obtain ⟨L, hL⟩ : ∃ L, lb.length = L := ⟨_, rfl⟩
  have hLb := hg.len
  rw [hL] at HO hLb ⊢
  have HL := Lib.hid hL
  have A1 := Lib.hid (At.old (At.new w 65 (ryl 4096 wa wn wc la L lc ep un).toArray) (.cells #[.slice none 0 0] 147))
  have Z1 := Lib.hid (show At ((w.alloc (.cells (ryl 4096 wa wn wc la L lc ep un).toArray 65)).alloc (.cells #[.slice none 0 0] 147)) (w.heap.size + 1) 147 #[.slice none 0 0] from At.nw (by simp only [World.size_alloc]))
  have F1 := Lib.hid (show Fr [] w ((w.alloc (.cells (ryl 4096 wa wn wc la L lc ep un).toArray 65)).alloc (.cells #[.slice none 0 0] 147)) from (by repeat (first | exact Fr.refl _ _ | assumption | refine Fr.trans0 ?_ (by assumption) | refine Fr.drewN ?_ _ | refine Fr.alloc ?_ _ | refine Fr.drew ?_)))
  obtain ⟨w1, hw1⟩ : ∃ W, (w.alloc (.cells (ryl 4096 wa wn wc la L lc ep un).toArray 65)).alloc (.cells #[.slice none 0 0] 147) = W := ⟨_, rfl⟩
  obtain ⟨q, hq⟩ : ∃ q, w.heap.size = q := ⟨_, rfl⟩
  have HW := Lib.hid hw1
  have HQ := Lib.hid hq
  rw [hw1] at A1 Z1 F1
  rw [hq] at A1 Z1
  have c0 := A1.out.cell 0
  unfold ryl at c0
  simp only [List.getElem?_toArray, List.getElem?_cons_zero] at c0
  clear hw1 hq ho hg hd hL
  go_enter Tryz.func82, Tryz.ntmps82
  go_upto_region 1 with (fail)
  rw [HW.out, HQ.out]
  go_wp2_with fail
  refine (CN.out _).mono ?_
  rintro e w2 ⟨v, rfl, hb2, hf2⟩
  obtain ⟨av, cv, rfl, -⟩ := own_slice hb2
  have F2 := Lib.hid (F1.out.trans0 hf2)
  have A2 := Lib.hid (A1.out.fr hf2 (by simp))
  have Z2 := Lib.hid (Z1.out.fr hf2 (by simp))
  have B2 := Lib.hid (own_base hb2 F1.out.size)
  clear hb2 hf2 CN c0
  go_upto_region 3 with (fail)
  have fa : Fr [] w2 (w2.alloc (.cells #[.slice av 256 cv] 147)) := (by repeat (first | exact Fr.refl _ _ | assumption | refine Fr.trans0 ?_ (by assumption) | refine Fr.drewN ?_ _ | refine Fr.alloc ?_ _ | refine Fr.drew ?_))
  have Q3 := Lib.hid (At.new w2 147 #[.slice av 256 cv])
  have A3 := Lib.hid (A2.out.fr fa (by simp))
  have Z3 := Lib.hid (Z2.out.fr fa (by simp))
  have B3 := Lib.hid (own_fr0 B2.out fa)
  have F3 := Lib.hid (F2.out.trans0 fa)
  obtain ⟨w3, hw3⟩ : ∃ W, w2.alloc (.cells #[.slice av 256 cv] 147) = W := ⟨_, rfl⟩
  have hq2 := Lib.hid (show q + 1 < w2.heap.size from Z2.out.lt)
  obtain ⟨q3, hq3⟩ : ∃ q, w2.heap.size = q := ⟨_, rfl⟩
  rw [hw3] at Q3 A3 Z3 B3 F3 ⊢
  rw [hq3] at Q3 hq2 ⊢
  clear fa hw3 hq3 A2 Z2 B2 F2
  have HT0 := Lib.hid (show cov (lb.take 0) = fun _ => false from rfl)
  have HR3 := Lib.hid (own_fr0 HO.out F3.out)
  go_loopw [5] (fun i wr => ∃ (k : Nat) (av : Option Addr) (cv : Nat), k ≤ L ∧ i = .int .i64 k ∧ At wr q3 147 #[.slice av 256 cv] ∧ Bs w.heap.size wr (.slice av 256 cv) 256 (cov (lb.take k)) ∧ Fr [q3] w3 wr) (fun i _ => L - (intOf i).toNat)
  case atStart => exact ⟨0, av, cv, by omega, rfl, Q3.out, by rw [HT0.out]; exact B3.out, Fr.refl _ _⟩
  case round =>
    obtain ⟨k, av, cv, hk, rfl, hat, hbs, hf⟩ := hrel
    rename World => wr
    have T4 := Lib.hid hat
    have B4 := Lib.hid hbs
    have F4 := Lib.hid hf
    have A4 := Lib.hid (A3.out.fr hf (by have := hq2.out; simp; omega))
    have Z4 := Lib.hid (Z3.out.fr hf (by have := hq2.out; simp; omega))
    have c2 := A4.out.cell 2
    unfold ryl at c2
    simp only [List.getElem?_toArray, List.getElem?_cons_zero, List.getElem?_cons_succ] at c2
    have FW := Lib.hid (show Fr [] w wr from F3.out.trans hf (fun k hk => .inr (by simp at hk; have := hq2.out; have := HQ.out; omega)))
    have ROW := Lib.hid (own_fr HR3.out hf (fun g hg => by simpa using own_ne HR3.out Q3.out (by decide) g hg))
    clear hat hbs hf
    by_cases hkL : k < L
    · obtain ⟨rg, hrg⟩ : ∃ rg, lb[k]? = some rg := ⟨_, List.getElem?_eq_getElem (by rw [HL.out]; exact hkL)⟩
      have hstep := Lib.hid (dj_step HD.out HG.out k rg hrg)
      obtain ⟨a1, a2, a3, a4⟩ := HG.out.al rg (List.mem_of_getElem? hrg)
      rcases rows_open ROW.out with ⟨_, h0⟩ | ⟨gb, gcap, cur, hv, -, hA, g1, g2, g3, g4⟩
      · omega
      injection hv with e1 e2 e3
      subst e1 e3
      obtain ⟨ra, rs⟩ := rg
      dsimp only at hstep a1 a2 a3 a4
      have q0 := rows_at (n := L) (cap := lc) hA g4 (k * 2) 0 (.int .u32 ra) (by rw [List.getElem?_drop]; exact (rgv_get _ k (ra, rs) hrg).1)
      have q1 := rows_at (n := L) (cap := lc) hA g4 (k * 2) 1 (.int .u32 rs) (by rw [List.getElem?_drop]; exact (rgv_get _ k (ra, rs) hrg).2)
      have hgl := hA.lt
      have Q0 := Lib.hid (show wr.cell? ⟨gb, k * 2, none⟩ = some (.int .u32 ra) from q0)
      have Q1 := Lib.hid (show wr.cell? ⟨gb, k * 2 + 1, none⟩ = some (.int .u32 rs) from q1)
      have CA := Lib.hid fun W (hW : Fr [] wr W) => r15add_from W w.heap.size w.heap.size (Nat.le_refl _) (Nat.le_trans FW.out.size hW.size) _ 256 (cov (lb.take k)) (own_fr0 B4.out hW) (by omega) (ra : Int) (rs : Int) (by omega) (by omega) (by omega) (by omega)
      rw [hstep.out.1, hstep.out.2] at CA
      have hki : (k : Int) < (L : Int) := by omega
      have hqw := T4.out.lt
      have hqA := A4.out.lt
      have Q2 := Lib.hid c2
      have Q3' := Lib.hid (T4.out.cell 0)
      simp only [List.getElem?_toArray, List.getElem?_cons_zero] at Q3'
      clear hstep a1 a2 a3 a4 hA g1 g2 g3 g4 q0 q1 hrg
      go_upto_region 5 with (fail)
      clear c2
      have hn3 := Lib.hid (show q ≠ q3 ∧ gb ≠ q3 from ⟨by have := hq2.out; omega, fun e => by have := own_ne ROW.out T4.out (by decide) gb rfl; exact this e⟩)
      have c3 := T4.out.cell 0
      simp only [List.getElem?_toArray, List.getElem?_cons_zero] at c3
      refine wp_region_L (fun W => Fr [q3] wr W) [] (by kernel_rfl) ((Fr.refl _ _).drew) (fun hHeld => ?_)
      refine wpAnyL_take (i := 1) (v := ?_) rfl (by kernel_rfl) (fun _ _ _ h => h) (Or.inl ⟨by rfl, ?_⟩) (by assumption) ?_; rotate_left; (focus (intro w hSw; skip; go_simp; (try with_reducible rfl))); (try (refine wpAnyL_norm (by simp only [Act.put, List.setIfInBounds_toArray, List.set_cons_zero, List.set_cons_succ]; rfl) ?_))
      refine wpAnyL_take (i := 2) (v := ?_) rfl (by kernel_rfl) (fun _ _ _ h => h) (Or.inl ⟨by rfl, ?_⟩) (by assumption) ?_; rotate_left; (focus (intro w hSw; (have cc := (hSw.cell (a := ⟨q, 2, none⟩) hqA (by simpa using hn3.out.1)).trans Q2.out); go_simp; (try with_reducible rfl))); (try (refine wpAnyL_norm (by simp only [Act.put, List.setIfInBounds_toArray, List.set_cons_zero, List.set_cons_succ]; rfl) ?_))
      refine wpAnyL_take (i := 3) (v := ?_) rfl (by kernel_rfl) (fun _ _ _ h => h) (Or.inl ⟨by rfl, ?_⟩) (by assumption) ?_; rotate_left; (focus (intro w hSw; skip; go_simp; (try with_reducible rfl))); (try (refine wpAnyL_norm (by simp only [Act.put, List.setIfInBounds_toArray, List.set_cons_zero, List.set_cons_succ]; rfl) ?_))
      refine wpAnyL_take (i := 4) (v := ?_) rfl (by kernel_rfl) (fun _ _ _ h => h) (Or.inl ⟨by rfl, ?_⟩) (by assumption) ?_; rotate_left; (focus (intro w hSw; skip; go_simp; (try with_reducible rfl))); (try (refine wpAnyL_norm (by simp only [Act.put, List.setIfInBounds_toArray, List.set_cons_zero, List.set_cons_succ]; rfl) ?_))
      refine wpAnyL_take (i := 5) (v := ?_) rfl (by kernel_rfl) (fun _ _ _ h => h) (Or.inl ⟨by rfl, ?_⟩) (by assumption) ?_; rotate_left; (focus (intro w hSw; (have c0 := (hSw.cell (a := ⟨gb, k * 2, none⟩) hgl (by simpa using hn3.out.2)).trans Q0.out; have c1 := (hSw.cell (a := ⟨gb, k * 2 + 1, none⟩) hgl (by simpa using hn3.out.2)).trans Q1.out); go_simp; (try with_reducible rfl))); (try (refine wpAnyL_norm (by simp only [Act.put, List.setIfInBounds_toArray, List.set_cons_zero, List.set_cons_succ]; rfl) ?_))
      refine wpAnyL_ready (rs := [0]) (by kernel_rfl) (by simp) ?_; refine AllReadyL.cons rfl (fun K hK => ?_) AllReadyL.nil
      go_simp
      refine hK.out _ _ (fun _ => hHeld) (fun hHeld' => ?_); have hHeld := hHeld' (by decide); clear hHeld' hK K; (try (refine wpAnyL_norm (by simp only [Act.put, List.setIfInBounds_toArray, List.set_cons_zero, List.set_cons_succ]; rfl) ?_))
      refine wpAnyL_ready (rs := [6]) (by kernel_rfl) (by simp) ?_; refine AllReadyL.cons rfl (fun K hK => ?_) AllReadyL.nil
      go_simp
      refine (CA.out _ ((Fr.refl [] wr).drew)).mono ?_
      rintro e w5 ⟨v', rfl, h5, hf5⟩
      obtain ⟨av', cv', rfl, -⟩ := own_slice h5
      have B5 := Lib.hid h5
      have F5 := Lib.hid (((Fr.refl [] wr).drew).trans0 hf5)
      refine hK.out _ _ (fun _ => hHeld.trans0 hf5) (fun hHeld' => ?_); have hHeld := hHeld' (by decide); clear hHeld' hK K; (try (refine wpAnyL_norm (by simp only [Act.put, List.setIfInBounds_toArray, List.set_cons_zero, List.set_cons_succ]; rfl) ?_))
      clear h5 hf5 CA c3
      refine wpAnyL_take (i := 7) (v := ?_) rfl (by kernel_rfl) (fun _ _ _ h => h) (Or.inl ⟨by rfl, ?_⟩) (by assumption) ?_; rotate_left; (focus (intro w hSw; skip; go_simp; (try with_reducible rfl))); (try (refine wpAnyL_norm (by simp only [Act.put, List.setIfInBounds_toArray, List.set_cons_zero, List.set_cons_succ]; rfl) ?_))
      refine wpAnyL_take (i := 8) (v := ?_) rfl (by kernel_rfl) (fun _ _ _ h => h) (Or.inl ⟨by rfl, ?_⟩) (by assumption) ?_; rotate_left; (focus (intro w hSw; skip; go_simp; (try with_reducible rfl))); (try (refine wpAnyL_norm (by simp only [Act.put, List.setIfInBounds_toArray, List.set_cons_zero, List.set_cons_succ]; rfl) ?_))
      refine wpAnyL_take (i := 9) (v := ?_) rfl (by kernel_rfl) (fun _ _ _ h => h) (Or.inl ⟨by rfl, ?_⟩) (by assumption) ?_; rotate_left; (focus (intro w hSw; skip; go_simp; (try with_reducible rfl))); (try (refine wpAnyL_norm (by simp only [Act.put, List.setIfInBounds_toArray, List.set_cons_zero, List.set_cons_succ]; rfl) ?_))
      have T5 := Lib.hid (T4.out.fr F5.out (by simp))
      have c0 := T5.out.cell 0
      have z0 := T5.out.froz 0
      simp only [List.getElem?_toArray, List.getElem?_cons_zero] at c0
      refine wpAnyL_ready (rs := [10]) (by kernel_rfl) (by simp) ?_; refine AllReadyL.cons rfl (fun K hK => ?_) AllReadyL.nil
      go_simp
      have f6 : Fr [q3] w5 (w5.setCell ⟨q3, 0, none⟩ (.slice av' 256 cv')) := (Fr.refl _ _).set (.inl (by simp)) _
      refine hK.out _ _ (fun _ => hHeld.trans f6 (fun k hk => .inl hk)) (fun hHeld' => ?_); have hHeld := hHeld' (by decide); clear hHeld' hK K; (try (refine wpAnyL_norm (by simp only [Act.put, List.setIfInBounds_toArray, List.set_cons_zero, List.set_cons_succ]; rfl) ?_))
      refine wpAnyL_done (by kernel_rfl) ?_ _
      have T6 := T5.out.set 0 (.slice av' 256 cv')
      have B6 := own_fr B5.out f6 (fun g hg => by simpa using own_ne B5.out T5.out (by decide) g hg)
      clear hHeld c0 z0
      go_wp2_with fail
      go_roundw
      case rel => exact ⟨k + 1, av', cv', by omega, by go_num, T6, B6, (F4.out.trans0 F5.out).trans f6 (fun k hk => .inl hk)⟩
      case measure => simp [intOf]; omega
    · obtain rfl : k = L := by omega
      have eT : lb.take k = lb := List.take_of_length_le (by rw [HL.out]; omega)
      rw [eT] at B4
      have c3 := T4.out.cell 0
      simp only [List.getElem?_toArray, List.getElem?_cons_zero] at c3
      have cz := Z4.out.cell 0
      have zz := Z4.out.froz 0
      simp only [List.getElem?_toArray, List.getElem?_cons_zero] at cz
      clear eT
      go_wp2_with fail
      have Z5 := Z4.out.set 0 (.slice av 256 cv)
      have f5 : Fr [q + 1] wr (wr.setCell ⟨q + 1, 0, none⟩ (.slice av 256 cv)) := (Fr.refl _ _).set (.inl (by simp)) _
      have B5 := own_fr B4.out f5 (fun g hg => by simpa using own_ne B4.out Z4.out (by decide) g hg)
      have z0 := Z5.cell 0
      simp only [List.setIfInBounds_toArray, List.set_cons_zero, List.getElem?_toArray, List.getElem?_cons_zero] at z0
      exact bodyPost_ret (v := .agg #[.slice av 256 cv]) (by simp [results, Tryz.results82, go_sem, z0]) rfl ⟨_, rfl, B5, FW.out.trans f5 (fun k hk => .inr (by simp at hk; have := HQ.out; omega))⟩
end Go.Proofs.YthjbnbimfpbccaaGreatDoor
/-
  The reference's sweeper visits a page, goes to the next one, ends, is made. Condition: a million sweeps at most; whole pages.
-/








set_option linter.unusedVariables false
namespace Go.Proofs.YthjbnbimfpbccaaGreatDoor
open Go.ChangeShapes Go.WideShapes Go.ChangeAt Go.RowKit
section
variable (w : World) (r : Nat) (yc : List Value) (ge : Int) (ga : Option Addr) (gc : Nat) (F : Nat → Bool) (st vis : Nat) (h : S3 yc (bkl ge (.slice ga 16 gc))) (hB : Bs 0 w (.slice ga 16 gc) 16 F)
include h hB
set_option maxRecDepth 100000 in
theorem r19visit_no (page : Int) (hno : st ≠ 2 ∨ (inR page 16 && F page.toNat) = false) : Calls Tryz.prog 32 #[.agg (sw3 r yc (bkl ge (.slice ga 16 gc)) st vis).toArray, .int .i64 page] w fun e w' => e = .returned (.tuple #[.agg (sw3 r yc (bkl ge (.slice ga 16 gc)) st vis).toArray, .bool false]) ∧ Fr [] w w' := by
  obtain ⟨bk, hbk⟩ : ∃ l, bkl ge (.slice ga 16 gc) = l := ⟨_, rfl⟩
  have CO := Lib.hid fun W (hW : Fr [] w W) => (show Calls Tryz.prog 80 #[.agg bk.toArray, .int .i64 page] W _ from by
    rw [← hbk]
    exact r18old_any W 0 ge _ 16 F (own_fr0 hB hW) (by omega) page)
  rw [hbk] at h ⊢
  have A1 := Lib.hid (At.old (At.new w 72 (sw3 r yc bk st vis).toArray) (.cells zsw.toArray 72))
  have Z1 := Lib.hid (show At ((w.alloc (.cells (sw3 r yc bk st vis).toArray 72)).alloc (.cells zsw.toArray 72)) (w.heap.size + 1) 72 zsw.toArray from At.nw (by simp only [World.size_alloc]))
  have F1 := Lib.hid (show Fr [] w ((w.alloc (.cells (sw3 r yc bk st vis).toArray 72)).alloc (.cells zsw.toArray 72)) from (by repeat (first | exact Fr.refl _ _ | assumption | refine Fr.trans0 ?_ (by assumption) | refine Fr.drewN ?_ _ | refine Fr.alloc ?_ _ | refine Fr.drew ?_)))
  obtain ⟨w1, hw1⟩ : ∃ W, (w.alloc (.cells (sw3 r yc bk st vis).toArray 72)).alloc (.cells zsw.toArray 72) = W := ⟨_, rfl⟩
  obtain ⟨q, hq⟩ : ∃ q, w.heap.size = q := ⟨_, rfl⟩
  have HW := Lib.hid hw1
  have HQ := Lib.hid hq
  rw [hw1] at A1 Z1 F1
  rw [hq] at A1 Z1
  unfold zsw at HW
  clear hw1 hq
  have H3 := Lib.hid h
  clear h hB hbk
  by_cases h2 : st = 2
  · have hn := hno.resolve_left (fun e => e h2)
    rw [hn] at CO
    subst h2
    clear hno hn
    go_enter Tryz.func32, Tryz.ntmps32
    go_upto_region 1 with (fail)
    rw [HW.out, HQ.out]
    have c8 := (A1.out.cell 8).trans (sw3_ast H3.out)
    go_wp2_with (refine wpList_load_b H3.out (by rfl) (.tmp 10) rfl q rfl A1.out ?_)
    refine (CO.out _ F1.out).mono ?_
    rintro e w2 ⟨rfl, hf2⟩
    have A2 := Lib.hid (A1.out.fr hf2 (by simp))
    have Z2 := Lib.hid (Z1.out.fr hf2 (by simp))
    have F2 := Lib.hid (F1.out.trans0 hf2)
    clear hf2 CO
    go_wp2_with (first
      | (refine wpList_load_sw H3.out (by rfl) (.tmp 2) rfl q rfl A2.out ?_)
      | (refine wpList_store_sw H3.out rfl (.tmp 4) (.tmp 16) rfl (q + 1) rfl rfl _ Z2.out rfl ?_; intro w9 h9 hf9))
    refine bodyPost_ret (res_row_tmp rfl _ _ (q + 1) 72 _ _ rfl h9 Tryz.underlying72 rfl (infoSw (sw3_len H3.out))) rfl ⟨rfl, ?_⟩
    exact F2.out.trans hf9 (fun k hk => .inr (by simp at hk; have := HQ.out; omega))
  · have hd : ((st : Int) != 2) = true := by simp; omega
    clear hno h2 CO
    go_enter Tryz.func32, Tryz.ntmps32
    go_upto_region 1 with (fail)
    rw [HW.out, HQ.out]
    have c8 := (A1.out.cell 8).trans (sw3_ast H3.out)
    go_wp2_with (first
      | (refine wpList_load_sw H3.out (by rfl) (.tmp 2) rfl q rfl A1.out ?_)
      | (refine wpList_store_sw H3.out rfl (.tmp 4) (.tmp 16) rfl (q + 1) rfl rfl _ Z1.out rfl ?_; intro w9 h9 hf9))
    refine bodyPost_ret (res_row_tmp rfl _ _ (q + 1) 72 _ _ rfl h9 Tryz.underlying72 rfl (infoSw (sw3_len H3.out))) rfl ⟨rfl, ?_⟩
    exact F1.out.trans hf9 (fun k hk => .inr (by simp at hk; have := HQ.out; omega))
end
section
variable (w : World) (r : Nat) (yc : List Value) (ge : Int) (ga : Option Addr) (gc : Nat) (F : Nat → Bool) (st vis : Nat) (h : S3 yc (bkl ge (.slice ga 16 gc))) (hB : Bs 0 w (.slice ga 16 gc) 16 F)
include h hB
set_option maxRecDepth 100000 in
theorem r19page_no (hno : st ≠ 2 ∨ nxtB F 16 = false) : Calls Tryz.prog 33 #[.agg (sw3 r yc (bkl ge (.slice ga 16 gc)) st vis).toArray] w fun e w' => e = .returned (.tuple #[.agg (sw3 r yc (bkl ge (.slice ga 16 gc)) st vis).toArray, .int .i64 0, .bool false]) ∧ Fr [] w w' := by
  obtain ⟨bk, hbk⟩ : ∃ l, bkl ge (.slice ga 16 gc) = l := ⟨_, rfl⟩
  have CO := Lib.hid fun W (hW : Fr [] w W) => (show Calls Tryz.prog 84 #[.agg bk.toArray] W _ from by
    rw [← hbk]
    exact r18next_any W 0 ge _ 16 F (own_fr0 hB hW) (by omega))
  rw [hbk] at h ⊢
  have A1 := Lib.hid (At.old (At.new w 72 (sw3 r yc bk st vis).toArray) (.cells zsw.toArray 72))
  have Z1 := Lib.hid (show At ((w.alloc (.cells (sw3 r yc bk st vis).toArray 72)).alloc (.cells zsw.toArray 72)) (w.heap.size + 1) 72 zsw.toArray from At.nw (by simp only [World.size_alloc]))
  have F1 := Lib.hid (show Fr [] w ((w.alloc (.cells (sw3 r yc bk st vis).toArray 72)).alloc (.cells zsw.toArray 72)) from (by repeat (first | exact Fr.refl _ _ | assumption | refine Fr.trans0 ?_ (by assumption) | refine Fr.drewN ?_ _ | refine Fr.alloc ?_ _ | refine Fr.drew ?_)))
  obtain ⟨w1, hw1⟩ : ∃ W, (w.alloc (.cells (sw3 r yc bk st vis).toArray 72)).alloc (.cells zsw.toArray 72) = W := ⟨_, rfl⟩
  obtain ⟨q, hq⟩ : ∃ q, w.heap.size = q := ⟨_, rfl⟩
  have HW := Lib.hid hw1
  have HQ := Lib.hid hq
  rw [hw1] at A1 Z1 F1
  rw [hq] at A1 Z1
  unfold zsw at HW
  clear hw1 hq
  have H3 := Lib.hid h
  obtain ⟨N, hN⟩ : ∃ N, nxtP F 16 = N := ⟨_, rfl⟩
  obtain ⟨nb, hnb⟩ : ∃ b, nxtB F 16 = b := ⟨_, rfl⟩
  rw [hN, hnb] at CO
  rw [hnb] at hno
  clear h hB hbk hN hnb
  by_cases h2 : st = 2
  · have hn := hno.resolve_left (fun e => e h2)
    subst hn h2
    clear hno
    go_enter Tryz.func33, Tryz.ntmps33
    go_upto_region 1 with (fail)
    rw [HW.out, HQ.out]
    go_wp2_with (refine wpList_load_b H3.out (by rfl) (.tmp 10) rfl q rfl A1.out ?_)
    refine (CO.out _ F1.out).mono ?_
    rintro e w2 ⟨rfl, hf2⟩
    have A2 := Lib.hid (A1.out.fr hf2 (by simp))
    have Z2 := Lib.hid (Z1.out.fr hf2 (by simp))
    have F2 := Lib.hid (F1.out.trans0 hf2)
    have c8 := (A2.out.cell 8).trans (sw3_ast H3.out)
    clear hf2 CO
    go_wp2_with (first
      | (refine wpList_load_sw H3.out (by rfl) (.tmp 1) rfl q rfl A2.out ?_)
      | (refine wpList_store_sw H3.out rfl (.tmp 2) (.tmp 22) rfl (q + 1) rfl rfl _ Z2.out rfl ?_; intro w9 h9 hf9))
    refine bodyPost_ret (res_row_tmp2 rfl _ _ (q + 1) 72 _ _ rfl h9 Tryz.underlying72 rfl (infoSw (sw3_len H3.out))) rfl ⟨rfl, ?_⟩
    exact F2.out.trans hf9 (fun k hk => .inr (by simp at hk; have := HQ.out; omega))
  · have hd : ((st : Int) != 2) = true := by simp; omega
    clear hno h2
    go_enter Tryz.func33, Tryz.ntmps33
    go_upto_region 1 with (fail)
    rw [HW.out, HQ.out]
    go_wp2_with (refine wpList_load_b H3.out (by rfl) (.tmp 10) rfl q rfl A1.out ?_)
    refine (CO.out _ F1.out).mono ?_
    rintro e w2 ⟨rfl, hf2⟩
    have A2 := Lib.hid (A1.out.fr hf2 (by simp))
    have Z2 := Lib.hid (Z1.out.fr hf2 (by simp))
    have F2 := Lib.hid (F1.out.trans0 hf2)
    have c8 := (A2.out.cell 8).trans (sw3_ast H3.out)
    clear hf2 CO
    go_wp2_with (first
      | (refine wpList_load_sw H3.out (by rfl) (.tmp 1) rfl q rfl A2.out ?_)
      | (refine wpList_store_sw H3.out rfl (.tmp 2) (.tmp 22) rfl (q + 1) rfl rfl _ Z2.out rfl ?_; intro w9 h9 hf9))
    refine bodyPost_ret (res_row_tmp2 rfl _ _ (q + 1) 72 _ _ rfl h9 Tryz.underlying72 rfl (infoSw (sw3_len H3.out))) rfl ⟨rfl, ?_⟩
    exact F2.out.trans hf9 (fun k hk => .inr (by simp at hk; have := HQ.out; omega))
set_option maxRecDepth 100000 in
theorem r19end_no (hno : st ≠ 2 ∨ cnt F 16 ≠ 0) : Calls Tryz.prog 34 #[.agg (sw3 r yc (bkl ge (.slice ga 16 gc)) st vis).toArray] w fun e w' => e = .returned (.tuple #[.agg (sw3 r yc (bkl ge (.slice ga 16 gc)) st vis).toArray, .slice none 0 0, .bool false]) ∧ Fr [] w w' := by
  obtain ⟨bk, hbk⟩ : ∃ l, bkl ge (.slice ga 16 gc) = l := ⟨_, rfl⟩
  obtain ⟨N, hN⟩ : ∃ N, cnt F 16 = N := ⟨_, rfl⟩
  have CO := Lib.hid fun W (hW : Fr [] w W) => (show Calls Tryz.prog 36 #[.agg bk.toArray] W (fun r w' => r = .returned (.int .i64 (N : Nat)) ∧ Fr [] W w') from by
    rw [← hbk, ← hN]
    exact r18left_any W 0 ge _ 16 F (own_fr0 hB hW) (by omega))
  rw [hN] at hno
  rw [hbk] at h ⊢
  have A1 := Lib.hid (At.old (At.new w 72 (sw3 r yc bk st vis).toArray) (.cells zsw.toArray 72))
  have Z1 := Lib.hid (show At ((w.alloc (.cells (sw3 r yc bk st vis).toArray 72)).alloc (.cells zsw.toArray 72)) (w.heap.size + 1) 72 zsw.toArray from At.nw (by simp only [World.size_alloc]))
  have F1 := Lib.hid (show Fr [] w ((w.alloc (.cells (sw3 r yc bk st vis).toArray 72)).alloc (.cells zsw.toArray 72)) from (by repeat (first | exact Fr.refl _ _ | assumption | refine Fr.trans0 ?_ (by assumption) | refine Fr.drewN ?_ _ | refine Fr.alloc ?_ _ | refine Fr.drew ?_)))
  obtain ⟨w1, hw1⟩ : ∃ W, (w.alloc (.cells (sw3 r yc bk st vis).toArray 72)).alloc (.cells zsw.toArray 72) = W := ⟨_, rfl⟩
  obtain ⟨q, hq⟩ : ∃ q, w.heap.size = q := ⟨_, rfl⟩
  have HW := Lib.hid hw1
  have HQ := Lib.hid hq
  rw [hw1] at A1 Z1 F1
  rw [hq] at A1 Z1
  unfold zsw at HW
  clear hw1 hq
  have H3 := Lib.hid h
  clear h hB hbk hN
  by_cases h2 : st = 2
  · have hn := hno.resolve_left (fun e => e h2)
    have hn0 : 0 < N := by omega
    have hni : (0 : Int) < (N : Int) := by omega
    subst h2
    clear hno hn
    go_enter Tryz.func34, Tryz.ntmps34
    go_upto_region 1 with (fail)
    rw [HW.out, HQ.out]
    have c8 := (A1.out.cell 8).trans (sw3_ast H3.out)
    go_wp2_with (refine wpList_load_b H3.out (by rfl) (.tmp 11) rfl q rfl A1.out ?_)
    refine (CO.out _ F1.out).mono ?_
    rintro e w2 ⟨rfl, hf2⟩
    have A2 := Lib.hid (A1.out.fr hf2 (by simp))
    have Z2 := Lib.hid (Z1.out.fr hf2 (by simp))
    have F2 := Lib.hid (F1.out.trans0 hf2)
    clear hf2 CO
    go_wp2_with (first
      | (refine wpList_load_sw H3.out (by rfl) (.tmp 1) rfl q rfl A2.out ?_)
      | (refine wpList_store_sw H3.out rfl (.tmp 2) (.tmp 16) rfl (q + 1) rfl rfl _ Z2.out rfl ?_; intro w9 h9 hf9))
    refine bodyPost_ret (res_row_tmp2 rfl _ _ (q + 1) 72 _ _ rfl h9 Tryz.underlying72 rfl (infoSw (sw3_len H3.out))) rfl ⟨rfl, ?_⟩
    exact F2.out.trans hf9 (fun k hk => .inr (by simp at hk; have := HQ.out; omega))
  · have hd : ((st : Int) != 2) = true := by simp; omega
    clear hno h2 CO
    go_enter Tryz.func34, Tryz.ntmps34
    go_upto_region 1 with (fail)
    rw [HW.out, HQ.out]
    have c8 := (A1.out.cell 8).trans (sw3_ast H3.out)
    go_wp2_with (first
      | (refine wpList_load_sw H3.out (by rfl) (.tmp 1) rfl q rfl A1.out ?_)
      | (refine wpList_store_sw H3.out rfl (.tmp 2) (.tmp 16) rfl (q + 1) rfl rfl _ Z1.out rfl ?_; intro w9 h9 hf9))
    refine bodyPost_ret (res_row_tmp2 rfl _ _ (q + 1) 72 _ _ rfl h9 Tryz.underlying72 rfl (infoSw (sw3_len H3.out))) rfl ⟨rfl, ?_⟩
    exact F1.out.trans hf9 (fun k hk => .inr (by simp at hk; have := HQ.out; omega))
end
section
variable (w : World) (r : Nat) (m : MS) (s : YS) (wa la : Option Addr) (wc lc : Nat) (ge : Int) (ga : Option Addr) (gc : Nat) (F : Nat → Bool) (vis : Nat) (hl : Rl w s m wa wc la lc) (hB : Bs 0 w (.slice ga 16 gc) 16 F)
include hl hB
set_option maxHeartbeats 1000000 in
set_option maxRecDepth 100000 in
theorem r19end_yes (hu : m.un = true) (hc : cnt F 16 = 0) :
    Calls Tryz.prog 34 #[.agg (sw3 r (ryl 4096 wa m.lw.length wc la m.lb.length lc m.ep m.un) (bkl ge (.slice ga 16 gc)) 2 vis).toArray] w fun e w' => ∃ wa' wc' la' lc' v, e = .returned (.tuple #[.agg (sw3 r (ryl 4096 wa' (mEnd m).lw.length wc' la' (mEnd m).lb.length lc' (mEnd m).ep (mEnd m).un) (bkl ge (.slice ga 16 gc)) 0 vis).toArray, v, .bool true]) ∧ w'.ownsRow 0 45 2 v m.lb.length (rgv m.lb) ∧ Rl w' s (mEnd m) wa' wc' la' lc' ∧ Fr [] w w' := by
  have h : S3 (ryl 4096 wa m.lw.length wc la m.lb.length lc m.ep m.un) (bkl ge (.slice ga 16 gc)) := ryl_s3
  obtain ⟨yc, hyc⟩ : ∃ l, ryl 4096 wa m.lw.length wc la m.lb.length lc m.ep m.un = l := ⟨_, rfl⟩
  obtain ⟨bk, hbk⟩ : ∃ l, bkl ge (.slice ga 16 gc) = l := ⟨_, rfl⟩
  have CB := Lib.hid fun W (hW : Fr [] w W) => (show Calls Tryz.prog 85 #[.agg yc.toArray] W _ from by
    rw [← hyc, ryl_is]
    exact rend_m W 256 m s wa la wc lc (hl.fr hW))
  have CL := Lib.hid fun W (hW : Fr [] w W) => (show Calls Tryz.prog 36 #[.agg bk.toArray] W (fun r w' => r = .returned (.int .i64 (0 : Int)) ∧ Fr [] W w') from by
    have := r18left_any W 0 ge _ 16 F (own_fr0 hB hW) (by omega)
    rw [hc] at this
    rw [← hbk]
    exact this)
  rw [hu, if_pos rfl] at CB
  have HBK := Lib.hid hbk
  rw [hyc, hbk] at h ⊢
  obtain ⟨st, hst⟩ : ∃ st, 2 = st := ⟨_, rfl⟩
  rw [show sw3 r yc bk 2 vis = sw3 r yc bk st vis from by rw [← hst]]
  have A1 := Lib.hid (At.old (At.new w 72 (sw3 r yc bk st vis).toArray) (.cells zsw.toArray 72))
  have Z1 := Lib.hid (show At ((w.alloc (.cells (sw3 r yc bk st vis).toArray 72)).alloc (.cells zsw.toArray 72)) (w.heap.size + 1) 72 zsw.toArray from At.nw (by simp only [World.size_alloc]))
  have F1 := Lib.hid (show Fr [] w ((w.alloc (.cells (sw3 r yc bk st vis).toArray 72)).alloc (.cells zsw.toArray 72)) from (by repeat (first | exact Fr.refl _ _ | assumption | refine Fr.trans0 ?_ (by assumption) | refine Fr.drewN ?_ _ | refine Fr.alloc ?_ _ | refine Fr.drew ?_)))
  obtain ⟨w1, hw1⟩ : ∃ W, (w.alloc (.cells (sw3 r yc bk st vis).toArray 72)).alloc (.cells zsw.toArray 72) = W := ⟨_, rfl⟩
  obtain ⟨q, hq⟩ : ∃ q, w.heap.size = q := ⟨_, rfl⟩
  have HW := Lib.hid hw1
  have HQ := Lib.hid hq
  rw [hw1] at A1 Z1 F1
  rw [hq] at A1 Z1
  unfold zsw at HW
  clear hw1 hq
  have H3 := Lib.hid h
  subst hst
  clear hl hB hu hc hyc hbk h
  go_enter Tryz.func34, Tryz.ntmps34
  go_upto_region 1 with (fail)
  rw [HW.out, HQ.out]
  have c8 := (A1.out.cell 8).trans (sw3_ast H3.out)
  go_wp2_with (refine wpList_load_b H3.out (by rfl) (.tmp 11) rfl q rfl A1.out ?_)
  refine (CL.out _ F1.out).mono ?_
  rintro e w1' ⟨rfl, hf1'⟩
  have A1' := Lib.hid (A1.out.fr hf1' (by simp))
  have Z1' := Lib.hid (Z1.out.fr hf1' (by simp))
  have F1' := Lib.hid (F1.out.trans0 hf1')
  clear hf1' CL c8 A1 Z1 F1
  go_wp2_with (refine wpList_load_y H3.out (by rfl) (.tmp 18) rfl q rfl A1'.out ?_)
  refine (CB.out _ F1'.out).mono ?_
  rintro e w2 ⟨wa', wc', la', lc', v, rfl, hv2, hl2, hf2⟩
  rw [← ryl_is]
  have HL2 := Lib.hid hl2
  have HV2 := Lib.hid hv2
  have F2 := Lib.hid (F1'.out.trans0 hf2)
  have A2 := Lib.hid (A1'.out.fr hf2 (by simp))
  have Z2 := Lib.hid (Z1'.out.fr hf2 (by simp))
  have H3' : Hid (S3 (ryl 4096 wa' (mEnd m).lw.length wc' la' (mEnd m).lb.length lc' (mEnd m).ep (mEnd m).un) bk) := Lib.hid ⟨rfl, H3.out.bl, ryl_s3 (ge := 0) (ga := none) (gn := 0) (gc := 0) |>.yo, H3.out.bo⟩
  have HIY : Hid ((Tryz.prog.info? 65).map (·.size) = some (ryl 4096 wa' (mEnd m).lw.length wc' la' (mEnd m).lb.length lc' (mEnd m).ep (mEnd m).un).toArray.size) := Lib.hid infoYA
  have HYO : Hid ((ryl 4096 wa' (mEnd m).lw.length wc' la' (mEnd m).lb.length lc' (mEnd m).ep (mEnd m).un).toArray.all (·.oneCell') = true) := Lib.hid ryl_all
  obtain ⟨yc', hyc'⟩ : ∃ l, ryl 4096 wa' (mEnd m).lw.length wc' la' (mEnd m).lb.length lc' (mEnd m).ep (mEnd m).un = l := ⟨_, rfl⟩
  have HYC := Lib.hid hyc'
  rw [show (4096 : Int) = ((16 * 256 : Nat) : Int) from rfl] at hyc'
  rw [hyc']
  rw [show (4096 : Int) = ((16 * 256 : Nat) : Int) from rfl, hyc'] at H3' HIY HYO
  have N2 := Lib.hid (And.intro A2.out Z2.out)
  clear hl2 hv2 hf2 CB hyc'
  have HSZ := Lib.hid (show zy.toArray.size = yc'.toArray.size by rw [show yc'.toArray.size = yc'.length from List.size_toArray, H3'.out.yl]; rfl)
  go_upto_region 4 with (refine wpList_store_all rfl 65 (.tmp 5) (.tmp 21) rfl _ yc'.toArray rfl rfl 65 zy.toArray (At.nw rfl) HIY.out HSZ.out HYO.out ?_; intro w3 h3 hf3)
  have fz : Fr [] w2 (w2.alloc (.cells zy.toArray 65)) := (by repeat (first | exact Fr.refl _ _ | assumption | refine Fr.trans0 ?_ (by assumption) | refine Fr.drewN ?_ _ | refine Fr.alloc ?_ _ | refine Fr.drew ?_))
  have F3 := Lib.hid ((fz.more (T := [w2.heap.size]) (by simp)).trans hf3 (fun k hk => .inl hk) |>.more (T := []) (by simp))
  have Y3 := Lib.hid h3
  have A3 := Lib.hid (A2.out.fr F3.out (by simp))
  have Z3 := Lib.hid (Z2.out.fr F3.out (by simp))
  obtain ⟨q5, hq5'⟩ : ∃ q, w2.heap.size = q := ⟨_, rfl⟩
  rw [hq5'] at Y3 ⊢
  clear fz h3 hf3 hq5' HSZ A2 Z2
  go_upto_region 5 with (first
    | (refine wpList_load_all (by rfl) 65 (.tmp 5) rfl q5 rfl 65 yc'.toArray _ Y3.out Tryz.underlying65 rfl HIY.out ?_)
    | (refine wpList_store_y H3.out (by rfl) (.tmp 24) (.tmp 23) rfl q H3'.out rfl rfl A3.out ?_; intro w4 h4 hf4))
  have A4 := Lib.hid h4
  have F4 := Lib.hid hf4
  have Z4 := Lib.hid (Z3.out.fr hf4 (by simp))
  have c8 := (A4.out.cell 8).trans (sw3_ast H3'.out)
  have z8 := A4.out.froz 8
  clear h4 hf4 A3 Z3
  go_upto_region 6 with (fail)
  have f7 : Fr [q] w4 (w4.setCell ⟨q, 8, none⟩ (.int .i64 0)) := (Fr.refl _ _).set (.inl (by simp)) _
  have A7 := A4.out.set 8 (.int .i64 ((0 : Nat) : Int))
  rw [sw3_setst H3'.out] at A7
  have Z7 := Lib.hid (Z4.out.fr f7 (by simp))
  obtain ⟨w7, hw7⟩ : ∃ W, w4.setCell ⟨q, 8, none⟩ (.int .i64 0) = W := ⟨_, rfl⟩
  rw [show (w4.setCell ⟨q, 8, none⟩ (.int .i64 ((0 : Nat) : Int))) = w7 from hw7] at A7
  rw [hw7] at f7 Z7 ⊢
  have A7 := Lib.hid A7
  have F7 := Lib.hid f7
  clear c8 z8 hw7 f7
  go_wp2_with (first
    | (refine wpList_load_sw H3'.out (by rfl) (.tmp 1) rfl q rfl A7.out ?_)
    | (refine wpList_store_sw H3'.out rfl (.tmp 2) (.tmp 26) rfl (q + 1) rfl rfl _ Z7.out rfl ?_; intro w9 h9 hf9))
  have f29 : Fr [q, q + 1] w2 w9 := ((((F3.out.more (T := [q, q + 1]) (by simp)).trans (F4.out.more (T := [q, q + 1]) (by simp)) (fun k hk => .inl hk))).trans (F7.out.more (T := [q, q + 1]) (by simp)) (fun k hk => .inl hk)).trans hf9 (by simp)
  have hap : ∀ k ∈ [q, q + 1], ∃ t cs, At w2 k t cs ∧ t ≠ 45 := by
    intro k hk
    simp only [List.mem_cons, List.not_mem_nil, or_false] at hk
    rcases hk with rfl | rfl
    · exact ⟨_, _, N2.out.1, by decide⟩
    · exact ⟨_, _, N2.out.2, by decide⟩
  have eq1 : (ryl 4096 wa' (mEnd m).lw.length wc' la' (mEnd m).lb.length lc' (mEnd m).ep (mEnd m).un) = yc' := HYC.out
  refine bodyPost_ret (res_row_tmp2 rfl _ _ (q + 1) 72 _ _ rfl h9 Tryz.underlying72 rfl (infoSw (sw3_len H3'.out))) rfl ⟨wa', wc', la', lc', v, by rw [eq1]; rfl, own_apartT HV2.out f29 hap, HL2.out.apart f29 hap, ?_⟩
  exact F2.out.trans f29 (fun k hk => .inr (by simp at hk; have := HQ.out; omega))
end
set_option maxHeartbeats 1000000 in
set_option maxRecDepth 100000 in
theorem r19new_any (w : World) (r : Nat) : Calls Tryz.prog 27 #[.pointer (some ⟨r, 0, none⟩), .agg (ryl 4096 none 0 0 none 0 0 0 false).toArray, .int .i64 16] w fun e w' => ∃ ga gc, e = .returned (.agg (sw3 r (ryl 4096 none 0 0 none 0 0 0 false) (bkl 0 (.slice ga 16 gc)) 0 0).toArray) ∧ Bs w.heap.size w' (.slice ga 16 gc) 16 (fun _ => false) ∧ Fr [] w w' := by
  change Calls Tryz.prog 27 #[.pointer (some ⟨r, 0, none⟩), .agg #[.int .i64 4096, .slice none 0 0, .slice none 0 0, .int .u64 0, .bool false], .int .i64 16] w _
  have CN := Lib.hid fun W => r18new_yes 16 W (by omega)
  go_enter Tryz.func27, Tryz.ntmps27
  go_wp2_with fail
  refine (CN.out _).mono ?_
  rintro e w2 ⟨v, rfl, hb2, hf2⟩
  obtain ⟨ga, gc, rfl, -⟩ := own_slice hb2
  have f1 : Fr [] w ((w.alloc (.cells (ryl 4096 none 0 0 none 0 0 0 false).toArray 65)).alloc (.cells zsw.toArray 72)) := (by repeat (first | exact Fr.refl _ _ | assumption | refine Fr.trans0 ?_ (by assumption) | refine Fr.drewN ?_ _ | refine Fr.alloc ?_ _ | refine Fr.drew ?_))
  have AY := Lib.hid ((At.old (At.new w 65 (ryl 4096 none 0 0 none 0 0 0 false).toArray) (.cells zsw.toArray 72)).fr (S := []) (w' := w2) hf2 (by simp))
  have AZ := Lib.hid ((show At ((w.alloc (.cells (ryl 4096 none 0 0 none 0 0 0 false).toArray 65)).alloc (.cells zsw.toArray 72)) (w.heap.size + 1) 72 zsw.toArray from At.nw (by simp only [World.size_alloc])).fr (S := []) (w' := w2) hf2 (by simp))
  have F2 := Lib.hid (f1.trans0 hf2)
  have B2 := Lib.hid (own_base hb2 f1.size)
  clear f1 hb2 hf2 CN
  go_upto_region 2 with (fail)
  have fg : Fr [] w2 (w2.alloc (.cells #[.int .u64 0, .slice ga 16 gc] 70)) := (by repeat (first | exact Fr.refl _ _ | assumption | refine Fr.trans0 ?_ (by assumption) | refine Fr.drewN ?_ _ | refine Fr.alloc ?_ _ | refine Fr.drew ?_))
  have AY3 := Lib.hid (AY.out.fr fg (by simp))
  have AZ3 := Lib.hid (AZ.out.fr fg (by simp))
  have AG3 := Lib.hid (At.new w2 70 #[.int .u64 0, .slice ga 16 gc])
  have F3 := Lib.hid (F2.out.trans0 fg)
  have B3 := Lib.hid (own_fr0 B2.out fg)
  obtain ⟨w3, hw3⟩ : ∃ W, w2.alloc (.cells #[.int .u64 0, .slice ga 16 gc] 70) = W := ⟨_, rfl⟩
  obtain ⟨q7, hq7⟩ : ∃ q, w2.heap.size = q := ⟨_, rfl⟩
  rw [hw3] at AY3 AZ3 AG3 F3 B3 ⊢
  rw [hq7] at AG3 ⊢
  have g0 := AG3.out.cell 0
  have g1 := AG3.out.cell 1
  simp only [List.getElem?_toArray, List.getElem?_cons_zero, List.getElem?_cons_succ] at g0 g1
  have HS : Hid (S3 (ryl 4096 none 0 0 none 0 0 0 false) (bkl 0 (.slice ga 16 gc))) := Lib.hid ryl_s3
  clear fg AY AZ F2 B2 hw3 hq7
  have y0 := AY3.out.cell 0
  have y1 := AY3.out.cell 1
  have y2 := AY3.out.cell 2
  have y3 := AY3.out.cell 3
  have y4 := AY3.out.cell 4
  unfold ryl at y0 y1 y2 y3 y4
  simp only [List.getElem?_toArray, List.getElem?_cons_zero, List.getElem?_cons_succ] at y0 y1 y2 y3 y4
  go_wp2_with (refine wpList_store_sw (r := r) (yc := ryl 4096 none 0 0 none 0 0 0 false) (bk := bkl 0 (.slice ga 16 gc)) (st := 0) (vis := 0) HS.out rfl (.tmp 6) (.tmp 17) rfl (w.heap.size + 1) rfl rfl _ AZ3.out rfl ?_; intro w9 h9 hf9)
  refine bodyPost_ret (res_row rfl _ _ (w.heap.size + 1) 72 _ _ rfl h9 Tryz.underlying72 rfl (infoSw (sw3_len HS.out))) rfl ⟨ga, gc, rfl, ?_, F3.out.trans hf9 (fun k hk => .inr (by simp at hk; omega))⟩
  exact own_apartT B3.out hf9 (fun k hk => by simp only [List.mem_cons, List.not_mem_nil, or_false] at hk; subst hk; exact ⟨_, _, AZ3.out, by decide⟩)
section
variable (w : World) (r bb tb cb ct : Nat) (bs : List Nat) (f : Nat → Bool) (wa : Option Addr) (wn wc : Nat) (la : Option Addr) (lc : Nat) (ep : Nat) (un : Bool) (lb : List (Nat × Nat)) (ge : Int) (ga : Option Addr) (gc : Nat) (F : Nat → Bool) (vis : Nat)
  (hR : Ra w r bb tb cb ct bs f) (hN : bs.length % 256 = 0) (ho : w.ownsRow 0 45 2 (.slice la lb.length lc) lb.length (rgv lb)) (hg : Good 256 lb) (hd : Dj lb) (hB : Bs 0 w (.slice ga 16 gc) 16 F) (hgt : ∀ g, (Value.slice ga 16 gc).ownBlock = some g → g ≠ tb)
include hR hN ho hg hd hB hgt
set_option maxHeartbeats 1000000 in
set_option maxRecDepth 100000 in
theorem r19visit_yes (P : Nat) (hP : P < 16) (hF : F P = true) (hv : vis < 1000000) : Calls Tryz.prog 32 #[.agg (sw3 r (ryl 4096 wa wn wc la lb.length lc ep un) (bkl ge (.slice ga 16 gc)) 2 vis).toArray, .int .i64 P] w fun e w' => ∃ ga' gc', e = .returned (.tuple #[.agg (sw3 r (ryl 4096 wa wn wc la lb.length lc ep un) (bkl ge (.slice ga' 16 gc')) 2 (vis + 1)).toArray, .bool true]) ∧ Ra w' r bb tb cb ct bs (pgT bs (hasP 256 (cov lb)) f (tgP bs.length f P)) ∧ Bs w.heap.size w' (.slice ga' 16 gc') 16 (upd F P false) ∧ Fr [tb] w w' := by
  have h : S3 (ryl 4096 wa wn wc la lb.length lc ep un) (bkl ge (.slice ga 16 gc)) := ryl_s3
  obtain ⟨yc, hyc⟩ : ∃ l, ryl 4096 wa wn wc la lb.length lc ep un = l := ⟨_, rfl⟩
  obtain ⟨bk, hbk⟩ : ∃ l, bkl ge (.slice ga 16 gc) = l := ⟨_, rfl⟩
  have CO := Lib.hid fun W (hW : Fr [] w W) => (show Calls Tryz.prog 80 #[.agg bk.toArray, .int .i64 P] W _ from by
    rw [← hbk]
    exact r18old_any W 0 ge _ 16 F (own_fr0 hB hW) (by omega) P)
  rw [inR_nat _ _ hP, Bool.true_and, Int.toNat_natCast, hF] at CO
  have CP := Lib.hid fun W (hW : Fr [] w W) => (show Calls Tryz.prog 82 #[.agg yc.toArray] W _ from by
    rw [← hyc]
    exact r19paint_any W wa wn wc la lc ep un lb (own_fr0 ho hW) hg hd)
  have CG := Lib.hid fun W v (hW : Fr [] w W) (hb : Bs 0 W v 256 (cov lb)) (hvt : ∀ g, v.ownBlock = some g → g ≠ tb) => r17page_any W r bb tb cb ct bs f (hR.fr0 hW) hN v 256 (cov lb) hb (by omega) hvt (P : Int)
  have CM := Lib.hid fun W (hW : Fr [tb] w W) => (show Calls Tryz.prog 83 #[.agg bk.toArray, .int .i64 P] W _ from by
    rw [← hbk]
    exact r18mark_yes W 0 ge _ 16 F (own_fr hB hW (fun g hg => by simpa using hgt g hg)) (by omega) P hP hF)
  have HTB := Lib.hid hR.lt.2.2
  have HRB := Lib.hid hR
  obtain ⟨page, hpg⟩ : ∃ p : Int, (P : Int) = p := ⟨_, rfl⟩
  rw [hpg] at CO CG CM ⊢
  rw [hyc, hbk] at h ⊢
  obtain ⟨st, hst⟩ : ∃ st, 2 = st := ⟨_, rfl⟩
  rw [show sw3 r yc bk 2 vis = sw3 r yc bk st vis from by rw [← hst]]
  have A1 := Lib.hid (At.old (At.new w 72 (sw3 r yc bk st vis).toArray) (.cells zsw.toArray 72))
  have Z1 := Lib.hid (show At ((w.alloc (.cells (sw3 r yc bk st vis).toArray 72)).alloc (.cells zsw.toArray 72)) (w.heap.size + 1) 72 zsw.toArray from At.nw (by simp only [World.size_alloc]))
  have F1 := Lib.hid (show Fr [] w ((w.alloc (.cells (sw3 r yc bk st vis).toArray 72)).alloc (.cells zsw.toArray 72)) from (by repeat (first | exact Fr.refl _ _ | assumption | refine Fr.trans0 ?_ (by assumption) | refine Fr.drewN ?_ _ | refine Fr.alloc ?_ _ | refine Fr.drew ?_)))
  obtain ⟨w1, hw1⟩ : ∃ W, (w.alloc (.cells (sw3 r yc bk st vis).toArray 72)).alloc (.cells zsw.toArray 72) = W := ⟨_, rfl⟩
  obtain ⟨q, hq⟩ : ∃ q, w.heap.size = q := ⟨_, rfl⟩
  have HW := Lib.hid hw1
  have HQ := Lib.hid hq
  rw [hw1] at A1 Z1 F1
  rw [hq] at A1 Z1
  unfold zsw at HW
  clear hw1 hq
  have H3 := Lib.hid h
  subst hst
  have HTQ := Lib.hid (show tb < q from by have := HTB.out; have := HQ.out; omega)
  clear hR hN ho hg hd hB hgt hyc hbk h hP hF hpg
  go_enter Tryz.func32, Tryz.ntmps32
  go_upto_region 1 with (fail)
  rw [HW.out, HQ.out]
  have c8 := (A1.out.cell 8).trans (sw3_ast H3.out)
  go_wp2_with (refine wpList_load_b H3.out (by rfl) (.tmp 10) rfl q rfl A1.out ?_)
  refine (CO.out _ F1.out).mono ?_
  rintro e w2 ⟨rfl, hf2⟩
  have A2 := Lib.hid (A1.out.fr hf2 (by simp))
  have Z2 := Lib.hid (Z1.out.fr hf2 (by simp))
  have F2 := Lib.hid (F1.out.trans0 hf2)
  clear hf2 CO c8
  go_upto_region 3 with (fail)
  have hq2 := A2.out.lt
  have r0 := (A2.out.cell 0).trans (sw3_ar (r := r) (yc := yc) (bk := bk) (st := 2) (vis := vis))
  have R0 := Lib.hid r0
  clear r0
  refine wp_region_L (fun W => Fr [] w2 W) [6] (by kernel_rfl) ((Fr.refl _ _).drew) (fun hHeld => ?_)
  refine wpAnyL_take (i := 0) (v := ?_) rfl (by kernel_rfl) (fun _ _ _ h => h) (Or.inl ⟨by rfl, ?_⟩) (by assumption) ?_; rotate_left; (focus (intro w hSw; skip; go_simp; (try with_reducible rfl))); (try (refine wpAnyL_norm (by simp only [Act.put, List.setIfInBounds_toArray, List.set_cons_zero, List.set_cons_succ]; rfl) ?_))
  refine wpAnyL_take (i := 1) (v := ?_) rfl (by kernel_rfl) (fun _ _ _ h => h) (Or.inl ⟨by rfl, ?_⟩) (by assumption) ?_; rotate_left; (focus (intro w hSw; (have cc := (hSw.cell (a := ⟨q, 0, none⟩) hq2 (by simp)).trans R0.out); go_simp; (try with_reducible rfl))); (try (refine wpAnyL_norm (by simp only [Act.put, List.setIfInBounds_toArray, List.set_cons_zero, List.set_cons_succ]; rfl) ?_))
  refine wpAnyL_take (i := 2) (v := ?_) rfl (by kernel_rfl) (fun _ _ _ h => h) (Or.inl ⟨by rfl, ?_⟩) (by assumption) ?_; rotate_left; (focus (intro w hSw; skip; go_simp; (try with_reducible rfl))); (try (refine wpAnyL_norm (by simp only [Act.put, List.setIfInBounds_toArray, List.set_cons_zero, List.set_cons_succ]; rfl) ?_))
  refine wpAnyL_take (i := 3) (v := ?_) rfl (by kernel_rfl) (fun _ _ _ h => h) (Or.inl ⟨by rfl, ?_⟩) (by assumption) ?_; rotate_left; (focus (intro w hSw; skip; go_simp; (try with_reducible rfl))); (try (refine wpAnyL_norm (by simp only [Act.put, List.setIfInBounds_toArray, List.set_cons_zero, List.set_cons_succ]; rfl) ?_))
  refine wpAnyL_take (i := 4) rfl (by kernel_rfl) (fun _ _ _ h => h) (yields_load_at 65 (.tmp 20) rfl ⟨q, 1, none⟩ rfl yc _ (fun W hW j v hv => by rw [Go.WideShapes.add_plain, (A2.out.fr hW (by simp)).cell, List.getElem?_toArray]; exact sw3_y j v hv) Tryz.underlying65 rfl (infoY5 H3.out.yl) rfl) (by assumption) ?_; (try (refine wpAnyL_norm (by simp only [Act.put, List.setIfInBounds_toArray, List.set_cons_zero, List.set_cons_succ]; rfl) ?_))
  refine wpAnyL_ready (rs := [5]) (by kernel_rfl) (by simp) ?_; refine AllReadyL.cons rfl (fun K hK => ?_) AllReadyL.nil
  go_simp
  refine (CP.out _ (F2.out.trans0 hHeld)).mono ?_
  rintro e w3 ⟨v, rfl, hb3, hf3⟩
  have B3 := Lib.hid hb3
  have F3 := Lib.hid (F2.out.trans0 (hHeld.trans0 hf3))
  have G3 := Lib.hid (hHeld.trans0 hf3)
  have hW3 := Lib.hid (show w.heap.size ≤ w2.drew.heap.size from (F2.out.trans0 hHeld).size)
  refine hK.out _ _ (fun _ => hHeld.trans0 hf3) (fun hHeld' => ?_); have hHeld := hHeld' (by decide); clear hHeld' hK K; (try (refine wpAnyL_norm (by simp only [Act.put, List.setIfInBounds_toArray, List.set_cons_zero, List.set_cons_succ]; rfl) ?_))
  clear hb3 hf3 CP
  refine wpAnyL_ready (rs := [6]) (by kernel_rfl) (by simp) ?_; refine AllReadyL.cons rfl (fun K hK => ?_) AllReadyL.nil
  go_simp
  refine (CG.out _ v F3.out (own_base B3.out (Nat.zero_le _)) (fun g hg => by have := own_geR B3.out g hg; have := HTQ.out; have := hW3.out; have := HQ.out; omega)).mono ?_
  rintro e w4 ⟨rfl, h4, hf4⟩
  have R4 := Lib.hid h4
  have F4 := Lib.hid ((F3.out.more (T := [tb]) (by simp)).trans hf4 (fun k hk => .inl hk))
  have A4 := Lib.hid ((A2.out.fr G3.out (by simp)).fr hf4 (by have := HTQ.out; simp; omega))
  have Z4 := Lib.hid ((Z2.out.fr G3.out (by simp)).fr hf4 (by have := HTQ.out; simp; omega))
  refine hK.out _ _ (fun h => (h (by decide)).elim) (fun _ => ?_); clear hK K; (try (refine wpAnyL_norm (by simp only [Act.put, List.setIfInBounds_toArray, List.set_cons_zero, List.set_cons_succ]; rfl) ?_))
  refine wpAnyL_done (by kernel_rfl) ?_ _
  clear h4 hf4 CG hHeld A2 Z2
  go_wp2_with (refine wpList_load_b H3.out (by rfl) (.tmp 25) rfl q rfl A4.out ?_)
  refine (CM.out _ F4.out).mono ?_
  rintro e w5 ⟨gv', rfl, hb5, hf5⟩
  obtain ⟨ga', gc', rfl, -⟩ := own_slice hb5
  have A5 := Lib.hid (A4.out.fr hf5 (by simp))
  have Z5 := Lib.hid (Z4.out.fr hf5 (by simp))
  have N5 := Lib.hid (And.intro A5.out Z5.out)
  have F5 := Lib.hid (F4.out.trans0 hf5)
  have HB5 := Lib.hid (own_base hb5 F4.out.size)
  have R5 := Lib.hid (R4.out.fr0 hf5)
  have H5 : Hid (S3 yc (bkl ge (.slice ga' 16 gc'))) := Lib.hid ⟨H3.out.yl, rfl, H3.out.yo, ryl_s3 (b := 0) (wa := none) (wn := 0) (wc := 0) (la := none) (ln := 0) (lc := 0) (ep := 0) (un := true) |>.bo⟩
  clear hb5 hf5 CM A4 Z4 R4
  go_upto_region 5 with (refine wpList_store_b H3.out (by rfl) (.tmp 31) (.tmp 29) rfl q H5.out rfl rfl A5.out ?_; intro w6 h6 hf6)
  have A6 := Lib.hid h6
  have F6 := Lib.hid hf6
  have Z6 := Lib.hid (Z5.out.fr hf6 (by simp))
  have c9 := (A6.out.cell 9).trans (sw3_avis H5.out)
  have z9 := A6.out.froz 9
  have hw5 : IntKind.u64.wrap ((vis : Int) + 1) = (vis : Int) + 1 := by simp [IntKind.wrap, IntKind.signed, IntKind.bits]; omega
  clear h6 hf6 A5 Z5
  go_upto_region 6 with (fail)
  have f7 : Fr [q] w6 (w6.setCell ⟨q, 9, none⟩ (.int .u64 ((vis : Int) + 1))) := (Fr.refl _ _).set (.inl (by simp)) _
  have A7 := A6.out.set 9 (.int .u64 ((vis + 1 : Nat) : Int))
  rw [sw3_setvis H5.out] at A7
  have Z7 := Lib.hid (Z6.out.fr f7 (by simp))
  obtain ⟨w7, hw7⟩ : ∃ W, w6.setCell ⟨q, 9, none⟩ (.int .u64 ((vis : Int) + 1)) = W := ⟨_, rfl⟩
  rw [show (w6.setCell ⟨q, 9, none⟩ (.int .u64 ((vis + 1 : Nat) : Int))) = w7 from hw7] at A7
  rw [hw7] at f7 Z7 ⊢
  have A7 := Lib.hid A7
  have F7 := Lib.hid f7
  clear c9 z9 hw7 f7 hw5
  go_wp2_with (first
    | (refine wpList_load_sw H5.out (by rfl) (.tmp 2) rfl q rfl A7.out ?_)
    | (refine wpList_store_sw H5.out rfl (.tmp 4) (.tmp 36) rfl (q + 1) rfl rfl _ Z7.out rfl ?_; intro w9 h9 hf9))
  have f59 : Fr [q, q + 1] w5 w9 := ((F6.out.more (T := [q, q + 1]) (by simp)).trans (F7.out.more (T := [q, q + 1]) (by simp)) (fun k hk => .inl hk)).trans hf9 (by simp)
  refine bodyPost_ret (res_row_tmp rfl _ _ (q + 1) 72 _ _ rfl h9 Tryz.underlying72 rfl (infoSw (sw3_len H5.out))) rfl ⟨ga', gc', rfl, ?_, ?_, ?_⟩
  · obtain ⟨t1, a2⟩ := R5.out.ne
    obtain ⟨ds, hds, -⟩ := R5.out.tags
    obtain ⟨cs, hcs, -⟩ := R5.out.bytes
    have e1 := R5.out.at_.diff N5.out.1 (by decide)
    have e2 := R5.out.at_.diff N5.out.2 (by decide)
    have e3 := hds.diff N5.out.1 (by decide)
    have e4 := hds.diff N5.out.2 (by decide)
    have e5 := hcs.diff N5.out.1 (by decide)
    have e6 := hcs.diff N5.out.2 (by decide)
    exact R5.out.fr f59 (by simp; omega) (by simp; omega) (by simp; omega)
  · refine own_apartT HB5.out f59 ?_
    intro k hk
    simp only [List.mem_cons, List.not_mem_nil, or_false] at hk
    rcases hk with rfl | rfl
    · exact ⟨_, _, N5.out.1, by decide⟩
    · exact ⟨_, _, N5.out.2, by decide⟩
  · exact F5.out.trans f59 (fun k hk => .inr (by simp at hk; have := HQ.out; omega))
set_option maxHeartbeats 1000000 in
set_option maxRecDepth 100000 in
theorem r19page_yes (P : Nat) (hP : P < 16) (hF : F P = true) (hnb : nxtB F 16 = true) (hnp : nxtP F 16 = P) (hv : vis < 1000000) : Calls Tryz.prog 33 #[.agg (sw3 r (ryl 4096 wa wn wc la lb.length lc ep un) (bkl ge (.slice ga 16 gc)) 2 vis).toArray] w fun e w' => ∃ ga' gc', e = .returned (.tuple #[.agg (sw3 r (ryl 4096 wa wn wc la lb.length lc ep un) (bkl ge (.slice ga' 16 gc')) 2 (vis + 1)).toArray, .int .i64 P, .bool true]) ∧ Ra w' r bb tb cb ct bs (pgT bs (hasP 256 (cov lb)) f (tgP bs.length f P)) ∧ Bs w.heap.size w' (.slice ga' 16 gc') 16 (upd F P false) ∧ Fr [tb] w w' := by
  have h : S3 (ryl 4096 wa wn wc la lb.length lc ep un) (bkl ge (.slice ga 16 gc)) := ryl_s3
  have CV := Lib.hid fun W (hW : Fr [] w W) => r19visit_yes W r bb tb cb ct bs f wa wn wc la lc ep un lb ge ga gc F vis (hR.fr0 hW) hN (own_fr0 ho hW) hg hd (own_fr0 hB hW) hgt P hP hF hv
  obtain ⟨bk, hbk⟩ : ∃ l, bkl ge (.slice ga 16 gc) = l := ⟨_, rfl⟩
  have CO := Lib.hid fun W (hW : Fr [] w W) => (show Calls Tryz.prog 84 #[.agg bk.toArray] W _ from by
    rw [← hbk]
    exact r18next_any W 0 ge _ 16 F (own_fr0 hB hW) (by omega))
  rw [hnb, hnp] at CO
  have HS' : Hid (∀ ga' gc', S3 (ryl 4096 wa wn wc la lb.length lc ep un) (bkl ge (.slice ga' 16 gc'))) := Lib.hid fun _ _ => ryl_s3
  obtain ⟨yc, hyc⟩ : ∃ l, ryl 4096 wa wn wc la lb.length lc ep un = l := ⟨_, rfl⟩
  have HTB := Lib.hid hR.lt.2.2
  rw [hbk, hyc] at h
  rw [hyc] at CV HS' ⊢
  rw [hbk] at CV ⊢
  obtain ⟨page, hpg⟩ : ∃ p : Int, (P : Int) = p := ⟨_, rfl⟩
  have HPG := Lib.hid hpg
  rw [hpg] at CO CV ⊢
  obtain ⟨st, hst⟩ : ∃ st, 2 = st := ⟨_, rfl⟩
  rw [show sw3 r yc bk 2 vis = sw3 r yc bk st vis from by rw [← hst]]
  have A1 := Lib.hid (At.old (At.new w 72 (sw3 r yc bk st vis).toArray) (.cells zsw.toArray 72))
  have Z1 := Lib.hid (show At ((w.alloc (.cells (sw3 r yc bk st vis).toArray 72)).alloc (.cells zsw.toArray 72)) (w.heap.size + 1) 72 zsw.toArray from At.nw (by simp only [World.size_alloc]))
  have F1 := Lib.hid (show Fr [] w ((w.alloc (.cells (sw3 r yc bk st vis).toArray 72)).alloc (.cells zsw.toArray 72)) from (by repeat (first | exact Fr.refl _ _ | assumption | refine Fr.trans0 ?_ (by assumption) | refine Fr.drewN ?_ _ | refine Fr.alloc ?_ _ | refine Fr.drew ?_)))
  obtain ⟨w1, hw1⟩ : ∃ W, (w.alloc (.cells (sw3 r yc bk st vis).toArray 72)).alloc (.cells zsw.toArray 72) = W := ⟨_, rfl⟩
  obtain ⟨q, hq⟩ : ∃ q, w.heap.size = q := ⟨_, rfl⟩
  have HW := Lib.hid hw1
  have HQ := Lib.hid hq
  rw [hw1] at A1 Z1 F1
  rw [hq] at A1 Z1
  unfold zsw at HW
  clear hw1 hq
  have H3 := Lib.hid h
  subst hst
  have HTQ := Lib.hid (show tb < q from by have := HTB.out; have := HQ.out; omega)
  clear hR hN ho hg hd hB hgt hyc hbk h hP hF hpg hnb hnp hv
  go_enter Tryz.func33, Tryz.ntmps33
  go_upto_region 1 with (fail)
  rw [HW.out, HQ.out]
  go_wp2_with (refine wpList_load_b H3.out (by rfl) (.tmp 10) rfl q rfl A1.out ?_)
  refine (CO.out _ F1.out).mono ?_
  rintro e w2 ⟨rfl, hf2⟩
  have A2 := Lib.hid (A1.out.fr hf2 (by simp))
  have Z2 := Lib.hid (Z1.out.fr hf2 (by simp))
  have F2 := Lib.hid (F1.out.trans0 hf2)
  have c8 := (A2.out.cell 8).trans (sw3_ast H3.out)
  clear hf2 CO
  go_upto_region 4 with (fail)
  clear c8
  go_wp2_with (refine wpList_load_sw H3.out (by rfl) (.tmp 1) rfl q rfl A2.out ?_)
  refine (CV.out _ F2.out).mono ?_
  rintro e w3 ⟨ga', gc', rfl, hr3, hb3, hf3⟩
  have R3 := Lib.hid hr3
  have B3 := Lib.hid (own_base hb3 F2.out.size)
  have A3 := Lib.hid (A2.out.fr hf3 (by have := HTQ.out; simp; omega))
  have Z3 := Lib.hid (Z2.out.fr hf3 (by have := HTQ.out; simp; omega))
  have F3 := Lib.hid ((F2.out.more (T := [tb]) (by simp)).trans hf3 (fun k hk => .inl hk))
  have H5 : Hid (S3 yc (bkl ge (.slice ga' 16 gc'))) := Lib.hid (HS'.out _ _)
  clear hr3 hb3 hf3 CV A2 Z2
  go_upto_region 5 with (refine wpList_store_sw H5.out rfl (.tmp 7) (.tmp 27) rfl _ rfl rfl zsw.toArray (At.nw rfl) rfl ?_; intro w4 h4 hf4)
  have ga4 : Fr [] w3 (w3.alloc (.cells zsw.toArray 72)) := (by repeat (first | exact Fr.refl _ _ | assumption | refine Fr.trans0 ?_ (by assumption) | refine Fr.drewN ?_ _ | refine Fr.alloc ?_ _ | refine Fr.drew ?_))
  have G4 := Lib.hid ((ga4.more (T := [w3.heap.size]) (by simp)).trans hf4 (fun k hk => .inl hk) |>.more (T := []) (by simp))
  have A4 := Lib.hid h4
  have Z4 := Lib.hid (Z3.out.fr G4.out (by simp))
  obtain ⟨q7, hq7⟩ : ∃ q, w3.heap.size = q := ⟨_, rfl⟩
  rw [hq7] at A4 ⊢
  clear ga4 hf4 h4 hq7
  go_wp2_with (first
    | (refine wpList_load_sw H5.out (by rfl) (.tmp 7) rfl q7 rfl A4.out ?_)
    | (refine wpList_store_sw H5.out rfl (.tmp 2) (.tmp 29) rfl (q + 1) rfl rfl _ Z4.out rfl ?_; intro w9 h9 hf9))
  have R4 := R3.out.fr0 G4.out
  have B4 := own_fr0 B3.out G4.out
  refine bodyPost_ret (res_row_tmp2 rfl _ _ (q + 1) 72 _ _ rfl h9 Tryz.underlying72 rfl (infoSw (sw3_len H5.out))) rfl ⟨ga', gc', rfl, ?_, ?_, ?_⟩
  · obtain ⟨ds, hds, -⟩ := R4.tags
    obtain ⟨cs, hcs, -⟩ := R4.bytes
    have e2 := R4.at_.diff Z4.out (by decide)
    have e4 := hds.diff Z4.out (by decide)
    have e6 := hcs.diff Z4.out (by decide)
    exact R4.fr hf9 (by simpa using e2) (by simpa using e6) (by simpa using e4)
  · exact own_apartT B4 hf9 (fun k hk => by simp only [List.mem_cons, List.not_mem_nil, or_false] at hk; subst hk; exact ⟨_, _, Z4.out, by decide⟩)
  · exact (F3.out.trans0 G4.out).trans hf9 (fun k hk => .inr (by simp at hk; have := HQ.out; omega))
end
end Go.Proofs.YthjbnbimfpbccaaGreatDoor
