/-
  CompartRight: a pair is called just if both are valid, sealed by one type, may be invoked, and one may be executed and the other one not; of several reasons the first one is told. No condition.
-/



import Derived.Test.YtdfefnajhnlpdaaWorks
import Derived.Test.YtdfefnajhnlpdaaFitsCap
import Derived.Deep.CutBlock
import Derived.Deep.DeepCutAuto
set_option linter.unusedVariables false
namespace Go.Proofs.Ytdfefnajhnlpdaa
open Go.ChangeShapes Go.WideShapes Go.ChangeAt Go.RowKit
namespace compartRight
theorem u16_zero (x m : Nat) (hx : x < 65536) (hm : m < 65536) : (bits .and .u16 (x : Int) (m : Int) == 0) = decide (x &&& m = 0) := by
  have := u16_and_nat x m hx hm
  rw [this, Bool.eq_iff_iff]
  simp
theorem and_128 (x y : Nat) : (x &&& y) &&& 128 = 0 ↔ (x &&& 128 = 0 ∨ y &&& 128 = 0) := by
  have key : ∀ z : Nat, z &&& 128 = 0 ↔ z.testBit 7 = false := fun z => by
    constructor
    · intro h
      have := congrArg (Nat.testBit · 7) h
      rw [Nat.testBit_and, show Nat.testBit 128 7 = true by decide, Bool.and_true, Nat.zero_testBit] at this
      exact this
    · intro h
      apply Nat.eq_of_testBit_eq
      intro i
      rw [Nat.testBit_and, show (128 : Nat) = 2 ^ 7 from rfl, Nat.testBit_two_pow, Nat.zero_testBit]
      by_cases hi : 7 = i
      · subst hi; simp [h]
      · simp [hi]
  rw [key, key, key, Nat.testBit_and]
  cases x.testBit 7 <;> cases y.testBit 7 <;> simp
theorem invoke_or (x y : Nat) (hx : x < 65536) (hy : y < 65536) : (bits .and .u16 (bits .and .u16 (x : Int) (y : Int)) 128 == 0) = ((bits .and .u16 (x : Int) 128 == 0) || (bits .and .u16 (y : Int) 128 == 0)) := by
  have h1 := u16_and_nat x y hx hy
  have hxy : x &&& y < 65536 := Nat.lt_of_le_of_lt Nat.and_le_left hx
  have e : (128 : Int) = ((128 : Nat) : Int) := rfl
  rw [h1, e, u16_zero _ 128 hxy (by omega), u16_zero _ 128 hx (by omega), u16_zero _ 128 hy (by omega), Bool.eq_iff_iff]
  simp [and_128]
theorem wp_store_all {P : Program} {K : Act → World → Prop} {Q : Exit → Act → World → Prop} {o : Oper} {a : Act} {w : World} (ty : TypeId) (x y : Operand) (ho : o.op = .store ty x y) (g : Nat) (cs : Array Value) (hx : a.eval x = .pointer (some ⟨g, 0, none⟩)) (hy : a.eval y = .agg cs)
    (t : TypeId) (cur : Array Value) (hg : At w g t cur) (hi : (P.info? ty).map (·.size) = some cs.size) (hk : cur.size = cs.size) (h1 : cs.all (·.oneCell') = true)
    (h : ∀ w', At w' g t cs → Fr [g] w w' → K (a.put o.dst undef) w') : o.wp P a w K Q :=
  wp_store_row ty x y ho g cs hx hy t cur hg hi hk h1 (h _ (setRow_heap w g _ _ t (0, 0) hg) (Fr.setRow w g _))
/-- What a call of the law's frame gives. -/
theorem call_both (a b : Cp) : ∃ (G L : List Cp), G.length = 17 ∧ (∀ (W : World) (sp : Nat), St W sp (.slice none 0 0) [] → Calls Try.prog 10 #[.pointer (some ⟨sp, 0, none⟩), .agg (cat frL).toArray, .agg a.cells, .agg b.cells] W fun r w' => ∃ v', r = .returned (.tuple #[.agg (cat G).toArray, .int .i64 (trapI a b)]) ∧ St w' sp v' L ∧ Fr [sp] W w') ∧
    ((trapI a b = 0 ∧ G = gF frL a.opened b.opened ∧ L.length = 3) ∨ (trapI a b ≠ 0 ∧ G = zf ∧ L = [])) := by
  by_cases ht : trapI a b = 0
  · obtain ⟨p16, p14, p15, pi⟩ := frL_at
    refine ⟨gF frL a.opened b.opened, [(madeC 0 4 0).addr (((madeC 0 4 0).cur + 4) % 4294967296), madeC 2048 1 0, madeC 2112 1 0], gF_len _ _ _, fun W sp h => ?_, .inl ⟨ht, rfl, rfl⟩⟩
    rw [ht]
    refine (scall_ok W sp _ [] h (by simp) frL frL_len _ _ _ p16 p14 p15 (by show 0 < 4294967296; omega) a b ht).mono ?_
    rintro e w' ⟨v', h1, h2, h3, h4⟩
    exact ⟨v', h1, h2, h3⟩
  · refine ⟨zf, [], zf_len, fun W sp h => ?_, .inr ⟨ht, rfl, rfl⟩⟩
    refine (scall_bad W sp frL a b ht).mono ?_
    rintro e w' ⟨h1, h2⟩
    exact ⟨_, h1, h.fr0 h2, h2.more (by simp)⟩
theorem sdepth_cell {w : World} {sp n c : Nat} {a : Option Addr} (h : w.cell? ⟨sp, 0, none⟩ = some (.slice a n c)) (hn : n ≤ 9223372036854775807) : Calls Try.prog 12 #[.pointer (some ⟨sp, 0, none⟩)] w fun r w' => r = .returned (.int .i64 (n / 3 : Nat)) ∧ w = w' := by
  go_enter Try.func12, Try.ntmps12
  go_wp2_with fail
  go_ret
  exact ⟨by simp, rfl⟩
theorem wpAnyL_named {P : Program} {ops : Array Oper} {Q : Exit → Act → World → Prop} {md : Region.Mode} {S : World → Prop} {Z : List Nat} {fuel : Nat} {listed : Array Bool} {a : Act} {w : World} (h : ∀ X, X = w → wpAnyL P md ops Q S Z fuel listed a X) : wpAnyL P md ops Q S Z fuel listed a w := h w rfl
-- the end of the region: block $1 holds zeros in world $2, stack fact $3 (St, value $4), frames $5
set_option maxHeartbeats 4000000 in
set_option maxRecDepth 100000 in
theorem walk_c (a b : Cp) (hoa : a.Ok) (hob : b.Ok) (w : World) :
    Calls Try.prog 3 #[.agg a.cells, .agg b.cells] w fun e w' => e = .returned (.bool true) ∧ Fr [] w w' := by
  obtain ⟨G, L, hGL, hCC, hcase⟩ := call_both a b
  have HGL := Lib.hid hGL
  have HCC := Lib.hid hCC
  have HCASE := Lib.hid hcase
  obtain ⟨tr, htr⟩ : ∃ t, trapI a b = t := ⟨_, rfl⟩
  have HTR := Lib.hid htr
  rw [htr] at HCC HCASE
  have hz := fun w => zeroFrame w
  have hb := fun w => builtFrame w
  have ZI := Lib.hid (frInfo zf_len)
  have ZA := Lib.hid (cat_all zf)
  obtain ⟨Z, hZ⟩ : ∃ Z, (cat zf).toArray = Z := ⟨_, rfl⟩
  rw [hZ] at hz hb ZI ZA
  have HZ := Lib.hid hZ
  clear hZ
  have HI := Lib.hid (invoke_or a.pm b.pm hoa.pm hob.pm)
  have CAP : ∀ (a b : Cp) (w : World), (Op.equalIn 10000 25 (.agg a.cells) (.agg b.cells)).run Try.prog w = .ok (eqC a b) w := cap_eq
  have CSE : ∀ a, eqC a a = true := eqC_self
  have A0 := Lib.hid ((At.new w 25 a.cells).old (.cells b.cells 25))
  have B0 := Lib.hid (At.newq (w := w.alloc (.cells a.cells 25)) (g := w.heap.size + 1) (t := 25) (cs := b.cells) (by simp only [World.size_alloc]))
  have F0 := Lib.hid (show Fr [] w ((w.alloc (.cells a.cells 25)).alloc (.cells b.cells 25)) from (by repeat (first | exact Fr.refl _ _ | assumption | refine Fr.trans0 ?_ (by assumption) | refine Fr.drewN ?_ _ | refine Fr.alloc ?_ _ | refine Fr.drew ?_)))
  clear hGL hCC hcase htr
  go_enter Try.func3, Try.ntmps3
  go_wp2_with fail
  refine (works_any _).mono ?_
  rintro e w1 ⟨rfl, hf1⟩
  go_wp2_with fail
  refine (snew_any _).mono ?_
  rintro e w2 ⟨sp, rfl, hs2, hsp, hf2⟩
  have S2 := Lib.hid hs2
  have A2 := Lib.hid ((A0.out.fr hf1 (by simp)).fr hf2 (by simp))
  have B2 := Lib.hid ((B0.out.fr hf1 (by simp)).fr hf2 (by simp))
  have F2 := Lib.hid ((F0.out.trans0 hf1).trans0 hf2)
  have hsz : w.heap.size + 1 + 1 ≤ sp := by have := hf1.size; simp only [World.size_alloc] at this; omega
  clear hs2 hf1 hf2 A0 B0 F0
  go_upto_region 4 with (fail)
  go_cut [6, 7] (fun s6 s7 wx => ∃ (B : Nat) (v : Value), s6 = .pointer (some ⟨B, 0, none⟩) ∧ s7 = .int .i64 tr ∧ At wx B 31 (cat G).toArray ∧ St wx sp v L ∧ At wx w.heap.size 25 a.cells ∧ At wx (w.heap.size + 1) 25 b.cells ∧ Fr [] w wx ∧ w.heap.size + 1 + 1 ≤ B)
  case first =>
    refine wp_region_L (fun W => At W w.heap.size 25 a.cells ∧ At W (w.heap.size + 1) 25 b.cells) [] (by kernel_rfl) ⟨A2.out, B2.out⟩ (fun hHeld => ?_)
    refine wpAnyL_take (i := 0) (v := ?_) rfl (by kernel_rfl) (fun _ _ _ h => h) (Or.inl ⟨by rfl, ?_⟩) (by assumption) ?_; rotate_left; (focus (intro w hSw; skip; go_simp; (try with_reducible rfl))); (try (refine wpAnyL_norm (by simp only [Act.put, List.setIfInBounds_toArray, List.set_cons_zero, List.set_cons_succ]; rfl) ?_))
    refine wpAnyL_take (i := 2) rfl (by kernel_rfl) (fun _ _ _ h => h) (yields_load_cp (.tmp 2) rfl w.heap.size rfl 25 a (fun W h => h.1) rfl) (by assumption) ?_; (try (refine wpAnyL_norm (by simp only [Act.put, List.setIfInBounds_toArray, List.set_cons_zero, List.set_cons_succ]; rfl) ?_))
    refine wpAnyL_take (i := 3) rfl (by kernel_rfl) (fun _ _ _ h => h) (yields_load_cp (.tmp 3) rfl (w.heap.size + 1) rfl 25 b (fun W h => h.2) rfl) (by assumption) ?_; (try (refine wpAnyL_norm (by simp only [Act.put, List.setIfInBounds_toArray, List.set_cons_zero, List.set_cons_succ]; rfl) ?_))
    refine wpAnyL_ready (rs := [1, 8]) (by kernel_rfl) (by simp) ?_
    refine AllReadyL.cons rfl (fun K hK => ?_) (AllReadyL.cons rfl (fun K hK => ?_) AllReadyL.nil)
    · go_simp
      refine (lframe_any _).mono ?_
      rintro e w3 ⟨rfl, hf3⟩
      refine hK.out _ _ (fun _ => ⟨hHeld.1.fr hf3 (by simp), hHeld.2.fr hf3 (by simp)⟩) (fun hHeld' => ?_); have hHeld := hHeld' (by decide); clear hHeld' hK K; (try (refine wpAnyL_norm (by simp only [Act.put, List.setIfInBounds_toArray, List.set_cons_zero, List.set_cons_succ]; rfl) ?_))
      have hf3' : Fr [] w2 w3 := hf3.hd rfl rfl rfl rfl
      refine wpAnyL_ready (rs := [4, 8]) (by kernel_rfl) (by simp) ?_
      refine AllReadyL.cons rfl (fun K hK => ?_) (AllReadyL.cons rfl (fun K hK => ?_) AllReadyL.nil)
      · go_simp
        refine (HCC.out _ sp (S2.out.fr0 hf3')).mono ?_
        rintro e w4 ⟨v4, rfl, hs4, hf4⟩
        refine hK.out _ _ (fun _ => ⟨hHeld.1.fr hf4 (by simp <;> omega), hHeld.2.fr hf4 (by simp <;> omega)⟩) (fun hHeld' => ?_); have hHeld := hHeld' (by decide); clear hHeld' hK K; (try (refine wpAnyL_norm (by simp only [Act.put, List.setIfInBounds_toArray, List.set_cons_zero, List.set_cons_succ]; rfl) ?_))
        have F4 := Lib.hid ((F2.out.trans0 hf3').trans hf4 (by simp <;> omega))
        have hs4w := F4.out.size
        refine wpAnyL_take (i := 5) (v := ?_) rfl (by kernel_rfl) (fun _ _ _ h => h) (Or.inl ⟨by rfl, ?_⟩) (by assumption) ?_; rotate_left; (focus (intro w hSw; skip; go_simp; (try with_reducible rfl))); (try (refine wpAnyL_norm (by simp only [Act.put, List.setIfInBounds_toArray, List.set_cons_zero, List.set_cons_succ]; rfl) ?_))
        refine wpAnyL_take (i := 6) (v := ?_) rfl (by kernel_rfl) (fun _ _ _ h => h) (Or.inl ⟨by rfl, ?_⟩) (by assumption) ?_; rotate_left; (focus (intro w hSw; skip; go_simp; (try with_reducible rfl))); (try (refine wpAnyL_norm (by simp only [Act.put, List.setIfInBounds_toArray, List.set_cons_zero, List.set_cons_succ]; rfl) ?_))
        refine wpAnyL_take (i := 7) (v := ?_) rfl (by kernel_rfl) (fun _ _ _ h => h) (Or.inl ⟨by rfl, ?_⟩) (by assumption) ?_; rotate_left; (focus (intro w hSw; skip; go_simp; (try with_reducible rfl))); (try (refine wpAnyL_norm (by simp only [Act.put, List.setIfInBounds_toArray, List.set_cons_zero, List.set_cons_succ]; rfl) ?_))
        refine wpAnyL_ready (rs := [8]) (by kernel_rfl) (by simp) ?_; refine AllReadyL.cons rfl (fun K hK => ?_) AllReadyL.nil
        go_simp
        have hfa : Fr [] w4 (w4.alloc (.cells Z 31)) := (by repeat (first | exact Fr.refl _ _ | assumption | refine Fr.trans0 ?_ (by assumption) | refine Fr.drewN ?_ _ | refine Fr.alloc ?_ _ | refine Fr.drew ?_))
        refine hK.out _ _ (fun _ => ⟨hHeld.1.fr hfa (by simp), hHeld.2.fr hfa (by simp)⟩) (fun hHeld' => ?_); have hHeld := hHeld' (by decide); clear hHeld' hK K; (try (refine wpAnyL_norm (by simp only [Act.put, List.setIfInBounds_toArray, List.set_cons_zero, List.set_cons_succ]; rfl) ?_))
        have hl4 := hs4.1.lt
        have hb1 := hHeld.2.lt
        refine wpAnyL_ready (rs := [9]) (by kernel_rfl) (by simp) ?_; refine AllReadyL.cons rfl (fun K hK => ?_) AllReadyL.nil
        rw [if_pos (by rfl)]
        refine wp_store_all 31 (.tmp 6) (.tmp 20) rfl _ (cat G).toArray rfl rfl 31 Z (At.newq rfl) (frInfo HGL.out) (show Z.size = _ by rw [← HZ.out, cat_size zf_len, cat_size HGL.out]) (cat_all _) ?_
        intro w9 hA9 hF9
        refine hK.out _ _ (fun _ => ⟨hHeld.1.fr hF9 (by simp <;> omega), hHeld.2.fr hF9 (by simp <;> omega)⟩) (fun hHeld' => ?_); have hHeld := hHeld' (by decide); clear hHeld' hK K; (try (refine wpAnyL_norm (by simp only [Act.put, List.setIfInBounds_toArray, List.set_cons_zero, List.set_cons_succ]; rfl) ?_))
        refine wpAnyL_take (i := 10) (v := ?_) rfl (by kernel_rfl) (fun _ _ _ h => h) (Or.inl ⟨by rfl, ?_⟩) (by assumption) ?_; rotate_left; (focus (intro w hSw; skip; go_simp; (try with_reducible rfl))); (try (refine wpAnyL_norm (by simp only [Act.put, List.setIfInBounds_toArray, List.set_cons_zero, List.set_cons_succ]; rfl) ?_))
        refine wpAnyL_done (by kernel_rfl) ?_ _
        go_wp2_with fail
        go_meet
        exact ⟨_, _, rfl, rfl, hA9, ((hs4.fr0 hfa)).fr hF9 (by simp <;> omega) ((fun g hg => by have := (hs4.2.lt g hg).2; simp <;> omega)), hHeld.1, hHeld.2, ((F4.out.trans0 hfa)).trans hF9 (by simp <;> omega), by omega⟩
      · go_simp
        have hfa : Fr [] w3 (w3.alloc (.cells Z 31)) := (by repeat (first | exact Fr.refl _ _ | assumption | refine Fr.trans0 ?_ (by assumption) | refine Fr.drewN ?_ _ | refine Fr.alloc ?_ _ | refine Fr.drew ?_))
        have hZ3 := At.new w3 31 Z
        refine hK.out _ _ (fun _ => ⟨hHeld.1.fr hfa (by simp), hHeld.2.fr hfa (by simp)⟩) (fun hHeld' => ?_); have hHeld := hHeld' (by decide); clear hHeld' hK K; (try (refine wpAnyL_norm (by simp only [Act.put, List.setIfInBounds_toArray, List.set_cons_zero, List.set_cons_succ]; rfl) ?_))
        refine wpAnyL_ready (rs := [4]) (by kernel_rfl) (by simp) ?_; refine AllReadyL.cons rfl (fun K hK => ?_) AllReadyL.nil
        go_simp
        have hs3 := S2.out.fr0 (hf3'.trans0 hfa)
        have hl3 := hs3.1.lt
        have hl2 := S2.out.1.lt
        have hw3 := hf3'.size
        refine (HCC.out _ sp hs3).mono ?_
        rintro e w4 ⟨v4, rfl, hs4, hf4⟩
        refine hK.out _ _ (fun _ => ⟨hHeld.1.fr hf4 (by simp <;> omega), hHeld.2.fr hf4 (by simp <;> omega)⟩) (fun hHeld' => ?_); have hHeld := hHeld' (by decide); clear hHeld' hK K; (try (refine wpAnyL_norm (by simp only [Act.put, List.setIfInBounds_toArray, List.set_cons_zero, List.set_cons_succ]; rfl) ?_))
        have F4 := Lib.hid ((F2.out.trans0 (hf3'.trans0 hfa)).trans hf4 (by simp <;> omega))
        have hZ4 := hZ3.fr hf4 (by simp <;> omega)
        refine wpAnyL_take (i := 5) (v := ?_) rfl (by kernel_rfl) (fun _ _ _ h => h) (Or.inl ⟨by rfl, ?_⟩) (by assumption) ?_; rotate_left; (focus (intro w hSw; skip; go_simp; (try with_reducible rfl))); (try (refine wpAnyL_norm (by simp only [Act.put, List.setIfInBounds_toArray, List.set_cons_zero, List.set_cons_succ]; rfl) ?_))
        refine wpAnyL_take (i := 6) (v := ?_) rfl (by kernel_rfl) (fun _ _ _ h => h) (Or.inl ⟨by rfl, ?_⟩) (by assumption) ?_; rotate_left; (focus (intro w hSw; skip; go_simp; (try with_reducible rfl))); (try (refine wpAnyL_norm (by simp only [Act.put, List.setIfInBounds_toArray, List.set_cons_zero, List.set_cons_succ]; rfl) ?_))
        refine wpAnyL_take (i := 7) (v := ?_) rfl (by kernel_rfl) (fun _ _ _ h => h) (Or.inl ⟨by rfl, ?_⟩) (by assumption) ?_; rotate_left; (focus (intro w hSw; skip; go_simp; (try with_reducible rfl))); (try (refine wpAnyL_norm (by simp only [Act.put, List.setIfInBounds_toArray, List.set_cons_zero, List.set_cons_succ]; rfl) ?_))
        have hb1 := hHeld.2.lt
        have hfw := F2.out.size
        refine wpAnyL_ready (rs := [9]) (by kernel_rfl) (by simp) ?_; refine AllReadyL.cons rfl (fun K hK => ?_) AllReadyL.nil
        rw [if_pos (by rfl)]
        refine wp_store_all 31 (.tmp 6) (.tmp 20) rfl _ (cat G).toArray rfl rfl 31 Z hZ4 (frInfo HGL.out) (show Z.size = _ by rw [← HZ.out, cat_size zf_len, cat_size HGL.out]) (cat_all _) ?_
        intro w9 hA9 hF9
        refine hK.out _ _ (fun _ => ⟨hHeld.1.fr hF9 (by simp <;> omega), hHeld.2.fr hF9 (by simp <;> omega)⟩) (fun hHeld' => ?_); have hHeld := hHeld' (by decide); clear hHeld' hK K; (try (refine wpAnyL_norm (by simp only [Act.put, List.setIfInBounds_toArray, List.set_cons_zero, List.set_cons_succ]; rfl) ?_))
        refine wpAnyL_take (i := 10) (v := ?_) rfl (by kernel_rfl) (fun _ _ _ h => h) (Or.inl ⟨by rfl, ?_⟩) (by assumption) ?_; rotate_left; (focus (intro w hSw; skip; go_simp; (try with_reducible rfl))); (try (refine wpAnyL_norm (by simp only [Act.put, List.setIfInBounds_toArray, List.set_cons_zero, List.set_cons_succ]; rfl) ?_))
        refine wpAnyL_done (by kernel_rfl) ?_ _
        go_wp2_with fail
        go_meet
        exact ⟨_, _, rfl, rfl, hA9, (hs4).fr hF9 (by simp <;> omega) ((fun g hg => by simpa using own_ne hs4.2 hZ4 (by decide) g hg)), hHeld.1, hHeld.2, (F4.out).trans hF9 (by simp <;> omega), by omega⟩
    · go_simp
      have hfa : Fr [] w2.drew (w2.drew.alloc (.cells Z 31)) := (by repeat (first | exact Fr.refl _ _ | assumption | refine Fr.trans0 ?_ (by assumption) | refine Fr.drewN ?_ _ | refine Fr.alloc ?_ _ | refine Fr.drew ?_))
      have hfa' : Fr [] w2 (w2.drew.alloc (.cells Z 31)) := hfa.hd rfl rfl rfl rfl
      have hZ2 := At.new w2.drew 31 Z
      refine hK.out _ _ (fun _ => ⟨hHeld.1.fr hfa (by simp), hHeld.2.fr hfa (by simp)⟩) (fun hHeld' => ?_); have hHeld := hHeld' (by decide); clear hHeld' hK K; (try (refine wpAnyL_norm (by simp only [Act.put, List.setIfInBounds_toArray, List.set_cons_zero, List.set_cons_succ]; rfl) ?_))
      refine wpAnyL_ready (rs := [1]) (by kernel_rfl) (by simp) ?_; refine AllReadyL.cons rfl (fun K hK => ?_) AllReadyL.nil
      go_simp
      refine (lframe_any _).mono ?_
      rintro e w3 ⟨rfl, hf3⟩
      refine hK.out _ _ (fun _ => ⟨hHeld.1.fr hf3 (by simp), hHeld.2.fr hf3 (by simp)⟩) (fun hHeld' => ?_); have hHeld := hHeld' (by decide); clear hHeld' hK K; (try (refine wpAnyL_norm (by simp only [Act.put, List.setIfInBounds_toArray, List.set_cons_zero, List.set_cons_succ]; rfl) ?_))
      refine wpAnyL_ready (rs := [4]) (by kernel_rfl) (by simp) ?_; refine AllReadyL.cons rfl (fun K hK => ?_) AllReadyL.nil
      go_simp
      have hl2 := S2.out.1.lt
      have hZ3 := hZ2.fr hf3 (by simp)
      have hq2 : w2.drew.heap.size = w2.heap.size := rfl
      refine (HCC.out _ sp (S2.out.fr0 (hfa'.trans0 hf3))).mono ?_
      rintro e w4 ⟨v4, rfl, hs4, hf4⟩
      refine hK.out _ _ (fun _ => ⟨hHeld.1.fr hf4 (by simp <;> omega), hHeld.2.fr hf4 (by simp <;> omega)⟩) (fun hHeld' => ?_); have hHeld := hHeld' (by decide); clear hHeld' hK K; (try (refine wpAnyL_norm (by simp only [Act.put, List.setIfInBounds_toArray, List.set_cons_zero, List.set_cons_succ]; rfl) ?_))
      have F4 := Lib.hid ((F2.out.trans0 (hfa'.trans0 hf3)).trans hf4 (by simp <;> omega))
      have hZ4 := hZ3.fr hf4 (by simp <;> omega)
      refine wpAnyL_take (i := 5) (v := ?_) rfl (by kernel_rfl) (fun _ _ _ h => h) (Or.inl ⟨by rfl, ?_⟩) (by assumption) ?_; rotate_left; (focus (intro w hSw; skip; go_simp; (try with_reducible rfl))); (try (refine wpAnyL_norm (by simp only [Act.put, List.setIfInBounds_toArray, List.set_cons_zero, List.set_cons_succ]; rfl) ?_))
      refine wpAnyL_take (i := 6) (v := ?_) rfl (by kernel_rfl) (fun _ _ _ h => h) (Or.inl ⟨by rfl, ?_⟩) (by assumption) ?_; rotate_left; (focus (intro w hSw; skip; go_simp; (try with_reducible rfl))); (try (refine wpAnyL_norm (by simp only [Act.put, List.setIfInBounds_toArray, List.set_cons_zero, List.set_cons_succ]; rfl) ?_))
      refine wpAnyL_take (i := 7) (v := ?_) rfl (by kernel_rfl) (fun _ _ _ h => h) (Or.inl ⟨by rfl, ?_⟩) (by assumption) ?_; rotate_left; (focus (intro w hSw; skip; go_simp; (try with_reducible rfl))); (try (refine wpAnyL_norm (by simp only [Act.put, List.setIfInBounds_toArray, List.set_cons_zero, List.set_cons_succ]; rfl) ?_))
      have hb1 := hHeld.2.lt
      have hfw := F2.out.size
      refine wpAnyL_ready (rs := [9]) (by kernel_rfl) (by simp) ?_; refine AllReadyL.cons rfl (fun K hK => ?_) AllReadyL.nil
      rw [if_pos (by rfl)]
      refine wp_store_all 31 (.tmp 6) (.tmp 20) rfl _ (cat G).toArray rfl rfl 31 Z hZ4 (frInfo HGL.out) (show Z.size = _ by rw [← HZ.out, cat_size zf_len, cat_size HGL.out]) (cat_all _) ?_
      intro w9 hA9 hF9
      refine hK.out _ _ (fun _ => ⟨hHeld.1.fr hF9 (by simp <;> omega), hHeld.2.fr hF9 (by simp <;> omega)⟩) (fun hHeld' => ?_); have hHeld := hHeld' (by decide); clear hHeld' hK K; (try (refine wpAnyL_norm (by simp only [Act.put, List.setIfInBounds_toArray, List.set_cons_zero, List.set_cons_succ]; rfl) ?_))
      refine wpAnyL_take (i := 10) (v := ?_) rfl (by kernel_rfl) (fun _ _ _ h => h) (Or.inl ⟨by rfl, ?_⟩) (by assumption) ?_; rotate_left; (focus (intro w hSw; skip; go_simp; (try with_reducible rfl))); (try (refine wpAnyL_norm (by simp only [Act.put, List.setIfInBounds_toArray, List.set_cons_zero, List.set_cons_succ]; rfl) ?_))
      refine wpAnyL_done (by kernel_rfl) ?_ _
      go_wp2_with fail
      go_meet
      exact ⟨_, _, rfl, rfl, hA9, (hs4).fr hF9 (by simp <;> omega) ((fun g hg => by simpa using own_ne hs4.2 hZ4 (by decide) g hg)), hHeld.1, hHeld.2, (F4.out).trans hF9 (by simp <;> omega), by omega⟩
  case rest =>
    obtain ⟨B, v, rfl, rfl, hA, hS, hA1, hB1, hF, hB⟩ := hcut
    rename World => Y
    have RA := Lib.hid hA
    have RS := Lib.hid hS
    have R1 := Lib.hid hA1
    have R2 := Lib.hid hB1
    have RF := Lib.hid hF
    unfold Cp.cells at hA1 hB1
    have k_0 := hA1.cell 0
    have k_1 := hA1.cell 1
    have k_2 := hA1.cell 2
    have k_3 := hA1.cell 3
    have k_4 := hA1.cell 4
    have k_5 := hA1.cell 5
    have k_6 := hA1.cell 6
    have k_7 := hA1.cell 7
    simp only [List.getElem?_toArray, List.getElem?_cons_zero, List.getElem?_cons_succ] at k_0 k_1 k_2 k_3 k_4 k_5 k_6 k_7
    have j_0 := hB1.cell 0
    have j_1 := hB1.cell 1
    have j_2 := hB1.cell 2
    have j_3 := hB1.cell 3
    have j_4 := hB1.cell 4
    have j_5 := hB1.cell 5
    have j_6 := hB1.cell 6
    have j_7 := hB1.cell 7
    simp only [List.getElem?_toArray, List.getElem?_cons_zero, List.getElem?_cons_succ] at j_0 j_1 j_2 j_3 j_4 j_5 j_6 j_7
    clear S2 A2 B2 F2 hA hS hA1 hB1 hF
    go_upto_block 0 with (fail)
    go_cut [8] (fun s8 wx => s8 = .int .i64 tr ∧ wx = Y)
    case first =>
      go_wp2_with fail
      all_goals
        go_meet
        have htr := HTR.out
        unfold trapI at htr
        rw [HI.out] at htr
        clear HTR HI
        first | (refine ⟨?_, rfl⟩; congr 1; rw [← htr]; simp_all [trapB]; done) | (rename_i m8 m7 m6 m5 m4 m3 m2 m1 m0; refine ⟨?_, rfl⟩; congr 1; rw [← htr, m8, show b.v = true from by simpa using m7, m5.1, m5.2, m4, m0.1.1.1, m0.1.1.2, m0.1.2, show (bits .and .u16 (b.pm : Int) 4 == 0) = true from by simpa using m0.2]; rfl)
    case rest =>
      obtain ⟨rfl, rfl⟩ := hcut
      have hii : ∀ i : Int, (i != i) = false := fun i => by simp
      have hie : ∀ i : Int, (i == i) = true := fun i => by simp
      rcases HCASE.out with ⟨ht, hG, hL⟩ | ⟨ht, hG, hL⟩
      · subst ht
        rw [hG] at RA
        have HLL := Lib.hid hL
        have g16 : (gF frL a.opened b.opened)[16]? = some a.opened := by rw [gF_at _ _ _ 16 (by omega)]; rfl
        have g15 : (gF frL a.opened b.opened)[15]? = some b.opened := by rw [gF_at _ _ _ 15 (by omega)]; rfl
        clear hG hL
        go_upto_region 16 with (fail)
        go_cut [9, 10] (fun s9 s10 wx => ∃ P D : Nat, s9 = .pointer (some ⟨P, 0, none⟩) ∧ s10 = .pointer (some ⟨D, 0, none⟩) ∧ P ≠ D ∧ At wx P 25 a.opened.cells ∧ At wx D 25 b.opened.cells ∧ At wx B 31 (cat (gF frL a.opened b.opened)).toArray ∧ St wx sp v L ∧ At wx w.heap.size 25 a.cells ∧ At wx (w.heap.size + 1) 25 b.cells ∧ Fr [] w wx ∧ w.heap.size + 1 + 1 ≤ P ∧ w.heap.size + 1 + 1 ≤ D)
        case first =>
          rename World => Y
          refine wp_region_L (fun W => At W B 31 (cat (gF frL a.opened b.opened)).toArray) [] (by kernel_rfl) RA.out (fun hHeld => ?_)
          refine wpAnyL_take (i := 0) (v := ?_) rfl (by kernel_rfl) (fun _ _ _ h => h) (Or.inl ⟨by rfl, ?_⟩) (by assumption) ?_; rotate_left; (focus (intro w hSw; skip; go_simp; (try with_reducible rfl))); (try (refine wpAnyL_norm (by simp only [Act.put, List.setIfInBounds_toArray, List.set_cons_zero, List.set_cons_succ]; rfl) ?_))
          refine wpAnyL_take (i := 1) rfl (by kernel_rfl) (fun _ _ _ h => h) (yields_load_cap (.tmp 89) rfl B 128 rfl 31 _ (fun W h => h) 16 rfl a.opened g16 rfl) (by assumption) ?_; (try (refine wpAnyL_norm (by simp only [Act.put, List.setIfInBounds_toArray, List.set_cons_zero, List.set_cons_succ]; rfl) ?_))
          refine wpAnyL_take (i := 2) (v := ?_) rfl (by kernel_rfl) (fun _ _ _ h => h) (Or.inl ⟨by rfl, ?_⟩) (by assumption) ?_; rotate_left; (focus (intro w hSw; skip; go_simp; (try with_reducible rfl))); (try (refine wpAnyL_norm (by simp only [Act.put, List.setIfInBounds_toArray, List.set_cons_zero, List.set_cons_succ]; rfl) ?_))
          refine wpAnyL_take (i := 3) (v := ?_) rfl (by kernel_rfl) (fun _ _ _ h => h) (Or.inl ⟨by rfl, ?_⟩) (by assumption) ?_; rotate_left; (focus (intro w hSw; skip; go_simp; (try with_reducible rfl))); (try (refine wpAnyL_norm (by simp only [Act.put, List.setIfInBounds_toArray, List.set_cons_zero, List.set_cons_succ]; rfl) ?_))
          refine wpAnyL_take (i := 4) rfl (by kernel_rfl) (fun _ _ _ h => h) (yields_load_cap (.tmp 92) rfl B 120 rfl 31 _ (fun W h => h) 15 rfl b.opened g15 rfl) (by assumption) ?_; (try (refine wpAnyL_norm (by simp only [Act.put, List.setIfInBounds_toArray, List.set_cons_zero, List.set_cons_succ]; rfl) ?_))
          refine wpAnyL_ready (rs := [5, 6]) (by kernel_rfl) (by simp) ?_
          refine AllReadyL.cons rfl (fun K hK => ?_) (AllReadyL.cons rfl (fun K hK => ?_) AllReadyL.nil)
          · go_simp
            refine hK.out _ _ (fun _ => RA.out.fr (S := []) (by repeat (first | exact Fr.refl _ _ | assumption | refine Fr.trans0 ?_ (by assumption) | refine Fr.drewN ?_ _ | refine Fr.alloc ?_ _ | refine Fr.drew ?_)) (by simp)) (fun hHeld' => ?_); have hHeld := hHeld' (by decide); clear hHeld' hK K; (try (refine wpAnyL_norm (by simp only [Act.put, List.setIfInBounds_toArray, List.set_cons_zero, List.set_cons_succ]; rfl) ?_))
            refine wpAnyL_named ?_
            intro X1 hX1
            have N1 : At X1 Y.heap.size 25 noC.cells := by rw [hX1]; first | exact At.new _ _ _ | exact (At.new _ _ _).drewN 1
            have G1 : Fr [] Y X1 := by rw [hX1]; exact (by repeat (first | exact Fr.refl _ _ | assumption | refine Fr.trans0 ?_ (by assumption) | refine Fr.drewN ?_ _ | refine Fr.alloc ?_ _ | refine Fr.drew ?_))
            have s1 : X1.heap.size = Y.heap.size + 1 := by rw [hX1]; simp
            clear hX1
            refine wpAnyL_ready (rs := [6]) (by kernel_rfl) (by simp) ?_; refine AllReadyL.cons rfl (fun K hK => ?_) AllReadyL.nil
            go_simp
            refine hK.out _ _ (fun _ => RA.out.fr (S := []) (by repeat (first | exact Fr.refl _ _ | assumption | refine Fr.trans0 ?_ (by assumption) | refine Fr.drewN ?_ _ | refine Fr.alloc ?_ _ | refine Fr.drew ?_)) (by simp)) (fun hHeld' => ?_); have hHeld := hHeld' (by decide); clear hHeld' hK K; (try (refine wpAnyL_norm (by simp only [Act.put, List.setIfInBounds_toArray, List.set_cons_zero, List.set_cons_succ]; rfl) ?_))
            refine wpAnyL_named ?_
            intro X2 hX2
            have N2 : At X2 X1.heap.size 25 noC.cells := by rw [hX2]; first | exact At.new _ _ _ | exact (At.new _ _ _).drewN 1
            have G2 : Fr [] X1 X2 := by rw [hX2]; exact (by repeat (first | exact Fr.refl _ _ | assumption | refine Fr.trans0 ?_ (by assumption) | refine Fr.drewN ?_ _ | refine Fr.alloc ?_ _ | refine Fr.drew ?_))
            rw [← hX2] at hHeld
            rw [s1] at N2
            clear hX2
            have G12 : Fr [] Y X2 := G1.trans0 G2
            have hs0 := RF.out.size
            have hBl := RA.out.lt
            have hspl := RS.out.1.lt
            have h1l := R1.out.lt
            have h2l := R2.out.lt
            refine wpAnyL_ready (rs := [7]) (by kernel_rfl) (by simp) ?_; refine AllReadyL.cons rfl (fun K hK => ?_) AllReadyL.nil
            rw [if_pos (by rfl)]
            refine wp_store_all 25 (.tmp 9) (.tmp 90) rfl _ a.opened.cells rfl rfl 25 noC.cells (N1.fr G2 (by simp)) infoCapS rfl (cell_all _) ?_
            intro w7 hA7 hF7
            refine hK.out _ _ (fun _ => hHeld.fr hF7 (by simp <;> omega)) (fun hHeld' => ?_); have hHeld := hHeld' (by decide); clear hHeld' hK K; (try (refine wpAnyL_norm (by simp only [Act.put, List.setIfInBounds_toArray, List.set_cons_zero, List.set_cons_succ]; rfl) ?_))
            refine wpAnyL_ready (rs := [8]) (by kernel_rfl) (by simp) ?_; refine AllReadyL.cons rfl (fun K hK => ?_) AllReadyL.nil
            rw [if_pos (by rfl)]
            refine wp_store_all 25 (.tmp 10) (.tmp 93) rfl _ b.opened.cells rfl rfl 25 noC.cells (At.fr N2 hF7 (by simp)) infoCapS rfl (cell_all _) ?_
            intro w8 hA8 hF8
            refine hK.out _ _ (fun _ => hHeld.fr hF8 (by simp <;> omega)) (fun hHeld' => ?_); have hHeld := hHeld' (by decide); clear hHeld' hK K; (try (refine wpAnyL_norm (by simp only [Act.put, List.setIfInBounds_toArray, List.set_cons_zero, List.set_cons_succ]; rfl) ?_))
            refine wpAnyL_done (by kernel_rfl) ?_ _
            go_wp2_with fail
            go_meet
            have hkk : ∀ g, v.ownBlock = some g → g < Y.heap.size := fun g hg => (RS.out.2.lt g hg).2
            exact ⟨(Y.heap.size), (Y.heap.size + 1), rfl, rfl, by omega, hA7.fr hF8 (by simp <;> omega), hA8, hHeld, ((RS.out.fr0 G12).fr hF7 (by simp <;> omega) (fun g hg => by have := hkk g hg; simp <;> omega)).fr hF8 (by simp <;> omega) (fun g hg => by have := hkk g hg; simp <;> omega), ((R1.out.fr G12 (by simp)).fr hF7 (by simp <;> omega)).fr hF8 (by simp <;> omega), ((R2.out.fr G12 (by simp)).fr hF7 (by simp <;> omega)).fr hF8 (by simp <;> omega), ((RF.out.trans0 G12).trans hF7 (by simp <;> omega)).trans hF8 (by simp <;> omega), by omega, by omega⟩
          · go_simp
            refine hK.out _ _ (fun _ => RA.out.fr (S := []) (by repeat (first | exact Fr.refl _ _ | assumption | refine Fr.trans0 ?_ (by assumption) | refine Fr.drewN ?_ _ | refine Fr.alloc ?_ _ | refine Fr.drew ?_)) (by simp)) (fun hHeld' => ?_); have hHeld := hHeld' (by decide); clear hHeld' hK K; (try (refine wpAnyL_norm (by simp only [Act.put, List.setIfInBounds_toArray, List.set_cons_zero, List.set_cons_succ]; rfl) ?_))
            refine wpAnyL_named ?_
            intro X1 hX1
            have N1 : At X1 Y.heap.size 25 noC.cells := by rw [hX1]; first | exact At.new _ _ _ | exact (At.new _ _ _).drewN 1
            have G1 : Fr [] Y X1 := by rw [hX1]; exact (by repeat (first | exact Fr.refl _ _ | assumption | refine Fr.trans0 ?_ (by assumption) | refine Fr.drewN ?_ _ | refine Fr.alloc ?_ _ | refine Fr.drew ?_))
            have s1 : X1.heap.size = Y.heap.size + 1 := by rw [hX1]; simp
            clear hX1
            refine wpAnyL_ready (rs := [5]) (by kernel_rfl) (by simp) ?_; refine AllReadyL.cons rfl (fun K hK => ?_) AllReadyL.nil
            go_simp
            refine hK.out _ _ (fun _ => RA.out.fr (S := []) (by repeat (first | exact Fr.refl _ _ | assumption | refine Fr.trans0 ?_ (by assumption) | refine Fr.drewN ?_ _ | refine Fr.alloc ?_ _ | refine Fr.drew ?_)) (by simp)) (fun hHeld' => ?_); have hHeld := hHeld' (by decide); clear hHeld' hK K; (try (refine wpAnyL_norm (by simp only [Act.put, List.setIfInBounds_toArray, List.set_cons_zero, List.set_cons_succ]; rfl) ?_))
            refine wpAnyL_named ?_
            intro X2 hX2
            have N2 : At X2 X1.heap.size 25 noC.cells := by rw [hX2]; first | exact At.new _ _ _ | exact (At.new _ _ _).drewN 1
            have G2 : Fr [] X1 X2 := by rw [hX2]; exact (by repeat (first | exact Fr.refl _ _ | assumption | refine Fr.trans0 ?_ (by assumption) | refine Fr.drewN ?_ _ | refine Fr.alloc ?_ _ | refine Fr.drew ?_))
            rw [← hX2] at hHeld
            rw [s1] at N2
            clear hX2
            have G12 : Fr [] Y X2 := G1.trans0 G2
            have hs0 := RF.out.size
            have hBl := RA.out.lt
            have hspl := RS.out.1.lt
            have h1l := R1.out.lt
            have h2l := R2.out.lt
            refine wpAnyL_ready (rs := [7]) (by kernel_rfl) (by simp) ?_; refine AllReadyL.cons rfl (fun K hK => ?_) AllReadyL.nil
            rw [if_pos (by rfl)]
            refine wp_store_all 25 (.tmp 9) (.tmp 90) rfl _ a.opened.cells rfl rfl 25 noC.cells N2 infoCapS rfl (cell_all _) ?_
            intro w7 hA7 hF7
            refine hK.out _ _ (fun _ => hHeld.fr hF7 (by simp <;> omega)) (fun hHeld' => ?_); have hHeld := hHeld' (by decide); clear hHeld' hK K; (try (refine wpAnyL_norm (by simp only [Act.put, List.setIfInBounds_toArray, List.set_cons_zero, List.set_cons_succ]; rfl) ?_))
            refine wpAnyL_ready (rs := [8]) (by kernel_rfl) (by simp) ?_; refine AllReadyL.cons rfl (fun K hK => ?_) AllReadyL.nil
            rw [if_pos (by rfl)]
            refine wp_store_all 25 (.tmp 10) (.tmp 93) rfl _ b.opened.cells rfl rfl 25 noC.cells (At.fr (N1.fr G2 (by simp)) hF7 (by simp)) infoCapS rfl (cell_all _) ?_
            intro w8 hA8 hF8
            refine hK.out _ _ (fun _ => hHeld.fr hF8 (by simp <;> omega)) (fun hHeld' => ?_); have hHeld := hHeld' (by decide); clear hHeld' hK K; (try (refine wpAnyL_norm (by simp only [Act.put, List.setIfInBounds_toArray, List.set_cons_zero, List.set_cons_succ]; rfl) ?_))
            refine wpAnyL_done (by kernel_rfl) ?_ _
            go_wp2_with fail
            go_meet
            have hkk : ∀ g, v.ownBlock = some g → g < Y.heap.size := fun g hg => (RS.out.2.lt g hg).2
            exact ⟨(Y.heap.size + 1), (Y.heap.size), rfl, rfl, by omega, hA7.fr hF8 (by simp <;> omega), hA8, hHeld, ((RS.out.fr0 G12).fr hF7 (by simp <;> omega) (fun g hg => by have := hkk g hg; simp <;> omega)).fr hF8 (by simp <;> omega) (fun g hg => by have := hkk g hg; simp <;> omega), ((R1.out.fr G12 (by simp)).fr hF7 (by simp <;> omega)).fr hF8 (by simp <;> omega), ((R2.out.fr G12 (by simp)).fr hF7 (by simp <;> omega)).fr hF8 (by simp <;> omega), ((RF.out.trans0 G12).trans hF7 (by simp <;> omega)).trans hF8 (by simp <;> omega), by omega, by omega⟩
        case rest =>
          obtain ⟨P, D, rfl, rfl, hPD, hP, hD, hQ, hS, h1, h2, hF, hPw, hDw⟩ := hcut
          rename World => Y2
          have HP := Lib.hid hP
          have HD := Lib.hid hD
          have HQ := Lib.hid hQ
          have HSS := Lib.hid hS
          have H1 := Lib.hid h1
          have H2 := Lib.hid h2
          have HFF := Lib.hid hF
          clear k_0 k_1 k_2 k_3 k_4 k_5 k_6 k_7 j_0 j_1 j_2 j_3 j_4 j_5 j_6 j_7 RA RS R1 R2 RF g16 g15
          have k_5 := h1.cell 5
          have j_5 := h2.cell 5
          have p_5 := hP.cell 5
          have q_5 := hD.cell 5
          have pz := hP.froz 5
          have qz := hD.froz 5
          unfold Cp.opened Cp.cells at p_5 q_5
          unfold Cp.cells at k_5 j_5
          simp only [List.getElem?_toArray, List.getElem?_cons_zero, List.getElem?_cons_succ] at k_5 j_5 p_5 q_5
          clear hP hD hQ hS h1 h2 hF
          go_upto_region 19 with (fail)
          have hf1 : Fr [P] Y2 (Y2.setCell ⟨P, 5, none⟩ (.int .u16 a.ty)) := (Fr.refl _ _).set (.inl (by simp)) _
          have hf2 : Fr [D] (Y2.setCell ⟨P, 5, none⟩ (.int .u16 a.ty)) ((Y2.setCell ⟨P, 5, none⟩ (.int .u16 a.ty)).setCell ⟨D, 5, none⟩ (.int .u16 b.ty)) := (Fr.refl _ _).set (.inl (by simp)) _
          have hP1 : At (Y2.setCell ⟨P, 5, none⟩ (.int .u16 a.ty)) P 25 a.cells := HP.out.set 5 (.int .u16 a.ty)
          have hP2 := hP1.fr hf2 (by simp <;> omega)
          have hD1 := HD.out.fr hf1 (by simp <;> omega)
          have hD2 : At ((Y2.setCell ⟨P, 5, none⟩ (.int .u16 a.ty)).setCell ⟨D, 5, none⟩ (.int .u16 b.ty)) D 25 b.cells := hD1.set 5 (.int .u16 b.ty)
          have hBP : B ≠ P := fun e => by subst e; exact absurd (HP.out.inj HQ.out).1 (by decide)
          have hBD : B ≠ D := fun e => by subst e; exact absurd (HD.out.inj HQ.out).1 (by decide)
          have hspP : sp ≠ P := fun e => by subst e; exact absurd (HP.out.inj HSS.out.1).1 (by decide)
          have hspD : sp ≠ D := fun e => by subst e; exact absurd (HD.out.inj HSS.out.1).1 (by decide)
          have hQ2 := (HQ.out.fr hf1 (by simp <;> omega)).fr hf2 (by simp <;> omega)
          have hA2 := (H1.out.fr hf1 (by simp <;> omega)).fr hf2 (by simp <;> omega)
          have hB2 := (H2.out.fr hf1 (by simp <;> omega)).fr hf2 (by simp <;> omega)
          have hF2 := (HFF.out.trans hf1 (by simp <;> omega)).trans hf2 (by simp <;> omega)
          have hs0 := HSS.out.1
          obtain ⟨va, vc, rfl, hvc⟩ := own_slice HSS.out.2
          have hs2 := (hs0.fr hf1 (by simp <;> omega)).fr hf2 (by simp <;> omega)
          obtain ⟨X, hX⟩ : ∃ X, (Y2.setCell ⟨P, 5, none⟩ (.int .u16 a.ty)).setCell ⟨D, 5, none⟩ (.int .u16 b.ty) = X := ⟨_, rfl⟩
          rw [hX] at hP2 hD2 hQ2 hA2 hB2 hF2 hs2 ⊢
          have XP := Lib.hid hP2
          have XD := Lib.hid hD2
          have XA := Lib.hid hA2
          have XB := Lib.hid hB2
          have XF := Lib.hid hF2
          have g16 : (gF frL a.opened b.opened)[16]? = some a.opened := by rw [gF_at _ _ _ 16 (by omega)]; rfl
          have g15 : (gF frL a.opened b.opened)[15]? = some b.opened := by rw [gF_at _ _ _ 15 (by omega)]; rfl
          have c16 := (cat_cell hQ2 16 a.opened g16).2.2.2.2.2.1
          have c15 := (cat_cell hQ2 15 b.opened g15).2.2.2.2.2.1
          have c0 := hs2.cell 0
          simp only [Nat.reduceMul, Nat.reduceAdd] at c16 c15
          simp only [List.getElem?_toArray, List.getElem?_cons_zero] at c0
          change _ = some (Value.int .u16 0) at c16 c15
          have hL3 := HLL.out
          rw [hL3] at c0
          clear hX hf1 hf2 hP1 hP2 hD1 hD2 hQ2 hA2 hB2 hF2 hs0 hs2 g16 g15 k_5 j_5 p_5 q_5 pz qz hL3 HP HD HQ HSS H1 H2 HFF
          have HIC := Lib.hid infoCapS
          go_wp2_with (first | (refine wpList_load_all rfl 25 (.tmp 9) rfl P rfl 25 a.cells _ XP.out Try.underlying25 rfl HIC.out ?_) | (refine wpList_load_all rfl 25 (.tmp 2) rfl w.heap.size rfl 25 a.cells _ XA.out Try.underlying25 rfl HIC.out ?_) | (refine wpList_load_all rfl 25 (.tmp 10) rfl D rfl 25 b.cells _ XD.out Try.underlying25 rfl HIC.out ?_) | (refine wpList_load_all rfl 25 (.tmp 3) rfl (w.heap.size + 1) rfl 25 b.cells _ XB.out Try.underlying25 rfl HIC.out ?_))
          refine (sdepth_cell c0 (by omega)).mono ?_
          rintro e w' ⟨rfl, rfl⟩
          go_wp2_with fail
          go_ret
          exact ⟨by simp, XF.out⟩
      · have hne : (tr != 0) = true := by simpa using ht
        have hne' : (tr == 0) = false := by simpa using ht
        rw [hG] at RA
        rw [hL] at RS
        have FEQ := frame_eq zf zf zf_len zf_len
        rw [eqF_self, HZ.out] at FEQ
        rw [HZ.out] at RA
        clear hG hL ht
        go_wp2_with (refine wpList_load_all rfl 31 (.tmp 6) rfl B rfl 31 Z _ RA.out Try.underlying31 rfl ZI.out ?_)
        refine (show Calls Try.prog 12 #[.pointer (some ⟨sp, 0, none⟩)] _ fun r w' => r = .returned (.int .i64 0) ∧ _ = w' from (sdepth_any RS.out).mono fun e w' h => ⟨h.1.trans (by simp), h.2⟩).mono ?_
        rintro e w' ⟨rfl, rfl⟩
        go_wp2_with fail
        go_ret
        exact ⟨by simp, RF.out⟩
theorem walk (cs0 cs1 : List Value) (w : World) (w0 : Fits [.i .u32, .i .u8, .i .u16, .i .u16, .i .u16, .i .u16, .i .u32, .b] cs0) (w1 : Fits [.i .u32, .i .u8, .i .u16, .i .u16, .i .u16, .i .u16, .i .u32, .b] cs1) :
    Calls Try.prog 3 #[.agg cs0.toArray, .agg cs1.toArray] w fun e w' => e = .returned (.bool true) ∧ Fr [] w w' := by
  obtain ⟨a, rfl, ha⟩ := fitsC w0
  obtain ⟨b, rfl, hb⟩ := fitsC w1
  exact walk_c a b ha hb w
theorem laidOut : laidOutB Try.prog = true := by kernel_rfl
set_option maxRecDepth 100000 in
theorem lifted (os : Os) (started : os.Started) (H : Type) (enc : TypeId × Value → H) :
    ReturnsInHanded {} Try.checked os 3 .any (Rows.compartRightSpec.pre6 enc Try.prog Try.f3 Rows.compartRightRow.domain false) (Rows.compartRightSpec.post enc Try.prog Try.f3 false true false false) := by
  refine returnsInHanded_of_change (C := Try.checked) own started (by kernel_rfl) Try.func3
    (ChangeSpec.witness6 (enc := enc) (C := Try.checked) false ⟨#[], #[.agg #[.int .u32 0, .int .u8 0, .int .u16 0, .int .u16 0, .int .u16 0, .int .u16 0, .int .u32 0, .bool false], .agg #[.int .u32 0, .int .u8 0, .int .u16 0, .int .u16 0, .int .u16 0, .int .u16 0, .int .u32 0, .bool false]], []⟩ 8 (by kernel_rfl) (by kernel_rfl) (by kernel_rfl) (by kernel_rfl)) ?_
  intro W base args ds gs before hval0 hW hcnd _
  have hval : ∀ (j : Nat) t v, Try.f3.params[j]? = some t → args[j]? = some v → Value.okWide Try.prog W .any base t v := hval0
  have hW' := hW
  obtain ⟨p, q, hA0, hV, rfl, hfz, hnd⟩ := hW
  have hA : DataW.TrodAll enc Try.prog W 0 (fun _ => true) true Try.f3.params.toList args.toList ds p := hA0
  rw [Try.params3] at hA hval
  obtain ⟨v0, vs0, d0, ds0, p0, q0, hargs, rfl, rfl, h0, r0⟩ := trodAll_cons hA
  obtain ⟨v1, vs1, d1, ds1, p1, q1, rfl, rfl, rfl, h1, r1⟩ := trodAll_cons r0
  obtain ⟨rfl, rfl, rfl⟩ := trodAll_nil r1
  obtain rfl : args = #[v0, v1] := by cases args; simp_all
  obtain ⟨rfl, rfl⟩ := trodVars_none hV
  have k0 := h0
  have lt0 : ∀ x ∈ p0, x.block < W.heap.size := by obtain ⟨m, hm⟩ := k0; exact DataW.trod_lt m _ _ _ hm
  obtain ⟨cs0, rfl, w0⟩ := open_flat (n := 20) (by kernel_rfl : flat Try.prog 20 25 = some [.i .u32, .i .u8, .i .u16, .i .u16, .i .u16, .i .u16, .i .u32, .b]) (by kernel_rfl) (hval 0 25 v0 rfl rfl) h0
  have k1 := h1
  have lt1 : ∀ x ∈ p1, x.block < W.heap.size := by obtain ⟨m, hm⟩ := k1; exact DataW.trod_lt m _ _ _ hm
  obtain ⟨cs1, rfl, w1⟩ := open_flat (n := 20) (by kernel_rfl : flat Try.prog 20 25 = some [.i .u32, .i .u8, .i .u16, .i .u16, .i .u16, .i .u16, .i .u32, .b]) (by kernel_rfl) (hval 1 25 v1 rfl rfl) h1
  clear hA0 hval0
  refine (walk cs0 cs1 W w0 w1).mono fun e W' ⟨he, hg⟩ => ?_
  subst he
  have bel := hg.below
  exact ⟨_, rfl, _, _, _, [], _, [], hW', trodAll_mk1 (shut_bool Try.underlying4 _), (trodAll_cons_mk (Below.trod laidOut (by kernel_rfl) (of_decide_eq_true (by kernel_rfl)) k0 bel lt0) (trodAll_cons_mk (Below.trod laidOut (by kernel_rfl) (of_decide_eq_true (by kernel_rfl)) k1 bel lt1) trodAll_mk0)), rfl, bel.frame _, fun h => by cases h⟩
theorem over : Rows.compartRightRow.holds Try.pinned (OpenSpec.ofChange Rows.compartRightSpec) :=
  OpenClaim.holds_of_wide 3 Try.f3 rfl rfl rfl rfl rfl rfl rfl ⟨rfl, rfl, rfl, rfl, rfl⟩ rfl rfl rfl rfl rfl (by kernel_rfl) Try.func3 (by kernel_rfl)
    (of_decide_eq_true (by kernel_rfl)) (by unfold Func.isWrapper; first | (rw [if_pos (by decide +kernel)]; kernel_rfl) | (rw [if_neg (by decide +kernel)]; exact ⟨rfl, rfl⟩))
    (fun os started H enc _ => lifted os started H enc)
/-- The statement, proved. -/
theorem proved : Rows.CompartRightSaid :=
  over
end compartRight
end Go.Proofs.Ytdfefnajhnlpdaa
