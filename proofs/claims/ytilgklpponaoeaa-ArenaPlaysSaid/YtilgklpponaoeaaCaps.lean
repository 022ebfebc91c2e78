/-
  Capabilities as eight cells; what caps.Range and caps.Make compute; the bounds of what is made. Conditions: numbers in their types' ranges.
-/


import Derived.Test.YtilgklpponaoeaaDec
import Derived.Test.YtilgklpponaoeaaBounds
import Derived.Deep.RegionHeld3
set_option linter.unusedVariables false
namespace Go.Proofs.Ytilgklpponaoeaa
open Go.ChangeShapes Go.WideShapes Go.ChangeAt Go.RowKit
/-- Results of which the first lies in a block of its own. -/
theorem res_row_tmp {P : Program} {fn : Func} {p x : Tmp} {ty : TypeId} (h : fn.results = #[.cell p ty, .tmp x]) (tmps : Array Value) (w : World) (g : Nat) (t : TypeId) (cs : Array Value) (d : TypeDesc)
    (hp : tmps.getD p undef = .pointer (some ⟨g, 0, none⟩)) (hg : At w g t cs)
    (hu : P.underlying ty = some d) (hd : (match d with | .struct _ | .array _ _ => true | _ => false) = true) (hi : (P.info? ty).map (·.size) = some cs.size) :
    (results fn tmps).run P w = .ok (.tuple #[.agg cs, tmps.getD x undef]) w := by
  have hp' : tmps[p]?.getD undef = .pointer (some ⟨g, 0, none⟩) := by simpa using hp
  simp [results, h, hp', asAddr, run_loadVar_row w g t ty cs (0, 0) d hg hu hd hi]
/-- A capability. -/
structure Cp where
  cur : Nat
  e : Nat
  b : Nat
  t : Nat
  pm : Nat
  ty : Nat
  rs : Nat
  v : Bool
structure Cp.Ok (c : Cp) : Prop where
  cur : c.cur < 4294967296
  e : c.e < 256
  b : c.b < 65536
  t : c.t < 65536
  pm : c.pm < 65536
  ty : c.ty < 65536
  rs : c.rs < 4294967296
def Cp.l (c : Cp) : List Value := [.int .u32 c.cur, .int .u8 c.e, .int .u16 c.b, .int .u16 c.t, .int .u16 c.pm, .int .u16 c.ty, .int .u32 c.rs, .bool c.v]
def Cp.cells (c : Cp) : Array Value := #[.int .u32 c.cur, .int .u8 c.e, .int .u16 c.b, .int .u16 c.t, .int .u16 c.pm, .int .u16 c.ty, .int .u32 c.rs, .bool c.v]
def Cp.base (c : Cp) : Int := dBase c.e c.b c.t c.cur
def Cp.top (c : Cp) : Int := dTop c.e c.b c.t c.cur
theorem dec_bd (e b t c : Nat) : 0 ≤ dBase e b t c ∧ dBase e b t c < 4294967296 ∧ dBase e b t c ≤ dTop e b t c ∧ dTop e b t c ≤ 4294967296 := by
  unfold dBase dTop
  by_cases h : dOk e b t c = true
  · rw [if_pos h, if_pos h]
    unfold dOk okB at h
    generalize ofI (hiI e b c) e b b = X at *
    generalize ofI (hiI e b c) e b t = Y at *
    simp only [Bool.and_eq_true, decide_eq_true_eq, Bool.not_eq_true', beq_eq_false_iff_ne, ne_eq] at h
    omega
  · rw [if_neg h, if_neg h]; omega
theorem range_any (w : World) (c : Cp) (hc : c.cur < 4294967296) :
    Calls Try.prog 82 #[.agg c.cells] w fun r w' => r = .returned (.tuple #[.int .u32 c.base, .int .u64 c.top]) ∧ Fr [] w w' := by
  unfold Cp.base Cp.top Cp.cells
  have C := Lib.hid fun W => dec_any W c.e c.b c.t c.cur hc
  generalize dBase c.e c.b c.t c.cur = X at *
  generalize dTop c.e c.b c.t c.cur = Y at *
  go_enter Try.func82, Try.ntmps82
  go_wp2_with (go_at_call 103; refine (C.out _).mono ?_; rintro e w2 ⟨rfl, hf2⟩)
  go_ret2
  exact ⟨rfl, (Fr.alloc (Fr.refl [] w) _).trans0 hf2⟩
theorem cend_any (w : World) (a s : Nat) (ha : a < 4294967296) (hs : s < 4294967296) :
    Calls Try.prog 78 #[.agg #[.int .u32 a, .int .u32 s]] w fun r w' => r = .returned (.int .u64 (a + s : Nat)) ∧ Fr [] w w' := by
  go_enter Try.func78, Try.ntmps78
  go_wp2
  go_ret
  exact ⟨by simp, (by repeat (first | exact Fr.refl _ _ | assumption | refine Fr.trans0 ?_ (by assumption) | refine Fr.drewN ?_ _ | refine Fr.alloc ?_ _ | refine Fr.drew ?_))⟩
theorem right_yes (w : World) (b t : Nat) (h : b ≤ t) (h2 : t ≤ 4294967296) (h1 : b < 4294967296) :
    Calls Try.prog 99 #[.int .u32 b, .int .u64 t] w fun r w' => r = .returned (.bool true) ∧ w = w' := by
  have d1 : decide (b ≤ t) = true := by simpa using h
  have d2 : decide ((t : Int) ≤ 4294967296) = true := by simp; omega
  go_enter Try.func99, Try.ntmps99
  go_wp2
  go_ret
  exact ⟨rfl, rfl⟩
/-! ### what is encoded -/
def up (t e : Nat) : Nat := (t + (2 ^ e - 1)) / 2 ^ e
def m1 (b t : Nat) : Nat := b / 2 ^ expo b t % 4096
def m2 (b t : Nat) : Nat := up t (expo b t) % 4096
def exB (b t : Nat) : Bool := decide (b % 2 ^ expo b t = 0) && decide (t % 2 ^ expo b t = 0)
theorem rdn_nat (b e : Nat) : rdn (b : Int) e = ((b / 2 ^ e * 2 ^ e : Nat) : Int) := by unfold rdn; simp
theorem rup_nat (t e : Nat) : rup (t : Int) e = ((up t e * 2 ^ e : Nat) : Int) := by
  unfold rup up
  have : 1 ≤ 2 ^ e := Nat.one_le_two_pow
  rw [show (t : Int) + ((2 : Int) ^ e - 1) = ((t + (2 ^ e - 1) : Nat) : Int) by
    rw [Int.natCast_add, Int.natCast_sub this]; simp]
  simp
theorem rdn_eq (b e : Nat) : (b / 2 ^ e * 2 ^ e = b) ↔ b % 2 ^ e = 0 := by
  have := Nat.div_add_mod b (2 ^ e)
  rw [Nat.mul_comm] at this
  omega
theorem up_eq (t e : Nat) : (up t e * 2 ^ e = t) ↔ t % 2 ^ e = 0 := by
  unfold up
  have hp : 1 ≤ 2 ^ e := Nat.one_le_two_pow
  generalize 2 ^ e = P at *
  constructor
  · intro h
    rw [← h]; exact Nat.mul_mod_left _ _
  · intro h
    obtain ⟨k, rfl⟩ := Nat.dvd_of_mod_eq_zero h
    rw [Nat.mul_comm P k, show k * P + (P - 1) = (P - 1) + P * k by rw [Nat.mul_comm P k]; omega, Nat.add_mul_div_left _ _ (by omega), Nat.div_eq_of_lt (by omega), Nat.zero_add]
theorem and4095 (n : Nat) (h : n < 18446744073709551616) : bits .and .u64 (n : Int) 4095 = ((n % 4096 : Nat) : Int) := by
  have := u64_and_nat n 4095 h (by omega)
  rw [show ((4095 : Nat) : Int) = 4095 from rfl] at this
  rw [this, show (4095 : Nat) = 2 ^ 12 - 1 by rfl, Nat.and_two_pow_sub_one_eq_mod]
theorem enc_any (w : World) (b t : Nat) (h : b ≤ t) (h2 : t ≤ 4294967296) (h1 : b < 4294967296) :
    Calls Try.prog 79 #[.int .u32 b, .int .u64 t] w fun r w' => r = .returned (.tuple #[.int .u8 (expo b t), .int .u16 (m1 b t), .int .u16 (m2 b t), .bool (exB b t), .bool true]) ∧ ∃ nd, w' = w.drewN nd := by
  have he := expo_le (b : Int) (t : Int)
  have C1 := Lib.hid fun W => right_yes W b t h h2 h1
  have C2 := Lib.hid fun W => exponent_any (b : Int) (t : Int) W (by omega) (by omega) (by omega) (by omega) (by omega)
  have C3 := Lib.hid fun W => rounded_any (b : Int) (t : Int) (expo b t) W he (by omega) (by omega) (by omega) (by omega)
  have q1 := rup_whole (t : Int) (expo b t) he (by omega)
  have q2 := rdn_bd (b : Int) (expo b t) he (by omega)
  unfold m1 m2 exB
  obtain ⟨e, hee⟩ : ∃ e, expo (b : Int) (t : Int) = e := ⟨_, rfl⟩
  rw [hee] at C2 C3 he q1 q2
  rw [hee]
  rw [rdn_nat, rup_nat] at C3
  rw [rup_nat] at q1
  rw [rdn_nat] at q2
  have hA : ((b / 2 ^ e * 2 ^ e : Nat) : Int) / 2 ^ e = ((b / 2 ^ e : Nat) : Int) := by
    have : (2 : Int) ^ e = ((2 ^ e : Nat) : Int) := by simp
    rw [this, ← Int.natCast_ediv, Nat.mul_div_cancel _ (Nat.two_pow_pos e)]
  have hB : ((up t e * 2 ^ e : Nat) : Int) / 2 ^ e = ((up t e : Nat) : Int) := by
    have : (2 : Int) ^ e = ((2 ^ e : Nat) : Int) := by simp
    rw [this, ← Int.natCast_ediv, Nat.mul_div_cancel _ (Nat.two_pow_pos e)]
  have hu : up t e ≤ up t e * 2 ^ e := Nat.le_mul_of_pos_right _ (Nat.two_pow_pos e)
  have hb0 : b / 2 ^ e ≤ b := Nat.div_le_self _ _
  have n1 := and4095 (b / 2 ^ e) (by omega)
  have n2 := and4095 (up t e) (by omega)
  have x1 := rdn_eq b e
  have x2 := up_eq t e
  have HX := Lib.hid (show (decide (b % 2 ^ e = 0) && decide (t % 2 ^ e = 0)) = (decide (b / 2 ^ e * 2 ^ e = b) && decide (up t e * 2 ^ e = t)) by rw [decide_eq_decide.2 x1, decide_eq_decide.2 x2])
  rw [HX.out]
  have l1 : b / 2 ^ e % 4096 < 4096 := by omega
  have l2 : up t e % 4096 < 4096 := by omega
  have hew : IntKind.u8.wrap (e : Int) = e := by simp [IntKind.wrap, IntKind.signed, IntKind.bits]; omega
  generalize b / 2 ^ e * 2 ^ e = D at *
  generalize up t e * 2 ^ e = U at *
  generalize b / 2 ^ e = A at *
  generalize up t e = T at *
  generalize A % 4096 = M at *
  generalize T % 4096 = N at *
  have w1 : IntKind.u16.wrap (M : Int) = M := by simp [IntKind.wrap, IntKind.signed, IntKind.bits]; omega
  have w2 : IntKind.u16.wrap (N : Int) = N := by simp [IntKind.wrap, IntKind.signed, IntKind.bits]; omega
  have HE := Lib.hid hee
  clear hee x1 x2 HX
  by_cases hd : D = b
  · have d1 : ((D : Int) == (b : Int)) = true := by simp [hd]
    have HD := Lib.hid (show decide (D = b) = true by simpa using hd)
    clear hd
    have HU := Lib.hid (show ((U : Int) == (t : Int)) = decide (U = t) by rw [Bool.eq_iff_iff]; simp; omega)
    rw [HD.out, Bool.true_and, ← HU.out]
    go_enter Try.func79, Try.ntmps79
    go_wp2_with (first | (go_at_call 99; refine (C1.out _).mono ?_; rintro e w2 ⟨rfl, rfl⟩) | (go_at_call 100; refine (C2.out _).mono ?_; rintro e w2 ⟨rfl, rfl⟩) | (go_at_call 101; refine (C3.out _).mono ?_; rintro e w2 ⟨rfl, rfl⟩))
    go_quiet (fail)
    go_wp2
    exact bodyPost_ret (by simp [results, Try.results79, go_sem]) rfl ⟨rfl, _, rfl⟩
  · have d1 : ((D : Int) == (b : Int)) = false := by simp; omega
    have HD := Lib.hid (show decide (D = b) = false by simpa using hd)
    clear hd
    rw [HD.out, Bool.false_and]
    go_enter Try.func79, Try.ntmps79
    go_wp2_with (first | (go_at_call 99; refine (C1.out _).mono ?_; rintro e w2 ⟨rfl, rfl⟩) | (go_at_call 100; refine (C2.out _).mono ?_; rintro e w2 ⟨rfl, rfl⟩) | (go_at_call 101; refine (C3.out _).mono ?_; rintro e w2 ⟨rfl, rfl⟩))
    go_quiet (fail)
    go_wp2
    exact bodyPost_ret (by simp [results, Try.results79, go_sem]) rfl ⟨rfl, _, rfl⟩
/-- What Make makes of a region. -/
def mkB (a s pm : Nat) : Bool := decide (pm ≤ 255) && (decide (a + s ≤ 4294967296) && exB a (a + s))
def mkC (a s pm : Nat) : Cp := ⟨a, expo a (a + s : Nat), m1 a (a + s), m2 a (a + s), pm, 0, 0, true⟩
def noC : Cp := ⟨0, 0, 0, 0, 0, 0, 0, false⟩
set_option maxHeartbeats 1000000 in
theorem make_any (w : World) (a s pm : Nat) (ha : a < 4294967296) (hs : s < 4294967296) :
    Calls Try.prog 53 #[.agg #[.int .u32 a, .int .u32 s], .int .u16 pm] w fun r w' => r = .returned (.tuple #[.agg (if mkB a s pm = true then mkC a s pm else noC).cells, .bool (mkB a s pm)]) ∧ Fr [] w w' := by
  by_cases hp : pm ≤ 255
  · by_cases hl : a + s ≤ 4294967296
    · have C1 := Lib.hid fun W => cend_any W a s ha hs
      have C2 := Lib.hid fun W => enc_any W a (a + s) (by omega) hl ha
      have HB := Lib.hid (show mkB a s pm = exB a (a + s) by unfold mkB; simp [hp, hl])
      rw [HB.out]
      have hl2 : ((a : Int) + (s : Int)) ≤ 4294967296 := by omega
      have A0 := Lib.hid ((At.new w 70 #[.int .u32 a, .int .u32 s]).old (.cells noC.cells 38))
      have A1 := At.new (w.alloc (.cells #[.int .u32 a, .int .u32 s] 70)) 38 noC.cells
      rw [World.size_alloc] at A1
      have A1 := Lib.hid A1
      have F0 := Lib.hid (show Fr [] w ((w.alloc (.cells #[.int .u32 a, .int .u32 s] 70)).alloc (.cells noC.cells 38)) from (by repeat (first | exact Fr.refl _ _ | assumption | refine Fr.trans0 ?_ (by assumption) | refine Fr.drewN ?_ _ | refine Fr.alloc ?_ _ | refine Fr.drew ?_)))
      unfold noC Cp.cells at A0 A1 F0
      dsimp only [Int.cast_ofNat_Int] at A0 A1 F0
      unfold mkC
      generalize expo (a : Int) ((a + s : Nat) : Int) = e at *
      generalize m1 a (a + s) = M at *
      generalize m2 a (a + s) = N at *
      by_cases hx : exB a (a + s) = true
      · rw [hx] at C2 ⊢
        rw [if_pos rfl]
        clear HB hx
        go_enter Try.func53, Try.ntmps53
        go_wp2_with (go_at_call 78; refine (C1.out _).mono ?_; rintro e w2 ⟨rfl, hf2⟩)
        have B0 := Lib.hid (A0.out.fr hf2 (by simp))
        have B1 := Lib.hid (A1.out.fr hf2 (by simp))
        have F2 := Lib.hid (F0.out.trans0 hf2)
        have c0 := B0.out.cell 0
        have c1 := B0.out.cell 1
        simp only [List.getElem?_toArray, List.getElem?_cons_zero, List.getElem?_cons_succ] at c0 c1
        clear hf2 A0 A1 F0
        go_region_held3 (fun w' => w'.cell? ⟨w.heap.size, 0, none⟩ = some (.int .u32 a) ∧ w'.cell? ⟨w.heap.size, 1, none⟩ = some (.int .u32 s)) (first | exact ⟨c0, c1⟩ | exact dd | go_keep) (first | (go_at_call 78; refine (C1.out _).mono ?_; rintro e w5 ⟨rfl, hf5⟩; have dd : w5.cell? ⟨w.heap.size, 0, none⟩ = some (.int .u32 a) ∧ w5.cell? ⟨w.heap.size, 1, none⟩ = some (.int .u32 s) := ⟨(hf5.cell (a := ⟨w.heap.size, 0, none⟩) (lt_of_cell c0) (by simp)).trans c0, (hf5.cell (a := ⟨w.heap.size, 1, none⟩) (lt_of_cell c1) (by simp)).trans c1⟩) | (go_at_call 79; refine (C2.out _).mono ?_; rintro e w6 ⟨rfl, nd, rfl⟩))
        all_goals
          have hf6 : Fr [] w2 w5 := hf5.hd rfl rfl rfl rfl
          have E1 := Lib.hid (B1.out.fr hf6 (by simp))
          have F6 := Lib.hid (F2.out.trans0 hf6)
          have e0 := E1.out.cell 0
          have e1 := E1.out.cell 1
          have e2 := E1.out.cell 2
          have e3 := E1.out.cell 3
          have e4 := E1.out.cell 4
          have e5 := E1.out.cell 5
          have e6 := E1.out.cell 6
          have e7 := E1.out.cell 7
          have f0 := E1.out.froz 0
          have f1 := E1.out.froz 1
          have f2 := E1.out.froz 2
          have f3 := E1.out.froz 3
          have f4 := E1.out.froz 4
          have f5 := E1.out.froz 5
          have f6 := E1.out.froz 6
          have f7 := E1.out.froz 7
          have dd2 : w5.cell? ⟨w.heap.size, 0, none⟩ = some (.int .u32 a) := (hf6.cell (a := ⟨w.heap.size, 0, none⟩) (lt_of_cell c0) (by simp)).trans c0
          simp only [List.getElem?_toArray, List.getElem?_cons_zero, List.getElem?_cons_succ] at e0 e1 e2 e3 e4 e5 e6 e7
          clear hf5 hf6 c0 c1
          go_wp2_with fail
          have K := ((((((((E1.out.drewN nd).set 0 (.int .u32 a)).set 1 (.int .u8 e)).set 2 (.int .u16 M)).set 3 (.int .u16 N)).set 4 (.int .u16 pm)).set 5 (.int .u16 0)).set 6 (.int .u32 0)).set 7 (.bool true)
          simp only [List.setIfInBounds_toArray, List.set_cons_zero, List.set_cons_succ] at K
          have hq : w.heap.size ≤ w.heap.size + 1 := Nat.le_succ _
          refine bodyPost_ret (res_row_tmp rfl _ _ (w.heap.size + 1) 38 _ _ rfl K Try.underlying38 rfl (by kernel_rfl)) rfl ⟨rfl, ((((((((F6.out.drewN _).set (.inr hq) _).set (.inr hq) _).set (.inr hq) _).set (.inr hq) _).set (.inr hq) _).set (.inr hq) _).set (.inr hq) _).set (.inr hq) _⟩
      · rw [Bool.not_eq_true] at hx
        rw [hx] at C2 ⊢
        clear HB hx
        go_enter Try.func53, Try.ntmps53
        go_wp2_with (go_at_call 78; refine (C1.out _).mono ?_; rintro e w2 ⟨rfl, hf2⟩)
        have B0 := Lib.hid (A0.out.fr hf2 (by simp))
        have B1 := Lib.hid (A1.out.fr hf2 (by simp))
        have F2 := Lib.hid (F0.out.trans0 hf2)
        have c0 := B0.out.cell 0
        have c1 := B0.out.cell 1
        simp only [List.getElem?_toArray, List.getElem?_cons_zero, List.getElem?_cons_succ] at c0 c1
        clear hf2 A0 A1 F0
        go_region_held3 (fun w' => w'.cell? ⟨w.heap.size, 0, none⟩ = some (.int .u32 a) ∧ w'.cell? ⟨w.heap.size, 1, none⟩ = some (.int .u32 s)) (first | exact ⟨c0, c1⟩ | exact dd | go_keep) (first | (go_at_call 78; refine (C1.out _).mono ?_; rintro e w5 ⟨rfl, hf5⟩; have dd : w5.cell? ⟨w.heap.size, 0, none⟩ = some (.int .u32 a) ∧ w5.cell? ⟨w.heap.size, 1, none⟩ = some (.int .u32 s) := ⟨(hf5.cell (a := ⟨w.heap.size, 0, none⟩) (lt_of_cell c0) (by simp)).trans c0, (hf5.cell (a := ⟨w.heap.size, 1, none⟩) (lt_of_cell c1) (by simp)).trans c1⟩) | (go_at_call 79; refine (C2.out _).mono ?_; rintro e w6 ⟨rfl, nd, rfl⟩))
        all_goals
          have hf6 : Fr [] w2 w5 := hf5.hd rfl rfl rfl rfl
          have E1 := Lib.hid (B1.out.fr hf6 (by simp))
          have F6 := Lib.hid (F2.out.trans0 hf6)
          have e0 := E1.out.cell 0
          have e1 := E1.out.cell 1
          have e2 := E1.out.cell 2
          have e3 := E1.out.cell 3
          have e4 := E1.out.cell 4
          have e5 := E1.out.cell 5
          have e6 := E1.out.cell 6
          have e7 := E1.out.cell 7
          have f0 := E1.out.froz 0
          have f1 := E1.out.froz 1
          have f2 := E1.out.froz 2
          have f3 := E1.out.froz 3
          have f4 := E1.out.froz 4
          have f5 := E1.out.froz 5
          have f6 := E1.out.froz 6
          have f7 := E1.out.froz 7
          have dd2 : w5.cell? ⟨w.heap.size, 0, none⟩ = some (.int .u32 a) := (hf6.cell (a := ⟨w.heap.size, 0, none⟩) (lt_of_cell c0) (by simp)).trans c0
          simp only [List.getElem?_toArray, List.getElem?_cons_zero, List.getElem?_cons_succ] at e0 e1 e2 e3 e4 e5 e6 e7
          clear hf5 hf6 c0 c1
          go_wp2_with fail
          have K := ((((((((E1.out.drewN nd).set 0 (.int .u32 0)).set 1 (.int .u8 0)).set 2 (.int .u16 0)).set 3 (.int .u16 0)).set 4 (.int .u16 0)).set 5 (.int .u16 0)).set 6 (.int .u32 0)).set 7 (.bool false)
          simp only [List.setIfInBounds_toArray, List.set_cons_zero, List.set_cons_succ] at K
          have hq : w.heap.size ≤ w.heap.size + 1 := Nat.le_succ _
          refine bodyPost_ret (res_row_tmp rfl _ _ (w.heap.size + 1) 38 _ _ rfl K Try.underlying38 rfl (by kernel_rfl)) rfl ⟨rfl, ((((((((F6.out.drewN _).set (.inr hq) _).set (.inr hq) _).set (.inr hq) _).set (.inr hq) _).set (.inr hq) _).set (.inr hq) _).set (.inr hq) _).set (.inr hq) _⟩
    · have C1 := Lib.hid fun W => cend_any W a s ha hs
      have HB := Lib.hid (show mkB a s pm = false by unfold mkB; simp [hl])
      rw [HB.out]
      have hl2 : ¬ ((a : Int) + (s : Int)) ≤ 4294967296 := by omega
      have A1 := At.new (w.alloc (.cells #[.int .u32 a, .int .u32 s] 70)) 38 noC.cells
      rw [World.size_alloc] at A1
      have A1 := Lib.hid A1
      have F0 := Lib.hid (show Fr [] w ((w.alloc (.cells #[.int .u32 a, .int .u32 s] 70)).alloc (.cells noC.cells 38)) from (by repeat (first | exact Fr.refl _ _ | assumption | refine Fr.trans0 ?_ (by assumption) | refine Fr.drewN ?_ _ | refine Fr.alloc ?_ _ | refine Fr.drew ?_)))
      unfold noC Cp.cells at A1 F0
      dsimp only [Int.cast_ofNat_Int] at A1 F0
      clear HB
      go_enter Try.func53, Try.ntmps53
      go_wp2_with (go_at_call 78; refine (C1.out _).mono ?_; rintro e w2 ⟨rfl, hf2⟩; have B1 := Lib.hid (A1.out.fr hf2 (by simp)); have e0 := B1.out.cell 0; have e1 := B1.out.cell 1; have e2 := B1.out.cell 2; have e3 := B1.out.cell 3; have e4 := B1.out.cell 4; have e5 := B1.out.cell 5; have e6 := B1.out.cell 6; have e7 := B1.out.cell 7; have f0 := B1.out.froz 0; have f1 := B1.out.froz 1; have f2 := B1.out.froz 2; have f3 := B1.out.froz 3; have f4 := B1.out.froz 4; have f5 := B1.out.froz 5; have f6 := B1.out.froz 6; have f7 := B1.out.froz 7; simp only [List.getElem?_toArray, List.getElem?_cons_zero, List.getElem?_cons_succ] at e0 e1 e2 e3 e4 e5 e6 e7)
      have K := (((((((B1.out.set 0 (.int .u32 0)).set 1 (.int .u8 0)).set 2 (.int .u16 0)).set 3 (.int .u16 0)).set 4 (.int .u16 0)).set 5 (.int .u16 0)).set 6 (.int .u32 0)).set 7 (.bool false)
      simp only [List.setIfInBounds_toArray, List.set_cons_zero, List.set_cons_succ] at K
      have hq : w.heap.size ≤ w.heap.size + 1 := Nat.le_succ _
      have F2 := F0.out.trans0 hf2
      refine bodyPost_ret (res_row_tmp rfl _ _ (w.heap.size + 1) 38 _ _ rfl K Try.underlying38 rfl (by kernel_rfl)) rfl ⟨rfl, (((((((F2.set (.inr hq) _).set (.inr hq) _).set (.inr hq) _).set (.inr hq) _).set (.inr hq) _).set (.inr hq) _).set (.inr hq) _).set (.inr hq) _⟩
  · have HB := Lib.hid (show mkB a s pm = false by unfold mkB; simp [hp])
    rw [HB.out]
    have hp2 : ¬ ((pm : Int)) ≤ 255 := by omega
    have A1 := At.new (w.alloc (.cells #[.int .u32 a, .int .u32 s] 70)) 38 noC.cells
    rw [World.size_alloc] at A1
    have A1 := Lib.hid A1
    have F0 := Lib.hid (show Fr [] w ((w.alloc (.cells #[.int .u32 a, .int .u32 s] 70)).alloc (.cells noC.cells 38)) from (by repeat (first | exact Fr.refl _ _ | assumption | refine Fr.trans0 ?_ (by assumption) | refine Fr.drewN ?_ _ | refine Fr.alloc ?_ _ | refine Fr.drew ?_)))
    clear HB
    go_enter Try.func53, Try.ntmps53
    go_wp2_with fail
    exact bodyPost_ret (res_row_tmp rfl _ _ (w.heap.size + 1) 38 _ _ rfl A1.out Try.underlying38 rfl (by kernel_rfl)) rfl ⟨rfl, F0.out⟩
end Go.Proofs.Ytilgklpponaoeaa
