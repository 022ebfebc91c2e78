/-
  Capabilities as eight cells; what caps.Range and caps.Make compute; the bounds of what is made. Conditions: numbers in their types' ranges.
-/
import Derived.Deep.RegionHeld3
import Derived.Laws.IdiomStrings
import Derived.Laws.Concat
import Derived.BigRegion
import Derived.Test.YthjbnbimfpbccaaGreatDoorJ7


set_option linter.unusedVariables false
namespace Go.Proofs.YthjbnbimfpbccaaGreatDoor
open Go.ChangeShapes Go.WideShapes Go.ChangeAt Go.RowKit
/-- Results of which the first lies in a block of its own. -/
theorem res_row_tmp {P : Program} {fn : Func} {p x : Tmp} {ty : TypeId} (h : fn.results = #[.cell p ty, .tmp x]) (tmps : Array Value) (w : World) (g : Nat) (t : TypeId) (cs : Array Value) (d : TypeDesc)
    (hp : tmps.getD p undef = .pointer (some ⟨g, 0, none⟩)) (hg : At w g t cs)
    (hu : P.underlying ty = some d) (hd : (match d with | .struct _ | .array _ _ => true | _ => false) = true) (hi : (P.info? ty).map (·.size) = some cs.size) :
    (results fn tmps).run P w = .ok (.tuple #[.agg cs, tmps.getD x undef]) w := by
  have hp' : tmps[p]?.getD undef = .pointer (some ⟨g, 0, none⟩) := by simpa using hp
  simp [results, h, hp', asAddr, run_loadVar_row w g t ty cs (0, 0) d hg hu hd hi]
/-- A capability. -/
structure Cp where
  cur : Nat
  e : Nat
  b : Nat
  t : Nat
  pm : Nat
  ty : Nat
  rs : Nat
  v : Bool
structure Cp.Ok (c : Cp) : Prop where
  cur : c.cur < 4294967296
  e : c.e < 256
  b : c.b < 65536
  t : c.t < 65536
  pm : c.pm < 65536
  ty : c.ty < 65536
  rs : c.rs < 4294967296
def Cp.l (c : Cp) : List Value := [.int .u32 c.cur, .int .u8 c.e, .int .u16 c.b, .int .u16 c.t, .int .u16 c.pm, .int .u16 c.ty, .int .u32 c.rs, .bool c.v]
def Cp.cells (c : Cp) : Array Value := #[.int .u32 c.cur, .int .u8 c.e, .int .u16 c.b, .int .u16 c.t, .int .u16 c.pm, .int .u16 c.ty, .int .u32 c.rs, .bool c.v]
def Cp.base (c : Cp) : Int := dBase c.e c.b c.t c.cur
def Cp.top (c : Cp) : Int := dTop c.e c.b c.t c.cur
theorem dec_bd (e b t c : Nat) : 0 ≤ dBase e b t c ∧ dBase e b t c < 4294967296 ∧ dBase e b t c ≤ dTop e b t c ∧ dTop e b t c ≤ 4294967296 := by
  unfold dBase dTop
  by_cases h : dOk e b t c = true
  · rw [if_pos h, if_pos h]
    unfold dOk okB at h
    generalize ofI (hiI e b c) e b b = X at *
    generalize ofI (hiI e b c) e b t = Y at *
    simp only [Bool.and_eq_true, decide_eq_true_eq, Bool.not_eq_true', beq_eq_false_iff_ne, ne_eq] at h
    omega
  · rw [if_neg h, if_neg h]; omega
theorem range_any (w : World) (c : Cp) (hc : c.cur < 4294967296) :
    Calls Tryz.prog 92 #[.agg c.cells] w fun r w' => r = .returned (.tuple #[.int .u32 c.base, .int .u64 c.top]) ∧ Fr [] w w' := by
  unfold Cp.base Cp.top Cp.cells
  have C := Lib.hid fun W => dec_any W c.e c.b c.t c.cur hc
  generalize dBase c.e c.b c.t c.cur = X at *
  generalize dTop c.e c.b c.t c.cur = Y at *
  go_enter Tryz.func92, Tryz.ntmps92
  go_wp2_with (go_at_call 127; refine (C.out _).mono ?_; rintro e w2 ⟨rfl, hf2⟩)
  go_ret2
  exact ⟨rfl, (Fr.alloc (Fr.refl [] w) _).trans0 hf2⟩
theorem cend_any (w : World) (a s : Nat) (ha : a < 4294967296) (hs : s < 4294967296) :
    Calls Tryz.prog 107 #[.agg #[.int .u32 a, .int .u32 s]] w fun r w' => r = .returned (.int .u64 (a + s : Nat)) ∧ Fr [] w w' := by
  go_enter Tryz.func107, Tryz.ntmps107
  go_wp2
  go_ret
  exact ⟨by simp, (by repeat (first | exact Fr.refl _ _ | assumption | refine Fr.trans0 ?_ (by assumption) | refine Fr.drewN ?_ _ | refine Fr.alloc ?_ _ | refine Fr.drew ?_))⟩
theorem right_yes (w : World) (b t : Nat) (h : b ≤ t) (h2 : t ≤ 4294967296) (h1 : b < 4294967296) :
    Calls Tryz.prog 134 #[.int .u32 b, .int .u64 t] w fun r w' => r = .returned (.bool true) ∧ w = w' := by
  have d1 : decide (b ≤ t) = true := by simpa using h
  have d2 : decide ((t : Int) ≤ 4294967296) = true := by simp; omega
  go_enter Tryz.func134, Tryz.ntmps134
  go_wp2
  go_ret
  exact ⟨rfl, rfl⟩
/-! ### what is encoded -/
def up (t e : Nat) : Nat := (t + (2 ^ e - 1)) / 2 ^ e
def m1 (b t : Nat) : Nat := b / 2 ^ expo b t % 4096
def m2 (b t : Nat) : Nat := up t (expo b t) % 4096
def exB (b t : Nat) : Bool := decide (b % 2 ^ expo b t = 0) && decide (t % 2 ^ expo b t = 0)
theorem rdn_nat (b e : Nat) : rdn (b : Int) e = ((b / 2 ^ e * 2 ^ e : Nat) : Int) := by unfold rdn; simp
theorem rup_nat (t e : Nat) : rup (t : Int) e = ((up t e * 2 ^ e : Nat) : Int) := by
  unfold rup up
  have : 1 ≤ 2 ^ e := Nat.one_le_two_pow
  rw [show (t : Int) + ((2 : Int) ^ e - 1) = ((t + (2 ^ e - 1) : Nat) : Int) by
    rw [Int.natCast_add, Int.natCast_sub this]; simp]
  simp
theorem rdn_eq (b e : Nat) : (b / 2 ^ e * 2 ^ e = b) ↔ b % 2 ^ e = 0 := by
  have := Nat.div_add_mod b (2 ^ e)
  rw [Nat.mul_comm] at this
  omega
theorem up_eq (t e : Nat) : (up t e * 2 ^ e = t) ↔ t % 2 ^ e = 0 := by
  unfold up
  have hp : 1 ≤ 2 ^ e := Nat.one_le_two_pow
  generalize 2 ^ e = P at *
  constructor
  · intro h
    rw [← h]; exact Nat.mul_mod_left _ _
  · intro h
    obtain ⟨k, rfl⟩ := Nat.dvd_of_mod_eq_zero h
    rw [Nat.mul_comm P k, show k * P + (P - 1) = (P - 1) + P * k by rw [Nat.mul_comm P k]; omega, Nat.add_mul_div_left _ _ (by omega), Nat.div_eq_of_lt (by omega), Nat.zero_add]
theorem and4095 (n : Nat) (h : n < 18446744073709551616) : bits .and .u64 (n : Int) 4095 = ((n % 4096 : Nat) : Int) := by
  have := u64_and_nat n 4095 h (by omega)
  rw [show ((4095 : Nat) : Int) = 4095 from rfl] at this
  rw [this, show (4095 : Nat) = 2 ^ 12 - 1 by rfl, Nat.and_two_pow_sub_one_eq_mod]
theorem enc_any (w : World) (b t : Nat) (h : b ≤ t) (h2 : t ≤ 4294967296) (h1 : b < 4294967296) :
    Calls Tryz.prog 108 #[.int .u32 b, .int .u64 t] w fun r w' => r = .returned (.tuple #[.int .u8 (expo b t), .int .u16 (m1 b t), .int .u16 (m2 b t), .bool (exB b t), .bool true]) ∧ ∃ nd, w' = w.drewN nd := by
  have he := expo_le (b : Int) (t : Int)
  have C1 := Lib.hid fun W => right_yes W b t h h2 h1
  have C2 := Lib.hid fun W => exponent_any (b : Int) (t : Int) W (by omega) (by omega) (by omega) (by omega) (by omega)
  have C3 := Lib.hid fun W => rounded_any (b : Int) (t : Int) (expo b t) W he (by omega) (by omega) (by omega) (by omega)
  have q1 := rup_whole (t : Int) (expo b t) he (by omega)
  have q2 := rdn_bd (b : Int) (expo b t) he (by omega)
  unfold m1 m2 exB
  obtain ⟨e, hee⟩ : ∃ e, expo (b : Int) (t : Int) = e := ⟨_, rfl⟩
  rw [hee] at C2 C3 he q1 q2
  rw [hee]
  rw [rdn_nat, rup_nat] at C3
  rw [rup_nat] at q1
  rw [rdn_nat] at q2
  have hA : ((b / 2 ^ e * 2 ^ e : Nat) : Int) / 2 ^ e = ((b / 2 ^ e : Nat) : Int) := by
    have : (2 : Int) ^ e = ((2 ^ e : Nat) : Int) := by simp
    rw [this, ← Int.natCast_ediv, Nat.mul_div_cancel _ (Nat.two_pow_pos e)]
  have hB : ((up t e * 2 ^ e : Nat) : Int) / 2 ^ e = ((up t e : Nat) : Int) := by
    have : (2 : Int) ^ e = ((2 ^ e : Nat) : Int) := by simp
    rw [this, ← Int.natCast_ediv, Nat.mul_div_cancel _ (Nat.two_pow_pos e)]
  have hu : up t e ≤ up t e * 2 ^ e := Nat.le_mul_of_pos_right _ (Nat.two_pow_pos e)
  have hb0 : b / 2 ^ e ≤ b := Nat.div_le_self _ _
  have n1 := and4095 (b / 2 ^ e) (by omega)
  have n2 := and4095 (up t e) (by omega)
  have x1 := rdn_eq b e
  have x2 := up_eq t e
  have HX := Lib.hid (show (decide (b % 2 ^ e = 0) && decide (t % 2 ^ e = 0)) = (decide (b / 2 ^ e * 2 ^ e = b) && decide (up t e * 2 ^ e = t)) by rw [decide_eq_decide.2 x1, decide_eq_decide.2 x2])
  rw [HX.out]
  have l1 : b / 2 ^ e % 4096 < 4096 := by omega
  have l2 : up t e % 4096 < 4096 := by omega
  have hew : IntKind.u8.wrap (e : Int) = e := by simp [IntKind.wrap, IntKind.signed, IntKind.bits]; omega
  generalize b / 2 ^ e * 2 ^ e = D at *
  generalize up t e * 2 ^ e = U at *
  generalize b / 2 ^ e = A at *
  generalize up t e = T at *
  generalize A % 4096 = M at *
  generalize T % 4096 = N at *
  have w1 : IntKind.u16.wrap (M : Int) = M := by simp [IntKind.wrap, IntKind.signed, IntKind.bits]; omega
  have w2 : IntKind.u16.wrap (N : Int) = N := by simp [IntKind.wrap, IntKind.signed, IntKind.bits]; omega
  have HE := Lib.hid hee
  clear hee x1 x2 HX
  by_cases hd : D = b
  · have d1 : ((D : Int) == (b : Int)) = true := by simp [hd]
    have HD := Lib.hid (show decide (D = b) = true by simpa using hd)
    clear hd
    have HU := Lib.hid (show ((U : Int) == (t : Int)) = decide (U = t) by rw [Bool.eq_iff_iff]; simp; omega)
    rw [HD.out, Bool.true_and, ← HU.out]
    go_enter Tryz.func108, Tryz.ntmps108
    go_wp2_with (first | (go_at_call 134; refine (C1.out _).mono ?_; rintro e w2 ⟨rfl, rfl⟩) | (go_at_call 135; refine (C2.out _).mono ?_; rintro e w2 ⟨rfl, rfl⟩) | (go_at_call 136; refine (C3.out _).mono ?_; rintro e w2 ⟨rfl, rfl⟩))
    go_quiet (fail)
    go_wp2
    exact bodyPost_ret (by simp [results, Tryz.results108, go_sem]) rfl ⟨rfl, _, rfl⟩
  · have d1 : ((D : Int) == (b : Int)) = false := by simp; omega
    have HD := Lib.hid (show decide (D = b) = false by simpa using hd)
    clear hd
    rw [HD.out, Bool.false_and]
    go_enter Tryz.func108, Tryz.ntmps108
    go_wp2_with (first | (go_at_call 134; refine (C1.out _).mono ?_; rintro e w2 ⟨rfl, rfl⟩) | (go_at_call 135; refine (C2.out _).mono ?_; rintro e w2 ⟨rfl, rfl⟩) | (go_at_call 136; refine (C3.out _).mono ?_; rintro e w2 ⟨rfl, rfl⟩))
    go_quiet (fail)
    go_wp2
    exact bodyPost_ret (by simp [results, Tryz.results108, go_sem]) rfl ⟨rfl, _, rfl⟩
/-- What Make makes of a region. -/
def mkB (a s pm : Nat) : Bool := decide (pm ≤ 255) && (decide (a + s ≤ 4294967296) && exB a (a + s))
def mkC (a s pm : Nat) : Cp := ⟨a, expo a (a + s : Nat), m1 a (a + s), m2 a (a + s), pm, 0, 0, true⟩
def noC : Cp := ⟨0, 0, 0, 0, 0, 0, 0, false⟩
set_option maxHeartbeats 1000000 in
theorem make_any (w : World) (a s pm : Nat) (ha : a < 4294967296) (hs : s < 4294967296) :
    Calls Tryz.prog 65 #[.agg #[.int .u32 a, .int .u32 s], .int .u16 pm] w fun r w' => r = .returned (.tuple #[.agg (if mkB a s pm = true then mkC a s pm else noC).cells, .bool (mkB a s pm)]) ∧ Fr [] w w' := by
  by_cases hp : pm ≤ 255
  · by_cases hl : a + s ≤ 4294967296
    · have C1 := Lib.hid fun W => cend_any W a s ha hs
      have C2 := Lib.hid fun W => enc_any W a (a + s) (by omega) hl ha
      have HB := Lib.hid (show mkB a s pm = exB a (a + s) by unfold mkB; simp [hp, hl])
      rw [HB.out]
      have hl2 : ((a : Int) + (s : Int)) ≤ 4294967296 := by omega
      have A0 := Lib.hid ((At.new w 45 #[.int .u32 a, .int .u32 s]).old (.cells noC.cells 49))
      have A1 := At.new (w.alloc (.cells #[.int .u32 a, .int .u32 s] 45)) 49 noC.cells
      rw [World.size_alloc] at A1
      have A1 := Lib.hid A1
      have F0 := Lib.hid (show Fr [] w ((w.alloc (.cells #[.int .u32 a, .int .u32 s] 45)).alloc (.cells noC.cells 49)) from (by repeat (first | exact Fr.refl _ _ | assumption | refine Fr.trans0 ?_ (by assumption) | refine Fr.drewN ?_ _ | refine Fr.alloc ?_ _ | refine Fr.drew ?_)))
      unfold noC Cp.cells at A0 A1 F0
      dsimp only [Int.cast_ofNat_Int] at A0 A1 F0
      unfold mkC
      generalize expo (a : Int) ((a + s : Nat) : Int) = e at *
      generalize m1 a (a + s) = M at *
      generalize m2 a (a + s) = N at *
      by_cases hx : exB a (a + s) = true
      · rw [hx] at C2 ⊢
        rw [if_pos rfl]
        clear HB hx
        go_enter Tryz.func65, Tryz.ntmps65
        go_wp2_with (go_at_call 107; refine (C1.out _).mono ?_; rintro e w2 ⟨rfl, hf2⟩)
        have B0 := Lib.hid (A0.out.fr hf2 (by simp))
        have B1 := Lib.hid (A1.out.fr hf2 (by simp))
        have F2 := Lib.hid (F0.out.trans0 hf2)
        have c0 := B0.out.cell 0
        have c1 := B0.out.cell 1
        simp only [List.getElem?_toArray, List.getElem?_cons_zero, List.getElem?_cons_succ] at c0 c1
        clear hf2 A0 A1 F0
        go_region_held3 (fun w' => w'.cell? ⟨w.heap.size, 0, none⟩ = some (.int .u32 a) ∧ w'.cell? ⟨w.heap.size, 1, none⟩ = some (.int .u32 s)) (first | exact ⟨c0, c1⟩ | exact dd | go_keep) (first | (go_at_call 107; refine (C1.out _).mono ?_; rintro e w5 ⟨rfl, hf5⟩; have dd : w5.cell? ⟨w.heap.size, 0, none⟩ = some (.int .u32 a) ∧ w5.cell? ⟨w.heap.size, 1, none⟩ = some (.int .u32 s) := ⟨(hf5.cell (a := ⟨w.heap.size, 0, none⟩) (lt_of_cell c0) (by simp)).trans c0, (hf5.cell (a := ⟨w.heap.size, 1, none⟩) (lt_of_cell c1) (by simp)).trans c1⟩) | (go_at_call 108; refine (C2.out _).mono ?_; rintro e w6 ⟨rfl, nd, rfl⟩))
        all_goals
          have hf6 : Fr [] w2 w5 := hf5.hd rfl rfl rfl rfl
          have E1 := Lib.hid (B1.out.fr hf6 (by simp))
          have F6 := Lib.hid (F2.out.trans0 hf6)
          have e0 := E1.out.cell 0
          have e1 := E1.out.cell 1
          have e2 := E1.out.cell 2
          have e3 := E1.out.cell 3
          have e4 := E1.out.cell 4
          have e5 := E1.out.cell 5
          have e6 := E1.out.cell 6
          have e7 := E1.out.cell 7
          have f0 := E1.out.froz 0
          have f1 := E1.out.froz 1
          have f2 := E1.out.froz 2
          have f3 := E1.out.froz 3
          have f4 := E1.out.froz 4
          have f5 := E1.out.froz 5
          have f6 := E1.out.froz 6
          have f7 := E1.out.froz 7
          have dd2 : w5.cell? ⟨w.heap.size, 0, none⟩ = some (.int .u32 a) := (hf6.cell (a := ⟨w.heap.size, 0, none⟩) (lt_of_cell c0) (by simp)).trans c0
          simp only [List.getElem?_toArray, List.getElem?_cons_zero, List.getElem?_cons_succ] at e0 e1 e2 e3 e4 e5 e6 e7
          clear hf5 hf6 c0 c1
          go_wp2_with fail
          have K := ((((((((E1.out.drewN nd).set 0 (.int .u32 a)).set 1 (.int .u8 e)).set 2 (.int .u16 M)).set 3 (.int .u16 N)).set 4 (.int .u16 pm)).set 5 (.int .u16 0)).set 6 (.int .u32 0)).set 7 (.bool true)
          simp only [List.setIfInBounds_toArray, List.set_cons_zero, List.set_cons_succ] at K
          have hq : w.heap.size ≤ w.heap.size + 1 := Nat.le_succ _
          refine bodyPost_ret (res_row_tmp rfl _ _ (w.heap.size + 1) 49 _ _ rfl K Tryz.underlying49 rfl (by kernel_rfl)) rfl ⟨rfl, ((((((((F6.out.drewN _).set (.inr hq) _).set (.inr hq) _).set (.inr hq) _).set (.inr hq) _).set (.inr hq) _).set (.inr hq) _).set (.inr hq) _).set (.inr hq) _⟩
      · rw [Bool.not_eq_true] at hx
        rw [hx] at C2 ⊢
        clear HB hx
        go_enter Tryz.func65, Tryz.ntmps65
        go_wp2_with (go_at_call 107; refine (C1.out _).mono ?_; rintro e w2 ⟨rfl, hf2⟩)
        have B0 := Lib.hid (A0.out.fr hf2 (by simp))
        have B1 := Lib.hid (A1.out.fr hf2 (by simp))
        have F2 := Lib.hid (F0.out.trans0 hf2)
        have c0 := B0.out.cell 0
        have c1 := B0.out.cell 1
        simp only [List.getElem?_toArray, List.getElem?_cons_zero, List.getElem?_cons_succ] at c0 c1
        clear hf2 A0 A1 F0
        go_region_held3 (fun w' => w'.cell? ⟨w.heap.size, 0, none⟩ = some (.int .u32 a) ∧ w'.cell? ⟨w.heap.size, 1, none⟩ = some (.int .u32 s)) (first | exact ⟨c0, c1⟩ | exact dd | go_keep) (first | (go_at_call 107; refine (C1.out _).mono ?_; rintro e w5 ⟨rfl, hf5⟩; have dd : w5.cell? ⟨w.heap.size, 0, none⟩ = some (.int .u32 a) ∧ w5.cell? ⟨w.heap.size, 1, none⟩ = some (.int .u32 s) := ⟨(hf5.cell (a := ⟨w.heap.size, 0, none⟩) (lt_of_cell c0) (by simp)).trans c0, (hf5.cell (a := ⟨w.heap.size, 1, none⟩) (lt_of_cell c1) (by simp)).trans c1⟩) | (go_at_call 108; refine (C2.out _).mono ?_; rintro e w6 ⟨rfl, nd, rfl⟩))
        all_goals
          have hf6 : Fr [] w2 w5 := hf5.hd rfl rfl rfl rfl
          have E1 := Lib.hid (B1.out.fr hf6 (by simp))
          have F6 := Lib.hid (F2.out.trans0 hf6)
          have e0 := E1.out.cell 0
          have e1 := E1.out.cell 1
          have e2 := E1.out.cell 2
          have e3 := E1.out.cell 3
          have e4 := E1.out.cell 4
          have e5 := E1.out.cell 5
          have e6 := E1.out.cell 6
          have e7 := E1.out.cell 7
          have f0 := E1.out.froz 0
          have f1 := E1.out.froz 1
          have f2 := E1.out.froz 2
          have f3 := E1.out.froz 3
          have f4 := E1.out.froz 4
          have f5 := E1.out.froz 5
          have f6 := E1.out.froz 6
          have f7 := E1.out.froz 7
          have dd2 : w5.cell? ⟨w.heap.size, 0, none⟩ = some (.int .u32 a) := (hf6.cell (a := ⟨w.heap.size, 0, none⟩) (lt_of_cell c0) (by simp)).trans c0
          simp only [List.getElem?_toArray, List.getElem?_cons_zero, List.getElem?_cons_succ] at e0 e1 e2 e3 e4 e5 e6 e7
          clear hf5 hf6 c0 c1
          go_wp2_with fail
          have K := ((((((((E1.out.drewN nd).set 0 (.int .u32 0)).set 1 (.int .u8 0)).set 2 (.int .u16 0)).set 3 (.int .u16 0)).set 4 (.int .u16 0)).set 5 (.int .u16 0)).set 6 (.int .u32 0)).set 7 (.bool false)
          simp only [List.setIfInBounds_toArray, List.set_cons_zero, List.set_cons_succ] at K
          have hq : w.heap.size ≤ w.heap.size + 1 := Nat.le_succ _
          refine bodyPost_ret (res_row_tmp rfl _ _ (w.heap.size + 1) 49 _ _ rfl K Tryz.underlying49 rfl (by kernel_rfl)) rfl ⟨rfl, ((((((((F6.out.drewN _).set (.inr hq) _).set (.inr hq) _).set (.inr hq) _).set (.inr hq) _).set (.inr hq) _).set (.inr hq) _).set (.inr hq) _).set (.inr hq) _⟩
    · have C1 := Lib.hid fun W => cend_any W a s ha hs
      have HB := Lib.hid (show mkB a s pm = false by unfold mkB; simp [hl])
      rw [HB.out]
      have hl2 : ¬ ((a : Int) + (s : Int)) ≤ 4294967296 := by omega
      have A1 := At.new (w.alloc (.cells #[.int .u32 a, .int .u32 s] 45)) 49 noC.cells
      rw [World.size_alloc] at A1
      have A1 := Lib.hid A1
      have F0 := Lib.hid (show Fr [] w ((w.alloc (.cells #[.int .u32 a, .int .u32 s] 45)).alloc (.cells noC.cells 49)) from (by repeat (first | exact Fr.refl _ _ | assumption | refine Fr.trans0 ?_ (by assumption) | refine Fr.drewN ?_ _ | refine Fr.alloc ?_ _ | refine Fr.drew ?_)))
      unfold noC Cp.cells at A1 F0
      dsimp only [Int.cast_ofNat_Int] at A1 F0
      clear HB
      go_enter Tryz.func65, Tryz.ntmps65
      go_wp2_with (go_at_call 107; refine (C1.out _).mono ?_; rintro e w2 ⟨rfl, hf2⟩; have B1 := Lib.hid (A1.out.fr hf2 (by simp)); have e0 := B1.out.cell 0; have e1 := B1.out.cell 1; have e2 := B1.out.cell 2; have e3 := B1.out.cell 3; have e4 := B1.out.cell 4; have e5 := B1.out.cell 5; have e6 := B1.out.cell 6; have e7 := B1.out.cell 7; have f0 := B1.out.froz 0; have f1 := B1.out.froz 1; have f2 := B1.out.froz 2; have f3 := B1.out.froz 3; have f4 := B1.out.froz 4; have f5 := B1.out.froz 5; have f6 := B1.out.froz 6; have f7 := B1.out.froz 7; simp only [List.getElem?_toArray, List.getElem?_cons_zero, List.getElem?_cons_succ] at e0 e1 e2 e3 e4 e5 e6 e7)
      have K := (((((((B1.out.set 0 (.int .u32 0)).set 1 (.int .u8 0)).set 2 (.int .u16 0)).set 3 (.int .u16 0)).set 4 (.int .u16 0)).set 5 (.int .u16 0)).set 6 (.int .u32 0)).set 7 (.bool false)
      simp only [List.setIfInBounds_toArray, List.set_cons_zero, List.set_cons_succ] at K
      have hq : w.heap.size ≤ w.heap.size + 1 := Nat.le_succ _
      have F2 := F0.out.trans0 hf2
      refine bodyPost_ret (res_row_tmp rfl _ _ (w.heap.size + 1) 49 _ _ rfl K Tryz.underlying49 rfl (by kernel_rfl)) rfl ⟨rfl, (((((((F2.set (.inr hq) _).set (.inr hq) _).set (.inr hq) _).set (.inr hq) _).set (.inr hq) _).set (.inr hq) _).set (.inr hq) _).set (.inr hq) _⟩
  · have HB := Lib.hid (show mkB a s pm = false by unfold mkB; simp [hp])
    rw [HB.out]
    have hp2 : ¬ ((pm : Int)) ≤ 255 := by omega
    have A1 := At.new (w.alloc (.cells #[.int .u32 a, .int .u32 s] 45)) 49 noC.cells
    rw [World.size_alloc] at A1
    have A1 := Lib.hid A1
    have F0 := Lib.hid (show Fr [] w ((w.alloc (.cells #[.int .u32 a, .int .u32 s] 45)).alloc (.cells noC.cells 49)) from (by repeat (first | exact Fr.refl _ _ | assumption | refine Fr.trans0 ?_ (by assumption) | refine Fr.drewN ?_ _ | refine Fr.alloc ?_ _ | refine Fr.drew ?_)))
    clear HB
    go_enter Tryz.func65, Tryz.ntmps65
    go_wp2_with fail
    exact bodyPost_ret (res_row_tmp rfl _ _ (w.heap.size + 1) 49 _ _ rfl A1.out Tryz.underlying49 rfl (by kernel_rfl)) rfl ⟨rfl, F0.out⟩
end Go.Proofs.YthjbnbimfpbccaaGreatDoor
/-
  Bytes as a list of numbers below 256: strings of them, cells of them; conversions between strings and slices of bytes; numbers as bytes. Condition: lengths that are ints.
-/

set_option linter.unusedVariables false
namespace Go.Proofs.YthjbnbimfpbccaaGreatDoor
open Go.ChangeShapes Go.WideShapes Go.ChangeAt Go.RowKit
theorem At.nw {w : World} {g : Nat} {t : TypeId} {cs : Array Value} (h : g = w.heap.size) : At (w.alloc (.cells cs t)) g t cs := by subst h; exact At.new w t cs
def BS (l : List Nat) : ByteArray := ⟨(l.map UInt8.ofNat).toArray⟩
def strV (l : List Nat) : Value := .string (BS l)
def bys (l : List Nat) : List Value := l.map fun (n : Nat) => .int .u8 (n : Int)
def Byt (l : List Nat) : Prop := ∀ n ∈ l, n < 256
theorem BS_size (l : List Nat) : (BS l).size = l.length := by unfold BS ByteArray.size; simp
theorem BS_append (a b : List Nat) : BS a ++ BS b = BS (a ++ b) := by
  unfold BS
  apply ByteArray.ext
  simp [ByteArray.data_append]
theorem BS_nil : BS [] = ⟨#[]⟩ := rfl
theorem bys_len (l : List Nat) : (bys l).length = l.length := by unfold bys; simp
theorem bys_append (a b : List Nat) : bys (a ++ b) = bys a ++ bys b := by unfold bys; simp
theorem bys_get (l : List Nat) (i : Nat) (n : Nat) (h : l[i]? = some n) : (bys l)[i]? = some (.int .u8 (n : Int)) := by unfold bys; rw [List.getElem?_map, h]; rfl
theorem bys_take (l : List Nat) (n : Nat) : (bys l).take n = bys (l.take n) := by unfold bys; rw [List.map_take]
theorem bys_drop (l : List Nat) (n : Nat) : (bys l).drop n = bys (l.drop n) := by unfold bys; rw [List.map_drop]
theorem bys_set (l : List Nat) (i n : Nat) : (bys l).set i (.int .u8 (n : Int)) = bys (l.set i n) := by unfold bys; rw [List.map_set]
theorem bys_one (l : List Nat) : ∀ v ∈ bys l, v.oneCell' = true := fun v hv => by
  unfold bys at hv
  obtain ⟨n, _, rfl⟩ := List.mem_map.1 hv
  rfl
theorem Byt.take {l : List Nat} (h : Byt l) (n : Nat) : Byt (l.take n) := fun x hx => h x (List.mem_of_mem_take hx)
theorem Byt.drop {l : List Nat} (h : Byt l) (n : Nat) : Byt (l.drop n) := fun x hx => h x (List.mem_of_mem_drop hx)
theorem Byt.append {a b : List Nat} (h : Byt a) (h2 : Byt b) : Byt (a ++ b) := fun x hx => (List.mem_append.1 hx).elim (h x) (h2 x)
theorem Byt.set {l : List Nat} (h : Byt l) (i n : Nat) (hn : n < 256) : Byt (l.set i n) := fun x hx => by
  rcases List.mem_or_eq_of_mem_set hx with h1 | rfl
  · exact h x h1
  · exact hn
theorem Byt.rep (n : Nat) : Byt (List.replicate n 0) := fun x hx => by rw [(List.mem_replicate.1 hx).2]; omega
theorem Byt.at_ {l : List Nat} (h : Byt l) (i n : Nat) (hi : l[i]? = some n) : n < 256 := h n (List.mem_of_getElem? hi)
/-- Each string is of bytes. -/
theorem str_of (s : ByteArray) : ∃ l, Byt l ∧ s = BS l := by
  refine ⟨s.data.toList.map UInt8.toNat, fun n hn => ?_, ?_⟩
  · obtain ⟨b, _, rfl⟩ := List.mem_map.1 hn
    exact b.toNat_lt
  · unfold BS
    apply ByteArray.ext
    have e : (UInt8.ofNat ∘ UInt8.toNat) = id := by funext b; simp
    simp [e]
theorem u8_back (n : Nat) (h : n < 256) : (UInt8.ofNat n).toNat = n := by simp; omega
theorem BS_inj {a b : List Nat} (ha : Byt a) (hb : Byt b) (h : BS a = BS b) : a = b := by
  have h1 : a.map UInt8.ofNat = b.map UInt8.ofNat := by
    have := congrArg (fun s : ByteArray => s.data.toList) h
    simpa [BS] using this
  have h2 := congrArg (List.map UInt8.toNat) h1
  rw [List.map_map, List.map_map] at h2
  have key : ∀ l, Byt l → l.map (UInt8.toNat ∘ UInt8.ofNat) = l := fun l hl => by
    conv => rhs; rw [← List.map_id l]
    exact List.map_congr_left fun n hn => u8_back n (hl n hn)
  rwa [key a ha, key b hb] at h2
/-- Where bytes lie, or there are none. -/
def BIn (w : World) (a : Option Addr) (l : List Nat) : Prop := l = [] ∨ ∃ g off, a = some ⟨g, off, none⟩ ∧ g < w.heap.size ∧ ∀ j v, (bys l)[j]? = some v → w.cell? ⟨g, off + j, none⟩ = some v
theorem BIn.fr {w w' : World} {a : Option Addr} {l : List Nat} (h : BIn w a l) (f : Fr [] w w') : BIn w' a l := by
  rcases h with h | ⟨g, off, e, hg, hc⟩
  · exact .inl h
  · exact .inr ⟨g, off, e, Nat.lt_of_lt_of_le hg f.size, fun j v hv => (f.cell (a := ⟨g, off + j, none⟩) hg (by simp)).trans (hc j v hv)⟩
section
variable {P : Program} {ops : Array Oper} {rest : List Oper} {o : Oper} {a : Act} {w : World} {Q : Exit → Act → World → Prop} {K : Act → World → Prop}
theorem run_str (src dst e : TypeId) (hs : P.underlying src = some (.slice e)) (he : P.underlying e = some (.int .u8)) (hd : P.underlying dst = some .string) (w : World) (x : Option Addr) (n cap : Nat) (l : List Nat) (hl : l.length = n) (hb : Byt l) (hi : BIn w x l) (hx : x = none → n = 0) :
    (convert src dst (.slice x n cap)).run P w = .ok (strV l) w := by
  have hd0 : (l.map UInt8.ofNat).length = n := by simpa using hl
  rcases x with _ | ad
  · obtain rfl := hx rfl
    obtain rfl := List.eq_nil_of_length_eq_zero hl
    rw [run_convert_bytes_string w src dst e none 0 cap hs he hd]
    simp [Conv.bytesToString, strV, BS]
    rfl
  · have key := run_convert_bytes_back (P := P) w src dst e ad cap (l.map UInt8.ofNat) hs he hd (fun j hj => by
      have hj2 : j < l.length := by simpa using hj
      rcases hi with h0 | ⟨g, off, e1, _, hc⟩
      · subst h0; simp at hj2
      · injection e1 with e1
        subst e1
        have := hc j _ (bys_get l j _ (List.getElem?_eq_getElem hj2))
        rw [Go.WideShapes.add_plain, this, List.getElem_map, u8_back _ (hb _ (List.getElem_mem hj2))])
    rw [hd0] at key
    exact key
theorem wp_str {src dst : TypeId} (hs' : ∃ e, P.underlying src = some (.slice e) ∧ P.underlying e = some (.int .u8)) (hd : P.underlying dst = some .string) (x : Operand) (ho : o.op = .convert src dst x) (ad : Option Addr) (n cap : Nat) (hx : a.eval x = .slice ad n cap) (l : List Nat) (hl : l.length = n) (hb : Byt l) (hi : BIn w ad l) (hn : ad = none → n = 0)
    (h : K (a.put o.dst (strV l)) w) : o.wp P a w K Q := by
  obtain ⟨e, hs, he⟩ := hs'
  unfold Oper.wp execOp
  simp only [ho, hx, Sem.run_bind, Sem.run_pure, Result.andThen_ok, run_str src dst e hs he hd w ad n cap l hl hb hi hn]
  exact h
theorem wpList_str {src dst : TypeId} (hgd : Region.wanted o (yielded ops a.tmps) = true) (hs' : ∃ e, P.underlying src = some (.slice e) ∧ P.underlying e = some (.int .u8)) (hd : P.underlying dst = some .string) (x : Operand) (ho : o.op = .convert src dst x) (ad : Option Addr) (n cap : Nat) (hx : a.eval x = .slice ad n cap) (l : List Nat) (hl : l.length = n) (hb : Byt l) (hi : BIn w ad l) (hn : ad = none → n = 0)
    (h : wpList P ops Q rest (a.put o.dst (strV l)) w) : wpList P ops Q (o :: rest) a w :=
  wpList_want hgd fun _ hK => wp_str hs' hd x ho ad n cap hx l hl hb hi hn (hK _ _ h)
theorem wp_bytes {src dst : TypeId} (hs : P.underlying src = some .string) (hd' : ∃ e, P.underlying dst = some (.slice e) ∧ P.underlying e = some (.int .u8)) (x : Operand) (ho : o.op = .convert src dst x) (l : List Nat) (hb : Byt l) (hlen : l.length ≤ 1000000) (hx : a.eval x = strV l)
    (h : ∀ w' g cap, w.heap.size ≤ g → l.length ≤ cap → cap ≤ 9223372036854775807 → (∀ j v, (bys l)[j]? = some v → w'.cell? ⟨g, j, none⟩ = some v) → Fr [] w w' → g < w'.heap.size → K (a.put o.dst (.slice (some ⟨g, 0, none⟩) l.length cap)) w') : o.wp P a w K Q := by
  obtain ⟨e, hd, he⟩ := hd'
  have hr := run_bytes_of_string (P := P) w src dst e (BS l) hs hd he
  unfold Oper.wp execOp
  simp only [ho, hx, strV, Sem.run_bind, Sem.run_pure, Result.andThen_ok, hr]
  have hge := grownCap_ge w (BS l).size 0 e
  rw [BS_size] at hge
  have hsz : (BS l).size = l.length := BS_size l
  have hf : Fr [] w (w.drew.alloc (.cells (bytesRow (BS l) (grownCap w (BS l).size 0 e)) e ((bytesRow (BS l) (grownCap w (BS l).size 0 e)).size, (bytesRow (BS l) (grownCap w (BS l).size 0 e)).size + 1))) := (Fr.refl _ _).drew.alloc _
  have hK := h _ w.heap.size (grownCap w (BS l).size 0 e) (Nat.le_refl _) (by rw [hsz]; exact hge) (grownCap_le_maxLen w _ 0 e (by rw [hsz]; unfold maxLen; omega)) (fun j v hv => by
    have hj : j < l.length := by have := (List.getElem?_eq_some_iff.1 hv).1; rwa [bys_len] at this
    have h1 := bytesRow_at (BS l) (grownCap w (BS l).size 0 e) j (by unfold BS; simpa using hj)
    rw [bys_get l j _ (List.getElem?_eq_getElem hj)] at hv
    injection hv with hv
    refine (World.cell?_alloc_mark w.drew _ _ _ j).trans ?_
    rw [h1, ← hv]
    congr 2
    unfold BS
    simp only [List.getElem_toArray, List.getElem_map, u8_back _ (hb _ (List.getElem_mem hj))]) hf (by simp)
  rw [← hsz] at hK
  exact hK
theorem wpList_bytes {src dst : TypeId} (hgd : Region.wanted o (yielded ops a.tmps) = true) (hs : P.underlying src = some .string) (hd' : ∃ e, P.underlying dst = some (.slice e) ∧ P.underlying e = some (.int .u8)) (x : Operand) (ho : o.op = .convert src dst x) (l : List Nat) (hb : Byt l) (hlen : l.length ≤ 1000000) (hx : a.eval x = strV l)
    (h : ∀ w' g cap, w.heap.size ≤ g → l.length ≤ cap → cap ≤ 9223372036854775807 → (∀ j v, (bys l)[j]? = some v → w'.cell? ⟨g, j, none⟩ = some v) → Fr [] w w' → g < w'.heap.size → wpList P ops Q rest (a.put o.dst (.slice (some ⟨g, 0, none⟩) l.length cap)) w') : wpList P ops Q (o :: rest) a w :=
  wpList_want hgd fun _ hK => wp_bytes hs hd' x ho l hb hlen hx (fun w' g cap h1 h2 h3 h4 h5 h6 => hK _ _ (h w' g cap h1 h2 h3 h4 h5 h6))
end
/-- A number's first bytes. -/
def le : Nat → Nat → List Nat
  | 0, _ => []
  | k + 1, v => v % 256 :: le k (v / 256)
theorem le_len : ∀ k v, (le k v).length = k
  | 0, _ => rfl
  | k + 1, v => by unfold le; rw [List.length_cons, le_len]
theorem le_byt : ∀ k v, Byt (le k v)
  | 0, _ => fun _ h => by cases h
  | k + 1, v => fun n h => by
    unfold le at h
    rcases List.mem_cons.1 h with rfl | h
    · omega
    · exact le_byt k _ n h
/-- The number that bytes are. -/
def unle : List Nat → Nat
  | [] => 0
  | b :: l => b + 256 * unle l
theorem unle_le : ∀ k v, unle (le k v) = v % 256 ^ k
  | 0, v => by simp [le, unle, Nat.mod_one]
  | k + 1, v => by
    unfold le unle
    rw [unle_le k, Nat.pow_succ, Nat.mul_comm (256 ^ k) 256, Nat.mod_mul]
theorem unle_lt : ∀ l, Byt l → unle l < 256 ^ l.length
  | [], _ => by simp [unle]
  | b :: l, h => by
    have h1 := unle_lt l (fun n hn => h n (List.mem_cons_of_mem _ hn))
    have h2 := h b (by simp)
    unfold unle
    rw [List.length_cons, Nat.pow_succ]
    omega
end Go.Proofs.YthjbnbimfpbccaaGreatDoor
/-
  Whether a capability's fields are what they may be. Condition: numbers in their types' ranges.
-/


set_option linter.unusedVariables false
namespace Go.Proofs.YthjbnbimfpbccaaGreatDoor
open Go.ChangeShapes Go.WideShapes Go.ChangeAt Go.RowKit
def flatP (ps : List (Nat × Nat)) : List Value := ps.flatMap fun p => [.int .u32 (p.1 : Nat), .int .u32 (p.2 : Nat)]
theorem flatP_get : ∀ (ps : List (Nat × Nat)) (j : Nat) (p : Nat × Nat), ps[j]? = some p → (flatP ps)[2 * j]? = some (.int .u32 (p.1 : Nat)) ∧ (flatP ps)[2 * j + 1]? = some (.int .u32 (p.2 : Nat))
  | [], j, p, h => by simp at h
  | d :: ps, 0, p, h => by simp at h; subst h; exact ⟨rfl, rfl⟩
  | d :: ps, j + 1, p, h => by
    have ih := flatP_get ps j p (by simpa using h)
    unfold flatP at ih ⊢
    rw [List.flatMap_cons, show 2 * (j + 1) = 2 + 2 * j by omega, show 2 + 2 * j + 1 = 2 + (2 * j + 1) by omega]
    exact ⟨by rw [List.getElem?_append_right (by simp)]; simpa using ih.1, by rw [List.getElem?_append_right (by simp)]; simpa using ih.2⟩
def belB (ps : List (Nat × Nat)) : Bool := ps.all fun p => decide (p.1 < p.2)
set_option maxHeartbeats 1000000 in
set_option maxRecDepth 100000 in
theorem below_any (w : World) (q : Nat) (ps : List (Nat × Nat)) (h : At w q 43 (flatP ps).toArray) (n : Nat) (hn : n = 2 * ps.length) (hl : n ≤ 1000) :
    Calls Tryz.prog 106 #[.slice (some ⟨q, 0, none⟩) n n] w fun r w' => r = .returned (.bool (belB ps)) ∧ Fr [] w w' := by
  have HA := Lib.hid h
  have HN := Lib.hid hn
  clear h hn
  go_enter Tryz.func106, Tryz.ntmps106
  go_wp2_with fail
  go_loopw [3] (fun x wr => ∃ i j : Nat, i = 2 * j ∧ i ≤ n ∧ x = .int .i64 i ∧ belB (ps.take j) = true ∧ Fr [] w wr) (fun x _ => n - (intOf x).toNat)
  case atStart => exact ⟨0, 0, rfl, by omega, rfl, by simp [belB], Fr.refl _ _⟩
  case round =>
    obtain ⟨i, j, hij, hi, rfl, hb, hf⟩ := hrel
    have hn := HN.out
    by_cases hin : i < n
    · obtain ⟨p, hp⟩ : ∃ p, ps[j]? = some p := ⟨_, List.getElem?_eq_getElem (by omega)⟩
      obtain ⟨g1, g2⟩ := flatP_get ps j p hp
      have A := HA.out.fr hf (by simp)
      have c1 := A.cell i
      have c2 := A.cell (i + 1)
      rw [List.getElem?_toArray] at c1 c2
      rw [hij] at c1 c2
      rw [g1] at c1
      rw [g2] at c2
      rw [← hij] at c1 c2
      have hlt : (i : Int) + 1 < (n : Int) := by omega
      have HP := Lib.hid hp
      have HB := Lib.hid hb
      have HF := Lib.hid hf
      have HT : Hid (belB (ps.take (j + 1)) = (decide (p.1 < p.2))) := Lib.hid (by
        unfold belB at hb ⊢
        rw [List.take_add_one, hp]
        simp only [Option.toList_some, List.all_append, hb, Bool.true_and, List.all_cons, List.all_nil, Bool.and_true])
      have HIJ := Lib.hid hij
      obtain ⟨x, hx⟩ : ∃ x, p.1 = x := ⟨_, rfl⟩
      obtain ⟨y, hy⟩ : ∃ y, p.2 = y := ⟨_, rfl⟩
      rw [hx] at c1
      rw [hy] at c2
      rw [hx, hy] at HT
      have hn2 : i + 1 < n := by omega
      clear hp hb hf A g1 g2 hn hij hx hy
      by_cases hxy : x < y
      · have hge : ¬ (x : Int) ≥ (y : Int) := by omega
        go_upto_region 4 with (fail)
        go_region
        all_goals
          go_wp2_with fail
          go_roundw
          case rel => exact ⟨i + 2, j + 1, by have := HIJ.out; omega, by omega, by go_num, by rw [HT.out]; simpa using hxy, HF.out.drew⟩
          case measure => simp [intOf]; omega
      · have hge : (x : Int) ≥ (y : Int) := by omega
        have hbf : Hid (belB ps = false) := Lib.hid (by
          cases hc : belB ps
          · rfl
          · exfalso
            have h1 : belB (ps.take (j + 1)) = true := by
              unfold belB at hc ⊢
              rw [List.all_eq_true] at hc ⊢
              exact fun p hp => hc p (List.mem_of_mem_take hp)
            rw [HT.out] at h1
            simp at h1
            omega)
        go_upto_region 4 with (fail)
        go_region
        all_goals
          go_wp2_with fail
          go_ret
          exact ⟨by rw [hbf.out]; rfl, HF.out.drew⟩
    · have hnl : ¬ (i : Int) + 1 < (n : Int) := by omega
      have HF := Lib.hid hf
      have hps : Hid (belB ps = true) := Lib.hid (by rw [← hb, List.take_of_length_le (by omega)])
      clear hb hf
      go_wp2_with fail
      go_ret
      exact ⟨by rw [hps.out]; rfl, HF.out⟩
def soundB (c : Cp) : Bool := belB [(c.e, 22), (c.b, 4096), (c.t, 4096), (c.pm, 256), (c.ty, 4096), (c.rs, 16777216)]
theorem soundB_iff (c : Cp) : soundB c = true ↔ c.e < 22 ∧ c.b < 4096 ∧ c.t < 4096 ∧ c.pm < 256 ∧ c.ty < 4096 ∧ c.rs < 16777216 := by
  unfold soundB belB
  simp
theorem sound_any (w : World) (c : Cp) (hc : c.Ok) : Calls Tryz.prog 64 #[.agg c.cells] w fun r w' => r = .returned (.bool (soundB c)) ∧ Fr [] w w' := by
  unfold soundB Cp.cells
  have C := Lib.hid fun W q (h : At W q 43 #[.int .u32 c.e, .int .u32 22, .int .u32 c.b, .int .u32 4096, .int .u32 c.t, .int .u32 4096, .int .u32 c.pm, .int .u32 256, .int .u32 c.ty, .int .u32 4096, .int .u32 c.rs, .int .u32 16777216]) => below_any W q [(c.e, 22), (c.b, 4096), (c.t, 4096), (c.pm, 256), (c.ty, 4096), (c.rs, 16777216)] (by simpa [flatP] using h) 12 rfl (by omega)
  obtain ⟨B, hB⟩ : ∃ B, belB [(c.e, 22), (c.b, 4096), (c.t, 4096), (c.pm, 256), (c.ty, 4096), (c.rs, 16777216)] = B := ⟨_, rfl⟩
  rw [hB] at C ⊢
  clear hB
  have h1 := hc.e
  have h2 := hc.b
  have h3 := hc.t
  have h4 := hc.pm
  have h5 := hc.ty
  have h6 := hc.rs
  go_enter Tryz.func64, Tryz.ntmps64
  go_wp2_with fail
  refine (C.out _ (w.heap.size + 1) (At.nw (by simp only [World.size_alloc]))).mono ?_
  rintro e w2 ⟨rfl, hf2⟩
  go_wp2_with fail
  go_ret
  exact ⟨rfl, (show Fr [] w _ from (by repeat (first | exact Fr.refl _ _ | assumption | refine Fr.trans0 ?_ (by assumption) | refine Fr.drewN ?_ _ | refine Fr.alloc ?_ _ | refine Fr.drew ?_))).trans0 hf2⟩
end Go.Proofs.YthjbnbimfpbccaaGreatDoor
