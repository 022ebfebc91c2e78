/-
  An arena: bytes and tags; what it tells, and what lays bytes. Condition: numbers in their types' ranges.
-/
import Derived.BigRegion
import Derived.Deep.OwnRows
import Derived.Maps.AppendAt
import Derived.WalkSpells
import Derived.Lib.SliceRun
import Derived.Test.YthjbnbimfpbccaaGreatDoorJ10





set_option linter.unusedVariables false
namespace Go.Proofs.YthjbnbimfpbccaaGreatDoor
open Go.ChangeShapes Go.WideShapes Go.ChangeAt Go.RowKit
/-- An arena at block ap: its map at p and g, its bytes bs in block bg. -/
def Ar (w : World) (ap p g bg cap : Nat) (bs : List Nat) (f : Nat → Bool) : Prop :=
  bs.length % 16 = 0 ∧ bs.length ≤ 262144 ∧ bs.length ≤ cap ∧ cap ≤ 9223372036854775807 ∧ Byt bs ∧
  At w ap 127 #[.pointer (some ⟨p, 0, none⟩), .slice (some ⟨bg, 0, none⟩) bs.length cap] ∧ Tg w p g (bs.length / 16) f ∧
  ∃ cs : Array Value, At w bg 5 cs ∧ bs.length ≤ cs.size ∧ cs.toList.take bs.length = bys bs
section
variable {w w' : World} {ap p g bg cap : Nat} {bs : List Nat} {f : Nat → Bool} {S : List Nat}
theorem At.diff {g g' : Nat} {t t' : TypeId} {cs cs' : Array Value} (h : At w g t cs) (h' : At w g' t' cs') (ht : t ≠ t') : g ≠ g' := by
  rintro rfl
  exact ht (At.inj h h').1
theorem Ar.fr (h : Ar w ap p g bg cap bs f) (hf : Fr S w w') (h1 : ap ∉ S) (h2 : p ∉ S) (h3 : g ∉ S) (h4 : bg ∉ S) : Ar w' ap p g bg cap bs f := by
  obtain ⟨a1, a2, a3, a4, a5, a6, a7, cs, a8, a9, a10⟩ := h
  exact ⟨a1, a2, a3, a4, a5, a6.fr hf h1, a7.fr hf h2 h3, cs, a8.fr hf h4, a9, a10⟩
theorem Ar.fr0 (h : Ar w ap p g bg cap bs f) (hf : Fr [] w w') : Ar w' ap p g bg cap bs f := h.fr hf (by simp) (by simp) (by simp) (by simp)
theorem Ar.top (h : Ar w ap p g bg cap bs f) : w.cell? ⟨ap, 0, none⟩ = some (.pointer (some ⟨p, 0, none⟩)) ∧ w.cell? ⟨ap, 1, none⟩ = some (.slice (some ⟨bg, 0, none⟩) bs.length cap) := by
  obtain ⟨a1, a2, a3, a4, a5, a6, _⟩ := h
  exact ⟨a6.cell 0, a6.cell 1⟩
theorem Ar.lt (h : Ar w ap p g bg cap bs f) : ap < w.heap.size ∧ p < w.heap.size ∧ g < w.heap.size ∧ bg < w.heap.size := by
  obtain ⟨a1, a2, a3, a4, a5, a6, a7, cs, a8, a9, a10⟩ := h
  exact ⟨a6.lt, a7.lt.1, a7.lt.2, a8.lt⟩
theorem Ar.ne (h : Ar w ap p g bg cap bs f) : ap ≠ bg ∧ p ≠ bg ∧ g ≠ bg ∧ ap ≠ g ∧ p ≠ g ∧ ap ≠ p := by
  obtain ⟨a1, a2, a3, a4, a5, a6, ⟨b1, b2, b3, c, cs', b4, b5, b6, b7⟩, cs, a8, a9, a10⟩ := h
  exact ⟨a6.diff a8 (by decide), b5.diff a8 (by decide), b6.diff a8 (by decide), a6.diff b6 (by decide), b1, a6.diff b5 (by decide)⟩
/-- The bytes from a place on. -/
theorem Ar.at_ (h : Ar w ap p g bg cap bs f) (k : Nat) (l : List Nat) (hl : l = (bs.drop k).take l.length) (j : Nat) (v : Value) (hv : (bys l)[j]? = some v) : w.cell? ⟨bg, k + j, none⟩ = some v := by
  obtain ⟨a1, a2, a3, a4, a5, a6, a7, cs, a8, a9, a10⟩ := h
  have hj : j < l.length := by have := (List.getElem?_eq_some_iff.1 hv).1; rwa [bys_len] at this
  rw [hl, ← bys_take, ← bys_drop, List.getElem?_take, if_pos hj, List.getElem?_drop, ← a10, List.getElem?_take] at hv
  by_cases hk : k + j < bs.length
  · rw [if_pos hk] at hv
    rw [a8.cell]
    simpa using hv
  · rw [if_neg hk] at hv
    simp at hv
end
/-! ### copy into a longer slice -/
section
variable {P : Program}
theorem run_copy_le (w : World) (dT sT ty elem : TypeId) (g o nd n dCap : Nat) (hnd : n ≤ nd) (a : Addr) (sCap : Nat) (cur : Array Value) (t : TypeId) (cs : List Value)
    (hu : P.underlying dT = some (.slice elem)) (hs : (P.info? elem).map (·.size) = some 1)
    (hg : w.heap[g]? = some (.cells cur t (0, 0))) (hn : cs.length = n)
    (hsrc : ∀ j v, cs[j]? = some v → w.cell? (a.add j) = some v) (hfit : o + cs.length ≤ cur.size) (h1 : ∀ v ∈ cs, v.oneCell' = true) :
    (Builtin.copy_ #[dT, sT] ty #[.slice (some ⟨g, o, none⟩) nd dCap, .slice (some a) n sCap]).run P w =
      .ok (goInt n) (w.setRow g (cur.toList.take o ++ cs ++ cur.toList.drop (o + cs.length)).toArray) := by
  have hl := run_loadCells_list (P := P) w a cs hsrc
  have hst := run_storeCells_at P g o t cs 0 cur w hg (by simpa using hfit) h1
  have hm : Nat.min n nd = n := Nat.min_eq_left hnd
  cases hq : P.info? elem with
  | none => simp [hq] at hs
  | some i =>
    have hi : i.size = 1 := by simpa [hq] using hs
    rw [hn] at hl hst
    simp [Builtin.copy_, run_underlying hu, Builtin.lenOf, Builtin.firstCells, sizeOf, typeInfo, hq, hi, hl, hst, hn, hm]
theorem run_copy_none (w : World) (dT sT ty elem : TypeId) (d : Option Addr) (nd dCap : Nat) (a : Option Addr) (sCap : Nat)
    (hu : P.underlying dT = some (.slice elem)) (hs : ((P.info? elem).map (·.size)).isSome = true) :
    (Builtin.copy_ #[dT, sT] ty #[.slice d nd dCap, .slice a 0 sCap]).run P w = .ok (goInt 0) w := by
  have hl : ∀ a : Addr, (loadCellsFrom a 0 0 #[]).run P w = .ok #[] w := fun a => by
    have := run_loadCells_list (P := P) w a [] (fun j v h => by simp at h)
    exact this
  cases hq : P.info? elem with
  | none => simp [hq] at hs
  | some i => cases d <;> cases a <;> simp [Builtin.copy_, run_underlying hu, Builtin.lenOf, Builtin.firstCells, sizeOf, typeInfo, hq, storeCells, loadCells, hl]
end
/-! ### what is there -/
theorem anone_no (w : World) (ap p g bg cap : Nat) (bs : List Nat) (f : Nat → Bool) (h : Ar w ap p g bg cap bs f) : Calls Tryz.prog 109 #[.pointer (some ⟨ap, 0, none⟩)] w fun r w' => r = .returned (.bool false) ∧ w = w' := by
  obtain ⟨c0, c1⟩ := h.top
  clear h
  go_enter Tryz.func109, Tryz.ntmps109
  go_wp2_with fail
  go_ret
  exact ⟨rfl, rfl⟩
theorem anone_nil (w : World) : Calls Tryz.prog 109 #[.pointer none] w fun r w' => r = .returned (.bool true) ∧ w = w' := by
  go_enter Tryz.func109, Tryz.ntmps109
  go_wp2_with fail
  go_ret
  exact ⟨rfl, rfl⟩
theorem asize_any (w : World) (ap p g bg cap : Nat) (bs : List Nat) (f : Nat → Bool) (h : Ar w ap p g bg cap bs f) : Calls Tryz.prog 66 #[.pointer (some ⟨ap, 0, none⟩)] w fun r w' => r = .returned (.int .i64 bs.length) ∧ w = w' := by
  have C := Lib.hid (anone_no w ap p g bg cap bs f h)
  obtain ⟨c0, c1⟩ := h.top
  clear h
  go_enter Tryz.func66, Tryz.ntmps66
  go_wp2_with fail
  refine (C.out).mono ?_
  rintro e w' ⟨rfl, rfl⟩
  go_wp2_with fail
  go_ret
  exact ⟨rfl, rfl⟩
def thB (N a : Nat) (n : Int) : Bool := decide (0 ≤ n) && (decide (n ≤ N) && decide ((a : Int) ≤ N - n))
theorem thB_nat (N a n : Nat) : thB N a n = decide (a + n ≤ N) := by
  unfold thB
  by_cases h : a + n ≤ N
  · rw [decide_eq_true h, decide_eq_true (by omega), decide_eq_true (by omega), decide_eq_true (by omega)]; rfl
  · rw [decide_eq_false h]
    by_cases h2 : (n : Int) ≤ N
    · rw [decide_eq_false (show ¬ (a : Int) ≤ N - n by omega), Bool.and_false, Bool.and_false]
    · rw [decide_eq_false h2, Bool.false_and, Bool.and_false]
theorem athere_any (w : World) (ap p g bg cap : Nat) (bs : List Nat) (f : Nat → Bool) (h : Ar w ap p g bg cap bs f) (a : Nat) (ha : a < 4294967296) (n : Int) (hn1 : -9223372036854775808 ≤ n) (hn2 : n ≤ 9223372036854775807) :
    Calls Tryz.prog 104 #[.pointer (some ⟨ap, 0, none⟩), .int .u32 a, .int .i64 n] w fun r w' => r = .returned (.bool (thB bs.length a n)) ∧ w = w' := by
  have C := Lib.hid (anone_no w ap p g bg cap bs f h)
  obtain ⟨c0, c1⟩ := h.top
  have hN := h.2.1
  obtain ⟨N, hNN⟩ : ∃ N, bs.length = N := ⟨_, rfl⟩
  rw [hNN] at c1 hN ⊢
  clear h hNN
  unfold thB
  by_cases h0 : 0 ≤ n
  · by_cases h1 : n ≤ N
    · by_cases h2 : (a : Int) ≤ N - n
      all_goals
        have d0 := decide_eq_true h0
        have d1 := decide_eq_true h1
        first | have d2 := decide_eq_false h2 | have d2 := decide_eq_true h2
        rw [d0, d1, d2]
        go_enter Tryz.func104, Tryz.ntmps104
        go_wp2_with fail
        refine (C.out).mono ?_
        rintro e w' ⟨rfl, rfl⟩
        go_wp2_with fail
        go_ret
        exact ⟨rfl, rfl⟩
    · have d0 := decide_eq_true h0
      have d1 := decide_eq_false h1
      rw [d0, d1, Bool.false_and, Bool.and_false]
      go_enter Tryz.func104, Tryz.ntmps104
      go_wp2_with fail
      refine (C.out).mono ?_
      rintro e w' ⟨rfl, rfl⟩
      go_wp2_with fail
      go_ret
      exact ⟨rfl, rfl⟩
  · have d0 := decide_eq_false h0
    rw [d0, Bool.false_and]
    go_enter Tryz.func104, Tryz.ntmps104
    go_wp2_with fail
    refine (C.out).mono ?_
    rintro e w' ⟨rfl, rfl⟩
    go_wp2_with fail
    go_ret
    exact ⟨rfl, rfl⟩
theorem athere_nil (w : World) (a n : Int) : Calls Tryz.prog 104 #[.pointer none, .int .u32 a, .int .i64 n] w fun r w' => r = .returned (.bool false) ∧ w = w' := by
  have C := Lib.hid (anone_nil w)
  go_enter Tryz.func104, Tryz.ntmps104
  go_wp2_with fail
  refine (C.out).mono ?_
  rintro e w' ⟨rfl, rfl⟩
  go_wp2_with fail
  go_ret
  exact ⟨rfl, rfl⟩
def whB (N a : Nat) : Bool := decide (a % 16 = 0) && decide (a + 16 ≤ N)
theorem awhole_any (w : World) (ap p g bg cap : Nat) (bs : List Nat) (f : Nat → Bool) (h : Ar w ap p g bg cap bs f) (a : Nat) (ha : a < 4294967296) :
    Calls Tryz.prog 60 #[.pointer (some ⟨ap, 0, none⟩), .int .u32 a] w fun r w' => r = .returned (.bool (whB bs.length a)) ∧ w = w' := by
  have C := Lib.hid (athere_any w ap p g bg cap bs f h a ha 16 (by omega) (by omega))
  unfold whB
  have e := thB_nat bs.length a 16
  rw [show (((16 : Nat) : Int)) = 16 from rfl] at e
  rw [e] at C
  obtain ⟨B, hB⟩ : ∃ B, decide (a + 16 ≤ bs.length) = B := ⟨_, rfl⟩
  rw [hB] at C ⊢
  clear h hB e
  by_cases h0 : a % 16 = 0
  · have d0 := decide_eq_true h0
    have hI : ((a : Int) % 16 == 0) = true := by simp; omega
    rw [d0, Bool.true_and]
    go_enter Tryz.func60, Tryz.ntmps60
    go_wp2_with fail
    refine (C.out).mono ?_
    rintro e w' ⟨rfl, rfl⟩
    go_wp2_with fail
    go_ret
    exact ⟨rfl, rfl⟩
  · have d0 := decide_eq_false h0
    have hI : ((a : Int) % 16 == 0) = false := by simp; omega
    rw [d0, Bool.false_and]
    go_enter Tryz.func60, Tryz.ntmps60
    go_wp2_with fail
    go_ret
    exact ⟨rfl, rfl⟩
theorem awhole_nil (w : World) (a : Nat) : Calls Tryz.prog 60 #[.pointer none, .int .u32 a] w fun r w' => r = .returned (.bool false) ∧ w = w' := by
  have C := Lib.hid fun W => athere_nil W a 16
  by_cases h0 : a % 16 = 0
  · have hI : ((a : Int) % 16 == 0) = true := by simp; omega
    go_enter Tryz.func60, Tryz.ntmps60
    go_wp2_with fail
    refine (C.out _).mono ?_
    rintro e w' ⟨rfl, rfl⟩
    go_wp2_with fail
    go_ret
    exact ⟨rfl, rfl⟩
  · have hI : ((a : Int) % 16 == 0) = false := by simp; omega
    go_enter Tryz.func60, Tryz.ntmps60
    go_wp2_with fail
    go_ret
    exact ⟨rfl, rfl⟩
end Go.Proofs.YthjbnbimfpbccaaGreatDoor
/-
  What an arena's functions do that lay bytes or tell them. Condition: numbers in their types' ranges; at most a million bytes at once.
-/





set_option linter.unusedVariables false
namespace Go.Proofs.YthjbnbimfpbccaaGreatDoor
open Go.ChangeShapes Go.WideShapes Go.ChangeAt Go.RowKit
def putL (bs : List Nat) (a : Nat) (l : List Nat) : List Nat := bs.take a ++ l ++ bs.drop (a + l.length)
def putF (f : Nat → Bool) (a n : Nat) : Nat → Bool := clr f (a / 16) ((a + n - 1) / 16 + 1)
theorem putL_len (bs : List Nat) (a : Nat) (l : List Nat) (h : a + l.length ≤ bs.length) : (putL bs a l).length = bs.length := by unfold putL; simp; omega
theorem putL_byt {bs : List Nat} {a : Nat} {l : List Nat} (h : Byt bs) (hl : Byt l) : Byt (putL bs a l) := ((h.take _).append hl).append (h.drop _)
theorem putL_cells (cs : List Value) (bs l : List Nat) (a : Nat) (h : a + l.length ≤ bs.length) (hc : cs.take bs.length = bys bs) : (cs.take a ++ bys l ++ cs.drop (a + (bys l).length)).take bs.length = bys (putL bs a l) := by
  have e : cs = bys bs ++ cs.drop bs.length := by rw [← hc, List.take_append_drop]
  rw [bys_len]
  have h1 : cs.take a = bys (bs.take a) := by
    rw [e, List.take_append_of_le_length (by rw [bys_len]; omega), bys_take]
  have h2 : cs.drop (a + l.length) = bys (bs.drop (a + l.length)) ++ cs.drop bs.length := by
    conv => lhs; rw [e]
    rw [List.drop_append_of_le_length (by rw [bys_len]; omega), bys_drop]
  rw [h1, h2, ← List.append_assoc, ← bys_append, ← bys_append, List.take_append_of_le_length (by rw [bys_len]; simp; omega), List.take_of_length_le (by rw [bys_len]; simp; omega)]
  rfl
theorem putL_nil (bs : List Nat) (a : Nat) : putL bs a [] = bs := by unfold putL; simp
set_option maxHeartbeats 1000000 in
set_option maxRecDepth 100000 in
theorem aput_yes (w : World) (ap p g bg cap : Nat) (bs : List Nat) (f : Nat → Bool) (h : Ar w ap p g bg cap bs f) (a : Nat) (ha : a < 4294967296) (la : Addr) (n lc : Nat) (l : List Nat) (hl : l.length = n) (hb : Byt l)
    (hin : ∀ j v, (bys l)[j]? = some v → w.cell? (la.add j) = some v) (hn0 : 0 < n) (hfit : a + n ≤ bs.length) :
    Calls Tryz.prog 88 #[.pointer (some ⟨ap, 0, none⟩), .int .u32 a, .slice (some la) n lc] w fun r w' => r = .returned (.bool true) ∧ Ar w' ap p g bg cap (putL bs a l) (putF f a n) ∧ Fr [g, bg] w w' := by
  have C := Lib.hid (show Calls Tryz.prog 104 #[.pointer (some ⟨ap, 0, none⟩), .int .u32 a, .int .i64 n] w fun r w' => r = .returned (.bool true) ∧ w = w' by
    have := athere_any w ap p g bg cap bs f h a ha n (by omega) (by have := h.2.1; omega)
    rw [thB_nat, decide_eq_true hfit] at this
    exact this)
  obtain ⟨c0, c1⟩ := h.top
  have hne := h.ne
  have hlt := h.lt
  obtain ⟨a1, a2, a3, a4, a5, a6, a7, cs, a8, a9, a10⟩ := h
  have hr := run_copy_le (P := Tryz.prog) w 22 22 3 5 bg a (bs.length - a) n (cap - a) (by omega) la lc cs 5 (bys l) Tryz.underlying22 (by kernel_rfl) a8 (by rw [bys_len]; exact hl) hin (by rw [bys_len]; omega) (bys_one l)
  have A2 := setRow_heap w bg _ (cs.toList.take a ++ bys l ++ cs.toList.drop (a + (bys l).length)).toArray 5 (0, 0) a8
  have F2 := Fr.setRow w bg (cs.toList.take a ++ bys l ++ cs.toList.drop (a + (bys l).length)).toArray
  have hcells := putL_cells cs.toList bs l a (by omega) a10
  obtain ⟨D, hD⟩ : ∃ D, (cs.toList.take a ++ bys l ++ cs.toList.drop (a + (bys l).length)) = D := ⟨_, rfl⟩
  have hDl : bs.length ≤ D.length := by
    rw [← hD]; simp [bys_len]; omega
  rw [hD] at hr A2 F2 hcells
  obtain ⟨w2, hw2⟩ : ∃ W, w.setRow bg D.toArray = W := ⟨_, rfl⟩
  rw [hw2] at hr A2 F2
  have T2 := a7.fr F2 (by simp; omega) (by simp; omega)
  have A6 := a6.fr F2 (by simp; omega)
  have hA : (max ((a / 16 : Nat) : Int) 0).toNat = a / 16 := by omega
  have hB : (min (((a + n - 1) / 16 + 1 : Nat) : Int) ((bs.length / 16 : Nat) : Int)).toNat = (a + n - 1) / 16 + 1 := by omega
  have CC := clear_any w2 p g (bs.length / 16) f T2 ((a / 16 : Nat) : Int) (((a + n - 1) / 16 + 1 : Nat) : Int)
  rw [hA, hB] at CC
  rw [show (((a + n - 1) / 16 + 1 : Nat) : Int) = ((a : Int) + (n : Int) - 1) / 16 + 1 by omega, show ((a / 16 : Nat) : Int) = (a : Int) / 16 by omega] at CC
  have C2 := Lib.hid CC
  have HR := Lib.hid hr
  have HA2 := Lib.hid (show At w2 bg 5 D.toArray from A2)
  have HA6 := Lib.hid A6
  have HC := Lib.hid hcells
  have HF2 := Lib.hid F2
  have e0 := (F2.cell (a := ⟨ap, 0, none⟩) hlt.1 (by simp; omega)).trans c0
  have hL := putL_len bs a l (by omega)
  have HPB := Lib.hid (putL_byt (a := a) a5 hb)
  have HL := Lib.hid hL
  have hac : a < cap := by omega
  obtain ⟨N, hN⟩ : ∃ N, bs.length = N := ⟨_, rfl⟩
  rw [hN] at hfit a1 a2 a3 c1 C2 HR HC HL HA6 hDl
  clear hcells hr A2 A6 F2 T2 CC hA hB hD hw2 a5 a6 a7 a8 a9 a10 hin hb hl hL
  go_enter Tryz.func88, Tryz.ntmps88
  go_wp2_with fail
  refine (C.out).mono ?_
  rintro e w' ⟨rfl, rfl⟩
  go_wp2_with (refine wpList_copy_run rfl (.tmp 18) (.tmp 19) 22 22 rfl _ _ rfl rfl HR.out ?_)
  refine (C2.out).mono ?_
  rintro e w3 ⟨rfl, h3, hf3⟩
  have hne' := hne
  go_wp2_with fail
  go_ret
  obtain ⟨n1, n2, n3, n4, n5, n6⟩ := hne
  refine ⟨rfl, ⟨by rw [HL.out]; exact a1, by rw [HL.out]; exact a2, by rw [HL.out]; exact a3, a4, HPB.out, ?_, ?_, D.toArray, ?_, ?_, ?_⟩, (HF2.out.more (T := [g, bg]) (by simp)).trans hf3 (by simp)⟩
  · rw [HL.out]; exact HA6.out.fr hf3 (by simp; omega)
  · rw [HL.out]; exact h3
  · exact HA2.out.fr hf3 (by simp; omega)
  · rw [HL.out]; simpa using hDl
  · rw [HL.out]; exact HC.out
theorem aput_no (w : World) (ap p g bg cap : Nat) (bs : List Nat) (f : Nat → Bool) (h : Ar w ap p g bg cap bs f) (a : Nat) (ha : a < 4294967296) (la : Option Addr) (n lc : Nat) (hn : n ≤ 1000000) (hfit : ¬ a + n ≤ bs.length) :
    Calls Tryz.prog 88 #[.pointer (some ⟨ap, 0, none⟩), .int .u32 a, .slice la n lc] w fun r w' => r = .returned (.bool false) ∧ w = w' := by
  have C := Lib.hid (show Calls Tryz.prog 104 #[.pointer (some ⟨ap, 0, none⟩), .int .u32 a, .int .i64 n] w fun r w' => r = .returned (.bool false) ∧ w = w' by
    have := athere_any w ap p g bg cap bs f h a ha n (by omega) (by omega)
    rw [thB_nat, decide_eq_false hfit] at this
    exact this)
  clear h hfit
  go_enter Tryz.func88, Tryz.ntmps88
  go_wp2_with fail
  refine (C.out).mono ?_
  rintro e w' ⟨rfl, rfl⟩
  go_wp2_with fail
  go_ret
  exact ⟨rfl, rfl⟩
set_option maxRecDepth 100000 in
theorem aput_zero (w : World) (ap p g bg cap : Nat) (bs : List Nat) (f : Nat → Bool) (h : Ar w ap p g bg cap bs f) (a : Nat) (ha : a < 4294967296) (la : Option Addr) (lc : Nat) (hfit : a ≤ bs.length) :
    Calls Tryz.prog 88 #[.pointer (some ⟨ap, 0, none⟩), .int .u32 a, .slice la 0 lc] w fun r w' => r = .returned (.bool true) ∧ w = w' := by
  have C := Lib.hid (show Calls Tryz.prog 104 #[.pointer (some ⟨ap, 0, none⟩), .int .u32 a, .int .i64 0] w fun r w' => r = .returned (.bool true) ∧ w = w' by
    have := athere_any w ap p g bg cap bs f h a ha ((0 : Nat) : Int) (by omega) (by omega)
    rw [thB_nat, decide_eq_true (by omega)] at this
    exact this)
  obtain ⟨c0, c1⟩ := h.top
  have hcap := h.2.2.1
  have hr : ∀ d nd dc, (Builtin.copy_ #[22, 22] 3 #[.slice d nd dc, .slice la 0 lc]).run Tryz.prog w = .ok (goInt 0) w := fun d nd dc => run_copy_none w _ _ _ 5 d nd dc la lc Tryz.underlying22 (by kernel_rfl)
  have HR := Lib.hid hr
  obtain ⟨N, hN⟩ : ∃ N, bs.length = N := ⟨_, rfl⟩
  rw [hN] at c1 hcap hfit
  clear h hr hN
  by_cases hac : a < cap
  all_goals
    go_enter Tryz.func88, Tryz.ntmps88
    go_wp2_with fail
    refine (C.out).mono ?_
    rintro e w' ⟨rfl, rfl⟩
    go_wp2_with (refine wpList_copy_run rfl (.tmp 18) (.tmp 19) 22 22 rfl _ _ rfl rfl (HR.out _ _ _) ?_)
    go_ret
    exact ⟨rfl, rfl⟩
/-! ### all ways of laying bytes -/
def wrL (bs : List Nat) (a : Nat) (l : List Nat) : List Nat := if a + l.length ≤ bs.length then putL bs a l else bs
def wrF (bs : List Nat) (f : Nat → Bool) (a : Nat) (l : List Nat) : Nat → Bool := if a + l.length ≤ bs.length ∧ 0 < l.length then putF f a l.length else f
theorem wrL_len (bs : List Nat) (a : Nat) (l : List Nat) : (wrL bs a l).length = bs.length := by
  unfold wrL
  split
  · exact putL_len bs a l (by assumption)
  · rfl
theorem aput_any (w : World) (ap p g bg cap : Nat) (bs : List Nat) (f : Nat → Bool) (h : Ar w ap p g bg cap bs f) (a : Nat) (ha : a < 4294967296) (la : Option Addr) (n lc : Nat) (l : List Nat) (hl : l.length = n) (hn : n ≤ 1000000) (hb : Byt l) (hin : BIn w la l) :
    Calls Tryz.prog 88 #[.pointer (some ⟨ap, 0, none⟩), .int .u32 a, .slice la n lc] w fun r w' => r = .returned (.bool (decide (a + n ≤ bs.length))) ∧ Ar w' ap p g bg cap (wrL bs a l) (wrF bs f a l) ∧ Fr [g, bg] w w' := by
  unfold wrL wrF
  rw [hl]
  by_cases hfit : a + n ≤ bs.length
  · rw [if_pos hfit, decide_eq_true hfit]
    rcases Nat.eq_zero_or_pos n with h0 | h0
    · subst h0
      obtain rfl := List.eq_nil_of_length_eq_zero hl
      rw [if_neg (by simp), putL_nil]
      exact (aput_zero w ap p g bg cap bs f h a ha la lc (by omega)).mono fun e w' ⟨h1, h2⟩ => ⟨h1, h2 ▸ h, h2 ▸ Fr.refl _ _⟩
    · rw [if_pos ⟨hfit, h0⟩]
      rcases hin with h1 | ⟨b, off, rfl, hg, hc⟩
      · subst h1; simp at hl; omega
      · exact aput_yes w ap p g bg cap bs f h a ha _ n lc l hl hb (fun j v hv => by rw [Go.WideShapes.add_plain]; exact hc j v hv) h0 hfit
  · rw [if_neg hfit, if_neg (fun h => hfit h.1), decide_eq_false hfit]
    exact (aput_no w ap p g bg cap bs f h a ha la n lc hn hfit).mono fun e w' ⟨h1, h2⟩ => ⟨h1, h2 ▸ h, h2 ▸ Fr.refl _ _⟩
theorem aput_nil (w : World) (a n : Nat) (la : Option Addr) (lc : Nat) : Calls Tryz.prog 88 #[.pointer none, .int .u32 a, .slice la n lc] w fun r w' => r = .returned (.bool false) ∧ w = w' := by
  have C := Lib.hid (athere_nil w a n)
  go_enter Tryz.func88, Tryz.ntmps88
  go_wp2_with fail
  refine (C.out).mono ?_
  rintro e w' ⟨rfl, rfl⟩
  go_wp2_with fail
  go_ret
  exact ⟨rfl, rfl⟩
theorem awrite_any (w : World) (ap p g bg cap : Nat) (bs : List Nat) (f : Nat → Bool) (h : Ar w ap p g bg cap bs f) (a : Nat) (ha : a < 4294967296) (l : List Nat) (hn : l.length ≤ 1000000) (hb : Byt l) :
    Calls Tryz.prog 61 #[.pointer (some ⟨ap, 0, none⟩), .int .u32 a, strV l] w fun r w' => r = .returned (.bool (decide (a + l.length ≤ bs.length))) ∧ Ar w' ap p g bg cap (wrL bs a l) (wrF bs f a l) ∧ Fr [g, bg] w w' := by
  have C := Lib.hid fun W hW la (hf : BIn W la l) lc => aput_any W ap p g bg cap bs f (h.fr0 hW) a ha la l.length lc l rfl hn hb hf
  have HB := Lib.hid hb
  have HL := Lib.hid hn
  obtain ⟨s, hs⟩ : ∃ s, strV l = s := ⟨_, rfl⟩
  have HS := Lib.hid hs
  rw [hs]
  clear h hb hn hs
  go_enter Tryz.func61, Tryz.ntmps61
  go_wp2_with (refine wpList_bytes rfl Tryz.underlying9 ⟨5, Tryz.underlying22, Tryz.underlying5⟩ (.tmp 9) rfl l HB.out HL.out HS.out.symm ?_; intro w2 gl lc hgl hlc hlm hc hf hgw)
  have C2 := Lib.hid (C.out w2 hf _ (.inr ⟨gl, 0, rfl, hgw, fun j v hv => by rw [Nat.zero_add]; exact hc j v hv⟩) lc)
  have HF := Lib.hid hf
  clear hc hf C
  refine (C2.out).mono ?_
  rintro e w3 ⟨rfl, h3, hf3⟩
  have H3 := Lib.hid h3
  have HF3 := Lib.hid hf3
  clear h3 hf3 C2
  go_wp2_with fail
  go_ret
  exact ⟨rfl, H3.out, (HF.out.more (by simp)).trans HF3.out (by simp)⟩
theorem awrite_nil (w : World) (a : Nat) (l : List Nat) (hn : l.length ≤ 1000000) (hb : Byt l) : Calls Tryz.prog 61 #[.pointer none, .int .u32 a, strV l] w fun r w' => r = .returned (.bool false) ∧ Fr [] w w' := by
  have C := Lib.hid fun W la lc => aput_nil W a l.length la lc
  have HB := Lib.hid hb
  have HL := Lib.hid hn
  obtain ⟨s, hs⟩ : ∃ s, strV l = s := ⟨_, rfl⟩
  have HS := Lib.hid hs
  rw [hs]
  clear hb hn hs
  go_enter Tryz.func61, Tryz.ntmps61
  go_wp2_with (refine wpList_bytes rfl Tryz.underlying9 ⟨5, Tryz.underlying22, Tryz.underlying5⟩ (.tmp 9) rfl l HB.out HL.out HS.out.symm ?_; intro w2 gl lc hgl hlc hlm hc hf hgw)
  refine (C.out _ _ _).mono ?_
  rintro e w3 ⟨rfl, rfl⟩
  go_wp2_with fail
  go_ret
  exact ⟨rfl, hf⟩
/-! ### numbers laid -/
theorem oput_no (w : World) (s : Value) (k v : Int) (h : k ≠ 1 ∧ k ≠ 2 ∧ k ≠ 4) : Calls Tryz.prog 87 #[s, .int .i64 k, .int .u32 v] w fun r w' => r = .returned s ∧ w = w' := by
  have C := Lib.hid fun W => right_no W k h.1 h.2.1 h.2.2
  clear h
  go_enter Tryz.func87, Tryz.ntmps87
  go_wp2_with fail
  refine (C.out _).mono ?_
  rintro e w' ⟨rfl, rfl⟩
  go_wp2_with fail
  go_ret
  exact ⟨rfl, rfl⟩
def widB (k : Int) : Bool := decide (k = 1 ∨ k = 2 ∨ k = 4)
theorem astore_no (w : World) (x : Value) (a v k : Int) (h : k ≠ 1 ∧ k ≠ 2 ∧ k ≠ 4) : Calls Tryz.prog 41 #[x, .int .u32 a, .int .i64 k, .int .u32 v] w fun r w' => r = .returned (.bool false) ∧ w = w' := by
  have C := Lib.hid fun W => oput_no W (.string ⟨#[]⟩) k v h
  clear h
  go_enter Tryz.func41, Tryz.ntmps41
  go_wp2_with fail
  refine (C.out _).mono ?_
  rintro e w' ⟨rfl, rfl⟩
  go_wp2_with fail
  go_ret
  exact ⟨rfl, rfl⟩
theorem loop_ne (s : ByteArray) : ∀ (n i : Nat) (r : List UInt8), s.size - i = n → r ≠ [] → ByteArray.toList.loop s i r ≠ []
  | 0, i, r, hn, hr => by
    unfold ByteArray.toList.loop
    rw [if_neg (by omega)]
    simpa using hr
  | n + 1, i, r, hn, hr => by
    unfold ByteArray.toList.loop
    rw [if_pos (by omega)]
    exact loop_ne s n (i + 1) _ (by omega) (by simp)
theorem str_ne (s : ByteArray) (h : s.size ≠ 0) : s.toList.isEmpty = false := by
  have : s.toList ≠ [] := by
    unfold ByteArray.toList ByteArray.toList.loop
    rw [if_pos (by omega)]
    exact loop_ne s _ 1 _ rfl (by simp)
  simpa using this
set_option maxRecDepth 100000 in
theorem astore_any (w : World) (ap p g bg cap : Nat) (bs : List Nat) (f : Nat → Bool) (h : Ar w ap p g bg cap bs f) (a : Nat) (ha : a < 4294967296) (k v : Nat) (hk : k = 1 ∨ k = 2 ∨ k = 4) (hv : v < 4294967296) :
    Calls Tryz.prog 41 #[.pointer (some ⟨ap, 0, none⟩), .int .u32 a, .int .i64 k, .int .u32 v] w fun r w' => r = .returned (.bool (decide (a + k ≤ bs.length))) ∧ Ar w' ap p g bg cap (wrL bs a (le k v)) (wrF bs f a (le k v)) ∧ Fr [g, bg] w w' := by
  have C1 := Lib.hid fun W => (show Calls Tryz.prog 87 #[.string ⟨#[]⟩, .int .i64 k, .int .u32 v] W fun r w' => r = .returned (strV (le k v)) ∧ Fr [] W w' from oput_any W [] (fun _ h => by cases h) (by simp) k v hk hv)
  have C := Lib.hid fun W hW la (hf : BIn W la (le k v)) lc => aput_any W ap p g bg cap bs f (h.fr0 hW) a ha la k lc (le k v) (le_len k v) (by omega) (le_byt k v) hf
  have HB := Lib.hid (le_byt k v)
  have HL := Lib.hid (show (le k v).length ≤ 1000000 by rw [le_len]; omega)
  have HK := Lib.hid (le_len k v)
  have hne : (BS (le k v)).size ≠ 0 := by rw [BS_size, le_len]; omega
  obtain ⟨s, hs⟩ : ∃ s, strV (le k v) = s := ⟨_, rfl⟩
  have HS := Lib.hid hs
  rw [hs] at C1
  obtain ⟨S, hS⟩ : ∃ S, BS (le k v) = S := ⟨_, rfl⟩
  have hsS : s = .string S := by rw [← hs, ← hS]; rfl
  rw [hS] at hne
  subst hsS
  have hemp := str_ne S hne
  clear h hs hS hk hv
  go_enter Tryz.func41, Tryz.ntmps41
  go_wp2_with fail
  refine (C1.out _).mono ?_
  rintro e w1 ⟨rfl, hf1⟩
  have F1 := Lib.hid hf1
  clear hf1
  go_wp2_with (refine wpList_bytes rfl Tryz.underlying9 ⟨5, Tryz.underlying22, Tryz.underlying5⟩ (.tmp 17) rfl (le k v) HB.out HL.out HS.out.symm ?_; intro w2 gl lc hgl hlc hlm hc hf hgw)
  have F2 := Lib.hid (F1.out.trans0 hf)
  have C2 := C.out w2 F2.out _ (.inr ⟨gl, 0, rfl, hgw, fun j v hv => by rw [Nat.zero_add]; exact hc j v hv⟩) lc
  rw [HK.out]
  clear hc hf C
  refine C2.mono ?_
  rintro e w3 ⟨rfl, h3, hf3⟩
  have H3 := Lib.hid h3
  have HF3 := Lib.hid hf3
  clear h3 hf3 C2
  go_wp2_with fail
  go_ret
  exact ⟨rfl, H3.out, (F2.out.more (by simp)).trans HF3.out (by simp)⟩
end Go.Proofs.YthjbnbimfpbccaaGreatDoor
/-
  What an arena's functions tell. Condition: numbers in their types' ranges.
-/





set_option linter.unusedVariables false
namespace Go.Proofs.YthjbnbimfpbccaaGreatDoor
open Go.ChangeShapes Go.WideShapes Go.ChangeAt Go.RowKit
theorem sub_of (bs : List Nat) (a n : Nat) (h : a + n ≤ bs.length) : ((bs.drop a).take n).length = n := by rw [List.length_take, List.length_drop]; omega
end Go.Proofs.YthjbnbimfpbccaaGreatDoor
/-
  Arguments that came in: structs and arrays laid flat, down to numbers and truths; slices of such. No condition.
-/

set_option linter.unusedVariables false
namespace Go.Proofs.YthjbnbimfpbccaaGreatDoor
open Go.ChangeShapes Go.WideShapes Go.ChangeAt Go.RowKit
inductive Leaf where
  | i (k : IntKind)
  | b
  | s
def Leaf.ok : Leaf → Value → Prop
  | .i k, v => ∃ z, v = .int k z ∧ (Lit.int k z).wf = true
  | .b, v => ∃ x, v = .bool x
  | .s, v => ∃ x : ByteArray, v = .string x ∧ x.size ≤ maxLen
structure Fits (ls : List Leaf) (cs : List Value) : Prop where
  len : cs.length = ls.length
  at_ : ∀ (j : Nat) (l : Leaf), ls[j]? = some l → ∃ v, cs[j]? = some v ∧ l.ok v
theorem Fits.cons {l : Leaf} {ls : List Leaf} {cs : List Value} (h : Fits (l :: ls) cs) : ∃ v cs', cs = v :: cs' ∧ l.ok v ∧ Fits ls cs' := by
  obtain ⟨h1, h2⟩ := h
  match cs, h1 with
  | v :: cs', h1 =>
    obtain ⟨u, hu, hok⟩ := h2 0 l rfl
    simp at hu
    subst hu
    exact ⟨_, cs', rfl, hok, by simpa using h1, fun j l' hj => h2 (j + 1) l' hj⟩
theorem Fits.nil {cs : List Value} (h : Fits [] cs) : cs = [] := List.length_eq_zero_iff.1 h.len
def join : Nat → List (Nat × List Leaf) → Option (List Leaf)
  | _, [] => some []
  | off, (o, l) :: r => if o = off then (join (off + l.length) r).map (l ++ ·) else none
theorem join_at : ∀ (fl : List (Nat × List Leaf)) (off : Nat) (tot : List Leaf), join off fl = some tot → ∀ (j : Nat) (x : Leaf), tot[j]? = some x → ∃ (i o : Nat) (l : List Leaf), fl[i]? = some (o, l) ∧ o ≤ off + j ∧ l[off + j - o]? = some x
  | [], off, tot, h, j, x, hj => by simp [join] at h; subst h; simp at hj
  | (o, l) :: r, off, tot, h, j, x, hj => by
    unfold join at h
    split at h
    · rename_i ho
      subst ho
      simp only [Option.map_eq_some_iff] at h
      obtain ⟨t, ht, rfl⟩ := h
      by_cases hjl : j < l.length
      · rw [List.getElem?_append_left hjl] at hj
        exact ⟨0, o, l, rfl, by omega, by rw [show o + j - o = j by omega]; exact hj⟩
      · rw [List.getElem?_append_right (by omega)] at hj
        obtain ⟨i, o', l', h1, h2, h3⟩ := join_at r (o + l.length) t ht (j - l.length) x hj
        exact ⟨i + 1, o', l', h1, by omega, by rw [show o + j - o' = o + l.length + (j - l.length) - o' by omega]; exact h3⟩
    · cases h
/-- A type, laid flat. -/
def flat (P : Program) : Nat → TypeId → Option (List Leaf)
  | 0, _ => none
  | n + 1, t =>
    match P.underlying t with
    | some .bool => some [.b]
    | some (.int k) => some [.i k]
    | some .string => some [.s]
    | some (.struct fs) => (fs.toList.mapM fun f => (flat P n f.type).bind fun l => if l.length = P.cellsOf f.type then some (f.offset, l) else none).bind fun fl => (join 0 fl).bind fun tot => if tot.length = P.cellsOf t then some tot else none
    | some (.array m e) => (flat P n e).bind fun l => if l.length = P.cellsOf e ∧ m * l.length = P.cellsOf t then some (List.replicate m l).flatten else none
    | _ => none
theorem flatten_at : ∀ (m : Nat) (l : List Leaf) (j : Nat) (x : Leaf), (List.replicate m l).flatten[j]? = some x → ∃ i, i < m ∧ i * l.length ≤ j ∧ l[j - i * l.length]? = some x
  | 0, l, j, x, h => by simp at h
  | m + 1, l, j, x, h => by
    rw [List.replicate_succ, List.flatten_cons] at h
    by_cases hjl : j < l.length
    · rw [List.getElem?_append_left hjl] at h
      exact ⟨0, by omega, by omega, by simpa using h⟩
    · rw [List.getElem?_append_right (by omega)] at h
      obtain ⟨i, h1, h2, h3⟩ := flatten_at m l (j - l.length) x h
      refine ⟨i + 1, by omega, by rw [Nat.add_mul]; omega, ?_⟩
      rw [Nat.add_mul, show j - (i * l.length + 1 * l.length) = j - l.length - i * l.length by omega]
      exact h3
theorem flatten_len : ∀ (m : Nat) (l : List Leaf), (List.replicate m l).flatten.length = m * l.length
  | 0, l => by simp
  | m + 1, l => by rw [List.replicate_succ, List.flatten_cons, List.length_append, flatten_len m l, Nat.add_mul]; omega
section
variable {H : Type} {enc : TypeId × Value → H} {P : Program} {w : World} {base : Nat} {spare : Nat → Bool} {held : Bool}
theorem drop_take_at {cs : List Value} {o k i : Nat} {v : Value} (h : ((cs.drop o).take k)[i]? = some v) : cs[o + i]? = some v := by
  rw [List.getElem?_take] at h
  split at h
  · rw [List.getElem?_drop] at h; exact h
  · cases h
theorem flat_fits : ∀ (n : Nat) (t : TypeId) (ls : List Leaf), flat P n t = some ls → ∀ (fuel : Nat) (cs : List Value) (x : DataW H × List MemPlace), DataW.trod enc P w base spare held fuel t cs = some x → Fits ls cs
  | 0, t, ls, h, _, _, _, _ => by simp [flat] at h
  | n + 1, t, ls, h, fuel, cs, x, hx => by
    unfold flat at h
    split at h
    · rename_i hu
      injection h with h; subst h
      obtain ⟨b, rfl, _⟩ := DataW.trod_bool hu hx
      exact ⟨rfl, fun j l hj => by
        match j, hj with
        | 0, hj => simp at hj; subst hj; exact ⟨_, rfl, b, rfl⟩⟩
    · rename_i k hu
      injection h with h; subst h
      obtain ⟨z, rfl, _, hw⟩ := DataW.trod_int hu hx
      exact ⟨rfl, fun j l hj => by
        match j, hj with
        | 0, hj => simp at hj; subst hj; exact ⟨_, rfl, z, rfl, hw⟩⟩
    · rename_i hu
      injection h with h; subst h
      obtain ⟨b, rfl, _, hb⟩ := DataW.trod_string hu hx
      exact ⟨rfl, fun j l hj => by
        match j, hj with
        | 0, hj => simp at hj; subst hj; exact ⟨_, rfl, b, rfl, hb⟩⟩
    · rename_i fs hu
      simp only [Option.bind_eq_some_iff] at h
      obtain ⟨fl, hfl, tot, htot, h⟩ := h
      split at h
      · rename_i hlen
        injection h with h; subst h
        obtain ⟨ys, m, _, _, hcl, _, hf⟩ := DataW.trod_struct hu hx
        refine ⟨by rw [hcl, hlen], fun j l hj => ?_⟩
        obtain ⟨i, o, l', h1, h2, h3⟩ := join_at fl 0 tot htot j l hj
        have hil : i < fs.toList.length := by
          have := mapM_some_length hfl
          rw [← this]; exact (List.getElem?_eq_some_iff.1 h1).1
        have hfi : fs[i]? = some fs.toList[i] := by
          rw [← Array.getElem?_toList]; exact List.getElem?_eq_getElem hil
        have h4 := mapM_some_get hfl i fs.toList[i] (List.getElem?_eq_getElem hil)
        rw [h1] at h4
        simp only [Option.bind_eq_some_iff] at h4
        obtain ⟨l2, hl2, h4⟩ := h4
        split at h4
        · injection h4 with h4
          injection h4 with h5 h6
          subst h5 h6
          have h7 := hf i _ hfi
          cases hy : ys[i]? with
          | none =>
            rw [hy] at h7
            have : i < ys.length := by simp at hil; omega
            rw [List.getElem?_eq_getElem this] at hy; cases hy
          | some y =>
            rw [hy] at h7
            obtain ⟨_, h8⟩ := flat_fits n _ l2 hl2 m _ y h7
            obtain ⟨v, hv, hok⟩ := h8 _ l h3
            have := drop_take_at hv
            rw [show fs.toList[i].offset + (0 + j - fs.toList[i].offset) = j by omega] at this
            exact ⟨v, this, hok⟩
        · cases h4
      · cases h
    · rename_i m e hu
      simp only [Option.bind_eq_some_iff] at h
      obtain ⟨l, hl, h⟩ := h
      split at h
      · rename_i hlen
        injection h with h; subst h
        obtain ⟨ys, m', _, _, hcl, hyl, hf⟩ := DataW.trod_array hu hx
        refine ⟨by rw [hcl, flatten_len, hlen.2], fun j x hj => ?_⟩
        obtain ⟨i, h1, h2, h3⟩ := flatten_at m l j x hj
        have h7 := hf i h1
        cases hy : ys[i]? with
        | none =>
          have : i < ys.length := by omega
          rw [List.getElem?_eq_getElem this] at hy; cases hy
        | some y =>
          rw [hy] at h7
          obtain ⟨_, h8⟩ := flat_fits n _ l hl m' _ y h7
          obtain ⟨v, hv, hok⟩ := h8 _ x h3
          have := drop_take_at hv
          rw [← hlen.1, show i * l.length + (j - i * l.length) = j by omega] at this
          exact ⟨v, this, hok⟩
      · cases h
    · cases h
/-- A struct or an array that came in by value. -/
theorem open_flat {n : Nat} {t : TypeId} {ls : List Leaf} {r : Reach} {b0 : Nat} {v : Value} {d : DataW H} {ps : List MemPlace} (hls : flat P n t = some ls)
    (hk : (match P.underlying t with | some (.struct _) => true | some (.array _ _) => true | _ => false) = true) (hv : Value.okWide P w r b0 t v) (h : DataW.Trod enc P w base spare held t v d ps) : ∃ cs : List Value, v = .agg cs.toArray ∧ Fits ls cs := by
  have hv2 : ∃ cs, v = .agg cs := by
    unfold Value.okWide at hv
    cases hu : P.underlying t with
    | none => rw [hu] at hk; cases hk
    | some u =>
      rw [hu] at hv hk
      cases u <;> first | (obtain ⟨cs, e, _⟩ := hv; exact ⟨cs, e⟩) | cases hk
  obtain ⟨cs, rfl⟩ := hv2
  obtain ⟨fuel, hf⟩ := h
  exact ⟨cs.toList, by simp, flat_fits n t ls hls fuel _ _ hf⟩
/-- A slice whose elements are laid flat. -/
def Elems (w : World) (a : Option Addr) (len : Nat) (ls : List Leaf) : Prop :=
  len ≤ 9223372036854775807 ∧ (len = 0 ∨ ∃ b off, a = some ⟨b, off, none⟩ ∧ b < w.heap.size ∧ ∀ i, i < len → ∃ cs, Fits ls cs ∧ ∀ j, j < ls.length → w.cell? ⟨b, off + (i * ls.length + j), none⟩ = cs[j]?)
theorem open_elems {n : Nat} {t e : TypeId} {ls : List Leaf} {fuel : Nat} {a : Option Addr} {len cap : Nat} {x : DataW H × List MemPlace} (ht : P.underlying t = some (.slice e)) (hls : flat P n e = some ls) (hC : P.cellsOf e = ls.length) (hpos : 0 < ls.length)
    (h : DataW.trod enc P w base spare held fuel t [.slice a len cap] = some x) : Elems w a len ls := by
  rcases Deep.open_slice ht h with ⟨h0, _⟩ | ⟨ad, l, c, m, n', D, Pl, hcs, hb, hl, hm, hmm, hx, hi⟩
  · simp at h0
    obtain ⟨_, rfl, _⟩ := h0
    exact ⟨by omega, .inl rfl⟩
  · simp at hcs
    obtain ⟨rfl, rfl, rfl⟩ := hcs
    unfold maxLen at hm
    refine ⟨by omega, ?_⟩
    by_cases hz : len = 0
    · exact .inl hz
    · refine .inr ?_
      have hlm : len ≤ m := by rw [hmm]; split <;> omega
      have key : ∀ i, i < len → ∃ cs, Fits ls cs ∧ ∀ j, j < ls.length → w.cell? (ad.add (i * ls.length + j)) = cs[j]? := by
        intro i hil
        obtain ⟨cs', hc, ht'⟩ := hi i (by omega)
        rw [hC] at hc
        obtain ⟨_, hcl, hat⟩ := World.cells?_some hc
        refine ⟨cs', flat_fits n e ls hls _ _ _ ht', fun j hj => ?_⟩
        rw [← Deep.add_add]
        exact hat j hj
      obtain ⟨cs0, hf0, hc0⟩ := key 0 (by omega)
      have hv0 := hc0 0 hpos
      rw [List.getElem?_eq_getElem (show 0 < cs0.length by rw [hf0.len]; exact hpos)] at hv0
      obtain ⟨b, off, spot⟩ := ad
      have hspot : spot = none := by
        have := World.cell?_spot hv0
        simpa [Addr.add] using this
      subst hspot
      refine ⟨b, off, rfl, by have := lt_of_cell hv0; rw [Go.WideShapes.add_plain] at this; exact this, fun i hil => ?_⟩
      obtain ⟨cs, h1, h2⟩ := key i hil
      exact ⟨cs, h1, fun j hj => by have := h2 j hj; rw [Go.WideShapes.add_plain] at this; exact this⟩
theorem open_elemsc {n : Nat} {t e : TypeId} {ls : List Leaf} {fuel : Nat} {a : Option Addr} {len cap : Nat} {x : DataW H × List MemPlace} (ht : P.underlying t = some (.slice e)) (hls : flat P n e = some ls) (hC : P.cellsOf e = ls.length) (hpos : 0 < ls.length)
    (h : DataW.trod enc P w base spare held fuel t [.slice a len cap] = some x) : Elems w a len ls ∧ len ≤ cap ∧ cap ≤ maxLen ∧ (a = none → len = 0 ∧ cap = 0) := by
  refine ⟨open_elems ht hls hC hpos h, ?_⟩
  rcases Deep.open_slice ht h with ⟨h0, _⟩ | ⟨ad, l, c, m, n', D, Pl, hcs, hb, hl, hm, hmm, hx, hi⟩
  · simp at h0
    obtain ⟨_, rfl, rfl⟩ := h0
    exact ⟨Nat.le_refl _, Nat.zero_le _, fun _ => ⟨rfl, rfl⟩⟩
  · simp at hcs
    obtain ⟨rfl, rfl, rfl⟩ := hcs
    exact ⟨hl, hm, by simp⟩
end
end Go.Proofs.YthjbnbimfpbccaaGreatDoor
/-
  A capability that came in, as eight cells. No condition.
-/


set_option linter.unusedVariables false
namespace Go.Proofs.YthjbnbimfpbccaaGreatDoor
open Go.ChangeShapes Go.WideShapes Go.ChangeAt Go.RowKit
theorem fitsC {cs : List Value} (h : Fits [.i .u32, .i .u8, .i .u16, .i .u16, .i .u16, .i .u16, .i .u32, .b] cs) : ∃ c : Cp, cs = c.l ∧ c.Ok := by
  obtain ⟨v0, c1, e0, ⟨z0, rfl, w0⟩, h1⟩ := h.cons
  obtain ⟨v1, c2, e1, ⟨z1, rfl, w1⟩, h2⟩ := h1.cons
  obtain ⟨v2, c3, e2, ⟨z2, rfl, w2⟩, h3⟩ := h2.cons
  obtain ⟨v3, c4, e3, ⟨z3, rfl, w3⟩, h4⟩ := h3.cons
  obtain ⟨v4, c5, e4, ⟨z4, rfl, w4⟩, h5⟩ := h4.cons
  obtain ⟨v5, c6, e5, ⟨z5, rfl, w5⟩, h6⟩ := h5.cons
  obtain ⟨v6, c7, e6, ⟨z6, rfl, w6⟩, h7⟩ := h6.cons
  obtain ⟨v7, c8, e7, ⟨b, rfl⟩, h8⟩ := h7.cons
  have b0 := bounds_u32 w0
  have b1 := bounds_u8 w1
  have b2 := bounds_u16 w2
  have b3 := bounds_u16 w3
  have b4 := bounds_u16 w4
  have b5 := bounds_u16 w5
  have b6 := bounds_u32 w6
  refine ⟨⟨z0.toNat, z1.toNat, z2.toNat, z3.toNat, z4.toNat, z5.toNat, z6.toNat, b⟩, ?_, ⟨by dsimp only; omega, by dsimp only; omega, by dsimp only; omega, by dsimp only; omega, by dsimp only; omega, by dsimp only; omega, by dsimp only; omega⟩⟩
  rw [e0, e1, e2, e3, e4, e5, e6, e7, h8.nil]
  unfold Cp.l
  dsimp only
  rw [Int.toNat_of_nonneg b0.1, Int.toNat_of_nonneg b1.1, Int.toNat_of_nonneg b2.1, Int.toNat_of_nonneg b3.1, Int.toNat_of_nonneg b4.1, Int.toNat_of_nonneg b5.1, Int.toNat_of_nonneg b6.1]
end Go.Proofs.YthjbnbimfpbccaaGreatDoor
/-
  What an arena's functions do with capabilities; zeros. Condition: numbers in their types' ranges.
-/





set_option linter.unusedVariables false
namespace Go.Proofs.YthjbnbimfpbccaaGreatDoor
open Go.ChangeShapes Go.WideShapes Go.ChangeAt Go.RowKit
theorem infoCapZ : (Tryz.prog.info? 49).map (·.size) = some 8 := by kernel_rfl
theorem wrap_a (a : Nat) (h : a < 4294967296) : IntKind.i64.wrap (a : Int) = (a : Int) ∧ IntKind.i64.wrap ((a : Int) / 16) = (a : Int) / 16 := by
  constructor <;> simp [IntKind.wrap, IntKind.signed, IntKind.bits] <;> omega
section
variable {ops : Array Oper} {S : World → Prop} {o : Oper} {a : Act}
theorem yields_str (src dst e : TypeId) (hs : Tryz.prog.underlying src = some (.slice e)) (he : Tryz.prog.underlying e = some (.int .u8)) (hd : Tryz.prog.underlying dst = some .string) (x : Operand) (ho : o.op = .convert src dst x) (ad : Option Addr) (n cap : Nat) (hx : a.eval x = .slice ad n cap) (l : List Nat) (hl : l.length = n) (hb : Byt l)
    (hi : ∀ W, S W → BIn W ad l) (hn : ad = none → n = 0) (hw : Region.wanted o (yielded ops a.tmps) = true) : YieldsIf Tryz.prog ops S o (strV l) a :=
  Or.inl ⟨hw, fun w hS => by
    unfold execOp
    simp only [ho, hx, Sem.run_bind, Sem.run_pure, Result.andThen_ok, run_str src dst e hs he hd w ad n cap l hl hb (hi w hS) hn]⟩
theorem yields_capz (x : Operand) (ho : o.op = .load 49 x) (g : Nat) (hx : a.eval x = .pointer (some ⟨g, 0, none⟩)) (t : TypeId) (c : Cp) (hg : ∀ W, S W → At W g t c.cells)
    (hw : Region.wanted o (yielded ops a.tmps) = true) : YieldsIf Tryz.prog ops S o (.agg c.cells) a :=
  yields_load_at 49 x ho ⟨g, 0, none⟩ hx c.l _ (fun W hW j v hv => by
    rw [Go.WideShapes.add_plain, (hg W hW).cell, Nat.zero_add]
    have : c.cells = c.l.toArray := rfl
    rw [this, List.getElem?_toArray, hv]) Tryz.underlying49 rfl infoCapZ hw
end
theorem wp_store_z {P : Program} {K : Act → World → Prop} {Q : Exit → Act → World → Prop} {o : Oper} {a : Act} {w : World} (ty : TypeId) (x y : Operand) (ho : o.op = .store ty x y) (g : Nat) (cs : Array Value) (hx : a.eval x = .pointer (some ⟨g, 0, none⟩)) (hy : a.eval y = .agg cs)
    (t : TypeId) (cur : Array Value) (hg : At w g t cur) (hi : (P.info? ty).map (·.size) = some cs.size) (hk : cur.size = cs.size) (h1 : cs.all (·.oneCell') = true)
    (h : ∀ w', At w' g t cs → Fr [g] w w' → K (a.put o.dst undef) w') : o.wp P a w K Q :=
  wp_store_row ty x y ho g cs hx hy t cur hg hi hk h1 (h _ (setRow_heap w g _ _ t (0, 0) hg) (Fr.setRow w g _))
theorem cellz_all (c : Cp) : c.cells.all (·.oneCell') = true := by simp [Cp.cells, Value.oneCell']
set_option maxHeartbeats 2000000 in
set_option maxRecDepth 100000 in
theorem aloadc_yes (w : World) (ap p g bg cap : Nat) (bs : List Nat) (f : Nat → Bool) (h : Ar w ap p g bg cap bs f) (a : Nat) (ha : a % 16 = 0) (hfit : a + 16 ≤ bs.length) :
    Calls Tryz.prog 40 #[.pointer (some ⟨ap, 0, none⟩), .int .u32 a] w fun r w' => r = .returned (.tuple #[.agg (ofB ((bs.drop a).take 16) (f (a / 16))).cells, .bool true]) ∧ Fr [] w w' := by
  have hN := h.2.1
  have hcap := h.2.2.1
  have CW := Lib.hid fun (W : World) (hW : Fr [] w W) => (show Calls Tryz.prog 60 #[.pointer (some ⟨ap, 0, none⟩), .int .u32 a] W fun r w' => r = .returned (.bool true) ∧ W = w' by
    have := awhole_any W ap p g bg cap bs f (h.fr0 hW) a (by omega)
    unfold whB at this
    rw [decide_eq_true ha, decide_eq_true hfit] at this
    exact this)
  have H := Lib.hid h
  have CG := Lib.hid fun (W : World) (hW : Ar W ap p g bg cap bs f) => (show Calls Tryz.prog 67 #[.pointer (some ⟨p, 0, none⟩), .int .i64 ((a : Int) / 16)] W fun r w' => r = .returned (.bool (f (a / 16))) ∧ W = w' by
    have := get_any W p g (bs.length / 16) f hW.2.2.2.2.2.2.1 ((a / 16 : Nat) : Int)
    rw [inR_nat _ _ (by omega), Bool.true_and, Int.toNat_natCast, show ((a / 16 : Nat) : Int) = (a : Int) / 16 by omega] at this
    exact this)
  have hL := sub_of bs a 16 hfit
  have HB := Lib.hid ((h.2.2.2.2.1.drop a).take 16)
  have HI := Lib.hid fun (W : World) (hW : Ar W ap p g bg cap bs f) => (show BIn W (some ⟨bg, a, none⟩) ((bs.drop a).take 16) from .inr ⟨bg, a, rfl, hW.lt.2.2.2, fun j v hv => hW.at_ a _ (by rw [hL]) j v hv⟩)
  have HT := Lib.hid fun (W : World) (hW : Ar W ap p g bg cap bs f) => hW.top
  obtain ⟨N, hNN⟩ : ∃ N, bs.length = N := ⟨_, rfl⟩
  obtain ⟨L, hLL⟩ : ∃ L, (bs.drop a).take 16 = L := ⟨_, rfl⟩
  rw [hNN] at hN hcap hfit HT
  rw [hLL] at hL HB HI ⊢
  have CO := Lib.hid fun W v => cof_any W L hL HB.out v
  obtain ⟨tg, htg⟩ : ∃ t, f (a / 16) = t := ⟨_, rfl⟩
  rw [htg] at CG ⊢
  have HL := Lib.hid hL
  obtain ⟨R, hR⟩ : ∃ R, ofB L tg = R := ⟨_, rfl⟩
  have HR := Lib.hid hR
  rw [hR]
  have hwr : IntKind.u32.wrap ((a : Int) + 16) = (a : Int) + 16 := by simp [IntKind.wrap, IntKind.signed, IntKind.bits]; omega
  have HI8 := Lib.hid (show (Tryz.prog.info? 49).map (·.size) = some R.cells.size by kernel_rfl)
  have F0 := Lib.hid (show Fr [] w (w.alloc (.cells noC.cells 49)) from (by repeat (first | exact Fr.refl _ _ | assumption | refine Fr.trans0 ?_ (by assumption) | refine Fr.drewN ?_ _ | refine Fr.alloc ?_ _ | refine Fr.drew ?_)))
  have A0 := Lib.hid (At.new w 49 noC.cells)
  have HA0 := Lib.hid (H.out.fr0 F0.out)
  have hlt := h.lt
  have hac : a < cap := by omega
  obtain ⟨hwa, hwq⟩ := wrap_a a (by omega)
  clear h hNN hLL hL htg hR
  go_enter Tryz.func40, Tryz.ntmps40
  go_wp2_with fail
  refine (CW.out _ F0.out).mono ?_
  rintro e w' ⟨rfl, rfl⟩
  have HIS := Lib.hid fun (W : World) (hW : Ar W ap p g bg cap bs f ∧ (∃ C : Cp, At W w.heap.size 49 C.cells) ∧ Fr [] w W) => HI.out W hW.1
  go_upto_region 3 with (fail)
  refine wp_region_L (fun W => Ar W ap p g bg cap bs f ∧ (∃ C : Cp, At W w.heap.size 49 C.cells) ∧ Fr [] w W) [] (by kernel_rfl) ⟨HA0.out.fr0 (Fr.refl _ _).drew, ⟨noC, A0.out.hp rfl⟩, F0.out.drew⟩ (fun hHeld => ?_)
  refine wpAnyL_take (i := 0) (v := ?_) rfl (by kernel_rfl) (fun _ _ _ h => h) (Or.inl ⟨by rfl, ?_⟩) (by assumption) ?_; rotate_left; (focus (intro w hSw; skip; go_simp; (try with_reducible rfl))); (try (refine wpAnyL_norm (by simp only [Act.put, List.setIfInBounds_toArray, List.set_cons_zero, List.set_cons_succ]; rfl) ?_))
  refine wpAnyL_take (i := 1) (v := ?_) rfl (by kernel_rfl) (fun _ _ _ h => h) (Or.inl ⟨by rfl, ?_⟩) (by assumption) ?_; rotate_left; (focus (intro w hSw; skip; go_simp; (try with_reducible rfl))); (try (refine wpAnyL_norm (by simp only [Act.put, List.setIfInBounds_toArray, List.set_cons_zero, List.set_cons_succ]; rfl) ?_))
  refine wpAnyL_take (i := 2) (v := ?_) rfl (by kernel_rfl) (fun _ _ _ h => h) (Or.inl ⟨by rfl, ?_⟩) (by assumption) ?_; rotate_left; (focus (intro w hSw; skip; go_simp; (try with_reducible rfl))); (try (refine wpAnyL_norm (by simp only [Act.put, List.setIfInBounds_toArray, List.set_cons_zero, List.set_cons_succ]; rfl) ?_))
  refine wpAnyL_take (i := 3) (v := ?_) rfl (by kernel_rfl) (fun _ _ _ h => h) (Or.inl ⟨by rfl, ?_⟩) (by assumption) ?_; rotate_left; (focus (intro w hSw; (have hcl := (HT.out _ hSw.1).2); go_simp; (try with_reducible rfl))); (try (refine wpAnyL_norm (by simp only [Act.put, List.setIfInBounds_toArray, List.set_cons_zero, List.set_cons_succ]; rfl) ?_))
  refine wpAnyL_take (i := 4) (v := ?_) rfl (by kernel_rfl) (fun _ _ _ h => h) (Or.inl ⟨by rfl, ?_⟩) (by assumption) ?_; rotate_left; (focus (intro w hSw; skip; go_simp; (try with_reducible rfl))); (try (refine wpAnyL_norm (by simp only [Act.put, List.setIfInBounds_toArray, List.set_cons_zero, List.set_cons_succ]; rfl) ?_))
  refine wpAnyL_take (i := 5) (v := ?_) rfl (by kernel_rfl) (fun _ _ _ h => h) (Or.inl ⟨by rfl, ?_⟩) (by assumption) ?_; rotate_left; (focus (intro w hSw; skip; go_simp; (try with_reducible rfl))); (try (refine wpAnyL_norm (by simp only [Act.put, List.setIfInBounds_toArray, List.set_cons_zero, List.set_cons_succ]; rfl) ?_))
  refine wpAnyL_take (i := 6) (v := ?_) rfl (by kernel_rfl) (fun _ _ _ h => h) (Or.inl ⟨by rfl, ?_⟩) (by assumption) ?_; rotate_left; (focus (intro w hSw; skip; go_simp; (try with_reducible rfl))); (try (refine wpAnyL_norm (by simp only [Act.put, List.setIfInBounds_toArray, List.set_cons_zero, List.set_cons_succ]; rfl) ?_))
  refine wpAnyL_take (i := 7) (v := ?_) rfl (by kernel_rfl) (fun _ _ _ h => h) (Or.inl ⟨by rfl, ?_⟩) (by assumption) ?_; rotate_left; (focus (intro w hSw; (have k1 : (0 : Int) ≤ (a : Int) + 16 ∧ (a : Int) + 16 ≤ (cap : Int) := by omega); (have k2 : a ≤ ((a : Int) + 16).toNat := by omega); (have k3 : ¬ cap = a := by omega); (have k4 : ((a : Int) + 16).toNat - a = 16 := by omega); go_simp; (try with_reducible rfl))); (try (refine wpAnyL_norm (by simp only [Act.put, List.setIfInBounds_toArray, List.set_cons_zero, List.set_cons_succ]; rfl) ?_))
  refine wpAnyL_take (i := 8) rfl (by kernel_rfl) (fun _ _ _ h => h) (yields_str 22 9 5 Tryz.underlying22 Tryz.underlying5 Tryz.underlying9 (.tmp 18) rfl (some ⟨bg, a, none⟩) 16 (cap - a) rfl L HL.out HB.out HIS.out (fun h => by cases h) rfl) (by assumption) ?_; (try (refine wpAnyL_norm (by simp only [Act.put, List.setIfInBounds_toArray, List.set_cons_zero, List.set_cons_succ]; rfl) ?_))
  refine wpAnyL_take (i := 9) (v := ?_) rfl (by kernel_rfl) (fun _ _ _ h => h) (Or.inl ⟨by rfl, ?_⟩) (by assumption) ?_; rotate_left; (focus (intro w hSw; skip; go_simp; (try with_reducible rfl))); (try (refine wpAnyL_norm (by simp only [Act.put, List.setIfInBounds_toArray, List.set_cons_zero, List.set_cons_succ]; rfl) ?_))
  refine wpAnyL_take (i := 10) (v := ?_) rfl (by kernel_rfl) (fun _ _ _ h => h) (Or.inl ⟨by rfl, ?_⟩) (by assumption) ?_; rotate_left; (focus (intro w hSw; skip; go_simp; (try with_reducible rfl))); (try (refine wpAnyL_norm (by simp only [Act.put, List.setIfInBounds_toArray, List.set_cons_zero, List.set_cons_succ]; rfl) ?_))
  refine wpAnyL_take (i := 11) (v := ?_) rfl (by kernel_rfl) (fun _ _ _ h => h) (Or.inl ⟨by rfl, ?_⟩) (by assumption) ?_; rotate_left; (focus (intro w hSw; skip; go_simp; (try with_reducible rfl))); (try (refine wpAnyL_norm (by simp only [Act.put, List.setIfInBounds_toArray, List.set_cons_zero, List.set_cons_succ]; rfl) ?_))
  refine wpAnyL_take (i := 12) (v := ?_) rfl (by kernel_rfl) (fun _ _ _ h => h) (Or.inl ⟨by rfl, ?_⟩) (by assumption) ?_; rotate_left; (focus (intro w hSw; (have hcl := (HT.out _ hSw.1).1); go_simp; (try with_reducible rfl))); (try (refine wpAnyL_norm (by simp only [Act.put, List.setIfInBounds_toArray, List.set_cons_zero, List.set_cons_succ]; rfl) ?_))
  refine wpAnyL_take (i := 13) (v := ?_) rfl (by kernel_rfl) (fun _ _ _ h => h) (Or.inl ⟨by rfl, ?_⟩) (by assumption) ?_; rotate_left; (focus (intro w hSw; skip; go_simp; (try with_reducible rfl))); (try (refine wpAnyL_norm (by simp only [Act.put, List.setIfInBounds_toArray, List.set_cons_zero, List.set_cons_succ]; rfl) ?_))
  refine wpAnyL_take (i := 14) (v := ?_) rfl (by kernel_rfl) (fun _ _ _ h => h) (Or.inl ⟨by rfl, ?_⟩) (by assumption) ?_; rotate_left; (focus (intro w hSw; skip; go_simp; (try with_reducible rfl))); (try (refine wpAnyL_norm (by simp only [Act.put, List.setIfInBounds_toArray, List.set_cons_zero, List.set_cons_succ]; rfl) ?_))
  refine wpAnyL_take (i := 15) (v := ?_) rfl (by kernel_rfl) (fun _ _ _ h => h) (Or.inl ⟨by rfl, ?_⟩) (by assumption) ?_; rotate_left; (focus (intro w hSw; skip; go_simp; (try with_reducible rfl))); (try (refine wpAnyL_norm (by simp only [Act.put, List.setIfInBounds_toArray, List.set_cons_zero, List.set_cons_succ]; rfl) ?_))
  refine wpAnyL_ready (rs := [16]) (by kernel_rfl) (by simp) ?_; refine AllReadyL.cons rfl (fun K hK => ?_) AllReadyL.nil
  go_simp
  refine (CG.out _ hHeld.1).mono ?_
  rintro e w2 ⟨rfl, rfl⟩
  refine hK.out _ _ (fun _ => hHeld) (fun hHeld' => ?_); have hHeld := hHeld' (by decide); clear hHeld' hK K; (try (refine wpAnyL_norm (by simp only [Act.put, List.setIfInBounds_toArray, List.set_cons_zero, List.set_cons_succ]; rfl) ?_))
  refine wpAnyL_ready (rs := [17]) (by kernel_rfl) (by simp) ?_; refine AllReadyL.cons rfl (fun K hK => ?_) AllReadyL.nil
  go_simp
  refine (CO.out _ _).mono ?_
  rintro e w3 ⟨rfl, hf3⟩
  rw [HR.out]
  refine hK.out _ _ (fun _ => ⟨hHeld.1.fr0 hf3, hHeld.2.1.imp fun C h => h.fr hf3 (by simp), hHeld.2.2.trans0 hf3⟩) (fun hHeld' => ?_); have hHeld := hHeld' (by decide); clear hHeld' hK K; (try (refine wpAnyL_norm (by simp only [Act.put, List.setIfInBounds_toArray, List.set_cons_zero, List.set_cons_succ]; rfl) ?_))
  refine wpAnyL_take (i := 18) (v := ?_) rfl (by kernel_rfl) (fun _ _ _ h => h) (Or.inl ⟨by rfl, ?_⟩) (by assumption) ?_; rotate_left; (focus (intro w hSw; skip; go_simp; (try with_reducible rfl))); (try (refine wpAnyL_norm (by simp only [Act.put, List.setIfInBounds_toArray, List.set_cons_zero, List.set_cons_succ]; rfl) ?_))
  refine wpAnyL_take (i := 19) (v := ?_) rfl (by kernel_rfl) (fun _ _ _ h => h) (Or.inl ⟨by rfl, ?_⟩) (by assumption) ?_; rotate_left; (focus (intro w hSw; skip; go_simp; (try with_reducible rfl))); (try (refine wpAnyL_norm (by simp only [Act.put, List.setIfInBounds_toArray, List.set_cons_zero, List.set_cons_succ]; rfl) ?_))
  refine wpAnyL_ready (rs := [20]) (by kernel_rfl) (by simp) ?_; refine AllReadyL.cons rfl (fun K hK => ?_) AllReadyL.nil
  rw [if_pos (by rfl)]
  obtain ⟨C, hC⟩ := hHeld.2.1
  refine wp_store_z 49 (.tmp 4) (.tmp 29) rfl _ R.cells rfl rfl 49 C.cells hC HI8.out rfl (cellz_all R) ?_
  intro w4 hA4 hF4
  have hlt2 := hlt
  refine hK.out _ _ (fun _ => ⟨hHeld.1.fr hF4 (by simp; omega) (by simp; omega) (by simp; omega) (by simp; omega), ⟨R, hA4⟩, hHeld.2.2.trans hF4 (by simp)⟩) (fun hHeld' => ?_); have hHeld := hHeld' (by decide); clear hHeld' hK K; (try (refine wpAnyL_norm (by simp only [Act.put, List.setIfInBounds_toArray, List.set_cons_zero, List.set_cons_succ]; rfl) ?_))
  refine wpAnyL_take (i := 21) (v := ?_) rfl (by kernel_rfl) (fun _ _ _ h => h) (Or.inl ⟨by rfl, ?_⟩) (by assumption) ?_; rotate_left; (focus (intro w hSw; skip; go_simp; (try with_reducible rfl))); (try (refine wpAnyL_norm (by simp only [Act.put, List.setIfInBounds_toArray, List.set_cons_zero, List.set_cons_succ]; rfl) ?_))
  refine wpAnyL_done (by kernel_rfl) ?_ _
  go_wp2_with fail
  exact bodyPost_ret (res_row_tmp rfl _ _ w.heap.size 49 R.cells _ rfl hA4 Tryz.underlying49 rfl HI8.out) rfl ⟨rfl, hHeld.2.2⟩
set_option maxRecDepth 100000 in
theorem aloadc_no (w : World) (x : Value) (a : Nat) (CW : ∀ W : World, Fr [] w W → Calls Tryz.prog 60 #[x, .int .u32 a] W fun r w' => r = .returned (.bool false) ∧ W = w') :
    Calls Tryz.prog 40 #[x, .int .u32 a] w fun r w' => r = .returned (.tuple #[.agg noC.cells, .bool false]) ∧ Fr [] w w' := by
  have CW := Lib.hid CW
  have HI := Lib.hid (show (Tryz.prog.info? 49).map (·.size) = some noC.cells.size by kernel_rfl)
  have F0 := Lib.hid (show Fr [] w (w.alloc (.cells noC.cells 49)) from (by repeat (first | exact Fr.refl _ _ | assumption | refine Fr.trans0 ?_ (by assumption) | refine Fr.drewN ?_ _ | refine Fr.alloc ?_ _ | refine Fr.drew ?_)))
  have A0 := Lib.hid (At.new w 49 noC.cells)
  go_enter Tryz.func40, Tryz.ntmps40
  go_wp2_with fail
  refine (CW.out _ F0.out).mono ?_
  rintro e w' ⟨rfl, rfl⟩
  go_wp2_with (refine wpList_store_all rfl 49 (.tmp 4) (.tmp 10) rfl w.heap.size noC.cells rfl rfl 49 noC.cells A0.out HI.out rfl (cellz_all noC) ?_; intro w9 hA9 hF9)
  exact bodyPost_ret (res_row_tmp rfl _ _ w.heap.size 49 noC.cells _ rfl hA9 Tryz.underlying49 rfl HI.out) rfl ⟨rfl, F0.out.trans hF9 (by simp)⟩
theorem awhole_no (w : World) (ap p g bg cap : Nat) (bs : List Nat) (f : Nat → Bool) (h : Ar w ap p g bg cap bs f) (a : Nat) (ha : a < 4294967296) (hn : whB bs.length a = false) (W : World) (hW : Fr [] w W) :
    Calls Tryz.prog 60 #[.pointer (some ⟨ap, 0, none⟩), .int .u32 a] W fun r w' => r = .returned (.bool false) ∧ W = w' := by
  have := awhole_any W ap p g bg cap bs f (h.fr0 hW) a ha
  rw [hn] at this
  exact this
theorem astorec_no (w : World) (x : Value) (a : Nat) (c : Cp) (CW : ∀ W : World, Fr [] w W → Calls Tryz.prog 60 #[x, .int .u32 a] W fun r w' => r = .returned (.bool false) ∧ W = w') :
    Calls Tryz.prog 18 #[x, .int .u32 a, .agg c.cells] w fun r w' => r = .returned (.bool false) ∧ Fr [] w w' := by
  have CW := Lib.hid CW
  have F0 := Lib.hid (show Fr [] w (w.alloc (.cells c.cells 49)) from (by repeat (first | exact Fr.refl _ _ | assumption | refine Fr.trans0 ?_ (by assumption) | refine Fr.drewN ?_ _ | refine Fr.alloc ?_ _ | refine Fr.drew ?_)))
  go_enter Tryz.func18, Tryz.ntmps18
  go_wp2_with fail
  refine (CW.out _ F0.out).mono ?_
  rintro e w' ⟨rfl, rfl⟩
  go_wp2_with fail
  go_ret
  exact ⟨rfl, F0.out⟩
/-- The tags behind a capability's storing. -/
def stF (bs : List Nat) (f : Nat → Bool) (a : Nat) (c : Cp) : Nat → Bool := upd (wrF bs f a (bytesC c)) (a / 16) (c.v && soundB c)
set_option maxHeartbeats 2000000 in
set_option maxRecDepth 100000 in
theorem astorec_yes (w : World) (ap p g bg cap : Nat) (bs : List Nat) (f : Nat → Bool) (h : Ar w ap p g bg cap bs f) (a : Nat) (ha : a % 16 = 0) (hfit : a + 16 ≤ bs.length) (c : Cp) (hok : c.Ok) :
    Calls Tryz.prog 18 #[.pointer (some ⟨ap, 0, none⟩), .int .u32 a, .agg c.cells] w fun r w' => r = .returned (.bool true) ∧ Ar w' ap p g bg cap (wrL bs a (bytesC c)) (stF bs f a c) ∧ Fr [g, bg] w w' := by
  unfold stF
  have hN := h.2.1
  have CW := Lib.hid fun (W : World) (hW : Fr [] w W) => (show Calls Tryz.prog 60 #[.pointer (some ⟨ap, 0, none⟩), .int .u32 a] W fun r w' => r = .returned (.bool true) ∧ W = w' by
    have := awhole_any W ap p g bg cap bs f (h.fr0 hW) a (by omega)
    unfold whB at this
    rw [decide_eq_true ha, decide_eq_true hfit] at this
    exact this)
  have CB := Lib.hid fun W => cbytes_any W c hok
  have CR := Lib.hid fun (W : World) (hW : Fr [] w W) => awrite_any W ap p g bg cap bs f (h.fr0 hW) a (by omega) (bytesC c) (by rw [bytesC_len]; omega) (bytesC_byt c)
  rw [bytesC_len, decide_eq_true hfit] at CR
  have CS := Lib.hid fun W => sound_any W c hok
  have hlt := h.lt
  have hne := h.ne
  have hLb : (wrL bs a (bytesC c)).length = bs.length := wrL_len _ _ _
  obtain ⟨bs1, hbs1⟩ : ∃ b, wrL bs a (bytesC c) = b := ⟨_, rfl⟩
  obtain ⟨f1, hf1⟩ : ∃ b, wrF bs f a (bytesC c) = b := ⟨_, rfl⟩
  obtain ⟨u, hu⟩ : ∃ u, strV (bytesC c) = u := ⟨_, rfl⟩
  obtain ⟨sb, hsb⟩ : ∃ u, soundB c = u := ⟨_, rfl⟩
  rw [hbs1] at hLb CR ⊢
  rw [hf1] at CR ⊢
  rw [hu] at CB CR
  rw [hsb] at CS ⊢
  have CP := Lib.hid fun (W : World) (hW : Ar W ap p g bg cap bs1 f1) (b : Bool) => (show Calls Tryz.prog 63 #[.pointer (some ⟨p, 0, none⟩), .int .i64 ((a : Int) / 16), .bool b] W fun r w' => r = .returned (.bool true) ∧ Tg w' p g (bs1.length / 16) (upd f1 (a / 16) b) ∧ Fr [g] W w' by
    have := put_yes W p g (bs1.length / 16) f1 hW.2.2.2.2.2.2.1 (a / 16) b (by rw [hLb]; omega)
    rw [show ((a / 16 : Nat) : Int) = (a : Int) / 16 by omega] at this
    exact this)
  have F0 := Lib.hid (show Fr [] w (w.alloc (.cells c.cells 49)) from (by repeat (first | exact Fr.refl _ _ | assumption | refine Fr.trans0 ?_ (by assumption) | refine Fr.drewN ?_ _ | refine Fr.alloc ?_ _ | refine Fr.drew ?_)))
  have A0 := Lib.hid (At.new w 49 c.cells)
  have HIC := Lib.hid (show (Tryz.prog.info? 49).map (·.size) = some c.cells.size by kernel_rfl)
  obtain ⟨hwa, hwq⟩ := wrap_a a (by omega)
  obtain ⟨cv, hcv⟩ : ∃ b, c.v = b := ⟨_, rfl⟩
  have HCVV := Lib.hid hcv
  rw [hcv]
  clear h hbs1 hf1 hu hsb hok hcv
  go_enter Tryz.func18, Tryz.ntmps18
  go_wp2_with fail
  refine (CW.out _ F0.out).mono ?_
  rintro e w' ⟨rfl, rfl⟩
  go_wp2_with (refine wpList_load_all rfl 49 (.tmp 5) rfl w.heap.size rfl 49 c.cells _ A0.out Tryz.underlying49 rfl HIC.out ?_)
  refine (CB.out _).mono ?_
  rintro e w2 ⟨rfl, hf2⟩
  have F2 := Lib.hid (F0.out.trans0 hf2)
  have A2 := Lib.hid (A0.out.fr hf2 (by simp))
  clear hf2
  go_wp2_with fail
  refine (CR.out _ F2.out).mono ?_
  rintro e w3 ⟨rfl, h3, hf3⟩
  have H3 := Lib.hid h3
  have A3 := Lib.hid (A2.out.fr hf3 (by simp; omega))
  have F3 := Lib.hid ((F2.out.more (T := [g, bg]) (by simp)).trans hf3 (by simp))
  clear h3 hf3 A2 F2
  have HT := Lib.hid fun (W : World) (hW : (∃ f', Ar W ap p g bg cap bs1 f') ∧ At W w.heap.size 49 c.cells) => (hW.1.elim fun f' h => h.top.1 : W.cell? ⟨ap, 0, none⟩ = _)
  have HV := Lib.hid fun (W : World) (hW : (∃ f', Ar W ap p g bg cap bs1 f') ∧ At W w.heap.size 49 c.cells) => (show W.cell? ⟨w.heap.size, 7, none⟩ = some (.bool c.v) from hW.2.cell 7)
  rw [HCVV.out] at HV
  go_upto_region 4 with (fail)
  refine wp_region_L (fun W => (∃ f', Ar W ap p g bg cap bs1 f') ∧ At W w.heap.size 49 c.cells) [] (by kernel_rfl) ⟨⟨f1, H3.out.fr0 (Fr.refl _ _).drew⟩, A3.out.hp rfl⟩ (fun hHeld => ?_)
  refine wpAnyL_take (i := 0) (v := ?_) rfl (by kernel_rfl) (fun _ _ _ h => h) (Or.inl ⟨by rfl, ?_⟩) (by assumption) ?_; rotate_left; (focus (intro w hSw; skip; go_simp; (try with_reducible rfl))); (try (refine wpAnyL_norm (by simp only [Act.put, List.setIfInBounds_toArray, List.set_cons_zero, List.set_cons_succ]; rfl) ?_))
  refine wpAnyL_take (i := 1) (v := ?_) rfl (by kernel_rfl) (fun _ _ _ h => h) (Or.inl ⟨by rfl, ?_⟩) (by assumption) ?_; rotate_left; (focus (intro w hSw; skip; go_simp; (try with_reducible rfl))); (try (refine wpAnyL_norm (by simp only [Act.put, List.setIfInBounds_toArray, List.set_cons_zero, List.set_cons_succ]; rfl) ?_))
  refine wpAnyL_take (i := 2) (v := ?_) rfl (by kernel_rfl) (fun _ _ _ h => h) (Or.inl ⟨by rfl, ?_⟩) (by assumption) ?_; rotate_left; (focus (intro w hSw; skip; go_simp; (try with_reducible rfl))); (try (refine wpAnyL_norm (by simp only [Act.put, List.setIfInBounds_toArray, List.set_cons_zero, List.set_cons_succ]; rfl) ?_))
  refine wpAnyL_take (i := 3) (v := ?_) rfl (by kernel_rfl) (fun _ _ _ h => h) (Or.inl ⟨by rfl, ?_⟩) (by assumption) ?_; rotate_left; (focus (intro w hSw; (have hcl := HT.out _ hSw); go_simp; (try with_reducible rfl))); (try (refine wpAnyL_norm (by simp only [Act.put, List.setIfInBounds_toArray, List.set_cons_zero, List.set_cons_succ]; rfl) ?_))
  refine wpAnyL_take (i := 4) (v := ?_) rfl (by kernel_rfl) (fun _ _ _ h => h) (Or.inl ⟨by rfl, ?_⟩) (by assumption) ?_; rotate_left; (focus (intro w hSw; skip; go_simp; (try with_reducible rfl))); (try (refine wpAnyL_norm (by simp only [Act.put, List.setIfInBounds_toArray, List.set_cons_zero, List.set_cons_succ]; rfl) ?_))
  refine wpAnyL_take (i := 5) (v := ?_) rfl (by kernel_rfl) (fun _ _ _ h => h) (Or.inl ⟨by rfl, ?_⟩) (by assumption) ?_; rotate_left; (focus (intro w hSw; skip; go_simp; (try with_reducible rfl))); (try (refine wpAnyL_norm (by simp only [Act.put, List.setIfInBounds_toArray, List.set_cons_zero, List.set_cons_succ]; rfl) ?_))
  refine wpAnyL_take (i := 6) (v := ?_) rfl (by kernel_rfl) (fun _ _ _ h => h) (Or.inl ⟨by rfl, ?_⟩) (by assumption) ?_; rotate_left; (focus (intro w hSw; skip; go_simp; (try with_reducible rfl))); (try (refine wpAnyL_norm (by simp only [Act.put, List.setIfInBounds_toArray, List.set_cons_zero, List.set_cons_succ]; rfl) ?_))
  refine wpAnyL_take (i := 7) (v := ?_) rfl (by kernel_rfl) (fun _ _ _ h => h) (Or.inl ⟨by rfl, ?_⟩) (by assumption) ?_; rotate_left; (focus (intro w hSw; skip; go_simp; (try with_reducible rfl))); (try (refine wpAnyL_norm (by simp only [Act.put, List.setIfInBounds_toArray, List.set_cons_zero, List.set_cons_succ]; rfl) ?_))
  refine wpAnyL_take (i := 8) (v := ?_) rfl (by kernel_rfl) (fun _ _ _ h => h) (Or.inl ⟨by rfl, ?_⟩) (by assumption) ?_; rotate_left; (focus (intro w hSw; (have hcl := HV.out _ hSw); go_simp; (try with_reducible rfl))); (try (refine wpAnyL_norm (by simp only [Act.put, List.setIfInBounds_toArray, List.set_cons_zero, List.set_cons_succ]; rfl) ?_))
  refine wpAnyL_take (i := 9) (v := ?_) rfl (by kernel_rfl) (fun _ _ _ h => h) (Or.inl ⟨by rfl, ?_⟩) (by assumption) ?_; rotate_left; (focus (intro w hSw; skip; go_simp; (try with_reducible rfl))); (try (refine wpAnyL_norm (by simp only [Act.put, List.setIfInBounds_toArray, List.set_cons_zero, List.set_cons_succ]; rfl) ?_))
  cases cv
  · refine wpAnyL_take (i := 10) (v := undef) rfl (by kernel_rfl) (fun _ _ _ h => h) (Or.inr ⟨by rfl, rfl⟩) (by assumption) ?_; (try (refine wpAnyL_norm (by simp only [Act.put, List.setIfInBounds_toArray, List.set_cons_zero, List.set_cons_succ]; rfl) ?_))
    refine wpAnyL_take (i := 11) (v := undef) rfl (by kernel_rfl) (fun _ _ _ h => h) (Or.inr ⟨by rfl, rfl⟩) (by assumption) ?_; (try (refine wpAnyL_norm (by simp only [Act.put, List.setIfInBounds_toArray, List.set_cons_zero, List.set_cons_succ]; rfl) ?_))
    have HY : Fr [] w3 w3.drew := (Fr.refl _ _).drew
    have HX := H3.out.fr0 HY
    refine wpAnyL_take (i := 12) (v := ?_) rfl (by kernel_rfl) (fun _ _ _ h => h) (Or.inl ⟨by rfl, ?_⟩) (by assumption) ?_; rotate_left; (focus (intro w hSw; skip; go_simp; (try with_reducible rfl))); (try (refine wpAnyL_norm (by simp only [Act.put, List.setIfInBounds_toArray, List.set_cons_zero, List.set_cons_succ]; rfl) ?_))
    refine wpAnyL_ready (rs := [13]) (by kernel_rfl) (by simp) ?_; refine AllReadyL.cons rfl (fun K hK => ?_) AllReadyL.nil
    go_simp
    refine (CP.out _ HX _).mono ?_
    rintro e w6 ⟨rfl, h6, hf6⟩
    have hAr : Ar w6 ap p g bg cap bs1 (upd f1 (a / 16) false) := by
      obtain ⟨n1, n2, n3, n4, n5, n6⟩ := hne
      obtain ⟨a1, a2, a3, a4, a5, a6, a7, cs, a8, a9, a10⟩ := HX
      exact ⟨a1, a2, a3, a4, a5, a6.fr hf6 (by simp; omega), h6, cs, a8.fr hf6 (by simp; omega), a9, a10⟩
    refine hK.out _ _ (fun _ => ⟨⟨_, hAr⟩, hHeld.2.fr hf6 (by simp; omega)⟩) (fun hHeld' => ?_); have hHeld := hHeld' (by decide); clear hHeld' hK K; (try (refine wpAnyL_norm (by simp only [Act.put, List.setIfInBounds_toArray, List.set_cons_zero, List.set_cons_succ]; rfl) ?_))
    refine wpAnyL_take (i := 14) (v := ?_) rfl (by kernel_rfl) (fun _ _ _ h => h) (Or.inl ⟨by rfl, ?_⟩) (by assumption) ?_; rotate_left; (focus (intro w hSw; skip; go_simp; (try with_reducible rfl))); (try (refine wpAnyL_norm (by simp only [Act.put, List.setIfInBounds_toArray, List.set_cons_zero, List.set_cons_succ]; rfl) ?_))
    refine wpAnyL_done (by kernel_rfl) ?_ _
    go_wp2_with fail
    go_ret
    exact ⟨rfl, hAr, (F3.out.trans0 HY).trans hf6 (by simp)⟩
  · refine wpAnyL_take (i := 10) rfl (by kernel_rfl) (fun _ _ _ h => h) (yields_capz (.tmp 5) rfl w.heap.size rfl 49 c (fun W h => h.2) rfl) (by assumption) ?_; (try (refine wpAnyL_norm (by simp only [Act.put, List.setIfInBounds_toArray, List.set_cons_zero, List.set_cons_succ]; rfl) ?_))
    refine wpAnyL_ready (rs := [11]) (by kernel_rfl) (by simp) ?_; refine AllReadyL.cons rfl (fun K hK => ?_) AllReadyL.nil
    go_simp
    refine (CS.out _).mono ?_
    rintro e w5 ⟨rfl, hf5⟩
    have HY : Fr [] w3 w5 := hf5.hd rfl rfl rfl rfl
    have HX := H3.out.fr0 HY
    refine hK.out _ _ (fun _ => ⟨⟨f1, HX⟩, hHeld.2.fr hf5 (by simp)⟩) (fun hHeld' => ?_); have hHeld := hHeld' (by decide); clear hHeld' hK K; (try (refine wpAnyL_norm (by simp only [Act.put, List.setIfInBounds_toArray, List.set_cons_zero, List.set_cons_succ]; rfl) ?_))
    refine wpAnyL_take (i := 12) (v := ?_) rfl (by kernel_rfl) (fun _ _ _ h => h) (Or.inl ⟨by rfl, ?_⟩) (by assumption) ?_; rotate_left; (focus (intro w hSw; skip; go_simp; (try with_reducible rfl))); (try (refine wpAnyL_norm (by simp only [Act.put, List.setIfInBounds_toArray, List.set_cons_zero, List.set_cons_succ]; rfl) ?_))
    refine wpAnyL_ready (rs := [13]) (by kernel_rfl) (by simp) ?_; refine AllReadyL.cons rfl (fun K hK => ?_) AllReadyL.nil
    go_simp
    refine (CP.out _ HX _).mono ?_
    rintro e w6 ⟨rfl, h6, hf6⟩
    have hAr : Ar w6 ap p g bg cap bs1 (upd f1 (a / 16) sb) := by
      obtain ⟨n1, n2, n3, n4, n5, n6⟩ := hne
      obtain ⟨a1, a2, a3, a4, a5, a6, a7, cs, a8, a9, a10⟩ := HX
      exact ⟨a1, a2, a3, a4, a5, a6.fr hf6 (by simp; omega), h6, cs, a8.fr hf6 (by simp; omega), a9, a10⟩
    refine hK.out _ _ (fun _ => ⟨⟨_, hAr⟩, hHeld.2.fr hf6 (by simp; omega)⟩) (fun hHeld' => ?_); have hHeld := hHeld' (by decide); clear hHeld' hK K; (try (refine wpAnyL_norm (by simp only [Act.put, List.setIfInBounds_toArray, List.set_cons_zero, List.set_cons_succ]; rfl) ?_))
    refine wpAnyL_take (i := 14) (v := ?_) rfl (by kernel_rfl) (fun _ _ _ h => h) (Or.inl ⟨by rfl, ?_⟩) (by assumption) ?_; rotate_left; (focus (intro w hSw; skip; go_simp; (try with_reducible rfl))); (try (refine wpAnyL_norm (by simp only [Act.put, List.setIfInBounds_toArray, List.set_cons_zero, List.set_cons_succ]; rfl) ?_))
    refine wpAnyL_done (by kernel_rfl) ?_ _
    go_wp2_with fail
    go_ret
    exact ⟨rfl, hAr, (F3.out.trans0 HY).trans hf6 (by simp)⟩
end Go.Proofs.YthjbnbimfpbccaaGreatDoor
/-
  What an arena's other functions do: zeros, tags taken, told and copied; a new one. Condition: numbers in their types' ranges.
-/





set_option linter.unusedVariables false
namespace Go.Proofs.YthjbnbimfpbccaaGreatDoor
open Go.ChangeShapes Go.WideShapes Go.ChangeAt Go.RowKit
theorem infoU8 : (Tryz.prog.info? 5).map (fun i => (i.zero, i.size, i.bytes)) = some (some (.int .u8 0), 1, 1) := by kernel_rfl
theorem made_bys (n : Nat) : madeCells #[.int .u8 0] n = (bys (List.replicate n 0)).toArray := by
  rw [made_rep]; unfold bys; simp
/-! ### tags taken -/
def unB (bs : List Nat) (f : Nat → Bool) (a : Nat) : Bool := whB bs.length a && f (a / 16)
theorem auntag_any (w : World) (ap p g bg cap : Nat) (bs : List Nat) (f : Nat → Bool) (h : Ar w ap p g bg cap bs f) (a : Nat) (ha : a < 4294967296) :
    Calls Tryz.prog 97 #[.pointer (some ⟨ap, 0, none⟩), .int .u32 a] w fun r w' => r = .returned (.bool (unB bs f a)) ∧ Ar w' ap p g bg cap bs (if unB bs f a = true then upd f (a / 16) false else f) ∧ Fr [g] w w' := by
  have CW := Lib.hid (awhole_any w ap p g bg cap bs f h a ha)
  obtain ⟨c0, c1⟩ := h.top
  have hne := h.ne
  have H := Lib.hid h
  unfold unB
  obtain ⟨b, hb⟩ : ∃ b, whB bs.length a = b := ⟨_, rfl⟩
  rw [hb] at CW ⊢
  cases b
  · rw [Bool.false_and, if_neg (by simp)]
    clear h hb
    go_enter Tryz.func97, Tryz.ntmps97
    go_wp2_with fail
    refine (CW.out).mono ?_
    rintro e w' ⟨rfl, rfl⟩
    go_wp2_with fail
    go_ret
    exact ⟨rfl, H.out, Fr.refl _ _⟩
  · rw [Bool.true_and]
    unfold whB at hb
    simp only [Bool.and_eq_true, decide_eq_true_eq] at hb
    have CG := Lib.hid (show Calls Tryz.prog 67 #[.pointer (some ⟨p, 0, none⟩), .int .i64 ((a : Int) / 16)] w fun r w' => r = .returned (.bool (f (a / 16))) ∧ w = w' by
      have := get_any w p g (bs.length / 16) f h.2.2.2.2.2.2.1 ((a / 16 : Nat) : Int)
      rw [inR_nat _ _ (by omega), Bool.true_and, Int.toNat_natCast, show ((a / 16 : Nat) : Int) = (a : Int) / 16 by omega] at this
      exact this)
    have CP := Lib.hid (show Calls Tryz.prog 63 #[.pointer (some ⟨p, 0, none⟩), .int .i64 ((a : Int) / 16), .bool false] w fun r w' => r = .returned (.bool true) ∧ Tg w' p g (bs.length / 16) (upd f (a / 16) false) ∧ Fr [g] w w' by
      have := put_yes w p g (bs.length / 16) f h.2.2.2.2.2.2.1 (a / 16) false (by omega)
      rw [show ((a / 16 : Nat) : Int) = (a : Int) / 16 by omega] at this
      exact this)
    obtain ⟨t, ht⟩ : ∃ t, f (a / 16) = t := ⟨_, rfl⟩
    rw [ht] at CG ⊢
    cases t
    · rw [if_neg (by simp)]
      clear h hb ht CP
      go_enter Tryz.func97, Tryz.ntmps97
      go_wp2_with fail
      refine (CW.out).mono ?_
      rintro e w' ⟨rfl, rfl⟩
      go_wp2_with fail
      refine (CG.out).mono ?_
      rintro e w' ⟨rfl, rfl⟩
      go_wp2_with fail
      go_ret
      exact ⟨rfl, H.out, Fr.refl _ _⟩
    · rw [if_pos rfl]
      clear h hb ht
      go_enter Tryz.func97, Tryz.ntmps97
      go_wp2_with fail
      refine (CW.out).mono ?_
      rintro e w' ⟨rfl, rfl⟩
      go_wp2_with fail
      refine (CG.out).mono ?_
      rintro e w' ⟨rfl, rfl⟩
      go_wp2_with fail
      refine (CP.out).mono ?_
      rintro e w6 ⟨rfl, h6, hf6⟩
      have H6 := Lib.hid h6
      have F6 := Lib.hid hf6
      clear h6 hf6
      go_wp2_with fail
      go_ret
      obtain ⟨n1, n2, n3, n4, n5, n6⟩ := hne
      obtain ⟨a1, a2, a3, a4, a5, a6, a7, cs, a8, a9, a10⟩ := H.out
      exact ⟨rfl, ⟨a1, a2, a3, a4, a5, a6.fr F6.out (by simp; omega), H6.out, cs, a8.fr F6.out (by simp; omega), a9, a10⟩, F6.out⟩
theorem auntag_nil (w : World) (a : Nat) : Calls Tryz.prog 97 #[.pointer none, .int .u32 a] w fun r w' => r = .returned (.bool false) ∧ w = w' := by
  have CW := Lib.hid (awhole_nil w a)
  go_enter Tryz.func97, Tryz.ntmps97
  go_wp2_with fail
  refine (CW.out).mono ?_
  rintro e w' ⟨rfl, rfl⟩
  go_wp2_with fail
  go_ret
  exact ⟨rfl, rfl⟩
end Go.Proofs.YthjbnbimfpbccaaGreatDoor
/-
  An arena made, copied, and what tags it tells of a page. Condition: numbers in their types' ranges.
-/





set_option linter.unusedVariables false
namespace Go.Proofs.YthjbnbimfpbccaaGreatDoor
open Go.ChangeShapes Go.WideShapes Go.ChangeAt Go.RowKit
/-! ### a new one -/
theorem anew_bad (w : World) (n e : Int) (h : (n < 16 ∧ e = 2) ∨ (1024 < n ∧ e = 3)) : Calls Tryz.prog 23 #[.int .i64 n] w fun r w' => r = .returned (.tuple #[.pointer none, .int .i64 e]) ∧ w = w' := by
  rcases h with ⟨h1, rfl⟩ | ⟨h1, rfl⟩
  · go_enter Tryz.func23, Tryz.ntmps23
    go_wp2_with fail
    go_ret2
    exact ⟨rfl, rfl⟩
  · have h2 : ¬ n < 16 := by omega
    have h3 : n > 1024 := by omega
    go_enter Tryz.func23, Tryz.ntmps23
    go_wp2_with fail
    go_ret2
    exact ⟨rfl, rfl⟩
set_option maxHeartbeats 1000000 in
set_option maxRecDepth 100000 in
theorem anew_any (w : World) (n : Nat) (h1 : 16 ≤ n) (h2 : n ≤ 1024) :
    Calls Tryz.prog 23 #[.int .i64 n] w fun r w' => ∃ ap p g bg cap, r = .returned (.tuple #[.pointer (some ⟨ap, 0, none⟩), .int .i64 0]) ∧ Ar w' ap p g bg cap (List.replicate (256 * n) 0) (fun _ => false) ∧ w.heap.size ≤ ap ∧ w.heap.size ≤ p ∧ w.heap.size ≤ g ∧ w.heap.size ≤ bg ∧ Fr [] w w' := by
  obtain ⟨N, hN⟩ : ∃ N, 256 * n = N := ⟨_, rfl⟩
  have hNb : N ≤ 262144 := by omega
  have hN0 : N % 16 = 0 := by omega
  have CT := Lib.hid fun W => (show Calls Tryz.prog 69 #[.int .i64 ((N : Int) / 16)] W _ from by
    have := new_any (N / 16) W (by omega)
    rw [show ((N / 16 : Nat) : Int) = (N : Int) / 16 by omega] at this
    exact this)
  have hmk := fun W => run_make_row' (P := Tryz.prog) 22 5 (.int .u8 0) 1 Tryz.underlying22 infoU8 rfl .i64 .i64 N (by omega) (by omega) W
  simp only [made_bys] at hmk
  have HZL := Lib.hid (show (List.replicate N 0).length = N by simp)
  obtain ⟨Z, hZ⟩ : ∃ Z, (bys (List.replicate N 0)).toArray = Z := ⟨_, rfl⟩
  have HZ := Lib.hid hZ
  rw [hZ] at hmk
  have hwn : (n : Int) * 256 = (N : Int) := by omega
  have hwq : IntKind.i64.wrap ((N : Int) / 16) = (N : Int) / 16 := by simp [IntKind.wrap, IntKind.signed, IntKind.bits]; omega
  have k1 : ¬ (n : Int) < 16 := by omega
  have k2 : ¬ (n : Int) > 1024 := by omega
  rw [hN]
  clear hZ
  go_enter Tryz.func23, Tryz.ntmps23
  go_upto_region 6 with (fail)
  refine wp_region_L (fun W => Fr [] w W) [] (by kernel_rfl) (Fr.refl _ _).drew (fun hHeld => ?_)
  refine wpAnyL_take (i := 0) (v := ?_) rfl (by kernel_rfl) (fun _ _ _ h => h) (Or.inl ⟨by rfl, ?_⟩) (by assumption) ?_; rotate_left; (focus (intro w hSw; skip; go_simp; (try with_reducible rfl))); (try (refine wpAnyL_norm (by simp only [Act.put, List.setIfInBounds_toArray, List.set_cons_zero, List.set_cons_succ]; rfl) ?_))
  refine wpAnyL_take (i := 1) (v := ?_) rfl (by kernel_rfl) (fun _ _ _ h => h) (Or.inl ⟨by rfl, ?_⟩) (by assumption) ?_; rotate_left; (focus (intro w hSw; skip; go_simp; (try with_reducible rfl))); (try (refine wpAnyL_norm (by simp only [Act.put, List.setIfInBounds_toArray, List.set_cons_zero, List.set_cons_succ]; rfl) ?_))
  refine wpAnyL_take (i := 3) (v := ?_) rfl (by kernel_rfl) (fun _ _ _ h => h) (Or.inl ⟨by rfl, ?_⟩) (by assumption) ?_; rotate_left; (focus (intro w hSw; skip; go_simp; (try with_reducible rfl))); (try (refine wpAnyL_norm (by simp only [Act.put, List.setIfInBounds_toArray, List.set_cons_zero, List.set_cons_succ]; rfl) ?_))
  refine wpAnyL_ready (rs := [2, 4]) (by kernel_rfl) (by simp) ?_
  refine AllReadyL.cons rfl (fun K hK => ?_) (AllReadyL.cons rfl (fun K hK => ?_) AllReadyL.nil)
  · go_simp
    refine (CT.out _).mono ?_
    rintro e w3 ⟨p, g, rfl, hT3, hp, hg, hf3⟩
    have hp' : w.heap.size ≤ p := hp
    have hg' : w.heap.size ≤ g := hg
    refine hK.out _ _ (fun _ => hHeld.trans0 hf3) (fun hHeld' => ?_); have hHeld := hHeld' (by decide); clear hHeld' hK K; (try (refine wpAnyL_norm (by simp only [Act.put, List.setIfInBounds_toArray, List.set_cons_zero, List.set_cons_succ]; rfl) ?_))
    refine wpAnyL_ready (rs := [4]) (by kernel_rfl) (by simp) ?_; refine AllReadyL.cons rfl (fun K hK => ?_) AllReadyL.nil
    go_simp
    have hB := At.new w3 5 Z
    have hf4 : Fr [] w3 (w3.alloc (.cells Z 5)) := (by repeat (first | exact Fr.refl _ _ | assumption | refine Fr.trans0 ?_ (by assumption) | refine Fr.drewN ?_ _ | refine Fr.alloc ?_ _ | refine Fr.drew ?_))
    have hT := hT3.fr hf4 (by simp) (by simp)
    have hb' := hHeld.size
    refine hK.out _ _ (fun _ => hHeld.trans0 hf4) (fun hHeld' => ?_); have hHeld := hHeld' (by decide); clear hHeld' hK K; (try (refine wpAnyL_norm (by simp only [Act.put, List.setIfInBounds_toArray, List.set_cons_zero, List.set_cons_succ]; rfl) ?_))
    obtain ⟨bg, hbg⟩ : ∃ b, w3.heap.size = b := ⟨_, rfl⟩
    obtain ⟨w4, hw4'⟩ : ∃ W, w3.alloc (.cells Z 5) = W := ⟨_, rfl⟩
    rw [hw4', hbg] at hB
    rw [hw4'] at hT hHeld ⊢
    rw [hbg] at hb' ⊢
    refine wpAnyL_take (i := 5) (v := ?_) rfl (by kernel_rfl) (fun _ _ _ h => h) (Or.inl ⟨by rfl, ?_⟩) (by assumption) ?_; rotate_left; (focus (intro w hSw; skip; go_simp; (try with_reducible rfl))); (try (refine wpAnyL_norm (by simp only [Act.put, List.setIfInBounds_toArray, List.set_cons_zero, List.set_cons_succ]; rfl) ?_))
    refine wpAnyL_ready (rs := [6]) (by kernel_rfl) (by simp) ?_; refine AllReadyL.cons rfl (fun K hK => ?_) AllReadyL.nil
    go_simp
    have hfa : Fr [] w4 (w4.alloc (.cells #[.pointer (some ⟨p, 0, none⟩), .slice (some ⟨bg, 0, none⟩) N N] 127)) := (by repeat (first | exact Fr.refl _ _ | assumption | refine Fr.trans0 ?_ (by assumption) | refine Fr.drewN ?_ _ | refine Fr.alloc ?_ _ | refine Fr.drew ?_))
    have hAX := At.new w4 127 #[.pointer (some ⟨p, 0, none⟩), .slice (some ⟨bg, 0, none⟩) N N]
    have hw4 := hHeld.size
    refine hK.out _ _ (fun _ => hHeld.trans0 hfa) (fun hHeld' => ?_); have hHeld := hHeld' (by decide); clear hHeld' hK K; (try (refine wpAnyL_norm (by simp only [Act.put, List.setIfInBounds_toArray, List.set_cons_zero, List.set_cons_succ]; rfl) ?_))
    refine wpAnyL_take (i := 7) (v := ?_) rfl (by kernel_rfl) (fun _ _ _ h => h) (Or.inl ⟨by rfl, ?_⟩) (by assumption) ?_; rotate_left; (focus (intro w hSw; skip; go_simp; (try with_reducible rfl))); (try (refine wpAnyL_norm (by simp only [Act.put, List.setIfInBounds_toArray, List.set_cons_zero, List.set_cons_succ]; rfl) ?_))
    refine wpAnyL_take (i := 8) (v := ?_) rfl (by kernel_rfl) (fun _ _ _ h => h) (Or.inl ⟨by rfl, ?_⟩) (by assumption) ?_; rotate_left; (focus (intro w hSw; skip; go_simp; (try with_reducible rfl))); (try (refine wpAnyL_norm (by simp only [Act.put, List.setIfInBounds_toArray, List.set_cons_zero, List.set_cons_succ]; rfl) ?_))
    refine wpAnyL_done (by kernel_rfl) ?_ _
    go_wp2_with fail
    go_ret2
    refine ⟨_, rfl, p, g, bg, ⟨N, by rw [HZL.out]; omega, by rw [HZL.out]; omega, by rw [HZL.out]; exact Nat.le_refl _, by omega, Byt.rep N, by rw [HZL.out]; exact hAX, by rw [HZL.out]; exact hT.fr hfa (by simp) (by simp), Z, hB.fr hfa (by simp), ?_, ?_⟩, hw4, by omega, by omega, by omega, hHeld⟩
    · rw [HZL.out, ← HZ.out]; simp [bys_len]
    · rw [HZL.out, ← HZ.out, List.take_of_length_le (by simp [bys_len])]
  · go_simp
    have hB3 : At (w.alloc (.cells Z 5)).drew w.heap.size 5 Z := At.new w 5 Z
    refine hK.out _ _ (fun _ => (show Fr [] w (w.alloc (.cells Z 5)).drew from (by repeat (first | exact Fr.refl _ _ | assumption | refine Fr.trans0 ?_ (by assumption) | refine Fr.drewN ?_ _ | refine Fr.alloc ?_ _ | refine Fr.drew ?_)))) (fun hHeld' => ?_); have hHeld := hHeld' (by decide); clear hHeld' hK K; (try (refine wpAnyL_norm (by simp only [Act.put, List.setIfInBounds_toArray, List.set_cons_zero, List.set_cons_succ]; rfl) ?_))
    obtain ⟨w3, hw3'⟩ : ∃ W, (w.alloc (.cells Z 5)).drew = W := ⟨_, rfl⟩
    rw [hw3'] at hHeld hB3 ⊢
    refine wpAnyL_ready (rs := [2]) (by kernel_rfl) (by simp) ?_; refine AllReadyL.cons rfl (fun K hK => ?_) AllReadyL.nil
    go_simp
    refine (CT.out _).mono ?_
    rintro e w4 ⟨p, g, rfl, hT, hp, hg, hf4⟩
    have hp' : w.heap.size ≤ p := Nat.le_trans hHeld.size hp
    have hg' : w.heap.size ≤ g := Nat.le_trans hHeld.size hg
    have hB := hB3.fr hf4 (by simp)
    have hb' := Nat.le_refl w.heap.size
    refine hK.out _ _ (fun _ => hHeld.trans0 hf4) (fun hHeld' => ?_); have hHeld := hHeld' (by decide); clear hHeld' hK K; (try (refine wpAnyL_norm (by simp only [Act.put, List.setIfInBounds_toArray, List.set_cons_zero, List.set_cons_succ]; rfl) ?_))
    refine wpAnyL_take (i := 5) (v := ?_) rfl (by kernel_rfl) (fun _ _ _ h => h) (Or.inl ⟨by rfl, ?_⟩) (by assumption) ?_; rotate_left; (focus (intro w hSw; skip; go_simp; (try with_reducible rfl))); (try (refine wpAnyL_norm (by simp only [Act.put, List.setIfInBounds_toArray, List.set_cons_zero, List.set_cons_succ]; rfl) ?_))
    refine wpAnyL_ready (rs := [6]) (by kernel_rfl) (by simp) ?_; refine AllReadyL.cons rfl (fun K hK => ?_) AllReadyL.nil
    go_simp
    have hfa : Fr [] w4 (w4.alloc (.cells #[.pointer (some ⟨p, 0, none⟩), .slice (some ⟨w.heap.size, 0, none⟩) N N] 127)) := (by repeat (first | exact Fr.refl _ _ | assumption | refine Fr.trans0 ?_ (by assumption) | refine Fr.drewN ?_ _ | refine Fr.alloc ?_ _ | refine Fr.drew ?_))
    have hAX := At.new w4 127 #[.pointer (some ⟨p, 0, none⟩), .slice (some ⟨w.heap.size, 0, none⟩) N N]
    have hw4 := hHeld.size
    refine hK.out _ _ (fun _ => hHeld.trans0 hfa) (fun hHeld' => ?_); have hHeld := hHeld' (by decide); clear hHeld' hK K; (try (refine wpAnyL_norm (by simp only [Act.put, List.setIfInBounds_toArray, List.set_cons_zero, List.set_cons_succ]; rfl) ?_))
    refine wpAnyL_take (i := 7) (v := ?_) rfl (by kernel_rfl) (fun _ _ _ h => h) (Or.inl ⟨by rfl, ?_⟩) (by assumption) ?_; rotate_left; (focus (intro w hSw; skip; go_simp; (try with_reducible rfl))); (try (refine wpAnyL_norm (by simp only [Act.put, List.setIfInBounds_toArray, List.set_cons_zero, List.set_cons_succ]; rfl) ?_))
    refine wpAnyL_take (i := 8) (v := ?_) rfl (by kernel_rfl) (fun _ _ _ h => h) (Or.inl ⟨by rfl, ?_⟩) (by assumption) ?_; rotate_left; (focus (intro w hSw; skip; go_simp; (try with_reducible rfl))); (try (refine wpAnyL_norm (by simp only [Act.put, List.setIfInBounds_toArray, List.set_cons_zero, List.set_cons_succ]; rfl) ?_))
    refine wpAnyL_done (by kernel_rfl) ?_ _
    go_wp2_with fail
    go_ret2
    refine ⟨_, rfl, p, g, w.heap.size, ⟨N, by rw [HZL.out]; omega, by rw [HZL.out]; omega, by rw [HZL.out]; exact Nat.le_refl _, by omega, Byt.rep N, by rw [HZL.out]; exact hAX, by rw [HZL.out]; exact hT.fr hfa (by simp) (by simp), Z, hB.fr hfa (by simp), ?_, ?_⟩, hw4, by omega, by omega, by omega, hHeld⟩
    · rw [HZL.out, ← HZ.out]; simp [bys_len]
    · rw [HZL.out, ← HZ.out, List.take_of_length_le (by simp [bys_len])]
end Go.Proofs.YthjbnbimfpbccaaGreatDoor
/-
  What tags an arena tells of a page. Condition: numbers in their types' ranges.
-/





set_option linter.unusedVariables false
namespace Go.Proofs.YthjbnbimfpbccaaGreatDoor
open Go.ChangeShapes Go.WideShapes Go.ChangeAt Go.RowKit
theorem infoU32 : (Tryz.prog.info? 43).map (fun i => (i.zero, i.size, i.bytes)) = some (some (.int .u32 0), 1, 4) := by kernel_rfl
def u32s (l : List Nat) : List Value := l.map fun (n : Nat) => .int .u32 (n : Int)
def tagL (f : Nat → Bool) (k j : Nat) : List Nat := ((List.range j).filter fun i => f (k + i)).map fun i => (k + i) * 16
theorem u32s_len (l : List Nat) : (u32s l).length = l.length := by unfold u32s; simp
theorem u32s_snoc (l : List Nat) (n : Nat) : u32s (l ++ [n]) = u32s l ++ [.int .u32 (n : Int)] := by unfold u32s; simp
theorem tagL_len (f : Nat → Bool) (k j : Nat) : (tagL f k j).length ≤ j := by
  unfold tagL
  rw [List.length_map]
  exact Nat.le_trans (List.length_filter_le _ _) (by simp)
theorem tagL_yes (f : Nat → Bool) (k j : Nat) (h : f (k + j) = true) : tagL f k (j + 1) = tagL f k j ++ [(k + j) * 16] := by
  unfold tagL
  rw [List.range_succ, List.filter_append, List.map_append]
  simp [h]
theorem tagL_no (f : Nat → Bool) (k j : Nat) (h : f (k + j) = false) : tagL f k (j + 1) = tagL f k j := by
  unfold tagL
  rw [List.range_succ, List.filter_append, List.map_append]
  simp [h]
def tgP (N : Nat) (f : Nat → Bool) (page : Int) : List Nat := if 0 ≤ page ∧ page < (N / 256 : Nat) then tagL f (16 * page.toNat) 16 else []
theorem tgP_len (N : Nat) (f : Nat → Bool) (page : Int) : (tgP N f page).length ≤ 16 := by
  unfold tgP
  split
  · exact tagL_len _ _ _
  · simp
set_option maxHeartbeats 1000000 in
set_option maxRecDepth 100000 in
theorem atagged_yes (w : World) (ap p g bg cap : Nat) (bs : List Nat) (f : Nat → Bool) (h : Ar w ap p g bg cap bs f) (P : Nat) (hP : P < bs.length / 256) :
    Calls Tryz.prog 21 #[.pointer (some ⟨ap, 0, none⟩), .int .i64 P] w fun r w' => ∃ v, r = .returned v ∧ w'.ownsRow w.heap.size 43 1 v (tagL f (16 * P) 16).length (u32s (tagL f (16 * P) 16)) ∧ Fr [] w w' := by
  obtain ⟨i0, hi, hz0, hz1, hz2⟩ := info_parts infoU32
  have hN := h.2.1
  have CZ := Lib.hid (asize_any w ap p g bg cap bs f h)
  have HT := Lib.hid fun (W : World) (hW : Fr [] w W) => (h.fr0 hW).top.1
  obtain ⟨K, hK⟩ : ∃ K, 16 * P = K := ⟨_, rfl⟩
  have CG := Lib.hid fun (W : World) (hW : Fr [] w W) (j : Nat) (hj : j < 16) => (show Calls Tryz.prog 67 #[.pointer (some ⟨p, 0, none⟩), .int .i64 ((K : Int) + (j : Int))] W fun r w' => r = .returned (.bool (f (K + j))) ∧ W = w' by
    have := get_any W p g (bs.length / 16) f (h.fr0 hW).2.2.2.2.2.2.1 ((K + j : Nat) : Int)
    rw [inR_nat _ _ (by omega), Bool.true_and, Int.toNat_natCast] at this
    exact this)
  obtain ⟨N, hNN⟩ : ∃ N, bs.length = N := ⟨_, rfl⟩
  rw [hNN] at hN hP CZ
  have hfirst : (P : Int) * 256 / 16 = (K : Int) := by omega
  have hge : ¬ (P : Int) ≥ (N : Int) / 256 := by omega
  have hKb : K + 16 ≤ 16384 := by omega
  rw [hK]
  have HL := Lib.hid (fun j => tagL_len f K j)
  have HY := Lib.hid (fun j h => tagL_yes f K j h)
  have HNo := Lib.hid (fun j h => tagL_no f K j h)
  obtain ⟨T, hT⟩ : ∃ T : Nat → List Nat, ∀ j, tagL f K j = T j := ⟨_, fun _ => rfl⟩
  have HT0 := Lib.hid (show T 0 = [] by rw [← hT]; rfl)
  rw [hT 16]
  simp only [hT] at HL HY HNo
  clear h hNN hK hT
  go_enter Tryz.func21, Tryz.ntmps21
  go_wp2_with fail
  refine (CZ.out).mono ?_
  rintro e w' ⟨rfl, rfl⟩
  go_wp2_with fail
  simp only [hfirst]
  clear hfirst
  go_loopw [5, 20] (fun s i wr => ∃ (j : Nat), j ≤ 16 ∧ i = .int .i64 j ∧ wr.ownsRow w.heap.size 43 1 s (T j).length (u32s (T j)) ∧ Fr [] w wr) (fun _ i _ => 16 - (intOf i).toNat)
  case atStart => exact ⟨0, by omega, rfl, by rw [HT0.out]; exact World.ownsRow_nil _ _ _ _, Fr.refl _ _⟩
  case round =>
    obtain ⟨j, hj, rfl, ho, hf⟩ := hrel
    obtain ⟨va, vc, rfl, hvc⟩ := own_slice ho
    have HO := Lib.hid ho
    have HF := Lib.hid hf
    by_cases hj16 : j < 16
    · have c0 := HT.out wr hf
      have C := Lib.hid (CG.out wr hf j hj16)
      have hln := HL.out j
      have hy := HY.out j
      have hno := HNo.out j
      obtain ⟨x, hx⟩ : ∃ x, f (K + j) = x := ⟨_, rfl⟩
      rw [hx] at C hy hno
      have hxw : IntKind.u32.wrap (((K : Int) + (j : Int)) * 16) = (((K + j) * 16 : Nat) : Int) := by simp [IntKind.wrap, IntKind.signed, IntKind.bits]; omega
      clear ho hf hx
      cases x
      · have HNO := Lib.hid (hno rfl)
        clear hno hy
        go_wp2_with fail
        refine (C.out).mono ?_
        rintro e w' ⟨rfl, rfl⟩
        go_wp2_with fail
        go_roundw
        case rel => exact ⟨j + 1, by omega, by go_num, by rw [HNO.out]; exact HO.out, HF.out⟩
        case measure => simp [intOf]; omega
      · have HYY := Lib.hid (hy rfl)
        clear hno hy
        obtain ⟨y, hyy⟩ : ∃ y, (K + j) * 16 = y := ⟨_, rfl⟩
        rw [hyy] at hxw HYY
        obtain ⟨m, hm⟩ : ∃ m, (T j).length = m := ⟨_, rfl⟩
        rw [hm] at hln HO hvc ⊢
        have HM := Lib.hid hm
        clear hyy hm
        have hhs := HF.out.size
        go_wp2_with fail
        refine (C.out).mono ?_
        rintro e w' ⟨rfl, rfl⟩
        go_wp2_with (at_builtin; refine wpList_append_own_at _ rfl (.tmp 31) (.tmp 37) 51 rfl w.heap.size 43 i0 (.int .u32 0) 1 4 Tryz.underlying51 hi hz0 hz1 hz2 rfl (by omega) (.slice va m vc) m (u32s (T j)) rfl (HO.out.alloc _) ⟨wr.heap.size, 0, none⟩ 1 1 [.int .u32 y] rfl rfl (cell_one_new _ _ _) (by simp [Value.oneCell']) (by unfold maxLen; omega) (by omega) (by simp; omega) ?_; intro v1 w1 hown1 hg1 hnil1 hat1)
        go_roundw
        case rel =>
          refine ⟨j + 1, by omega, by go_num, ?_, ?_⟩
          · rw [HYY.out, u32s_snoc, List.length_append, HM.out]
            exact hown1
          · exact (HF.out.alloc _).trans (Fr.grown hg1) (fun x hx => .inr (HO.out.lt x (by simpa using hx)).1)
        case measure => simp [intOf]; omega
    · obtain rfl : j = 16 := by omega
      clear ho hf
      go_wp2_with fail
      go_ret
      exact ⟨_, rfl, HO.out, HF.out⟩
theorem atagged_no (w : World) (ap p g bg cap : Nat) (bs : List Nat) (f : Nat → Bool) (h : Ar w ap p g bg cap bs f) (page : Int) (hp : page < 0 ∨ ((bs.length / 256 : Nat) : Int) ≤ page) :
    Calls Tryz.prog 21 #[.pointer (some ⟨ap, 0, none⟩), .int .i64 page] w fun r w' => r = .returned (.slice none 0 0) ∧ w = w' := by
  have CZ := Lib.hid (asize_any w ap p g bg cap bs f h)
  obtain ⟨N, hNN⟩ : ∃ N, bs.length = N := ⟨_, rfl⟩
  have hN := h.2.1
  rw [hNN] at hp CZ hN
  clear h hNN
  by_cases h0 : page < 0
  · go_enter Tryz.func21, Tryz.ntmps21
    go_wp2_with fail
    go_ret
    exact ⟨rfl, rfl⟩
  · have hge : page ≥ (N : Int) / 256 := by omega
    go_enter Tryz.func21, Tryz.ntmps21
    go_wp2_with fail
    refine (CZ.out).mono ?_
    rintro e w' ⟨rfl, rfl⟩
    go_wp2_with fail
    go_ret
    exact ⟨rfl, rfl⟩
theorem atagged_any (w : World) (ap p g bg cap : Nat) (bs : List Nat) (f : Nat → Bool) (h : Ar w ap p g bg cap bs f) (page : Int) :
    Calls Tryz.prog 21 #[.pointer (some ⟨ap, 0, none⟩), .int .i64 page] w fun r w' => ∃ v, r = .returned v ∧ w'.ownsRow w.heap.size 43 1 v (tgP bs.length f page).length (u32s (tgP bs.length f page)) ∧ Fr [] w w' := by
  unfold tgP
  by_cases hp : 0 ≤ page ∧ page < (bs.length / 256 : Nat)
  · rw [if_pos hp]
    obtain ⟨P, rfl⟩ := Int.eq_ofNat_of_zero_le hp.1
    exact atagged_yes w ap p g bg cap bs f h P (by omega)
  · rw [if_neg hp]
    exact (atagged_no w ap p g bg cap bs f h page (by omega)).mono fun e w' ⟨h1, h2⟩ => ⟨_, h1, World.ownsRow_nil _ _ _ _, h2 ▸ Fr.refl _ _⟩
end Go.Proofs.YthjbnbimfpbccaaGreatDoor
