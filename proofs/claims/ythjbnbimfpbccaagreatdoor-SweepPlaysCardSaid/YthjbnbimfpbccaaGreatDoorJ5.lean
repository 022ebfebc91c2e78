/-
  An arena: bytes and tags; what it tells, and what lays bytes. Condition: numbers in their types' ranges.
-/
import Derived.BigRegion
import Derived.Deep.OwnRows
import Derived.Maps.AppendAt
import Derived.WalkSpells
import Derived.Lib.SliceRun
import Derived.Test.YthjbnbimfpbccaaGreatDoorJ4





set_option linter.unusedVariables false
namespace Go.Proofs.YthjbnbimfpbccaaGreatDoor
open Go.ChangeShapes Go.WideShapes Go.ChangeAt Go.RowKit
/-- An arena at block ap: its map at p and g, its bytes bs in block bg. -/
def Ar (w : World) (ap p g bg cap : Nat) (bs : List Nat) (f : Nat → Bool) : Prop :=
  bs.length % 16 = 0 ∧ bs.length ≤ 262144 ∧ bs.length ≤ cap ∧ cap ≤ 9223372036854775807 ∧ Byt bs ∧
  At w ap 127 #[.pointer (some ⟨p, 0, none⟩), .slice (some ⟨bg, 0, none⟩) bs.length cap] ∧ Tg w p g (bs.length / 16) f ∧
  ∃ cs : Array Value, At w bg 5 cs ∧ bs.length ≤ cs.size ∧ cs.toList.take bs.length = bys bs
section
variable {w w' : World} {ap p g bg cap : Nat} {bs : List Nat} {f : Nat → Bool} {S : List Nat}
theorem At.diff {g g' : Nat} {t t' : TypeId} {cs cs' : Array Value} (h : At w g t cs) (h' : At w g' t' cs') (ht : t ≠ t') : g ≠ g' := by
  rintro rfl
  exact ht (At.inj h h').1
theorem Ar.fr (h : Ar w ap p g bg cap bs f) (hf : Fr S w w') (h1 : ap ∉ S) (h2 : p ∉ S) (h3 : g ∉ S) (h4 : bg ∉ S) : Ar w' ap p g bg cap bs f := by
  obtain ⟨a1, a2, a3, a4, a5, a6, a7, cs, a8, a9, a10⟩ := h
  exact ⟨a1, a2, a3, a4, a5, a6.fr hf h1, a7.fr hf h2 h3, cs, a8.fr hf h4, a9, a10⟩
theorem Ar.fr0 (h : Ar w ap p g bg cap bs f) (hf : Fr [] w w') : Ar w' ap p g bg cap bs f := h.fr hf (by simp) (by simp) (by simp) (by simp)
theorem Ar.top (h : Ar w ap p g bg cap bs f) : w.cell? ⟨ap, 0, none⟩ = some (.pointer (some ⟨p, 0, none⟩)) ∧ w.cell? ⟨ap, 1, none⟩ = some (.slice (some ⟨bg, 0, none⟩) bs.length cap) := by
  obtain ⟨a1, a2, a3, a4, a5, a6, _⟩ := h
  exact ⟨a6.cell 0, a6.cell 1⟩
theorem Ar.lt (h : Ar w ap p g bg cap bs f) : ap < w.heap.size ∧ p < w.heap.size ∧ g < w.heap.size ∧ bg < w.heap.size := by
  obtain ⟨a1, a2, a3, a4, a5, a6, a7, cs, a8, a9, a10⟩ := h
  exact ⟨a6.lt, a7.lt.1, a7.lt.2, a8.lt⟩
theorem Ar.ne (h : Ar w ap p g bg cap bs f) : ap ≠ bg ∧ p ≠ bg ∧ g ≠ bg ∧ ap ≠ g ∧ p ≠ g ∧ ap ≠ p := by
  obtain ⟨a1, a2, a3, a4, a5, a6, ⟨b1, b2, b3, c, cs', b4, b5, b6, b7⟩, cs, a8, a9, a10⟩ := h
  exact ⟨a6.diff a8 (by decide), b5.diff a8 (by decide), b6.diff a8 (by decide), a6.diff b6 (by decide), b1, a6.diff b5 (by decide)⟩
/-- The bytes from a place on. -/
theorem Ar.at_ (h : Ar w ap p g bg cap bs f) (k : Nat) (l : List Nat) (hl : l = (bs.drop k).take l.length) (j : Nat) (v : Value) (hv : (bys l)[j]? = some v) : w.cell? ⟨bg, k + j, none⟩ = some v := by
  obtain ⟨a1, a2, a3, a4, a5, a6, a7, cs, a8, a9, a10⟩ := h
  have hj : j < l.length := by have := (List.getElem?_eq_some_iff.1 hv).1; rwa [bys_len] at this
  rw [hl, ← bys_take, ← bys_drop, List.getElem?_take, if_pos hj, List.getElem?_drop, ← a10, List.getElem?_take] at hv
  by_cases hk : k + j < bs.length
  · rw [if_pos hk] at hv
    rw [a8.cell]
    simpa using hv
  · rw [if_neg hk] at hv
    simp at hv
end
/-! ### copy into a longer slice -/
section
variable {P : Program}
theorem run_copy_le (w : World) (dT sT ty elem : TypeId) (g o nd n dCap : Nat) (hnd : n ≤ nd) (a : Addr) (sCap : Nat) (cur : Array Value) (t : TypeId) (cs : List Value)
    (hu : P.underlying dT = some (.slice elem)) (hs : (P.info? elem).map (·.size) = some 1)
    (hg : w.heap[g]? = some (.cells cur t (0, 0))) (hn : cs.length = n)
    (hsrc : ∀ j v, cs[j]? = some v → w.cell? (a.add j) = some v) (hfit : o + cs.length ≤ cur.size) (h1 : ∀ v ∈ cs, v.oneCell' = true) :
    (Builtin.copy_ #[dT, sT] ty #[.slice (some ⟨g, o, none⟩) nd dCap, .slice (some a) n sCap]).run P w =
      .ok (goInt n) (w.setRow g (cur.toList.take o ++ cs ++ cur.toList.drop (o + cs.length)).toArray) := by
  have hl := run_loadCells_list (P := P) w a cs hsrc
  have hst := run_storeCells_at P g o t cs 0 cur w hg (by simpa using hfit) h1
  have hm : Nat.min n nd = n := Nat.min_eq_left hnd
  cases hq : P.info? elem with
  | none => simp [hq] at hs
  | some i =>
    have hi : i.size = 1 := by simpa [hq] using hs
    rw [hn] at hl hst
    simp [Builtin.copy_, run_underlying hu, Builtin.lenOf, Builtin.firstCells, sizeOf, typeInfo, hq, hi, hl, hst, hn, hm]
theorem run_copy_none (w : World) (dT sT ty elem : TypeId) (d : Option Addr) (nd dCap : Nat) (a : Option Addr) (sCap : Nat)
    (hu : P.underlying dT = some (.slice elem)) (hs : ((P.info? elem).map (·.size)).isSome = true) :
    (Builtin.copy_ #[dT, sT] ty #[.slice d nd dCap, .slice a 0 sCap]).run P w = .ok (goInt 0) w := by
  have hl : ∀ a : Addr, (loadCellsFrom a 0 0 #[]).run P w = .ok #[] w := fun a => by
    have := run_loadCells_list (P := P) w a [] (fun j v h => by simp at h)
    exact this
  cases hq : P.info? elem with
  | none => simp [hq] at hs
  | some i => cases d <;> cases a <;> simp [Builtin.copy_, run_underlying hu, Builtin.lenOf, Builtin.firstCells, sizeOf, typeInfo, hq, storeCells, loadCells, hl]
end
/-! ### what is there -/
theorem anone_no (w : World) (ap p g bg cap : Nat) (bs : List Nat) (f : Nat → Bool) (h : Ar w ap p g bg cap bs f) : Calls Tryz.prog 109 #[.pointer (some ⟨ap, 0, none⟩)] w fun r w' => r = .returned (.bool false) ∧ w = w' := by
  obtain ⟨c0, c1⟩ := h.top
  clear h
  go_enter Tryz.func109, Tryz.ntmps109
  go_wp2_with fail
  go_ret
  exact ⟨rfl, rfl⟩
theorem anone_nil (w : World) : Calls Tryz.prog 109 #[.pointer none] w fun r w' => r = .returned (.bool true) ∧ w = w' := by
  go_enter Tryz.func109, Tryz.ntmps109
  go_wp2_with fail
  go_ret
  exact ⟨rfl, rfl⟩
theorem asize_any (w : World) (ap p g bg cap : Nat) (bs : List Nat) (f : Nat → Bool) (h : Ar w ap p g bg cap bs f) : Calls Tryz.prog 66 #[.pointer (some ⟨ap, 0, none⟩)] w fun r w' => r = .returned (.int .i64 bs.length) ∧ w = w' := by
  have C := Lib.hid (anone_no w ap p g bg cap bs f h)
  obtain ⟨c0, c1⟩ := h.top
  clear h
  go_enter Tryz.func66, Tryz.ntmps66
  go_wp2_with fail
  refine (C.out).mono ?_
  rintro e w' ⟨rfl, rfl⟩
  go_wp2_with fail
  go_ret
  exact ⟨rfl, rfl⟩
def thB (N a : Nat) (n : Int) : Bool := decide (0 ≤ n) && (decide (n ≤ N) && decide ((a : Int) ≤ N - n))
theorem thB_nat (N a n : Nat) : thB N a n = decide (a + n ≤ N) := by
  unfold thB
  by_cases h : a + n ≤ N
  · rw [decide_eq_true h, decide_eq_true (by omega), decide_eq_true (by omega), decide_eq_true (by omega)]; rfl
  · rw [decide_eq_false h]
    by_cases h2 : (n : Int) ≤ N
    · rw [decide_eq_false (show ¬ (a : Int) ≤ N - n by omega), Bool.and_false, Bool.and_false]
    · rw [decide_eq_false h2, Bool.false_and, Bool.and_false]
theorem athere_any (w : World) (ap p g bg cap : Nat) (bs : List Nat) (f : Nat → Bool) (h : Ar w ap p g bg cap bs f) (a : Nat) (ha : a < 4294967296) (n : Int) (hn1 : -9223372036854775808 ≤ n) (hn2 : n ≤ 9223372036854775807) :
    Calls Tryz.prog 104 #[.pointer (some ⟨ap, 0, none⟩), .int .u32 a, .int .i64 n] w fun r w' => r = .returned (.bool (thB bs.length a n)) ∧ w = w' := by
  have C := Lib.hid (anone_no w ap p g bg cap bs f h)
  obtain ⟨c0, c1⟩ := h.top
  have hN := h.2.1
  obtain ⟨N, hNN⟩ : ∃ N, bs.length = N := ⟨_, rfl⟩
  rw [hNN] at c1 hN ⊢
  clear h hNN
  unfold thB
  by_cases h0 : 0 ≤ n
  · by_cases h1 : n ≤ N
    · by_cases h2 : (a : Int) ≤ N - n
      all_goals
        have d0 := decide_eq_true h0
        have d1 := decide_eq_true h1
        first | have d2 := decide_eq_false h2 | have d2 := decide_eq_true h2
        rw [d0, d1, d2]
        go_enter Tryz.func104, Tryz.ntmps104
        go_wp2_with fail
        refine (C.out).mono ?_
        rintro e w' ⟨rfl, rfl⟩
        go_wp2_with fail
        go_ret
        exact ⟨rfl, rfl⟩
    · have d0 := decide_eq_true h0
      have d1 := decide_eq_false h1
      rw [d0, d1, Bool.false_and, Bool.and_false]
      go_enter Tryz.func104, Tryz.ntmps104
      go_wp2_with fail
      refine (C.out).mono ?_
      rintro e w' ⟨rfl, rfl⟩
      go_wp2_with fail
      go_ret
      exact ⟨rfl, rfl⟩
  · have d0 := decide_eq_false h0
    rw [d0, Bool.false_and]
    go_enter Tryz.func104, Tryz.ntmps104
    go_wp2_with fail
    refine (C.out).mono ?_
    rintro e w' ⟨rfl, rfl⟩
    go_wp2_with fail
    go_ret
    exact ⟨rfl, rfl⟩
theorem athere_nil (w : World) (a n : Int) : Calls Tryz.prog 104 #[.pointer none, .int .u32 a, .int .i64 n] w fun r w' => r = .returned (.bool false) ∧ w = w' := by
  have C := Lib.hid (anone_nil w)
  go_enter Tryz.func104, Tryz.ntmps104
  go_wp2_with fail
  refine (C.out).mono ?_
  rintro e w' ⟨rfl, rfl⟩
  go_wp2_with fail
  go_ret
  exact ⟨rfl, rfl⟩
def whB (N a : Nat) : Bool := decide (a % 16 = 0) && decide (a + 16 ≤ N)
theorem awhole_any (w : World) (ap p g bg cap : Nat) (bs : List Nat) (f : Nat → Bool) (h : Ar w ap p g bg cap bs f) (a : Nat) (ha : a < 4294967296) :
    Calls Tryz.prog 60 #[.pointer (some ⟨ap, 0, none⟩), .int .u32 a] w fun r w' => r = .returned (.bool (whB bs.length a)) ∧ w = w' := by
  have C := Lib.hid (athere_any w ap p g bg cap bs f h a ha 16 (by omega) (by omega))
  unfold whB
  have e := thB_nat bs.length a 16
  rw [show (((16 : Nat) : Int)) = 16 from rfl] at e
  rw [e] at C
  obtain ⟨B, hB⟩ : ∃ B, decide (a + 16 ≤ bs.length) = B := ⟨_, rfl⟩
  rw [hB] at C ⊢
  clear h hB e
  by_cases h0 : a % 16 = 0
  · have d0 := decide_eq_true h0
    have hI : ((a : Int) % 16 == 0) = true := by simp; omega
    rw [d0, Bool.true_and]
    go_enter Tryz.func60, Tryz.ntmps60
    go_wp2_with fail
    refine (C.out).mono ?_
    rintro e w' ⟨rfl, rfl⟩
    go_wp2_with fail
    go_ret
    exact ⟨rfl, rfl⟩
  · have d0 := decide_eq_false h0
    have hI : ((a : Int) % 16 == 0) = false := by simp; omega
    rw [d0, Bool.false_and]
    go_enter Tryz.func60, Tryz.ntmps60
    go_wp2_with fail
    go_ret
    exact ⟨rfl, rfl⟩
theorem awhole_nil (w : World) (a : Nat) : Calls Tryz.prog 60 #[.pointer none, .int .u32 a] w fun r w' => r = .returned (.bool false) ∧ w = w' := by
  have C := Lib.hid fun W => athere_nil W a 16
  by_cases h0 : a % 16 = 0
  · have hI : ((a : Int) % 16 == 0) = true := by simp; omega
    go_enter Tryz.func60, Tryz.ntmps60
    go_wp2_with fail
    refine (C.out _).mono ?_
    rintro e w' ⟨rfl, rfl⟩
    go_wp2_with fail
    go_ret
    exact ⟨rfl, rfl⟩
  · have hI : ((a : Int) % 16 == 0) = false := by simp; omega
    go_enter Tryz.func60, Tryz.ntmps60
    go_wp2_with fail
    go_ret
    exact ⟨rfl, rfl⟩
end Go.Proofs.YthjbnbimfpbccaaGreatDoor
/-
  What an arena's functions do that lay bytes or tell them. Condition: numbers in their types' ranges; at most a million bytes at once.
-/





set_option linter.unusedVariables false
namespace Go.Proofs.YthjbnbimfpbccaaGreatDoor
open Go.ChangeShapes Go.WideShapes Go.ChangeAt Go.RowKit
def putL (bs : List Nat) (a : Nat) (l : List Nat) : List Nat := bs.take a ++ l ++ bs.drop (a + l.length)
def putF (f : Nat → Bool) (a n : Nat) : Nat → Bool := clr f (a / 16) ((a + n - 1) / 16 + 1)
theorem putL_len (bs : List Nat) (a : Nat) (l : List Nat) (h : a + l.length ≤ bs.length) : (putL bs a l).length = bs.length := by unfold putL; simp; omega
theorem putL_byt {bs : List Nat} {a : Nat} {l : List Nat} (h : Byt bs) (hl : Byt l) : Byt (putL bs a l) := ((h.take _).append hl).append (h.drop _)
theorem putL_cells (cs : List Value) (bs l : List Nat) (a : Nat) (h : a + l.length ≤ bs.length) (hc : cs.take bs.length = bys bs) : (cs.take a ++ bys l ++ cs.drop (a + (bys l).length)).take bs.length = bys (putL bs a l) := by
  have e : cs = bys bs ++ cs.drop bs.length := by rw [← hc, List.take_append_drop]
  rw [bys_len]
  have h1 : cs.take a = bys (bs.take a) := by
    rw [e, List.take_append_of_le_length (by rw [bys_len]; omega), bys_take]
  have h2 : cs.drop (a + l.length) = bys (bs.drop (a + l.length)) ++ cs.drop bs.length := by
    conv => lhs; rw [e]
    rw [List.drop_append_of_le_length (by rw [bys_len]; omega), bys_drop]
  rw [h1, h2, ← List.append_assoc, ← bys_append, ← bys_append, List.take_append_of_le_length (by rw [bys_len]; simp; omega), List.take_of_length_le (by rw [bys_len]; simp; omega)]
  rfl
theorem putL_nil (bs : List Nat) (a : Nat) : putL bs a [] = bs := by unfold putL; simp
set_option maxHeartbeats 1000000 in
set_option maxRecDepth 100000 in
theorem aput_yes (w : World) (ap p g bg cap : Nat) (bs : List Nat) (f : Nat → Bool) (h : Ar w ap p g bg cap bs f) (a : Nat) (ha : a < 4294967296) (la : Addr) (n lc : Nat) (l : List Nat) (hl : l.length = n) (hb : Byt l)
    (hin : ∀ j v, (bys l)[j]? = some v → w.cell? (la.add j) = some v) (hn0 : 0 < n) (hfit : a + n ≤ bs.length) :
    Calls Tryz.prog 88 #[.pointer (some ⟨ap, 0, none⟩), .int .u32 a, .slice (some la) n lc] w fun r w' => r = .returned (.bool true) ∧ Ar w' ap p g bg cap (putL bs a l) (putF f a n) ∧ Fr [g, bg] w w' := by
  have C := Lib.hid (show Calls Tryz.prog 104 #[.pointer (some ⟨ap, 0, none⟩), .int .u32 a, .int .i64 n] w fun r w' => r = .returned (.bool true) ∧ w = w' by
    have := athere_any w ap p g bg cap bs f h a ha n (by omega) (by have := h.2.1; omega)
    rw [thB_nat, decide_eq_true hfit] at this
    exact this)
  obtain ⟨c0, c1⟩ := h.top
  have hne := h.ne
  have hlt := h.lt
  obtain ⟨a1, a2, a3, a4, a5, a6, a7, cs, a8, a9, a10⟩ := h
  have hr := run_copy_le (P := Tryz.prog) w 22 22 3 5 bg a (bs.length - a) n (cap - a) (by omega) la lc cs 5 (bys l) Tryz.underlying22 (by kernel_rfl) a8 (by rw [bys_len]; exact hl) hin (by rw [bys_len]; omega) (bys_one l)
  have A2 := setRow_heap w bg _ (cs.toList.take a ++ bys l ++ cs.toList.drop (a + (bys l).length)).toArray 5 (0, 0) a8
  have F2 := Fr.setRow w bg (cs.toList.take a ++ bys l ++ cs.toList.drop (a + (bys l).length)).toArray
  have hcells := putL_cells cs.toList bs l a (by omega) a10
  obtain ⟨D, hD⟩ : ∃ D, (cs.toList.take a ++ bys l ++ cs.toList.drop (a + (bys l).length)) = D := ⟨_, rfl⟩
  have hDl : bs.length ≤ D.length := by
    rw [← hD]; simp [bys_len]; omega
  rw [hD] at hr A2 F2 hcells
  obtain ⟨w2, hw2⟩ : ∃ W, w.setRow bg D.toArray = W := ⟨_, rfl⟩
  rw [hw2] at hr A2 F2
  have T2 := a7.fr F2 (by simp; omega) (by simp; omega)
  have A6 := a6.fr F2 (by simp; omega)
  have hA : (max ((a / 16 : Nat) : Int) 0).toNat = a / 16 := by omega
  have hB : (min (((a + n - 1) / 16 + 1 : Nat) : Int) ((bs.length / 16 : Nat) : Int)).toNat = (a + n - 1) / 16 + 1 := by omega
  have CC := clear_any w2 p g (bs.length / 16) f T2 ((a / 16 : Nat) : Int) (((a + n - 1) / 16 + 1 : Nat) : Int)
  rw [hA, hB] at CC
  rw [show (((a + n - 1) / 16 + 1 : Nat) : Int) = ((a : Int) + (n : Int) - 1) / 16 + 1 by omega, show ((a / 16 : Nat) : Int) = (a : Int) / 16 by omega] at CC
  have C2 := Lib.hid CC
  have HR := Lib.hid hr
  have HA2 := Lib.hid (show At w2 bg 5 D.toArray from A2)
  have HA6 := Lib.hid A6
  have HC := Lib.hid hcells
  have HF2 := Lib.hid F2
  have e0 := (F2.cell (a := ⟨ap, 0, none⟩) hlt.1 (by simp; omega)).trans c0
  have hL := putL_len bs a l (by omega)
  have HPB := Lib.hid (putL_byt (a := a) a5 hb)
  have HL := Lib.hid hL
  have hac : a < cap := by omega
  obtain ⟨N, hN⟩ : ∃ N, bs.length = N := ⟨_, rfl⟩
  rw [hN] at hfit a1 a2 a3 c1 C2 HR HC HL HA6 hDl
  clear hcells hr A2 A6 F2 T2 CC hA hB hD hw2 a5 a6 a7 a8 a9 a10 hin hb hl hL
  go_enter Tryz.func88, Tryz.ntmps88
  go_wp2_with fail
  refine (C.out).mono ?_
  rintro e w' ⟨rfl, rfl⟩
  go_wp2_with (refine wpList_copy_run rfl (.tmp 18) (.tmp 19) 22 22 rfl _ _ rfl rfl HR.out ?_)
  refine (C2.out).mono ?_
  rintro e w3 ⟨rfl, h3, hf3⟩
  have hne' := hne
  go_wp2_with fail
  go_ret
  obtain ⟨n1, n2, n3, n4, n5, n6⟩ := hne
  refine ⟨rfl, ⟨by rw [HL.out]; exact a1, by rw [HL.out]; exact a2, by rw [HL.out]; exact a3, a4, HPB.out, ?_, ?_, D.toArray, ?_, ?_, ?_⟩, (HF2.out.more (T := [g, bg]) (by simp)).trans hf3 (by simp)⟩
  · rw [HL.out]; exact HA6.out.fr hf3 (by simp; omega)
  · rw [HL.out]; exact h3
  · exact HA2.out.fr hf3 (by simp; omega)
  · rw [HL.out]; simpa using hDl
  · rw [HL.out]; exact HC.out
theorem aput_no (w : World) (ap p g bg cap : Nat) (bs : List Nat) (f : Nat → Bool) (h : Ar w ap p g bg cap bs f) (a : Nat) (ha : a < 4294967296) (la : Option Addr) (n lc : Nat) (hn : n ≤ 1000000) (hfit : ¬ a + n ≤ bs.length) :
    Calls Tryz.prog 88 #[.pointer (some ⟨ap, 0, none⟩), .int .u32 a, .slice la n lc] w fun r w' => r = .returned (.bool false) ∧ w = w' := by
  have C := Lib.hid (show Calls Tryz.prog 104 #[.pointer (some ⟨ap, 0, none⟩), .int .u32 a, .int .i64 n] w fun r w' => r = .returned (.bool false) ∧ w = w' by
    have := athere_any w ap p g bg cap bs f h a ha n (by omega) (by omega)
    rw [thB_nat, decide_eq_false hfit] at this
    exact this)
  clear h hfit
  go_enter Tryz.func88, Tryz.ntmps88
  go_wp2_with fail
  refine (C.out).mono ?_
  rintro e w' ⟨rfl, rfl⟩
  go_wp2_with fail
  go_ret
  exact ⟨rfl, rfl⟩
set_option maxRecDepth 100000 in
theorem aput_zero (w : World) (ap p g bg cap : Nat) (bs : List Nat) (f : Nat → Bool) (h : Ar w ap p g bg cap bs f) (a : Nat) (ha : a < 4294967296) (la : Option Addr) (lc : Nat) (hfit : a ≤ bs.length) :
    Calls Tryz.prog 88 #[.pointer (some ⟨ap, 0, none⟩), .int .u32 a, .slice la 0 lc] w fun r w' => r = .returned (.bool true) ∧ w = w' := by
  have C := Lib.hid (show Calls Tryz.prog 104 #[.pointer (some ⟨ap, 0, none⟩), .int .u32 a, .int .i64 0] w fun r w' => r = .returned (.bool true) ∧ w = w' by
    have := athere_any w ap p g bg cap bs f h a ha ((0 : Nat) : Int) (by omega) (by omega)
    rw [thB_nat, decide_eq_true (by omega)] at this
    exact this)
  obtain ⟨c0, c1⟩ := h.top
  have hcap := h.2.2.1
  have hr : ∀ d nd dc, (Builtin.copy_ #[22, 22] 3 #[.slice d nd dc, .slice la 0 lc]).run Tryz.prog w = .ok (goInt 0) w := fun d nd dc => run_copy_none w _ _ _ 5 d nd dc la lc Tryz.underlying22 (by kernel_rfl)
  have HR := Lib.hid hr
  obtain ⟨N, hN⟩ : ∃ N, bs.length = N := ⟨_, rfl⟩
  rw [hN] at c1 hcap hfit
  clear h hr hN
  by_cases hac : a < cap
  all_goals
    go_enter Tryz.func88, Tryz.ntmps88
    go_wp2_with fail
    refine (C.out).mono ?_
    rintro e w' ⟨rfl, rfl⟩
    go_wp2_with (refine wpList_copy_run rfl (.tmp 18) (.tmp 19) 22 22 rfl _ _ rfl rfl (HR.out _ _ _) ?_)
    go_ret
    exact ⟨rfl, rfl⟩
/-! ### all ways of laying bytes -/
def wrL (bs : List Nat) (a : Nat) (l : List Nat) : List Nat := if a + l.length ≤ bs.length then putL bs a l else bs
def wrF (bs : List Nat) (f : Nat → Bool) (a : Nat) (l : List Nat) : Nat → Bool := if a + l.length ≤ bs.length ∧ 0 < l.length then putF f a l.length else f
theorem wrL_len (bs : List Nat) (a : Nat) (l : List Nat) : (wrL bs a l).length = bs.length := by
  unfold wrL
  split
  · exact putL_len bs a l (by assumption)
  · rfl
theorem aput_any (w : World) (ap p g bg cap : Nat) (bs : List Nat) (f : Nat → Bool) (h : Ar w ap p g bg cap bs f) (a : Nat) (ha : a < 4294967296) (la : Option Addr) (n lc : Nat) (l : List Nat) (hl : l.length = n) (hn : n ≤ 1000000) (hb : Byt l) (hin : BIn w la l) :
    Calls Tryz.prog 88 #[.pointer (some ⟨ap, 0, none⟩), .int .u32 a, .slice la n lc] w fun r w' => r = .returned (.bool (decide (a + n ≤ bs.length))) ∧ Ar w' ap p g bg cap (wrL bs a l) (wrF bs f a l) ∧ Fr [g, bg] w w' := by
  unfold wrL wrF
  rw [hl]
  by_cases hfit : a + n ≤ bs.length
  · rw [if_pos hfit, decide_eq_true hfit]
    rcases Nat.eq_zero_or_pos n with h0 | h0
    · subst h0
      obtain rfl := List.eq_nil_of_length_eq_zero hl
      rw [if_neg (by simp), putL_nil]
      exact (aput_zero w ap p g bg cap bs f h a ha la lc (by omega)).mono fun e w' ⟨h1, h2⟩ => ⟨h1, h2 ▸ h, h2 ▸ Fr.refl _ _⟩
    · rw [if_pos ⟨hfit, h0⟩]
      rcases hin with h1 | ⟨b, off, rfl, hg, hc⟩
      · subst h1; simp at hl; omega
      · exact aput_yes w ap p g bg cap bs f h a ha _ n lc l hl hb (fun j v hv => by rw [Go.WideShapes.add_plain]; exact hc j v hv) h0 hfit
  · rw [if_neg hfit, if_neg (fun h => hfit h.1), decide_eq_false hfit]
    exact (aput_no w ap p g bg cap bs f h a ha la n lc hn hfit).mono fun e w' ⟨h1, h2⟩ => ⟨h1, h2 ▸ h, h2 ▸ Fr.refl _ _⟩
theorem aput_nil (w : World) (a n : Nat) (la : Option Addr) (lc : Nat) : Calls Tryz.prog 88 #[.pointer none, .int .u32 a, .slice la n lc] w fun r w' => r = .returned (.bool false) ∧ w = w' := by
  have C := Lib.hid (athere_nil w a n)
  go_enter Tryz.func88, Tryz.ntmps88
  go_wp2_with fail
  refine (C.out).mono ?_
  rintro e w' ⟨rfl, rfl⟩
  go_wp2_with fail
  go_ret
  exact ⟨rfl, rfl⟩
theorem awrite_any (w : World) (ap p g bg cap : Nat) (bs : List Nat) (f : Nat → Bool) (h : Ar w ap p g bg cap bs f) (a : Nat) (ha : a < 4294967296) (l : List Nat) (hn : l.length ≤ 1000000) (hb : Byt l) :
    Calls Tryz.prog 61 #[.pointer (some ⟨ap, 0, none⟩), .int .u32 a, strV l] w fun r w' => r = .returned (.bool (decide (a + l.length ≤ bs.length))) ∧ Ar w' ap p g bg cap (wrL bs a l) (wrF bs f a l) ∧ Fr [g, bg] w w' := by
  have C := Lib.hid fun W hW la (hf : BIn W la l) lc => aput_any W ap p g bg cap bs f (h.fr0 hW) a ha la l.length lc l rfl hn hb hf
  have HB := Lib.hid hb
  have HL := Lib.hid hn
  obtain ⟨s, hs⟩ : ∃ s, strV l = s := ⟨_, rfl⟩
  have HS := Lib.hid hs
  rw [hs]
  clear h hb hn hs
  go_enter Tryz.func61, Tryz.ntmps61
  go_wp2_with (refine wpList_bytes rfl Tryz.underlying9 ⟨5, Tryz.underlying22, Tryz.underlying5⟩ (.tmp 9) rfl l HB.out HL.out HS.out.symm ?_; intro w2 gl lc hgl hlc hlm hc hf hgw)
  have C2 := Lib.hid (C.out w2 hf _ (.inr ⟨gl, 0, rfl, hgw, fun j v hv => by rw [Nat.zero_add]; exact hc j v hv⟩) lc)
  have HF := Lib.hid hf
  clear hc hf C
  refine (C2.out).mono ?_
  rintro e w3 ⟨rfl, h3, hf3⟩
  have H3 := Lib.hid h3
  have HF3 := Lib.hid hf3
  clear h3 hf3 C2
  go_wp2_with fail
  go_ret
  exact ⟨rfl, H3.out, (HF.out.more (by simp)).trans HF3.out (by simp)⟩
theorem awrite_nil (w : World) (a : Nat) (l : List Nat) (hn : l.length ≤ 1000000) (hb : Byt l) : Calls Tryz.prog 61 #[.pointer none, .int .u32 a, strV l] w fun r w' => r = .returned (.bool false) ∧ Fr [] w w' := by
  have C := Lib.hid fun W la lc => aput_nil W a l.length la lc
  have HB := Lib.hid hb
  have HL := Lib.hid hn
  obtain ⟨s, hs⟩ : ∃ s, strV l = s := ⟨_, rfl⟩
  have HS := Lib.hid hs
  rw [hs]
  clear hb hn hs
  go_enter Tryz.func61, Tryz.ntmps61
  go_wp2_with (refine wpList_bytes rfl Tryz.underlying9 ⟨5, Tryz.underlying22, Tryz.underlying5⟩ (.tmp 9) rfl l HB.out HL.out HS.out.symm ?_; intro w2 gl lc hgl hlc hlm hc hf hgw)
  refine (C.out _ _ _).mono ?_
  rintro e w3 ⟨rfl, rfl⟩
  go_wp2_with fail
  go_ret
  exact ⟨rfl, hf⟩
/-! ### numbers laid -/
theorem oput_no (w : World) (s : Value) (k v : Int) (h : k ≠ 1 ∧ k ≠ 2 ∧ k ≠ 4) : Calls Tryz.prog 87 #[s, .int .i64 k, .int .u32 v] w fun r w' => r = .returned s ∧ w = w' := by
  have C := Lib.hid fun W => right_no W k h.1 h.2.1 h.2.2
  clear h
  go_enter Tryz.func87, Tryz.ntmps87
  go_wp2_with fail
  refine (C.out _).mono ?_
  rintro e w' ⟨rfl, rfl⟩
  go_wp2_with fail
  go_ret
  exact ⟨rfl, rfl⟩
def widB (k : Int) : Bool := decide (k = 1 ∨ k = 2 ∨ k = 4)
theorem astore_no (w : World) (x : Value) (a v k : Int) (h : k ≠ 1 ∧ k ≠ 2 ∧ k ≠ 4) : Calls Tryz.prog 41 #[x, .int .u32 a, .int .i64 k, .int .u32 v] w fun r w' => r = .returned (.bool false) ∧ w = w' := by
  have C := Lib.hid fun W => oput_no W (.string ⟨#[]⟩) k v h
  clear h
  go_enter Tryz.func41, Tryz.ntmps41
  go_wp2_with fail
  refine (C.out _).mono ?_
  rintro e w' ⟨rfl, rfl⟩
  go_wp2_with fail
  go_ret
  exact ⟨rfl, rfl⟩
theorem loop_ne (s : ByteArray) : ∀ (n i : Nat) (r : List UInt8), s.size - i = n → r ≠ [] → ByteArray.toList.loop s i r ≠ []
  | 0, i, r, hn, hr => by
    unfold ByteArray.toList.loop
    rw [if_neg (by omega)]
    simpa using hr
  | n + 1, i, r, hn, hr => by
    unfold ByteArray.toList.loop
    rw [if_pos (by omega)]
    exact loop_ne s n (i + 1) _ (by omega) (by simp)
theorem str_ne (s : ByteArray) (h : s.size ≠ 0) : s.toList.isEmpty = false := by
  have : s.toList ≠ [] := by
    unfold ByteArray.toList ByteArray.toList.loop
    rw [if_pos (by omega)]
    exact loop_ne s _ 1 _ rfl (by simp)
  simpa using this
set_option maxRecDepth 100000 in
theorem astore_any (w : World) (ap p g bg cap : Nat) (bs : List Nat) (f : Nat → Bool) (h : Ar w ap p g bg cap bs f) (a : Nat) (ha : a < 4294967296) (k v : Nat) (hk : k = 1 ∨ k = 2 ∨ k = 4) (hv : v < 4294967296) :
    Calls Tryz.prog 41 #[.pointer (some ⟨ap, 0, none⟩), .int .u32 a, .int .i64 k, .int .u32 v] w fun r w' => r = .returned (.bool (decide (a + k ≤ bs.length))) ∧ Ar w' ap p g bg cap (wrL bs a (le k v)) (wrF bs f a (le k v)) ∧ Fr [g, bg] w w' := by
  have C1 := Lib.hid fun W => (show Calls Tryz.prog 87 #[.string ⟨#[]⟩, .int .i64 k, .int .u32 v] W fun r w' => r = .returned (strV (le k v)) ∧ Fr [] W w' from oput_any W [] (fun _ h => by cases h) (by simp) k v hk hv)
  have C := Lib.hid fun W hW la (hf : BIn W la (le k v)) lc => aput_any W ap p g bg cap bs f (h.fr0 hW) a ha la k lc (le k v) (le_len k v) (by omega) (le_byt k v) hf
  have HB := Lib.hid (le_byt k v)
  have HL := Lib.hid (show (le k v).length ≤ 1000000 by rw [le_len]; omega)
  have HK := Lib.hid (le_len k v)
  have hne : (BS (le k v)).size ≠ 0 := by rw [BS_size, le_len]; omega
  obtain ⟨s, hs⟩ : ∃ s, strV (le k v) = s := ⟨_, rfl⟩
  have HS := Lib.hid hs
  rw [hs] at C1
  obtain ⟨S, hS⟩ : ∃ S, BS (le k v) = S := ⟨_, rfl⟩
  have hsS : s = .string S := by rw [← hs, ← hS]; rfl
  rw [hS] at hne
  subst hsS
  have hemp := str_ne S hne
  clear h hs hS hk hv
  go_enter Tryz.func41, Tryz.ntmps41
  go_wp2_with fail
  refine (C1.out _).mono ?_
  rintro e w1 ⟨rfl, hf1⟩
  have F1 := Lib.hid hf1
  clear hf1
  go_wp2_with (refine wpList_bytes rfl Tryz.underlying9 ⟨5, Tryz.underlying22, Tryz.underlying5⟩ (.tmp 17) rfl (le k v) HB.out HL.out HS.out.symm ?_; intro w2 gl lc hgl hlc hlm hc hf hgw)
  have F2 := Lib.hid (F1.out.trans0 hf)
  have C2 := C.out w2 F2.out _ (.inr ⟨gl, 0, rfl, hgw, fun j v hv => by rw [Nat.zero_add]; exact hc j v hv⟩) lc
  rw [HK.out]
  clear hc hf C
  refine C2.mono ?_
  rintro e w3 ⟨rfl, h3, hf3⟩
  have H3 := Lib.hid h3
  have HF3 := Lib.hid hf3
  clear h3 hf3 C2
  go_wp2_with fail
  go_ret
  exact ⟨rfl, H3.out, (F2.out.more (by simp)).trans HF3.out (by simp)⟩
end Go.Proofs.YthjbnbimfpbccaaGreatDoor
/-
  What an arena's functions tell. Condition: numbers in their types' ranges.
-/





set_option linter.unusedVariables false
namespace Go.Proofs.YthjbnbimfpbccaaGreatDoor
open Go.ChangeShapes Go.WideShapes Go.ChangeAt Go.RowKit
theorem sub_of (bs : List Nat) (a n : Nat) (h : a + n ≤ bs.length) : ((bs.drop a).take n).length = n := by rw [List.length_take, List.length_drop]; omega
end Go.Proofs.YthjbnbimfpbccaaGreatDoor
/-
  Arguments that came in: structs and arrays laid flat, down to numbers and truths; slices of such. No condition.
-/

set_option linter.unusedVariables false
namespace Go.Proofs.YthjbnbimfpbccaaGreatDoor
open Go.ChangeShapes Go.WideShapes Go.ChangeAt Go.RowKit
inductive Leaf where
  | i (k : IntKind)
  | b
  | s
def Leaf.ok : Leaf → Value → Prop
  | .i k, v => ∃ z, v = .int k z ∧ (Lit.int k z).wf = true
  | .b, v => ∃ x, v = .bool x
  | .s, v => ∃ x : ByteArray, v = .string x ∧ x.size ≤ maxLen
structure Fits (ls : List Leaf) (cs : List Value) : Prop where
  len : cs.length = ls.length
  at_ : ∀ (j : Nat) (l : Leaf), ls[j]? = some l → ∃ v, cs[j]? = some v ∧ l.ok v
theorem Fits.cons {l : Leaf} {ls : List Leaf} {cs : List Value} (h : Fits (l :: ls) cs) : ∃ v cs', cs = v :: cs' ∧ l.ok v ∧ Fits ls cs' := by
  obtain ⟨h1, h2⟩ := h
  match cs, h1 with
  | v :: cs', h1 =>
    obtain ⟨u, hu, hok⟩ := h2 0 l rfl
    simp at hu
    subst hu
    exact ⟨_, cs', rfl, hok, by simpa using h1, fun j l' hj => h2 (j + 1) l' hj⟩
theorem Fits.nil {cs : List Value} (h : Fits [] cs) : cs = [] := List.length_eq_zero_iff.1 h.len
def join : Nat → List (Nat × List Leaf) → Option (List Leaf)
  | _, [] => some []
  | off, (o, l) :: r => if o = off then (join (off + l.length) r).map (l ++ ·) else none
theorem join_at : ∀ (fl : List (Nat × List Leaf)) (off : Nat) (tot : List Leaf), join off fl = some tot → ∀ (j : Nat) (x : Leaf), tot[j]? = some x → ∃ (i o : Nat) (l : List Leaf), fl[i]? = some (o, l) ∧ o ≤ off + j ∧ l[off + j - o]? = some x
  | [], off, tot, h, j, x, hj => by simp [join] at h; subst h; simp at hj
  | (o, l) :: r, off, tot, h, j, x, hj => by
    unfold join at h
    split at h
    · rename_i ho
      subst ho
      simp only [Option.map_eq_some_iff] at h
      obtain ⟨t, ht, rfl⟩ := h
      by_cases hjl : j < l.length
      · rw [List.getElem?_append_left hjl] at hj
        exact ⟨0, o, l, rfl, by omega, by rw [show o + j - o = j by omega]; exact hj⟩
      · rw [List.getElem?_append_right (by omega)] at hj
        obtain ⟨i, o', l', h1, h2, h3⟩ := join_at r (o + l.length) t ht (j - l.length) x hj
        exact ⟨i + 1, o', l', h1, by omega, by rw [show o + j - o' = o + l.length + (j - l.length) - o' by omega]; exact h3⟩
    · cases h
/-- A type, laid flat. -/
def flat (P : Program) : Nat → TypeId → Option (List Leaf)
  | 0, _ => none
  | n + 1, t =>
    match P.underlying t with
    | some .bool => some [.b]
    | some (.int k) => some [.i k]
    | some .string => some [.s]
    | some (.struct fs) => (fs.toList.mapM fun f => (flat P n f.type).bind fun l => if l.length = P.cellsOf f.type then some (f.offset, l) else none).bind fun fl => (join 0 fl).bind fun tot => if tot.length = P.cellsOf t then some tot else none
    | some (.array m e) => (flat P n e).bind fun l => if l.length = P.cellsOf e ∧ m * l.length = P.cellsOf t then some (List.replicate m l).flatten else none
    | _ => none
theorem flatten_at : ∀ (m : Nat) (l : List Leaf) (j : Nat) (x : Leaf), (List.replicate m l).flatten[j]? = some x → ∃ i, i < m ∧ i * l.length ≤ j ∧ l[j - i * l.length]? = some x
  | 0, l, j, x, h => by simp at h
  | m + 1, l, j, x, h => by
    rw [List.replicate_succ, List.flatten_cons] at h
    by_cases hjl : j < l.length
    · rw [List.getElem?_append_left hjl] at h
      exact ⟨0, by omega, by omega, by simpa using h⟩
    · rw [List.getElem?_append_right (by omega)] at h
      obtain ⟨i, h1, h2, h3⟩ := flatten_at m l (j - l.length) x h
      refine ⟨i + 1, by omega, by rw [Nat.add_mul]; omega, ?_⟩
      rw [Nat.add_mul, show j - (i * l.length + 1 * l.length) = j - l.length - i * l.length by omega]
      exact h3
theorem flatten_len : ∀ (m : Nat) (l : List Leaf), (List.replicate m l).flatten.length = m * l.length
  | 0, l => by simp
  | m + 1, l => by rw [List.replicate_succ, List.flatten_cons, List.length_append, flatten_len m l, Nat.add_mul]; omega
section
variable {H : Type} {enc : TypeId × Value → H} {P : Program} {w : World} {base : Nat} {spare : Nat → Bool} {held : Bool}
theorem drop_take_at {cs : List Value} {o k i : Nat} {v : Value} (h : ((cs.drop o).take k)[i]? = some v) : cs[o + i]? = some v := by
  rw [List.getElem?_take] at h
  split at h
  · rw [List.getElem?_drop] at h; exact h
  · cases h
theorem flat_fits : ∀ (n : Nat) (t : TypeId) (ls : List Leaf), flat P n t = some ls → ∀ (fuel : Nat) (cs : List Value) (x : DataW H × List MemPlace), DataW.trod enc P w base spare held fuel t cs = some x → Fits ls cs
  | 0, t, ls, h, _, _, _, _ => by simp [flat] at h
  | n + 1, t, ls, h, fuel, cs, x, hx => by
    unfold flat at h
    split at h
    · rename_i hu
      injection h with h; subst h
      obtain ⟨b, rfl, _⟩ := DataW.trod_bool hu hx
      exact ⟨rfl, fun j l hj => by
        match j, hj with
        | 0, hj => simp at hj; subst hj; exact ⟨_, rfl, b, rfl⟩⟩
    · rename_i k hu
      injection h with h; subst h
      obtain ⟨z, rfl, _, hw⟩ := DataW.trod_int hu hx
      exact ⟨rfl, fun j l hj => by
        match j, hj with
        | 0, hj => simp at hj; subst hj; exact ⟨_, rfl, z, rfl, hw⟩⟩
    · rename_i hu
      injection h with h; subst h
      obtain ⟨b, rfl, _, hb⟩ := DataW.trod_string hu hx
      exact ⟨rfl, fun j l hj => by
        match j, hj with
        | 0, hj => simp at hj; subst hj; exact ⟨_, rfl, b, rfl, hb⟩⟩
    · rename_i fs hu
      simp only [Option.bind_eq_some_iff] at h
      obtain ⟨fl, hfl, tot, htot, h⟩ := h
      split at h
      · rename_i hlen
        injection h with h; subst h
        obtain ⟨ys, m, _, _, hcl, _, hf⟩ := DataW.trod_struct hu hx
        refine ⟨by rw [hcl, hlen], fun j l hj => ?_⟩
        obtain ⟨i, o, l', h1, h2, h3⟩ := join_at fl 0 tot htot j l hj
        have hil : i < fs.toList.length := by
          have := mapM_some_length hfl
          rw [← this]; exact (List.getElem?_eq_some_iff.1 h1).1
        have hfi : fs[i]? = some fs.toList[i] := by
          rw [← Array.getElem?_toList]; exact List.getElem?_eq_getElem hil
        have h4 := mapM_some_get hfl i fs.toList[i] (List.getElem?_eq_getElem hil)
        rw [h1] at h4
        simp only [Option.bind_eq_some_iff] at h4
        obtain ⟨l2, hl2, h4⟩ := h4
        split at h4
        · injection h4 with h4
          injection h4 with h5 h6
          subst h5 h6
          have h7 := hf i _ hfi
          cases hy : ys[i]? with
          | none =>
            rw [hy] at h7
            have : i < ys.length := by simp at hil; omega
            rw [List.getElem?_eq_getElem this] at hy; cases hy
          | some y =>
            rw [hy] at h7
            obtain ⟨_, h8⟩ := flat_fits n _ l2 hl2 m _ y h7
            obtain ⟨v, hv, hok⟩ := h8 _ l h3
            have := drop_take_at hv
            rw [show fs.toList[i].offset + (0 + j - fs.toList[i].offset) = j by omega] at this
            exact ⟨v, this, hok⟩
        · cases h4
      · cases h
    · rename_i m e hu
      simp only [Option.bind_eq_some_iff] at h
      obtain ⟨l, hl, h⟩ := h
      split at h
      · rename_i hlen
        injection h with h; subst h
        obtain ⟨ys, m', _, _, hcl, hyl, hf⟩ := DataW.trod_array hu hx
        refine ⟨by rw [hcl, flatten_len, hlen.2], fun j x hj => ?_⟩
        obtain ⟨i, h1, h2, h3⟩ := flatten_at m l j x hj
        have h7 := hf i h1
        cases hy : ys[i]? with
        | none =>
          have : i < ys.length := by omega
          rw [List.getElem?_eq_getElem this] at hy; cases hy
        | some y =>
          rw [hy] at h7
          obtain ⟨_, h8⟩ := flat_fits n _ l hl m' _ y h7
          obtain ⟨v, hv, hok⟩ := h8 _ x h3
          have := drop_take_at hv
          rw [← hlen.1, show i * l.length + (j - i * l.length) = j by omega] at this
          exact ⟨v, this, hok⟩
      · cases h
    · cases h
/-- A struct or an array that came in by value. -/
theorem open_flat {n : Nat} {t : TypeId} {ls : List Leaf} {r : Reach} {b0 : Nat} {v : Value} {d : DataW H} {ps : List MemPlace} (hls : flat P n t = some ls)
    (hk : (match P.underlying t with | some (.struct _) => true | some (.array _ _) => true | _ => false) = true) (hv : Value.okWide P w r b0 t v) (h : DataW.Trod enc P w base spare held t v d ps) : ∃ cs : List Value, v = .agg cs.toArray ∧ Fits ls cs := by
  have hv2 : ∃ cs, v = .agg cs := by
    unfold Value.okWide at hv
    cases hu : P.underlying t with
    | none => rw [hu] at hk; cases hk
    | some u =>
      rw [hu] at hv hk
      cases u <;> first | (obtain ⟨cs, e, _⟩ := hv; exact ⟨cs, e⟩) | cases hk
  obtain ⟨cs, rfl⟩ := hv2
  obtain ⟨fuel, hf⟩ := h
  exact ⟨cs.toList, by simp, flat_fits n t ls hls fuel _ _ hf⟩
/-- A slice whose elements are laid flat. -/
def Elems (w : World) (a : Option Addr) (len : Nat) (ls : List Leaf) : Prop :=
  len ≤ 9223372036854775807 ∧ (len = 0 ∨ ∃ b off, a = some ⟨b, off, none⟩ ∧ b < w.heap.size ∧ ∀ i, i < len → ∃ cs, Fits ls cs ∧ ∀ j, j < ls.length → w.cell? ⟨b, off + (i * ls.length + j), none⟩ = cs[j]?)
theorem open_elems {n : Nat} {t e : TypeId} {ls : List Leaf} {fuel : Nat} {a : Option Addr} {len cap : Nat} {x : DataW H × List MemPlace} (ht : P.underlying t = some (.slice e)) (hls : flat P n e = some ls) (hC : P.cellsOf e = ls.length) (hpos : 0 < ls.length)
    (h : DataW.trod enc P w base spare held fuel t [.slice a len cap] = some x) : Elems w a len ls := by
  rcases Deep.open_slice ht h with ⟨h0, _⟩ | ⟨ad, l, c, m, n', D, Pl, hcs, hb, hl, hm, hmm, hx, hi⟩
  · simp at h0
    obtain ⟨_, rfl, _⟩ := h0
    exact ⟨by omega, .inl rfl⟩
  · simp at hcs
    obtain ⟨rfl, rfl, rfl⟩ := hcs
    unfold maxLen at hm
    refine ⟨by omega, ?_⟩
    by_cases hz : len = 0
    · exact .inl hz
    · refine .inr ?_
      have hlm : len ≤ m := by rw [hmm]; split <;> omega
      have key : ∀ i, i < len → ∃ cs, Fits ls cs ∧ ∀ j, j < ls.length → w.cell? (ad.add (i * ls.length + j)) = cs[j]? := by
        intro i hil
        obtain ⟨cs', hc, ht'⟩ := hi i (by omega)
        rw [hC] at hc
        obtain ⟨_, hcl, hat⟩ := World.cells?_some hc
        refine ⟨cs', flat_fits n e ls hls _ _ _ ht', fun j hj => ?_⟩
        rw [← Deep.add_add]
        exact hat j hj
      obtain ⟨cs0, hf0, hc0⟩ := key 0 (by omega)
      have hv0 := hc0 0 hpos
      rw [List.getElem?_eq_getElem (show 0 < cs0.length by rw [hf0.len]; exact hpos)] at hv0
      obtain ⟨b, off, spot⟩ := ad
      have hspot : spot = none := by
        have := World.cell?_spot hv0
        simpa [Addr.add] using this
      subst hspot
      refine ⟨b, off, rfl, by have := lt_of_cell hv0; rw [Go.WideShapes.add_plain] at this; exact this, fun i hil => ?_⟩
      obtain ⟨cs, h1, h2⟩ := key i hil
      exact ⟨cs, h1, fun j hj => by have := h2 j hj; rw [Go.WideShapes.add_plain] at this; exact this⟩
theorem open_elemsc {n : Nat} {t e : TypeId} {ls : List Leaf} {fuel : Nat} {a : Option Addr} {len cap : Nat} {x : DataW H × List MemPlace} (ht : P.underlying t = some (.slice e)) (hls : flat P n e = some ls) (hC : P.cellsOf e = ls.length) (hpos : 0 < ls.length)
    (h : DataW.trod enc P w base spare held fuel t [.slice a len cap] = some x) : Elems w a len ls ∧ len ≤ cap ∧ cap ≤ maxLen ∧ (a = none → len = 0 ∧ cap = 0) := by
  refine ⟨open_elems ht hls hC hpos h, ?_⟩
  rcases Deep.open_slice ht h with ⟨h0, _⟩ | ⟨ad, l, c, m, n', D, Pl, hcs, hb, hl, hm, hmm, hx, hi⟩
  · simp at h0
    obtain ⟨_, rfl, rfl⟩ := h0
    exact ⟨Nat.le_refl _, Nat.zero_le _, fun _ => ⟨rfl, rfl⟩⟩
  · simp at hcs
    obtain ⟨rfl, rfl, rfl⟩ := hcs
    exact ⟨hl, hm, by simp⟩
end
end Go.Proofs.YthjbnbimfpbccaaGreatDoor
/-
  A capability that came in, as eight cells. No condition.
-/


set_option linter.unusedVariables false
namespace Go.Proofs.YthjbnbimfpbccaaGreatDoor
open Go.ChangeShapes Go.WideShapes Go.ChangeAt Go.RowKit
theorem fitsC {cs : List Value} (h : Fits [.i .u32, .i .u8, .i .u16, .i .u16, .i .u16, .i .u16, .i .u32, .b] cs) : ∃ c : Cp, cs = c.l ∧ c.Ok := by
  obtain ⟨v0, c1, e0, ⟨z0, rfl, w0⟩, h1⟩ := h.cons
  obtain ⟨v1, c2, e1, ⟨z1, rfl, w1⟩, h2⟩ := h1.cons
  obtain ⟨v2, c3, e2, ⟨z2, rfl, w2⟩, h3⟩ := h2.cons
  obtain ⟨v3, c4, e3, ⟨z3, rfl, w3⟩, h4⟩ := h3.cons
  obtain ⟨v4, c5, e4, ⟨z4, rfl, w4⟩, h5⟩ := h4.cons
  obtain ⟨v5, c6, e5, ⟨z5, rfl, w5⟩, h6⟩ := h5.cons
  obtain ⟨v6, c7, e6, ⟨z6, rfl, w6⟩, h7⟩ := h6.cons
  obtain ⟨v7, c8, e7, ⟨b, rfl⟩, h8⟩ := h7.cons
  have b0 := bounds_u32 w0
  have b1 := bounds_u8 w1
  have b2 := bounds_u16 w2
  have b3 := bounds_u16 w3
  have b4 := bounds_u16 w4
  have b5 := bounds_u16 w5
  have b6 := bounds_u32 w6
  refine ⟨⟨z0.toNat, z1.toNat, z2.toNat, z3.toNat, z4.toNat, z5.toNat, z6.toNat, b⟩, ?_, ⟨by dsimp only; omega, by dsimp only; omega, by dsimp only; omega, by dsimp only; omega, by dsimp only; omega, by dsimp only; omega, by dsimp only; omega⟩⟩
  rw [e0, e1, e2, e3, e4, e5, e6, e7, h8.nil]
  unfold Cp.l
  dsimp only
  rw [Int.toNat_of_nonneg b0.1, Int.toNat_of_nonneg b1.1, Int.toNat_of_nonneg b2.1, Int.toNat_of_nonneg b3.1, Int.toNat_of_nonneg b4.1, Int.toNat_of_nonneg b5.1, Int.toNat_of_nonneg b6.1]
end Go.Proofs.YthjbnbimfpbccaaGreatDoor
/-
  What an arena's functions do with capabilities; zeros. Condition: numbers in their types' ranges.
-/





set_option linter.unusedVariables false
namespace Go.Proofs.YthjbnbimfpbccaaGreatDoor
open Go.ChangeShapes Go.WideShapes Go.ChangeAt Go.RowKit
theorem infoCapZ : (Tryz.prog.info? 49).map (·.size) = some 8 := by kernel_rfl
theorem wrap_a (a : Nat) (h : a < 4294967296) : IntKind.i64.wrap (a : Int) = (a : Int) ∧ IntKind.i64.wrap ((a : Int) / 16) = (a : Int) / 16 := by
  constructor <;> simp [IntKind.wrap, IntKind.signed, IntKind.bits] <;> omega
section
variable {ops : Array Oper} {S : World → Prop} {o : Oper} {a : Act}
theorem yields_str (src dst e : TypeId) (hs : Tryz.prog.underlying src = some (.slice e)) (he : Tryz.prog.underlying e = some (.int .u8)) (hd : Tryz.prog.underlying dst = some .string) (x : Operand) (ho : o.op = .convert src dst x) (ad : Option Addr) (n cap : Nat) (hx : a.eval x = .slice ad n cap) (l : List Nat) (hl : l.length = n) (hb : Byt l)
    (hi : ∀ W, S W → BIn W ad l) (hn : ad = none → n = 0) (hw : Region.wanted o (yielded ops a.tmps) = true) : YieldsIf Tryz.prog ops S o (strV l) a :=
  Or.inl ⟨hw, fun w hS => by
    unfold execOp
    simp only [ho, hx, Sem.run_bind, Sem.run_pure, Result.andThen_ok, run_str src dst e hs he hd w ad n cap l hl hb (hi w hS) hn]⟩
theorem yields_capz (x : Operand) (ho : o.op = .load 49 x) (g : Nat) (hx : a.eval x = .pointer (some ⟨g, 0, none⟩)) (t : TypeId) (c : Cp) (hg : ∀ W, S W → At W g t c.cells)
    (hw : Region.wanted o (yielded ops a.tmps) = true) : YieldsIf Tryz.prog ops S o (.agg c.cells) a :=
  yields_load_at 49 x ho ⟨g, 0, none⟩ hx c.l _ (fun W hW j v hv => by
    rw [Go.WideShapes.add_plain, (hg W hW).cell, Nat.zero_add]
    have : c.cells = c.l.toArray := rfl
    rw [this, List.getElem?_toArray, hv]) Tryz.underlying49 rfl infoCapZ hw
end
theorem wp_store_z {P : Program} {K : Act → World → Prop} {Q : Exit → Act → World → Prop} {o : Oper} {a : Act} {w : World} (ty : TypeId) (x y : Operand) (ho : o.op = .store ty x y) (g : Nat) (cs : Array Value) (hx : a.eval x = .pointer (some ⟨g, 0, none⟩)) (hy : a.eval y = .agg cs)
    (t : TypeId) (cur : Array Value) (hg : At w g t cur) (hi : (P.info? ty).map (·.size) = some cs.size) (hk : cur.size = cs.size) (h1 : cs.all (·.oneCell') = true)
    (h : ∀ w', At w' g t cs → Fr [g] w w' → K (a.put o.dst undef) w') : o.wp P a w K Q :=
  wp_store_row ty x y ho g cs hx hy t cur hg hi hk h1 (h _ (setRow_heap w g _ _ t (0, 0) hg) (Fr.setRow w g _))
theorem cellz_all (c : Cp) : c.cells.all (·.oneCell') = true := by simp [Cp.cells, Value.oneCell']
set_option maxHeartbeats 2000000 in
set_option maxRecDepth 100000 in
theorem aloadc_yes (w : World) (ap p g bg cap : Nat) (bs : List Nat) (f : Nat → Bool) (h : Ar w ap p g bg cap bs f) (a : Nat) (ha : a % 16 = 0) (hfit : a + 16 ≤ bs.length) :
    Calls Tryz.prog 40 #[.pointer (some ⟨ap, 0, none⟩), .int .u32 a] w fun r w' => r = .returned (.tuple #[.agg (ofB ((bs.drop a).take 16) (f (a / 16))).cells, .bool true]) ∧ Fr [] w w' := by
  have hN := h.2.1
  have hcap := h.2.2.1
  have CW := Lib.hid fun (W : World) (hW : Fr [] w W) => (show Calls Tryz.prog 60 #[.pointer (some ⟨ap, 0, none⟩), .int .u32 a] W fun r w' => r = .returned (.bool true) ∧ W = w' by
    have := awhole_any W ap p g bg cap bs f (h.fr0 hW) a (by omega)
    unfold whB at this
    rw [decide_eq_true ha, decide_eq_true hfit] at this
    exact this)
  have H := Lib.hid h
  have CG := Lib.hid fun (W : World) (hW : Ar W ap p g bg cap bs f) => (show Calls Tryz.prog 67 #[.pointer (some ⟨p, 0, none⟩), .int .i64 ((a : Int) / 16)] W fun r w' => r = .returned (.bool (f (a / 16))) ∧ W = w' by
    have := get_any W p g (bs.length / 16) f hW.2.2.2.2.2.2.1 ((a / 16 : Nat) : Int)
    rw [inR_nat _ _ (by omega), Bool.true_and, Int.toNat_natCast, show ((a / 16 : Nat) : Int) = (a : Int) / 16 by omega] at this
    exact this)
  have hL := sub_of bs a 16 hfit
  have HB := Lib.hid ((h.2.2.2.2.1.drop a).take 16)
  have HI := Lib.hid fun (W : World) (hW : Ar W ap p g bg cap bs f) => (show BIn W (some ⟨bg, a, none⟩) ((bs.drop a).take 16) from .inr ⟨bg, a, rfl, hW.lt.2.2.2, fun j v hv => hW.at_ a _ (by rw [hL]) j v hv⟩)
  have HT := Lib.hid fun (W : World) (hW : Ar W ap p g bg cap bs f) => hW.top
  obtain ⟨N, hNN⟩ : ∃ N, bs.length = N := ⟨_, rfl⟩
  obtain ⟨L, hLL⟩ : ∃ L, (bs.drop a).take 16 = L := ⟨_, rfl⟩
  rw [hNN] at hN hcap hfit HT
  rw [hLL] at hL HB HI ⊢
  have CO := Lib.hid fun W v => cof_any W L hL HB.out v
  obtain ⟨tg, htg⟩ : ∃ t, f (a / 16) = t := ⟨_, rfl⟩
  rw [htg] at CG ⊢
  have HL := Lib.hid hL
  obtain ⟨R, hR⟩ : ∃ R, ofB L tg = R := ⟨_, rfl⟩
  have HR := Lib.hid hR
  rw [hR]
  have hwr : IntKind.u32.wrap ((a : Int) + 16) = (a : Int) + 16 := by simp [IntKind.wrap, IntKind.signed, IntKind.bits]; omega
  have HI8 := Lib.hid (show (Tryz.prog.info? 49).map (·.size) = some R.cells.size by kernel_rfl)
  have F0 := Lib.hid (show Fr [] w (w.alloc (.cells noC.cells 49)) from (by repeat (first | exact Fr.refl _ _ | assumption | refine Fr.trans0 ?_ (by assumption) | refine Fr.drewN ?_ _ | refine Fr.alloc ?_ _ | refine Fr.drew ?_)))
  have A0 := Lib.hid (At.new w 49 noC.cells)
  have HA0 := Lib.hid (H.out.fr0 F0.out)
  have hlt := h.lt
  have hac : a < cap := by omega
  obtain ⟨hwa, hwq⟩ := wrap_a a (by omega)
  clear h hNN hLL hL htg hR
  go_enter Tryz.func40, Tryz.ntmps40
  go_wp2_with fail
  refine (CW.out _ F0.out).mono ?_
  rintro e w' ⟨rfl, rfl⟩
  have HIS := Lib.hid fun (W : World) (hW : Ar W ap p g bg cap bs f ∧ (∃ C : Cp, At W w.heap.size 49 C.cells) ∧ Fr [] w W) => HI.out W hW.1
  go_upto_region 3 with (fail)
  refine wp_region_L (fun W => Ar W ap p g bg cap bs f ∧ (∃ C : Cp, At W w.heap.size 49 C.cells) ∧ Fr [] w W) [] (by kernel_rfl) ⟨HA0.out.fr0 (Fr.refl _ _).drew, ⟨noC, A0.out.hp rfl⟩, F0.out.drew⟩ (fun hHeld => ?_)
  refine wpAnyL_take (i := 0) (v := ?_) rfl (by kernel_rfl) (fun _ _ _ h => h) (Or.inl ⟨by rfl, ?_⟩) (by assumption) ?_; rotate_left; (focus (intro w hSw; skip; go_simp; (try with_reducible rfl))); (try (refine wpAnyL_norm (by simp only [Act.put, List.setIfInBounds_toArray, List.set_cons_zero, List.set_cons_succ]; rfl) ?_))
  refine wpAnyL_take (i := 1) (v := ?_) rfl (by kernel_rfl) (fun _ _ _ h => h) (Or.inl ⟨by rfl, ?_⟩) (by assumption) ?_; rotate_left; (focus (intro w hSw; skip; go_simp; (try with_reducible rfl))); (try (refine wpAnyL_norm (by simp only [Act.put, List.setIfInBounds_toArray, List.set_cons_zero, List.set_cons_succ]; rfl) ?_))
  refine wpAnyL_take (i := 2) (v := ?_) rfl (by kernel_rfl) (fun _ _ _ h => h) (Or.inl ⟨by rfl, ?_⟩) (by assumption) ?_; rotate_left; (focus (intro w hSw; skip; go_simp; (try with_reducible rfl))); (try (refine wpAnyL_norm (by simp only [Act.put, List.setIfInBounds_toArray, List.set_cons_zero, List.set_cons_succ]; rfl) ?_))
  refine wpAnyL_take (i := 3) (v := ?_) rfl (by kernel_rfl) (fun _ _ _ h => h) (Or.inl ⟨by rfl, ?_⟩) (by assumption) ?_; rotate_left; (focus (intro w hSw; (have hcl := (HT.out _ hSw.1).2); go_simp; (try with_reducible rfl))); (try (refine wpAnyL_norm (by simp only [Act.put, List.setIfInBounds_toArray, List.set_cons_zero, List.set_cons_succ]; rfl) ?_))
  refine wpAnyL_take (i := 4) (v := ?_) rfl (by kernel_rfl) (fun _ _ _ h => h) (Or.inl ⟨by rfl, ?_⟩) (by assumption) ?_; rotate_left; (focus (intro w hSw; skip; go_simp; (try with_reducible rfl))); (try (refine wpAnyL_norm (by simp only [Act.put, List.setIfInBounds_toArray, List.set_cons_zero, List.set_cons_succ]; rfl) ?_))
  refine wpAnyL_take (i := 5) (v := ?_) rfl (by kernel_rfl) (fun _ _ _ h => h) (Or.inl ⟨by rfl, ?_⟩) (by assumption) ?_; rotate_left; (focus (intro w hSw; skip; go_simp; (try with_reducible rfl))); (try (refine wpAnyL_norm (by simp only [Act.put, List.setIfInBounds_toArray, List.set_cons_zero, List.set_cons_succ]; rfl) ?_))
  refine wpAnyL_take (i := 6) (v := ?_) rfl (by kernel_rfl) (fun _ _ _ h => h) (Or.inl ⟨by rfl, ?_⟩) (by assumption) ?_; rotate_left; (focus (intro w hSw; skip; go_simp; (try with_reducible rfl))); (try (refine wpAnyL_norm (by simp only [Act.put, List.setIfInBounds_toArray, List.set_cons_zero, List.set_cons_succ]; rfl) ?_))
  refine wpAnyL_take (i := 7) (v := ?_) rfl (by kernel_rfl) (fun _ _ _ h => h) (Or.inl ⟨by rfl, ?_⟩) (by assumption) ?_; rotate_left; (focus (intro w hSw; (have k1 : (0 : Int) ≤ (a : Int) + 16 ∧ (a : Int) + 16 ≤ (cap : Int) := by omega); (have k2 : a ≤ ((a : Int) + 16).toNat := by omega); (have k3 : ¬ cap = a := by omega); (have k4 : ((a : Int) + 16).toNat - a = 16 := by omega); go_simp; (try with_reducible rfl))); (try (refine wpAnyL_norm (by simp only [Act.put, List.setIfInBounds_toArray, List.set_cons_zero, List.set_cons_succ]; rfl) ?_))
  refine wpAnyL_take (i := 8) rfl (by kernel_rfl) (fun _ _ _ h => h) (yields_str 22 9 5 Tryz.underlying22 Tryz.underlying5 Tryz.underlying9 (.tmp 18) rfl (some ⟨bg, a, none⟩) 16 (cap - a) rfl L HL.out HB.out HIS.out (fun h => by cases h) rfl) (by assumption) ?_; (try (refine wpAnyL_norm (by simp only [Act.put, List.setIfInBounds_toArray, List.set_cons_zero, List.set_cons_succ]; rfl) ?_))
  refine wpAnyL_take (i := 9) (v := ?_) rfl (by kernel_rfl) (fun _ _ _ h => h) (Or.inl ⟨by rfl, ?_⟩) (by assumption) ?_; rotate_left; (focus (intro w hSw; skip; go_simp; (try with_reducible rfl))); (try (refine wpAnyL_norm (by simp only [Act.put, List.setIfInBounds_toArray, List.set_cons_zero, List.set_cons_succ]; rfl) ?_))
  refine wpAnyL_take (i := 10) (v := ?_) rfl (by kernel_rfl) (fun _ _ _ h => h) (Or.inl ⟨by rfl, ?_⟩) (by assumption) ?_; rotate_left; (focus (intro w hSw; skip; go_simp; (try with_reducible rfl))); (try (refine wpAnyL_norm (by simp only [Act.put, List.setIfInBounds_toArray, List.set_cons_zero, List.set_cons_succ]; rfl) ?_))
  refine wpAnyL_take (i := 11) (v := ?_) rfl (by kernel_rfl) (fun _ _ _ h => h) (Or.inl ⟨by rfl, ?_⟩) (by assumption) ?_; rotate_left; (focus (intro w hSw; skip; go_simp; (try with_reducible rfl))); (try (refine wpAnyL_norm (by simp only [Act.put, List.setIfInBounds_toArray, List.set_cons_zero, List.set_cons_succ]; rfl) ?_))
  refine wpAnyL_take (i := 12) (v := ?_) rfl (by kernel_rfl) (fun _ _ _ h => h) (Or.inl ⟨by rfl, ?_⟩) (by assumption) ?_; rotate_left; (focus (intro w hSw; (have hcl := (HT.out _ hSw.1).1); go_simp; (try with_reducible rfl))); (try (refine wpAnyL_norm (by simp only [Act.put, List.setIfInBounds_toArray, List.set_cons_zero, List.set_cons_succ]; rfl) ?_))
  refine wpAnyL_take (i := 13) (v := ?_) rfl (by kernel_rfl) (fun _ _ _ h => h) (Or.inl ⟨by rfl, ?_⟩) (by assumption) ?_; rotate_left; (focus (intro w hSw; skip; go_simp; (try with_reducible rfl))); (try (refine wpAnyL_norm (by simp only [Act.put, List.setIfInBounds_toArray, List.set_cons_zero, List.set_cons_succ]; rfl) ?_))
  refine wpAnyL_take (i := 14) (v := ?_) rfl (by kernel_rfl) (fun _ _ _ h => h) (Or.inl ⟨by rfl, ?_⟩) (by assumption) ?_; rotate_left; (focus (intro w hSw; skip; go_simp; (try with_reducible rfl))); (try (refine wpAnyL_norm (by simp only [Act.put, List.setIfInBounds_toArray, List.set_cons_zero, List.set_cons_succ]; rfl) ?_))
  refine wpAnyL_take (i := 15) (v := ?_) rfl (by kernel_rfl) (fun _ _ _ h => h) (Or.inl ⟨by rfl, ?_⟩) (by assumption) ?_; rotate_left; (focus (intro w hSw; skip; go_simp; (try with_reducible rfl))); (try (refine wpAnyL_norm (by simp only [Act.put, List.setIfInBounds_toArray, List.set_cons_zero, List.set_cons_succ]; rfl) ?_))
  refine wpAnyL_ready (rs := [16]) (by kernel_rfl) (by simp) ?_; refine AllReadyL.cons rfl (fun K hK => ?_) AllReadyL.nil
  go_simp
  refine (CG.out _ hHeld.1).mono ?_
  rintro e w2 ⟨rfl, rfl⟩
  refine hK.out _ _ (fun _ => hHeld) (fun hHeld' => ?_); have hHeld := hHeld' (by decide); clear hHeld' hK K; (try (refine wpAnyL_norm (by simp only [Act.put, List.setIfInBounds_toArray, List.set_cons_zero, List.set_cons_succ]; rfl) ?_))
  refine wpAnyL_ready (rs := [17]) (by kernel_rfl) (by simp) ?_; refine AllReadyL.cons rfl (fun K hK => ?_) AllReadyL.nil
  go_simp
  refine (CO.out _ _).mono ?_
  rintro e w3 ⟨rfl, hf3⟩
  rw [HR.out]
  refine hK.out _ _ (fun _ => ⟨hHeld.1.fr0 hf3, hHeld.2.1.imp fun C h => h.fr hf3 (by simp), hHeld.2.2.trans0 hf3⟩) (fun hHeld' => ?_); have hHeld := hHeld' (by decide); clear hHeld' hK K; (try (refine wpAnyL_norm (by simp only [Act.put, List.setIfInBounds_toArray, List.set_cons_zero, List.set_cons_succ]; rfl) ?_))
  refine wpAnyL_take (i := 18) (v := ?_) rfl (by kernel_rfl) (fun _ _ _ h => h) (Or.inl ⟨by rfl, ?_⟩) (by assumption) ?_; rotate_left; (focus (intro w hSw; skip; go_simp; (try with_reducible rfl))); (try (refine wpAnyL_norm (by simp only [Act.put, List.setIfInBounds_toArray, List.set_cons_zero, List.set_cons_succ]; rfl) ?_))
  refine wpAnyL_take (i := 19) (v := ?_) rfl (by kernel_rfl) (fun _ _ _ h => h) (Or.inl ⟨by rfl, ?_⟩) (by assumption) ?_; rotate_left; (focus (intro w hSw; skip; go_simp; (try with_reducible rfl))); (try (refine wpAnyL_norm (by simp only [Act.put, List.setIfInBounds_toArray, List.set_cons_zero, List.set_cons_succ]; rfl) ?_))
  refine wpAnyL_ready (rs := [20]) (by kernel_rfl) (by simp) ?_; refine AllReadyL.cons rfl (fun K hK => ?_) AllReadyL.nil
  rw [if_pos (by rfl)]
  obtain ⟨C, hC⟩ := hHeld.2.1
  refine wp_store_z 49 (.tmp 4) (.tmp 29) rfl _ R.cells rfl rfl 49 C.cells hC HI8.out rfl (cellz_all R) ?_
  intro w4 hA4 hF4
  have hlt2 := hlt
  refine hK.out _ _ (fun _ => ⟨hHeld.1.fr hF4 (by simp; omega) (by simp; omega) (by simp; omega) (by simp; omega), ⟨R, hA4⟩, hHeld.2.2.trans hF4 (by simp)⟩) (fun hHeld' => ?_); have hHeld := hHeld' (by decide); clear hHeld' hK K; (try (refine wpAnyL_norm (by simp only [Act.put, List.setIfInBounds_toArray, List.set_cons_zero, List.set_cons_succ]; rfl) ?_))
  refine wpAnyL_take (i := 21) (v := ?_) rfl (by kernel_rfl) (fun _ _ _ h => h) (Or.inl ⟨by rfl, ?_⟩) (by assumption) ?_; rotate_left; (focus (intro w hSw; skip; go_simp; (try with_reducible rfl))); (try (refine wpAnyL_norm (by simp only [Act.put, List.setIfInBounds_toArray, List.set_cons_zero, List.set_cons_succ]; rfl) ?_))
  refine wpAnyL_done (by kernel_rfl) ?_ _
  go_wp2_with fail
  exact bodyPost_ret (res_row_tmp rfl _ _ w.heap.size 49 R.cells _ rfl hA4 Tryz.underlying49 rfl HI8.out) rfl ⟨rfl, hHeld.2.2⟩
set_option maxRecDepth 100000 in
theorem aloadc_no (w : World) (x : Value) (a : Nat) (CW : ∀ W : World, Fr [] w W → Calls Tryz.prog 60 #[x, .int .u32 a] W fun r w' => r = .returned (.bool false) ∧ W = w') :
    Calls Tryz.prog 40 #[x, .int .u32 a] w fun r w' => r = .returned (.tuple #[.agg noC.cells, .bool false]) ∧ Fr [] w w' := by
  have CW := Lib.hid CW
  have HI := Lib.hid (show (Tryz.prog.info? 49).map (·.size) = some noC.cells.size by kernel_rfl)
  have F0 := Lib.hid (show Fr [] w (w.alloc (.cells noC.cells 49)) from (by repeat (first | exact Fr.refl _ _ | assumption | refine Fr.trans0 ?_ (by assumption) | refine Fr.drewN ?_ _ | refine Fr.alloc ?_ _ | refine Fr.drew ?_)))
  have A0 := Lib.hid (At.new w 49 noC.cells)
  go_enter Tryz.func40, Tryz.ntmps40
  go_wp2_with fail
  refine (CW.out _ F0.out).mono ?_
  rintro e w' ⟨rfl, rfl⟩
  go_wp2_with (refine wpList_store_all rfl 49 (.tmp 4) (.tmp 10) rfl w.heap.size noC.cells rfl rfl 49 noC.cells A0.out HI.out rfl (cellz_all noC) ?_; intro w9 hA9 hF9)
  exact bodyPost_ret (res_row_tmp rfl _ _ w.heap.size 49 noC.cells _ rfl hA9 Tryz.underlying49 rfl HI.out) rfl ⟨rfl, F0.out.trans hF9 (by simp)⟩
theorem awhole_no (w : World) (ap p g bg cap : Nat) (bs : List Nat) (f : Nat → Bool) (h : Ar w ap p g bg cap bs f) (a : Nat) (ha : a < 4294967296) (hn : whB bs.length a = false) (W : World) (hW : Fr [] w W) :
    Calls Tryz.prog 60 #[.pointer (some ⟨ap, 0, none⟩), .int .u32 a] W fun r w' => r = .returned (.bool false) ∧ W = w' := by
  have := awhole_any W ap p g bg cap bs f (h.fr0 hW) a ha
  rw [hn] at this
  exact this
theorem astorec_no (w : World) (x : Value) (a : Nat) (c : Cp) (CW : ∀ W : World, Fr [] w W → Calls Tryz.prog 60 #[x, .int .u32 a] W fun r w' => r = .returned (.bool false) ∧ W = w') :
    Calls Tryz.prog 18 #[x, .int .u32 a, .agg c.cells] w fun r w' => r = .returned (.bool false) ∧ Fr [] w w' := by
  have CW := Lib.hid CW
  have F0 := Lib.hid (show Fr [] w (w.alloc (.cells c.cells 49)) from (by repeat (first | exact Fr.refl _ _ | assumption | refine Fr.trans0 ?_ (by assumption) | refine Fr.drewN ?_ _ | refine Fr.alloc ?_ _ | refine Fr.drew ?_)))
  go_enter Tryz.func18, Tryz.ntmps18
  go_wp2_with fail
  refine (CW.out _ F0.out).mono ?_
  rintro e w' ⟨rfl, rfl⟩
  go_wp2_with fail
  go_ret
  exact ⟨rfl, F0.out⟩
/-- The tags behind a capability's storing. -/
def stF (bs : List Nat) (f : Nat → Bool) (a : Nat) (c : Cp) : Nat → Bool := upd (wrF bs f a (bytesC c)) (a / 16) (c.v && soundB c)
set_option maxHeartbeats 2000000 in
set_option maxRecDepth 100000 in
theorem astorec_yes (w : World) (ap p g bg cap : Nat) (bs : List Nat) (f : Nat → Bool) (h : Ar w ap p g bg cap bs f) (a : Nat) (ha : a % 16 = 0) (hfit : a + 16 ≤ bs.length) (c : Cp) (hok : c.Ok) :
    Calls Tryz.prog 18 #[.pointer (some ⟨ap, 0, none⟩), .int .u32 a, .agg c.cells] w fun r w' => r = .returned (.bool true) ∧ Ar w' ap p g bg cap (wrL bs a (bytesC c)) (stF bs f a c) ∧ Fr [g, bg] w w' := by
  unfold stF
  have hN := h.2.1
  have CW := Lib.hid fun (W : World) (hW : Fr [] w W) => (show Calls Tryz.prog 60 #[.pointer (some ⟨ap, 0, none⟩), .int .u32 a] W fun r w' => r = .returned (.bool true) ∧ W = w' by
    have := awhole_any W ap p g bg cap bs f (h.fr0 hW) a (by omega)
    unfold whB at this
    rw [decide_eq_true ha, decide_eq_true hfit] at this
    exact this)
  have CB := Lib.hid fun W => cbytes_any W c hok
  have CR := Lib.hid fun (W : World) (hW : Fr [] w W) => awrite_any W ap p g bg cap bs f (h.fr0 hW) a (by omega) (bytesC c) (by rw [bytesC_len]; omega) (bytesC_byt c)
  rw [bytesC_len, decide_eq_true hfit] at CR
  have CS := Lib.hid fun W => sound_any W c hok
  have hlt := h.lt
  have hne := h.ne
  have hLb : (wrL bs a (bytesC c)).length = bs.length := wrL_len _ _ _
  obtain ⟨bs1, hbs1⟩ : ∃ b, wrL bs a (bytesC c) = b := ⟨_, rfl⟩
  obtain ⟨f1, hf1⟩ : ∃ b, wrF bs f a (bytesC c) = b := ⟨_, rfl⟩
  obtain ⟨u, hu⟩ : ∃ u, strV (bytesC c) = u := ⟨_, rfl⟩
  obtain ⟨sb, hsb⟩ : ∃ u, soundB c = u := ⟨_, rfl⟩
  rw [hbs1] at hLb CR ⊢
  rw [hf1] at CR ⊢
  rw [hu] at CB CR
  rw [hsb] at CS ⊢
  have CP := Lib.hid fun (W : World) (hW : Ar W ap p g bg cap bs1 f1) (b : Bool) => (show Calls Tryz.prog 63 #[.pointer (some ⟨p, 0, none⟩), .int .i64 ((a : Int) / 16), .bool b] W fun r w' => r = .returned (.bool true) ∧ Tg w' p g (bs1.length / 16) (upd f1 (a / 16) b) ∧ Fr [g] W w' by
    have := put_yes W p g (bs1.length / 16) f1 hW.2.2.2.2.2.2.1 (a / 16) b (by rw [hLb]; omega)
    rw [show ((a / 16 : Nat) : Int) = (a : Int) / 16 by omega] at this
    exact this)
  have F0 := Lib.hid (show Fr [] w (w.alloc (.cells c.cells 49)) from (by repeat (first | exact Fr.refl _ _ | assumption | refine Fr.trans0 ?_ (by assumption) | refine Fr.drewN ?_ _ | refine Fr.alloc ?_ _ | refine Fr.drew ?_)))
  have A0 := Lib.hid (At.new w 49 c.cells)
  have HIC := Lib.hid (show (Tryz.prog.info? 49).map (·.size) = some c.cells.size by kernel_rfl)
  obtain ⟨hwa, hwq⟩ := wrap_a a (by omega)
  obtain ⟨cv, hcv⟩ : ∃ b, c.v = b := ⟨_, rfl⟩
  have HCVV := Lib.hid hcv
  rw [hcv]
  clear h hbs1 hf1 hu hsb hok hcv
  go_enter Tryz.func18, Tryz.ntmps18
  go_wp2_with fail
  refine (CW.out _ F0.out).mono ?_
  rintro e w' ⟨rfl, rfl⟩
  go_wp2_with (refine wpList_load_all rfl 49 (.tmp 5) rfl w.heap.size rfl 49 c.cells _ A0.out Tryz.underlying49 rfl HIC.out ?_)
  refine (CB.out _).mono ?_
  rintro e w2 ⟨rfl, hf2⟩
  have F2 := Lib.hid (F0.out.trans0 hf2)
  have A2 := Lib.hid (A0.out.fr hf2 (by simp))
  clear hf2
  go_wp2_with fail
  refine (CR.out _ F2.out).mono ?_
  rintro e w3 ⟨rfl, h3, hf3⟩
  have H3 := Lib.hid h3
  have A3 := Lib.hid (A2.out.fr hf3 (by simp; omega))
  have F3 := Lib.hid ((F2.out.more (T := [g, bg]) (by simp)).trans hf3 (by simp))
  clear h3 hf3 A2 F2
  have HT := Lib.hid fun (W : World) (hW : (∃ f', Ar W ap p g bg cap bs1 f') ∧ At W w.heap.size 49 c.cells) => (hW.1.elim fun f' h => h.top.1 : W.cell? ⟨ap, 0, none⟩ = _)
  have HV := Lib.hid fun (W : World) (hW : (∃ f', Ar W ap p g bg cap bs1 f') ∧ At W w.heap.size 49 c.cells) => (show W.cell? ⟨w.heap.size, 7, none⟩ = some (.bool c.v) from hW.2.cell 7)
  rw [HCVV.out] at HV
  go_upto_region 4 with (fail)
  refine wp_region_L (fun W => (∃ f', Ar W ap p g bg cap bs1 f') ∧ At W w.heap.size 49 c.cells) [] (by kernel_rfl) ⟨⟨f1, H3.out.fr0 (Fr.refl _ _).drew⟩, A3.out.hp rfl⟩ (fun hHeld => ?_)
  refine wpAnyL_take (i := 0) (v := ?_) rfl (by kernel_rfl) (fun _ _ _ h => h) (Or.inl ⟨by rfl, ?_⟩) (by assumption) ?_; rotate_left; (focus (intro w hSw; skip; go_simp; (try with_reducible rfl))); (try (refine wpAnyL_norm (by simp only [Act.put, List.setIfInBounds_toArray, List.set_cons_zero, List.set_cons_succ]; rfl) ?_))
  refine wpAnyL_take (i := 1) (v := ?_) rfl (by kernel_rfl) (fun _ _ _ h => h) (Or.inl ⟨by rfl, ?_⟩) (by assumption) ?_; rotate_left; (focus (intro w hSw; skip; go_simp; (try with_reducible rfl))); (try (refine wpAnyL_norm (by simp only [Act.put, List.setIfInBounds_toArray, List.set_cons_zero, List.set_cons_succ]; rfl) ?_))
  refine wpAnyL_take (i := 2) (v := ?_) rfl (by kernel_rfl) (fun _ _ _ h => h) (Or.inl ⟨by rfl, ?_⟩) (by assumption) ?_; rotate_left; (focus (intro w hSw; skip; go_simp; (try with_reducible rfl))); (try (refine wpAnyL_norm (by simp only [Act.put, List.setIfInBounds_toArray, List.set_cons_zero, List.set_cons_succ]; rfl) ?_))
  refine wpAnyL_take (i := 3) (v := ?_) rfl (by kernel_rfl) (fun _ _ _ h => h) (Or.inl ⟨by rfl, ?_⟩) (by assumption) ?_; rotate_left; (focus (intro w hSw; (have hcl := HT.out _ hSw); go_simp; (try with_reducible rfl))); (try (refine wpAnyL_norm (by simp only [Act.put, List.setIfInBounds_toArray, List.set_cons_zero, List.set_cons_succ]; rfl) ?_))
  refine wpAnyL_take (i := 4) (v := ?_) rfl (by kernel_rfl) (fun _ _ _ h => h) (Or.inl ⟨by rfl, ?_⟩) (by assumption) ?_; rotate_left; (focus (intro w hSw; skip; go_simp; (try with_reducible rfl))); (try (refine wpAnyL_norm (by simp only [Act.put, List.setIfInBounds_toArray, List.set_cons_zero, List.set_cons_succ]; rfl) ?_))
  refine wpAnyL_take (i := 5) (v := ?_) rfl (by kernel_rfl) (fun _ _ _ h => h) (Or.inl ⟨by rfl, ?_⟩) (by assumption) ?_; rotate_left; (focus (intro w hSw; skip; go_simp; (try with_reducible rfl))); (try (refine wpAnyL_norm (by simp only [Act.put, List.setIfInBounds_toArray, List.set_cons_zero, List.set_cons_succ]; rfl) ?_))
  refine wpAnyL_take (i := 6) (v := ?_) rfl (by kernel_rfl) (fun _ _ _ h => h) (Or.inl ⟨by rfl, ?_⟩) (by assumption) ?_; rotate_left; (focus (intro w hSw; skip; go_simp; (try with_reducible rfl))); (try (refine wpAnyL_norm (by simp only [Act.put, List.setIfInBounds_toArray, List.set_cons_zero, List.set_cons_succ]; rfl) ?_))
  refine wpAnyL_take (i := 7) (v := ?_) rfl (by kernel_rfl) (fun _ _ _ h => h) (Or.inl ⟨by rfl, ?_⟩) (by assumption) ?_; rotate_left; (focus (intro w hSw; skip; go_simp; (try with_reducible rfl))); (try (refine wpAnyL_norm (by simp only [Act.put, List.setIfInBounds_toArray, List.set_cons_zero, List.set_cons_succ]; rfl) ?_))
  refine wpAnyL_take (i := 8) (v := ?_) rfl (by kernel_rfl) (fun _ _ _ h => h) (Or.inl ⟨by rfl, ?_⟩) (by assumption) ?_; rotate_left; (focus (intro w hSw; (have hcl := HV.out _ hSw); go_simp; (try with_reducible rfl))); (try (refine wpAnyL_norm (by simp only [Act.put, List.setIfInBounds_toArray, List.set_cons_zero, List.set_cons_succ]; rfl) ?_))
  refine wpAnyL_take (i := 9) (v := ?_) rfl (by kernel_rfl) (fun _ _ _ h => h) (Or.inl ⟨by rfl, ?_⟩) (by assumption) ?_; rotate_left; (focus (intro w hSw; skip; go_simp; (try with_reducible rfl))); (try (refine wpAnyL_norm (by simp only [Act.put, List.setIfInBounds_toArray, List.set_cons_zero, List.set_cons_succ]; rfl) ?_))
  cases cv
  · refine wpAnyL_take (i := 10) (v := undef) rfl (by kernel_rfl) (fun _ _ _ h => h) (Or.inr ⟨by rfl, rfl⟩) (by assumption) ?_; (try (refine wpAnyL_norm (by simp only [Act.put, List.setIfInBounds_toArray, List.set_cons_zero, List.set_cons_succ]; rfl) ?_))
    refine wpAnyL_take (i := 11) (v := undef) rfl (by kernel_rfl) (fun _ _ _ h => h) (Or.inr ⟨by rfl, rfl⟩) (by assumption) ?_; (try (refine wpAnyL_norm (by simp only [Act.put, List.setIfInBounds_toArray, List.set_cons_zero, List.set_cons_succ]; rfl) ?_))
    have HY : Fr [] w3 w3.drew := (Fr.refl _ _).drew
    have HX := H3.out.fr0 HY
    refine wpAnyL_take (i := 12) (v := ?_) rfl (by kernel_rfl) (fun _ _ _ h => h) (Or.inl ⟨by rfl, ?_⟩) (by assumption) ?_; rotate_left; (focus (intro w hSw; skip; go_simp; (try with_reducible rfl))); (try (refine wpAnyL_norm (by simp only [Act.put, List.setIfInBounds_toArray, List.set_cons_zero, List.set_cons_succ]; rfl) ?_))
    refine wpAnyL_ready (rs := [13]) (by kernel_rfl) (by simp) ?_; refine AllReadyL.cons rfl (fun K hK => ?_) AllReadyL.nil
    go_simp
    refine (CP.out _ HX _).mono ?_
    rintro e w6 ⟨rfl, h6, hf6⟩
    have hAr : Ar w6 ap p g bg cap bs1 (upd f1 (a / 16) false) := by
      obtain ⟨n1, n2, n3, n4, n5, n6⟩ := hne
      obtain ⟨a1, a2, a3, a4, a5, a6, a7, cs, a8, a9, a10⟩ := HX
      exact ⟨a1, a2, a3, a4, a5, a6.fr hf6 (by simp; omega), h6, cs, a8.fr hf6 (by simp; omega), a9, a10⟩
    refine hK.out _ _ (fun _ => ⟨⟨_, hAr⟩, hHeld.2.fr hf6 (by simp; omega)⟩) (fun hHeld' => ?_); have hHeld := hHeld' (by decide); clear hHeld' hK K; (try (refine wpAnyL_norm (by simp only [Act.put, List.setIfInBounds_toArray, List.set_cons_zero, List.set_cons_succ]; rfl) ?_))
    refine wpAnyL_take (i := 14) (v := ?_) rfl (by kernel_rfl) (fun _ _ _ h => h) (Or.inl ⟨by rfl, ?_⟩) (by assumption) ?_; rotate_left; (focus (intro w hSw; skip; go_simp; (try with_reducible rfl))); (try (refine wpAnyL_norm (by simp only [Act.put, List.setIfInBounds_toArray, List.set_cons_zero, List.set_cons_succ]; rfl) ?_))
    refine wpAnyL_done (by kernel_rfl) ?_ _
    go_wp2_with fail
    go_ret
    exact ⟨rfl, hAr, (F3.out.trans0 HY).trans hf6 (by simp)⟩
  · refine wpAnyL_take (i := 10) rfl (by kernel_rfl) (fun _ _ _ h => h) (yields_capz (.tmp 5) rfl w.heap.size rfl 49 c (fun W h => h.2) rfl) (by assumption) ?_; (try (refine wpAnyL_norm (by simp only [Act.put, List.setIfInBounds_toArray, List.set_cons_zero, List.set_cons_succ]; rfl) ?_))
    refine wpAnyL_ready (rs := [11]) (by kernel_rfl) (by simp) ?_; refine AllReadyL.cons rfl (fun K hK => ?_) AllReadyL.nil
    go_simp
    refine (CS.out _).mono ?_
    rintro e w5 ⟨rfl, hf5⟩
    have HY : Fr [] w3 w5 := hf5.hd rfl rfl rfl rfl
    have HX := H3.out.fr0 HY
    refine hK.out _ _ (fun _ => ⟨⟨f1, HX⟩, hHeld.2.fr hf5 (by simp)⟩) (fun hHeld' => ?_); have hHeld := hHeld' (by decide); clear hHeld' hK K; (try (refine wpAnyL_norm (by simp only [Act.put, List.setIfInBounds_toArray, List.set_cons_zero, List.set_cons_succ]; rfl) ?_))
    refine wpAnyL_take (i := 12) (v := ?_) rfl (by kernel_rfl) (fun _ _ _ h => h) (Or.inl ⟨by rfl, ?_⟩) (by assumption) ?_; rotate_left; (focus (intro w hSw; skip; go_simp; (try with_reducible rfl))); (try (refine wpAnyL_norm (by simp only [Act.put, List.setIfInBounds_toArray, List.set_cons_zero, List.set_cons_succ]; rfl) ?_))
    refine wpAnyL_ready (rs := [13]) (by kernel_rfl) (by simp) ?_; refine AllReadyL.cons rfl (fun K hK => ?_) AllReadyL.nil
    go_simp
    refine (CP.out _ HX _).mono ?_
    rintro e w6 ⟨rfl, h6, hf6⟩
    have hAr : Ar w6 ap p g bg cap bs1 (upd f1 (a / 16) sb) := by
      obtain ⟨n1, n2, n3, n4, n5, n6⟩ := hne
      obtain ⟨a1, a2, a3, a4, a5, a6, a7, cs, a8, a9, a10⟩ := HX
      exact ⟨a1, a2, a3, a4, a5, a6.fr hf6 (by simp; omega), h6, cs, a8.fr hf6 (by simp; omega), a9, a10⟩
    refine hK.out _ _ (fun _ => ⟨⟨_, hAr⟩, hHeld.2.fr hf6 (by simp; omega)⟩) (fun hHeld' => ?_); have hHeld := hHeld' (by decide); clear hHeld' hK K; (try (refine wpAnyL_norm (by simp only [Act.put, List.setIfInBounds_toArray, List.set_cons_zero, List.set_cons_succ]; rfl) ?_))
    refine wpAnyL_take (i := 14) (v := ?_) rfl (by kernel_rfl) (fun _ _ _ h => h) (Or.inl ⟨by rfl, ?_⟩) (by assumption) ?_; rotate_left; (focus (intro w hSw; skip; go_simp; (try with_reducible rfl))); (try (refine wpAnyL_norm (by simp only [Act.put, List.setIfInBounds_toArray, List.set_cons_zero, List.set_cons_succ]; rfl) ?_))
    refine wpAnyL_done (by kernel_rfl) ?_ _
    go_wp2_with fail
    go_ret
    exact ⟨rfl, hAr, (F3.out.trans0 HY).trans hf6 (by simp)⟩
end Go.Proofs.YthjbnbimfpbccaaGreatDoor
/-
  What an arena's other functions do: zeros, tags taken, told and copied; a new one. Condition: numbers in their types' ranges.
-/





set_option linter.unusedVariables false
namespace Go.Proofs.YthjbnbimfpbccaaGreatDoor
open Go.ChangeShapes Go.WideShapes Go.ChangeAt Go.RowKit
theorem infoU8 : (Tryz.prog.info? 5).map (fun i => (i.zero, i.size, i.bytes)) = some (some (.int .u8 0), 1, 1) := by kernel_rfl
theorem made_bys (n : Nat) : madeCells #[.int .u8 0] n = (bys (List.replicate n 0)).toArray := by
  rw [made_rep]; unfold bys; simp
/-! ### tags taken -/
def unB (bs : List Nat) (f : Nat → Bool) (a : Nat) : Bool := whB bs.length a && f (a / 16)
theorem auntag_any (w : World) (ap p g bg cap : Nat) (bs : List Nat) (f : Nat → Bool) (h : Ar w ap p g bg cap bs f) (a : Nat) (ha : a < 4294967296) :
    Calls Tryz.prog 97 #[.pointer (some ⟨ap, 0, none⟩), .int .u32 a] w fun r w' => r = .returned (.bool (unB bs f a)) ∧ Ar w' ap p g bg cap bs (if unB bs f a = true then upd f (a / 16) false else f) ∧ Fr [g] w w' := by
  have CW := Lib.hid (awhole_any w ap p g bg cap bs f h a ha)
  obtain ⟨c0, c1⟩ := h.top
  have hne := h.ne
  have H := Lib.hid h
  unfold unB
  obtain ⟨b, hb⟩ : ∃ b, whB bs.length a = b := ⟨_, rfl⟩
  rw [hb] at CW ⊢
  cases b
  · rw [Bool.false_and, if_neg (by simp)]
    clear h hb
    go_enter Tryz.func97, Tryz.ntmps97
    go_wp2_with fail
    refine (CW.out).mono ?_
    rintro e w' ⟨rfl, rfl⟩
    go_wp2_with fail
    go_ret
    exact ⟨rfl, H.out, Fr.refl _ _⟩
  · rw [Bool.true_and]
    unfold whB at hb
    simp only [Bool.and_eq_true, decide_eq_true_eq] at hb
    have CG := Lib.hid (show Calls Tryz.prog 67 #[.pointer (some ⟨p, 0, none⟩), .int .i64 ((a : Int) / 16)] w fun r w' => r = .returned (.bool (f (a / 16))) ∧ w = w' by
      have := get_any w p g (bs.length / 16) f h.2.2.2.2.2.2.1 ((a / 16 : Nat) : Int)
      rw [inR_nat _ _ (by omega), Bool.true_and, Int.toNat_natCast, show ((a / 16 : Nat) : Int) = (a : Int) / 16 by omega] at this
      exact this)
    have CP := Lib.hid (show Calls Tryz.prog 63 #[.pointer (some ⟨p, 0, none⟩), .int .i64 ((a : Int) / 16), .bool false] w fun r w' => r = .returned (.bool true) ∧ Tg w' p g (bs.length / 16) (upd f (a / 16) false) ∧ Fr [g] w w' by
      have := put_yes w p g (bs.length / 16) f h.2.2.2.2.2.2.1 (a / 16) false (by omega)
      rw [show ((a / 16 : Nat) : Int) = (a : Int) / 16 by omega] at this
      exact this)
    obtain ⟨t, ht⟩ : ∃ t, f (a / 16) = t := ⟨_, rfl⟩
    rw [ht] at CG ⊢
    cases t
    · rw [if_neg (by simp)]
      clear h hb ht CP
      go_enter Tryz.func97, Tryz.ntmps97
      go_wp2_with fail
      refine (CW.out).mono ?_
      rintro e w' ⟨rfl, rfl⟩
      go_wp2_with fail
      refine (CG.out).mono ?_
      rintro e w' ⟨rfl, rfl⟩
      go_wp2_with fail
      go_ret
      exact ⟨rfl, H.out, Fr.refl _ _⟩
    · rw [if_pos rfl]
      clear h hb ht
      go_enter Tryz.func97, Tryz.ntmps97
      go_wp2_with fail
      refine (CW.out).mono ?_
      rintro e w' ⟨rfl, rfl⟩
      go_wp2_with fail
      refine (CG.out).mono ?_
      rintro e w' ⟨rfl, rfl⟩
      go_wp2_with fail
      refine (CP.out).mono ?_
      rintro e w6 ⟨rfl, h6, hf6⟩
      have H6 := Lib.hid h6
      have F6 := Lib.hid hf6
      clear h6 hf6
      go_wp2_with fail
      go_ret
      obtain ⟨n1, n2, n3, n4, n5, n6⟩ := hne
      obtain ⟨a1, a2, a3, a4, a5, a6, a7, cs, a8, a9, a10⟩ := H.out
      exact ⟨rfl, ⟨a1, a2, a3, a4, a5, a6.fr F6.out (by simp; omega), H6.out, cs, a8.fr F6.out (by simp; omega), a9, a10⟩, F6.out⟩
theorem auntag_nil (w : World) (a : Nat) : Calls Tryz.prog 97 #[.pointer none, .int .u32 a] w fun r w' => r = .returned (.bool false) ∧ w = w' := by
  have CW := Lib.hid (awhole_nil w a)
  go_enter Tryz.func97, Tryz.ntmps97
  go_wp2_with fail
  refine (CW.out).mono ?_
  rintro e w' ⟨rfl, rfl⟩
  go_wp2_with fail
  go_ret
  exact ⟨rfl, rfl⟩
end Go.Proofs.YthjbnbimfpbccaaGreatDoor
/-
  An arena made, copied, and what tags it tells of a page. Condition: numbers in their types' ranges.
-/





set_option linter.unusedVariables false
namespace Go.Proofs.YthjbnbimfpbccaaGreatDoor
open Go.ChangeShapes Go.WideShapes Go.ChangeAt Go.RowKit
/-! ### a new one -/
theorem anew_bad (w : World) (n e : Int) (h : (n < 16 ∧ e = 2) ∨ (1024 < n ∧ e = 3)) : Calls Tryz.prog 23 #[.int .i64 n] w fun r w' => r = .returned (.tuple #[.pointer none, .int .i64 e]) ∧ w = w' := by
  rcases h with ⟨h1, rfl⟩ | ⟨h1, rfl⟩
  · go_enter Tryz.func23, Tryz.ntmps23
    go_wp2_with fail
    go_ret2
    exact ⟨rfl, rfl⟩
  · have h2 : ¬ n < 16 := by omega
    have h3 : n > 1024 := by omega
    go_enter Tryz.func23, Tryz.ntmps23
    go_wp2_with fail
    go_ret2
    exact ⟨rfl, rfl⟩
set_option maxHeartbeats 1000000 in
set_option maxRecDepth 100000 in
theorem anew_any (w : World) (n : Nat) (h1 : 16 ≤ n) (h2 : n ≤ 1024) :
    Calls Tryz.prog 23 #[.int .i64 n] w fun r w' => ∃ ap p g bg cap, r = .returned (.tuple #[.pointer (some ⟨ap, 0, none⟩), .int .i64 0]) ∧ Ar w' ap p g bg cap (List.replicate (256 * n) 0) (fun _ => false) ∧ w.heap.size ≤ ap ∧ w.heap.size ≤ p ∧ w.heap.size ≤ g ∧ w.heap.size ≤ bg ∧ Fr [] w w' := by
  obtain ⟨N, hN⟩ : ∃ N, 256 * n = N := ⟨_, rfl⟩
  have hNb : N ≤ 262144 := by omega
  have hN0 : N % 16 = 0 := by omega
  have CT := Lib.hid fun W => (show Calls Tryz.prog 69 #[.int .i64 ((N : Int) / 16)] W _ from by
    have := new_any (N / 16) W (by omega)
    rw [show ((N / 16 : Nat) : Int) = (N : Int) / 16 by omega] at this
    exact this)
  have hmk := fun W => run_make_row' (P := Tryz.prog) 22 5 (.int .u8 0) 1 Tryz.underlying22 infoU8 rfl .i64 .i64 N (by omega) (by omega) W
  simp only [made_bys] at hmk
  have HZL := Lib.hid (show (List.replicate N 0).length = N by simp)
  obtain ⟨Z, hZ⟩ : ∃ Z, (bys (List.replicate N 0)).toArray = Z := ⟨_, rfl⟩
  have HZ := Lib.hid hZ
  rw [hZ] at hmk
  have hwn : (n : Int) * 256 = (N : Int) := by omega
  have hwq : IntKind.i64.wrap ((N : Int) / 16) = (N : Int) / 16 := by simp [IntKind.wrap, IntKind.signed, IntKind.bits]; omega
  have k1 : ¬ (n : Int) < 16 := by omega
  have k2 : ¬ (n : Int) > 1024 := by omega
  rw [hN]
  clear hZ
  go_enter Tryz.func23, Tryz.ntmps23
  go_upto_region 6 with (fail)
  refine wp_region_L (fun W => Fr [] w W) [] (by kernel_rfl) (Fr.refl _ _).drew (fun hHeld => ?_)
  refine wpAnyL_take (i := 0) (v := ?_) rfl (by kernel_rfl) (fun _ _ _ h => h) (Or.inl ⟨by rfl, ?_⟩) (by assumption) ?_; rotate_left; (focus (intro w hSw; skip; go_simp; (try with_reducible rfl))); (try (refine wpAnyL_norm (by simp only [Act.put, List.setIfInBounds_toArray, List.set_cons_zero, List.set_cons_succ]; rfl) ?_))
  refine wpAnyL_take (i := 1) (v := ?_) rfl (by kernel_rfl) (fun _ _ _ h => h) (Or.inl ⟨by rfl, ?_⟩) (by assumption) ?_; rotate_left; (focus (intro w hSw; skip; go_simp; (try with_reducible rfl))); (try (refine wpAnyL_norm (by simp only [Act.put, List.setIfInBounds_toArray, List.set_cons_zero, List.set_cons_succ]; rfl) ?_))
  refine wpAnyL_take (i := 3) (v := ?_) rfl (by kernel_rfl) (fun _ _ _ h => h) (Or.inl ⟨by rfl, ?_⟩) (by assumption) ?_; rotate_left; (focus (intro w hSw; skip; go_simp; (try with_reducible rfl))); (try (refine wpAnyL_norm (by simp only [Act.put, List.setIfInBounds_toArray, List.set_cons_zero, List.set_cons_succ]; rfl) ?_))
  refine wpAnyL_ready (rs := [2, 4]) (by kernel_rfl) (by simp) ?_
  refine AllReadyL.cons rfl (fun K hK => ?_) (AllReadyL.cons rfl (fun K hK => ?_) AllReadyL.nil)
  · go_simp
    refine (CT.out _).mono ?_
    rintro e w3 ⟨p, g, rfl, hT3, hp, hg, hf3⟩
    have hp' : w.heap.size ≤ p := hp
    have hg' : w.heap.size ≤ g := hg
    refine hK.out _ _ (fun _ => hHeld.trans0 hf3) (fun hHeld' => ?_); have hHeld := hHeld' (by decide); clear hHeld' hK K; (try (refine wpAnyL_norm (by simp only [Act.put, List.setIfInBounds_toArray, List.set_cons_zero, List.set_cons_succ]; rfl) ?_))
    refine wpAnyL_ready (rs := [4]) (by kernel_rfl) (by simp) ?_; refine AllReadyL.cons rfl (fun K hK => ?_) AllReadyL.nil
    go_simp
    have hB := At.new w3 5 Z
    have hf4 : Fr [] w3 (w3.alloc (.cells Z 5)) := (by repeat (first | exact Fr.refl _ _ | assumption | refine Fr.trans0 ?_ (by assumption) | refine Fr.drewN ?_ _ | refine Fr.alloc ?_ _ | refine Fr.drew ?_))
    have hT := hT3.fr hf4 (by simp) (by simp)
    have hb' := hHeld.size
    refine hK.out _ _ (fun _ => hHeld.trans0 hf4) (fun hHeld' => ?_); have hHeld := hHeld' (by decide); clear hHeld' hK K; (try (refine wpAnyL_norm (by simp only [Act.put, List.setIfInBounds_toArray, List.set_cons_zero, List.set_cons_succ]; rfl) ?_))
    obtain ⟨bg, hbg⟩ : ∃ b, w3.heap.size = b := ⟨_, rfl⟩
    obtain ⟨w4, hw4'⟩ : ∃ W, w3.alloc (.cells Z 5) = W := ⟨_, rfl⟩
    rw [hw4', hbg] at hB
    rw [hw4'] at hT hHeld ⊢
    rw [hbg] at hb' ⊢
    refine wpAnyL_take (i := 5) (v := ?_) rfl (by kernel_rfl) (fun _ _ _ h => h) (Or.inl ⟨by rfl, ?_⟩) (by assumption) ?_; rotate_left; (focus (intro w hSw; skip; go_simp; (try with_reducible rfl))); (try (refine wpAnyL_norm (by simp only [Act.put, List.setIfInBounds_toArray, List.set_cons_zero, List.set_cons_succ]; rfl) ?_))
    refine wpAnyL_ready (rs := [6]) (by kernel_rfl) (by simp) ?_; refine AllReadyL.cons rfl (fun K hK => ?_) AllReadyL.nil
    go_simp
    have hfa : Fr [] w4 (w4.alloc (.cells #[.pointer (some ⟨p, 0, none⟩), .slice (some ⟨bg, 0, none⟩) N N] 127)) := (by repeat (first | exact Fr.refl _ _ | assumption | refine Fr.trans0 ?_ (by assumption) | refine Fr.drewN ?_ _ | refine Fr.alloc ?_ _ | refine Fr.drew ?_))
    have hAX := At.new w4 127 #[.pointer (some ⟨p, 0, none⟩), .slice (some ⟨bg, 0, none⟩) N N]
    have hw4 := hHeld.size
    refine hK.out _ _ (fun _ => hHeld.trans0 hfa) (fun hHeld' => ?_); have hHeld := hHeld' (by decide); clear hHeld' hK K; (try (refine wpAnyL_norm (by simp only [Act.put, List.setIfInBounds_toArray, List.set_cons_zero, List.set_cons_succ]; rfl) ?_))
    refine wpAnyL_take (i := 7) (v := ?_) rfl (by kernel_rfl) (fun _ _ _ h => h) (Or.inl ⟨by rfl, ?_⟩) (by assumption) ?_; rotate_left; (focus (intro w hSw; skip; go_simp; (try with_reducible rfl))); (try (refine wpAnyL_norm (by simp only [Act.put, List.setIfInBounds_toArray, List.set_cons_zero, List.set_cons_succ]; rfl) ?_))
    refine wpAnyL_take (i := 8) (v := ?_) rfl (by kernel_rfl) (fun _ _ _ h => h) (Or.inl ⟨by rfl, ?_⟩) (by assumption) ?_; rotate_left; (focus (intro w hSw; skip; go_simp; (try with_reducible rfl))); (try (refine wpAnyL_norm (by simp only [Act.put, List.setIfInBounds_toArray, List.set_cons_zero, List.set_cons_succ]; rfl) ?_))
    refine wpAnyL_done (by kernel_rfl) ?_ _
    go_wp2_with fail
    go_ret2
    refine ⟨_, rfl, p, g, bg, ⟨N, by rw [HZL.out]; omega, by rw [HZL.out]; omega, by rw [HZL.out]; exact Nat.le_refl _, by omega, Byt.rep N, by rw [HZL.out]; exact hAX, by rw [HZL.out]; exact hT.fr hfa (by simp) (by simp), Z, hB.fr hfa (by simp), ?_, ?_⟩, hw4, by omega, by omega, by omega, hHeld⟩
    · rw [HZL.out, ← HZ.out]; simp [bys_len]
    · rw [HZL.out, ← HZ.out, List.take_of_length_le (by simp [bys_len])]
  · go_simp
    have hB3 : At (w.alloc (.cells Z 5)).drew w.heap.size 5 Z := At.new w 5 Z
    refine hK.out _ _ (fun _ => (show Fr [] w (w.alloc (.cells Z 5)).drew from (by repeat (first | exact Fr.refl _ _ | assumption | refine Fr.trans0 ?_ (by assumption) | refine Fr.drewN ?_ _ | refine Fr.alloc ?_ _ | refine Fr.drew ?_)))) (fun hHeld' => ?_); have hHeld := hHeld' (by decide); clear hHeld' hK K; (try (refine wpAnyL_norm (by simp only [Act.put, List.setIfInBounds_toArray, List.set_cons_zero, List.set_cons_succ]; rfl) ?_))
    obtain ⟨w3, hw3'⟩ : ∃ W, (w.alloc (.cells Z 5)).drew = W := ⟨_, rfl⟩
    rw [hw3'] at hHeld hB3 ⊢
    refine wpAnyL_ready (rs := [2]) (by kernel_rfl) (by simp) ?_; refine AllReadyL.cons rfl (fun K hK => ?_) AllReadyL.nil
    go_simp
    refine (CT.out _).mono ?_
    rintro e w4 ⟨p, g, rfl, hT, hp, hg, hf4⟩
    have hp' : w.heap.size ≤ p := Nat.le_trans hHeld.size hp
    have hg' : w.heap.size ≤ g := Nat.le_trans hHeld.size hg
    have hB := hB3.fr hf4 (by simp)
    have hb' := Nat.le_refl w.heap.size
    refine hK.out _ _ (fun _ => hHeld.trans0 hf4) (fun hHeld' => ?_); have hHeld := hHeld' (by decide); clear hHeld' hK K; (try (refine wpAnyL_norm (by simp only [Act.put, List.setIfInBounds_toArray, List.set_cons_zero, List.set_cons_succ]; rfl) ?_))
    refine wpAnyL_take (i := 5) (v := ?_) rfl (by kernel_rfl) (fun _ _ _ h => h) (Or.inl ⟨by rfl, ?_⟩) (by assumption) ?_; rotate_left; (focus (intro w hSw; skip; go_simp; (try with_reducible rfl))); (try (refine wpAnyL_norm (by simp only [Act.put, List.setIfInBounds_toArray, List.set_cons_zero, List.set_cons_succ]; rfl) ?_))
    refine wpAnyL_ready (rs := [6]) (by kernel_rfl) (by simp) ?_; refine AllReadyL.cons rfl (fun K hK => ?_) AllReadyL.nil
    go_simp
    have hfa : Fr [] w4 (w4.alloc (.cells #[.pointer (some ⟨p, 0, none⟩), .slice (some ⟨w.heap.size, 0, none⟩) N N] 127)) := (by repeat (first | exact Fr.refl _ _ | assumption | refine Fr.trans0 ?_ (by assumption) | refine Fr.drewN ?_ _ | refine Fr.alloc ?_ _ | refine Fr.drew ?_))
    have hAX := At.new w4 127 #[.pointer (some ⟨p, 0, none⟩), .slice (some ⟨w.heap.size, 0, none⟩) N N]
    have hw4 := hHeld.size
    refine hK.out _ _ (fun _ => hHeld.trans0 hfa) (fun hHeld' => ?_); have hHeld := hHeld' (by decide); clear hHeld' hK K; (try (refine wpAnyL_norm (by simp only [Act.put, List.setIfInBounds_toArray, List.set_cons_zero, List.set_cons_succ]; rfl) ?_))
    refine wpAnyL_take (i := 7) (v := ?_) rfl (by kernel_rfl) (fun _ _ _ h => h) (Or.inl ⟨by rfl, ?_⟩) (by assumption) ?_; rotate_left; (focus (intro w hSw; skip; go_simp; (try with_reducible rfl))); (try (refine wpAnyL_norm (by simp only [Act.put, List.setIfInBounds_toArray, List.set_cons_zero, List.set_cons_succ]; rfl) ?_))
    refine wpAnyL_take (i := 8) (v := ?_) rfl (by kernel_rfl) (fun _ _ _ h => h) (Or.inl ⟨by rfl, ?_⟩) (by assumption) ?_; rotate_left; (focus (intro w hSw; skip; go_simp; (try with_reducible rfl))); (try (refine wpAnyL_norm (by simp only [Act.put, List.setIfInBounds_toArray, List.set_cons_zero, List.set_cons_succ]; rfl) ?_))
    refine wpAnyL_done (by kernel_rfl) ?_ _
    go_wp2_with fail
    go_ret2
    refine ⟨_, rfl, p, g, w.heap.size, ⟨N, by rw [HZL.out]; omega, by rw [HZL.out]; omega, by rw [HZL.out]; exact Nat.le_refl _, by omega, Byt.rep N, by rw [HZL.out]; exact hAX, by rw [HZL.out]; exact hT.fr hfa (by simp) (by simp), Z, hB.fr hfa (by simp), ?_, ?_⟩, hw4, by omega, by omega, by omega, hHeld⟩
    · rw [HZL.out, ← HZ.out]; simp [bys_len]
    · rw [HZL.out, ← HZ.out, List.take_of_length_le (by simp [bys_len])]
end Go.Proofs.YthjbnbimfpbccaaGreatDoor
/-
  What tags an arena tells of a page. Condition: numbers in their types' ranges.
-/





set_option linter.unusedVariables false
namespace Go.Proofs.YthjbnbimfpbccaaGreatDoor
open Go.ChangeShapes Go.WideShapes Go.ChangeAt Go.RowKit
theorem infoU32 : (Tryz.prog.info? 43).map (fun i => (i.zero, i.size, i.bytes)) = some (some (.int .u32 0), 1, 4) := by kernel_rfl
def u32s (l : List Nat) : List Value := l.map fun (n : Nat) => .int .u32 (n : Int)
def tagL (f : Nat → Bool) (k j : Nat) : List Nat := ((List.range j).filter fun i => f (k + i)).map fun i => (k + i) * 16
theorem u32s_len (l : List Nat) : (u32s l).length = l.length := by unfold u32s; simp
theorem u32s_snoc (l : List Nat) (n : Nat) : u32s (l ++ [n]) = u32s l ++ [.int .u32 (n : Int)] := by unfold u32s; simp
theorem tagL_len (f : Nat → Bool) (k j : Nat) : (tagL f k j).length ≤ j := by
  unfold tagL
  rw [List.length_map]
  exact Nat.le_trans (List.length_filter_le _ _) (by simp)
theorem tagL_yes (f : Nat → Bool) (k j : Nat) (h : f (k + j) = true) : tagL f k (j + 1) = tagL f k j ++ [(k + j) * 16] := by
  unfold tagL
  rw [List.range_succ, List.filter_append, List.map_append]
  simp [h]
theorem tagL_no (f : Nat → Bool) (k j : Nat) (h : f (k + j) = false) : tagL f k (j + 1) = tagL f k j := by
  unfold tagL
  rw [List.range_succ, List.filter_append, List.map_append]
  simp [h]
def tgP (N : Nat) (f : Nat → Bool) (page : Int) : List Nat := if 0 ≤ page ∧ page < (N / 256 : Nat) then tagL f (16 * page.toNat) 16 else []
theorem tgP_len (N : Nat) (f : Nat → Bool) (page : Int) : (tgP N f page).length ≤ 16 := by
  unfold tgP
  split
  · exact tagL_len _ _ _
  · simp
set_option maxHeartbeats 1000000 in
set_option maxRecDepth 100000 in
theorem atagged_yes (w : World) (ap p g bg cap : Nat) (bs : List Nat) (f : Nat → Bool) (h : Ar w ap p g bg cap bs f) (P : Nat) (hP : P < bs.length / 256) :
    Calls Tryz.prog 21 #[.pointer (some ⟨ap, 0, none⟩), .int .i64 P] w fun r w' => ∃ v, r = .returned v ∧ w'.ownsRow w.heap.size 43 1 v (tagL f (16 * P) 16).length (u32s (tagL f (16 * P) 16)) ∧ Fr [] w w' := by
  obtain ⟨i0, hi, hz0, hz1, hz2⟩ := info_parts infoU32
  have hN := h.2.1
  have CZ := Lib.hid (asize_any w ap p g bg cap bs f h)
  have HT := Lib.hid fun (W : World) (hW : Fr [] w W) => (h.fr0 hW).top.1
  obtain ⟨K, hK⟩ : ∃ K, 16 * P = K := ⟨_, rfl⟩
  have CG := Lib.hid fun (W : World) (hW : Fr [] w W) (j : Nat) (hj : j < 16) => (show Calls Tryz.prog 67 #[.pointer (some ⟨p, 0, none⟩), .int .i64 ((K : Int) + (j : Int))] W fun r w' => r = .returned (.bool (f (K + j))) ∧ W = w' by
    have := get_any W p g (bs.length / 16) f (h.fr0 hW).2.2.2.2.2.2.1 ((K + j : Nat) : Int)
    rw [inR_nat _ _ (by omega), Bool.true_and, Int.toNat_natCast] at this
    exact this)
  obtain ⟨N, hNN⟩ : ∃ N, bs.length = N := ⟨_, rfl⟩
  rw [hNN] at hN hP CZ
  have hfirst : (P : Int) * 256 / 16 = (K : Int) := by omega
  have hge : ¬ (P : Int) ≥ (N : Int) / 256 := by omega
  have hKb : K + 16 ≤ 16384 := by omega
  rw [hK]
  have HL := Lib.hid (fun j => tagL_len f K j)
  have HY := Lib.hid (fun j h => tagL_yes f K j h)
  have HNo := Lib.hid (fun j h => tagL_no f K j h)
  obtain ⟨T, hT⟩ : ∃ T : Nat → List Nat, ∀ j, tagL f K j = T j := ⟨_, fun _ => rfl⟩
  have HT0 := Lib.hid (show T 0 = [] by rw [← hT]; rfl)
  rw [hT 16]
  simp only [hT] at HL HY HNo
  clear h hNN hK hT
  go_enter Tryz.func21, Tryz.ntmps21
  go_wp2_with fail
  refine (CZ.out).mono ?_
  rintro e w' ⟨rfl, rfl⟩
  go_wp2_with fail
  simp only [hfirst]
  clear hfirst
  go_loopw [5, 20] (fun s i wr => ∃ (j : Nat), j ≤ 16 ∧ i = .int .i64 j ∧ wr.ownsRow w.heap.size 43 1 s (T j).length (u32s (T j)) ∧ Fr [] w wr) (fun _ i _ => 16 - (intOf i).toNat)
  case atStart => exact ⟨0, by omega, rfl, by rw [HT0.out]; exact World.ownsRow_nil _ _ _ _, Fr.refl _ _⟩
  case round =>
    obtain ⟨j, hj, rfl, ho, hf⟩ := hrel
    obtain ⟨va, vc, rfl, hvc⟩ := own_slice ho
    have HO := Lib.hid ho
    have HF := Lib.hid hf
    by_cases hj16 : j < 16
    · have c0 := HT.out wr hf
      have C := Lib.hid (CG.out wr hf j hj16)
      have hln := HL.out j
      have hy := HY.out j
      have hno := HNo.out j
      obtain ⟨x, hx⟩ : ∃ x, f (K + j) = x := ⟨_, rfl⟩
      rw [hx] at C hy hno
      have hxw : IntKind.u32.wrap (((K : Int) + (j : Int)) * 16) = (((K + j) * 16 : Nat) : Int) := by simp [IntKind.wrap, IntKind.signed, IntKind.bits]; omega
      clear ho hf hx
      cases x
      · have HNO := Lib.hid (hno rfl)
        clear hno hy
        go_wp2_with fail
        refine (C.out).mono ?_
        rintro e w' ⟨rfl, rfl⟩
        go_wp2_with fail
        go_roundw
        case rel => exact ⟨j + 1, by omega, by go_num, by rw [HNO.out]; exact HO.out, HF.out⟩
        case measure => simp [intOf]; omega
      · have HYY := Lib.hid (hy rfl)
        clear hno hy
        obtain ⟨y, hyy⟩ : ∃ y, (K + j) * 16 = y := ⟨_, rfl⟩
        rw [hyy] at hxw HYY
        obtain ⟨m, hm⟩ : ∃ m, (T j).length = m := ⟨_, rfl⟩
        rw [hm] at hln HO hvc ⊢
        have HM := Lib.hid hm
        clear hyy hm
        have hhs := HF.out.size
        go_wp2_with fail
        refine (C.out).mono ?_
        rintro e w' ⟨rfl, rfl⟩
        go_wp2_with (at_builtin; refine wpList_append_own_at _ rfl (.tmp 31) (.tmp 37) 51 rfl w.heap.size 43 i0 (.int .u32 0) 1 4 Tryz.underlying51 hi hz0 hz1 hz2 rfl (by omega) (.slice va m vc) m (u32s (T j)) rfl (HO.out.alloc _) ⟨wr.heap.size, 0, none⟩ 1 1 [.int .u32 y] rfl rfl (cell_one_new _ _ _) (by simp [Value.oneCell']) (by unfold maxLen; omega) (by omega) (by simp; omega) ?_; intro v1 w1 hown1 hg1 hnil1 hat1)
        go_roundw
        case rel =>
          refine ⟨j + 1, by omega, by go_num, ?_, ?_⟩
          · rw [HYY.out, u32s_snoc, List.length_append, HM.out]
            exact hown1
          · exact (HF.out.alloc _).trans (Fr.grown hg1) (fun x hx => .inr (HO.out.lt x (by simpa using hx)).1)
        case measure => simp [intOf]; omega
    · obtain rfl : j = 16 := by omega
      clear ho hf
      go_wp2_with fail
      go_ret
      exact ⟨_, rfl, HO.out, HF.out⟩
theorem atagged_no (w : World) (ap p g bg cap : Nat) (bs : List Nat) (f : Nat → Bool) (h : Ar w ap p g bg cap bs f) (page : Int) (hp : page < 0 ∨ ((bs.length / 256 : Nat) : Int) ≤ page) :
    Calls Tryz.prog 21 #[.pointer (some ⟨ap, 0, none⟩), .int .i64 page] w fun r w' => r = .returned (.slice none 0 0) ∧ w = w' := by
  have CZ := Lib.hid (asize_any w ap p g bg cap bs f h)
  obtain ⟨N, hNN⟩ : ∃ N, bs.length = N := ⟨_, rfl⟩
  have hN := h.2.1
  rw [hNN] at hp CZ hN
  clear h hNN
  by_cases h0 : page < 0
  · go_enter Tryz.func21, Tryz.ntmps21
    go_wp2_with fail
    go_ret
    exact ⟨rfl, rfl⟩
  · have hge : page ≥ (N : Int) / 256 := by omega
    go_enter Tryz.func21, Tryz.ntmps21
    go_wp2_with fail
    refine (CZ.out).mono ?_
    rintro e w' ⟨rfl, rfl⟩
    go_wp2_with fail
    go_ret
    exact ⟨rfl, rfl⟩
theorem atagged_any (w : World) (ap p g bg cap : Nat) (bs : List Nat) (f : Nat → Bool) (h : Ar w ap p g bg cap bs f) (page : Int) :
    Calls Tryz.prog 21 #[.pointer (some ⟨ap, 0, none⟩), .int .i64 page] w fun r w' => ∃ v, r = .returned v ∧ w'.ownsRow w.heap.size 43 1 v (tgP bs.length f page).length (u32s (tgP bs.length f page)) ∧ Fr [] w w' := by
  unfold tgP
  by_cases hp : 0 ≤ page ∧ page < (bs.length / 256 : Nat)
  · rw [if_pos hp]
    obtain ⟨P, rfl⟩ := Int.eq_ofNat_of_zero_le hp.1
    exact atagged_yes w ap p g bg cap bs f h P (by omega)
  · rw [if_neg hp]
    exact (atagged_no w ap p g bg cap bs f h page (by omega)).mono fun e w' ⟨h1, h2⟩ => ⟨_, h1, World.ownsRow_nil _ _ _ _, h2 ▸ Fr.refl _ _⟩
end Go.Proofs.YthjbnbimfpbccaaGreatDoor
/-
  Plain facts: what lies where behind a laying; a capability's bytes read back. No condition beside those stated.
-/





set_option linter.unusedVariables false
namespace Go.Proofs.YthjbnbimfpbccaaGreatDoor
open Go.ChangeShapes Go.WideShapes Go.ChangeAt Go.RowKit
def sub (bs : List Nat) (a n : Nat) : List Nat := (bs.drop a).take n
theorem putL_get (bs : List Nat) (a : Nat) (l : List Nat) (h : a + l.length ≤ bs.length) (i : Nat) : (putL bs a l)[i]? = if i < a then bs[i]? else if i < a + l.length then l[i - a]? else bs[i]? := by
  unfold putL
  have ht : (bs.take a).length = a := by rw [List.length_take]; omega
  by_cases h1 : i < a
  · rw [if_pos h1, List.append_assoc, List.getElem?_append_left (by omega), List.getElem?_take_of_lt h1]
  · rw [if_neg h1]
    by_cases h2 : i < a + l.length
    · rw [if_pos h2, List.getElem?_append_left (by rw [List.length_append]; omega), List.getElem?_append_right (by omega), ht]
    · rw [if_neg h2, List.getElem?_append_right (by rw [List.length_append]; omega), List.length_append, ht, List.getElem?_drop]
      congr 1; omega
theorem sub_get (bs : List Nat) (a n i : Nat) : (sub bs a n)[i]? = if i < n then bs[a + i]? else none := by
  unfold sub
  rw [List.getElem?_take, List.getElem?_drop]
theorem sub_pre (bs : List Nat) (a : Nat) (l : List Nat) (h : a + l.length ≤ bs.length) (k : Nat) (hk : k ≤ l.length) : sub (putL bs a l) a k = l.take k := by
  apply List.ext_getElem?
  intro i
  rw [sub_get, List.getElem?_take]
  by_cases hi : i < k
  · rw [if_pos hi, if_pos hi, putL_get bs a l h, if_neg (by omega), if_pos (by omega)]
    congr 1; omega
  · rw [if_neg hi, if_neg hi]
theorem sub_put (bs : List Nat) (a : Nat) (l : List Nat) (h : a + l.length ≤ bs.length) : sub (putL bs a l) a l.length = l := by
  rw [sub_pre bs a l h _ (Nat.le_refl _), List.take_length]
theorem sub_far (bs : List Nat) (a : Nat) (l : List Nat) (h : a + l.length ≤ bs.length) (b n : Nat) (hd : b + n ≤ a ∨ a + l.length ≤ b) : sub (putL bs a l) b n = sub bs b n := by
  apply List.ext_getElem?
  intro i
  rw [sub_get, sub_get]
  by_cases hi : i < n
  · rw [if_pos hi, if_pos hi, putL_get bs a l h]
    by_cases h1 : b + i < a
    · rw [if_pos h1]
    · rw [if_neg h1, if_neg (by omega)]
  · rw [if_neg hi, if_neg hi]
theorem wrL_sub_far (bs : List Nat) (a : Nat) (l : List Nat) (b n : Nat) (hd : b + n ≤ a ∨ a + l.length ≤ b) : sub (wrL bs a l) b n = sub bs b n := by
  unfold wrL
  split
  · exact sub_far bs a l (by assumption) b n hd
  · rfl
theorem wrL_sub (bs : List Nat) (a : Nat) (l : List Nat) (h : a + l.length ≤ bs.length) (n : Nat) (hn : n = l.length) : sub (wrL bs a l) a n = l := by
  unfold wrL
  rw [if_pos h, hn, sub_put bs a l h]
theorem ofB0_bytes (c : Cp) (hc : c.Ok) : ofB0 (bytesC c) = { c with rs := c.rs % 16777216, v := false } := by
  have e0 : fld (bytesC c) 0 4 = c.cur % 256 ^ 4 := unle_le 4 c.cur
  have e1 : fld (bytesC c) 4 1 = c.e % 256 ^ 1 := unle_le 1 c.e
  have e2 : fld (bytesC c) 5 2 = c.b % 256 ^ 2 := unle_le 2 c.b
  have e3 : fld (bytesC c) 7 2 = c.t % 256 ^ 2 := unle_le 2 c.t
  have e4 : fld (bytesC c) 9 2 = c.pm % 256 ^ 2 := unle_le 2 c.pm
  have e5 : fld (bytesC c) 11 2 = c.ty % 256 ^ 2 := unle_le 2 c.ty
  have e6 : fld (bytesC c) 13 2 = c.rs % 65536 % 256 ^ 2 := unle_le 2 (c.rs % 65536)
  have e7 : fld (bytesC c) 15 1 = c.rs / 65536 % 256 % 256 ^ 1 := unle_le 1 (c.rs / 65536 % 256)
  have h0 := hc.cur; have h1 := hc.e; have h2 := hc.b; have h3 := hc.t; have h4 := hc.pm; have h5 := hc.ty; have h6 := hc.rs
  unfold ofB0
  rw [e0, e1, e2, e3, e4, e5, e6, e7]
  congr 1 <;> omega
theorem ofB_bytes (c : Cp) (hc : c.Ok) (v : Bool) (hr : c.rs < 16777216) : ofB (bytesC c) v = { c with v := v && soundB c } := by
  unfold ofB
  rw [ofB0_bytes c hc]
  have e : c.rs % 16777216 = c.rs := by omega
  rw [e]
  rfl
theorem clr_get (f : Nat → Bool) (a b i : Nat) : clr f a b i = (f i && !(decide (a ≤ i) && decide (i < b))) := rfl
theorem putF_get (f : Nat → Bool) (a n i : Nat) : putF f a n i = (f i && !(decide (a / 16 ≤ i) && decide (i ≤ (a + n - 1) / 16))) := by
  unfold putF
  rw [clr_get]
  congr 2
  by_cases h : i ≤ (a + n - 1) / 16
  · rw [decide_eq_true h, decide_eq_true (show i < (a + n - 1) / 16 + 1 by omega)]
  · rw [decide_eq_false h, decide_eq_false (show ¬ i < (a + n - 1) / 16 + 1 by omega)]
end Go.Proofs.YthjbnbimfpbccaaGreatDoor
/-
  An arena's functions, each whatever comes: what is told, and what is kept of lengths. Condition: numbers in their types' ranges.
-/





set_option linter.unusedVariables false
namespace Go.Proofs.YthjbnbimfpbccaaGreatDoor
open Go.ChangeShapes Go.WideShapes Go.ChangeAt Go.RowKit
def okE (N a : Nat) (k : Int) : Bool := widB k && decide (a + k.toNat ≤ N)
theorem okE_yes (N a k : Nat) (h : k = 1 ∨ k = 2 ∨ k = 4) : okE N a k = decide (a + k ≤ N) := by
  unfold okE widB
  rw [decide_eq_true (by omega), Bool.true_and, Int.toNat_natCast]
theorem okE_no (N a : Nat) (k : Int) (h : k ≠ 1 ∧ k ≠ 2 ∧ k ≠ 4) : okE N a k = false := by
  unfold okE widB
  rw [decide_eq_false (by omega), Bool.false_and]
theorem wid_cases (k : Int) : (∃ n : Nat, k = n ∧ (n = 1 ∨ n = 2 ∨ n = 4)) ∨ (k ≠ 1 ∧ k ≠ 2 ∧ k ≠ 4) := by
  by_cases h1 : k = 1
  · exact .inl ⟨1, h1, by omega⟩
  · by_cases h2 : k = 2
    · exact .inl ⟨2, h2, by omega⟩
    · by_cases h4 : k = 4
      · exact .inl ⟨4, h4, by omega⟩
      · exact .inr ⟨h1, h2, h4⟩
/-- The number loaded. -/
def ldN (bs : List Nat) (a : Nat) (k : Int) : Nat := if okE bs.length a k = true then unle (sub bs a k.toNat) else 0
section
variable (w : World) (ap p g bg cap : Nat) (bs : List Nat) (f : Nat → Bool) (h : Ar w ap p g bg cap bs f) (a : Nat) (ha : a < 4294967296)
include h ha
/-- The bytes and the tags behind a number's storing. -/
def stL (bs : List Nat) (a : Nat) (k : Int) (v : Nat) : List Nat := if widB k = true then wrL bs a (le k.toNat v) else bs
def stT (bs : List Nat) (f : Nat → Bool) (a : Nat) (k : Int) (v : Nat) : Nat → Bool := if widB k = true then wrF bs f a (le k.toNat v) else f
theorem astore_b (k : Int) (v : Nat) (hv : v < 4294967296) :
    Calls Tryz.prog 41 #[.pointer (some ⟨ap, 0, none⟩), .int .u32 a, .int .i64 k, .int .u32 v] w fun r w' => r = .returned (.bool (okE bs.length a k)) ∧ Ar w' ap p g bg cap (stL bs a k v) (stT bs f a k v) ∧ Fr [g, bg] w w' := by
  unfold stL stT
  rcases wid_cases k with ⟨n, rfl, hn⟩ | hk
  · have hw : widB (n : Int) = true := by unfold widB; simp; omega
    rw [okE_yes _ _ _ hn, if_pos hw, if_pos hw, Int.toNat_natCast]
    exact astore_any w ap p g bg cap bs f h a ha n v hn hv
  · have hw : ¬ widB k = true := by unfold widB; simp; omega
    rw [okE_no _ _ _ hk, if_neg hw, if_neg hw]
    exact (astore_no w _ a v k hk).mono fun e w' ⟨h1, h2⟩ => ⟨h1, h2 ▸ h, h2 ▸ Fr.refl _ _⟩
def ldC (bs : List Nat) (f : Nat → Bool) (a : Nat) : Cp := if whB bs.length a = true then ofB (sub bs a 16) (f (a / 16)) else noC
theorem aloadc_b : Calls Tryz.prog 40 #[.pointer (some ⟨ap, 0, none⟩), .int .u32 a] w fun r w' => r = .returned (.tuple #[.agg (ldC bs f a).cells, .bool (whB bs.length a)]) ∧ Fr [] w w' := by
  unfold ldC
  by_cases hw : whB bs.length a = true
  · rw [if_pos hw, hw]
    unfold whB at hw
    simp only [Bool.and_eq_true, decide_eq_true_eq] at hw
    exact aloadc_yes w ap p g bg cap bs f h a hw.1 hw.2
  · rw [if_neg hw]
    rw [Bool.not_eq_true] at hw
    rw [hw]
    exact aloadc_no w _ a (fun W hW => awhole_no w ap p g bg cap bs f h a ha hw W hW)
def scL (bs : List Nat) (a : Nat) (c : Cp) : List Nat := if whB bs.length a = true then wrL bs a (bytesC c) else bs
def scF (bs : List Nat) (f : Nat → Bool) (a : Nat) (c : Cp) : Nat → Bool := if whB bs.length a = true then stF bs f a c else f
theorem astorec_b (c : Cp) (hc : c.Ok) : Calls Tryz.prog 18 #[.pointer (some ⟨ap, 0, none⟩), .int .u32 a, .agg c.cells] w fun r w' => r = .returned (.bool (whB bs.length a)) ∧ Ar w' ap p g bg cap (scL bs a c) (scF bs f a c) ∧ Fr [g, bg] w w' := by
  unfold scL scF
  by_cases hw : whB bs.length a = true
  · rw [if_pos hw, if_pos hw, hw]
    unfold whB at hw
    simp only [Bool.and_eq_true, decide_eq_true_eq] at hw
    exact astorec_yes w ap p g bg cap bs f h a hw.1 hw.2 c hc
  · rw [if_neg hw, if_neg hw]
    rw [Bool.not_eq_true] at hw
    rw [hw]
    exact (astorec_no w _ a c (fun W hW => awhole_no w ap p g bg cap bs f h a ha hw W hW)).mono fun e w' ⟨h1, h2⟩ => ⟨h1, h.fr0 h2, h2.more (by simp)⟩
end
theorem stL_len (bs : List Nat) (a : Nat) (k : Int) (v : Nat) : (stL bs a k v).length = bs.length := by unfold stL; split <;> simp [wrL_len]
theorem scL_len (bs : List Nat) (a : Nat) (c : Cp) : (scL bs a c).length = bs.length := by unfold scL; split <;> simp [wrL_len]
theorem scF_at (bs : List Nat) (f : Nat → Bool) (a : Nat) (c : Cp) (h : whB bs.length a = true) : scF bs f a c (a / 16) = (c.v && soundB c) := by
  unfold scF stF upd
  rw [if_pos h, if_pos rfl]
end Go.Proofs.YthjbnbimfpbccaaGreatDoor
/-
  Plain: the bounds of what is made of a region are the region's, wherever the cursor stands within. No program here.
-/

set_option linter.unusedVariables false
namespace Go.Proofs.YthjbnbimfpbccaaGreatDoor
open Go.ChangeShapes Go.WideShapes Go.ChangeAt Go.RowKit
/-- The turns of two mantissas that lie a half of the ring apart at most. -/
theorem turn_same (A M : Nat) (h1 : A ≤ M) (h2 : M ≤ A + 2048) : ((M / 4096 : Nat) : Int) - trn (M % 4096) (edgeN (A % 4096)) = ((A / 4096 : Nat) : Int) - trn (A % 4096) (edgeN (A % 4096)) := by
  have key : ∀ x g : Nat, trn x g = if x < g then 1 else 0 := fun x g => rfl
  rw [key, key]
  unfold edgeN
  by_cases hb : A % 4096 < 1024
  · have e : (A % 4096 + 3072) % 4096 = A % 4096 + 3072 := by omega
    rw [e]
    by_cases hq : M / 4096 = A / 4096
    · rw [if_pos (by omega), if_pos (by omega), hq]
    · omega
  · have e : (A % 4096 + 3072) % 4096 = A % 4096 - 1024 := by omega
    rw [e]
    by_cases hq : M / 4096 = A / 4096
    · rw [if_neg (by omega), if_neg (by omega), hq]
    · have h3 : M / 4096 = A / 4096 + 1 := by omega
      rw [if_pos (by omega), if_neg (by omega), h3]
      omega
/-- What is told of a mantissa, the turn being that of the bottom. -/
theorem of_same (e A c X : Nat) (hc1 : A ≤ c / 2 ^ e) (hc2 : c / 2 ^ e ≤ A + 2048) (h1 : A ≤ X) (h2 : X ≤ A + 2048) :
    ofI (hiI e (A % 4096) c) e (A % 4096) (X % 4096) = ((X * 2 ^ e : Nat) : Int) := by
  have k1 := turn_same A (c / 2 ^ e) hc1 hc2
  have k2 := turn_same A X h1 h2
  unfold ofI hiI
  rw [k1, ← k2]
  have : ((X / 4096 : Nat) : Int) - trn (X % 4096) (edgeN (A % 4096)) + trn (X % 4096) (edgeN (A % 4096)) = ((X / 4096 : Nat) : Int) := by omega
  rw [this, Int.natCast_mul]
  have e2 : ((2 ^ e : Nat) : Int) = (2 : Int) ^ e := by simp
  rw [e2]
  have e3 : ((X / 4096 : Nat) : Int) * 4096 + ((X % 4096 : Nat) : Int) = (X : Int) := by omega
  rw [e3]
theorem expo_goes (b t : Nat) (h : b ≤ t) (h2 : t ≤ 4294967296) : goes (b : Int) (t : Int) (expo (b : Int) (t : Int)) = true := by
  have key : ∀ n e, n + e = 21 → goes (b : Int) (t : Int) (expoF (b : Int) (t : Int) n e) = true := fun n => by
    induction n with
    | zero =>
      intro e he
      obtain rfl : e = 21 := by omega
      exact goes_last _ _ (by omega) (by omega) (by omega)
    | succ n ih =>
      intro e he
      by_cases hg : goes (b : Int) (t : Int) e = true
      · rw [expoF_yes _ _ _ _ hg (by omega)]; exact hg
      · rw [Bool.not_eq_true] at hg
        rw [expoF_no _ _ _ _ hg (by omega)]
        exact ih (e + 1) (by omega)
  exact key 21 0 rfl
/-- What is exact has both ends at multiples, and not too far apart. -/
theorem exact_parts (b t : Nat) (h : b ≤ t) (h2 : t ≤ 4294967296) (hx : exB b t = true) :
    ∃ A T : Nat, b = A * 2 ^ expo b t ∧ t = T * 2 ^ expo b t ∧ A ≤ T ∧ T ≤ A + 2048 ∧ m1 b t = A % 4096 ∧ m2 b t = T % 4096 ∧ b / 2 ^ expo b t = A ∧ t / 2 ^ expo b t = T := by
  have hg := expo_goes b t h h2
  unfold exB at hx
  simp only [Bool.and_eq_true, decide_eq_true_eq] at hx
  obtain ⟨x1, x2⟩ := hx
  rw [goes_iff, decide_eq_true_eq, rup_nat, rdn_nat] at hg
  have y1 := (rdn_eq b (expo b t)).2 x1
  have y2 := (up_eq t (expo b t)).2 x2
  unfold m1 m2
  generalize expo (b : Int) (t : Int) = e at *
  have hp : 0 < 2 ^ e := Nat.two_pow_pos e
  rw [y1, y2] at hg
  have hup : up t e = t / 2 ^ e := by
    have : up t e * 2 ^ e / 2 ^ e = t / 2 ^ e := by rw [y2]
    rw [Nat.mul_div_cancel _ hp] at this
    exact this
  rw [hup] at y2 ⊢
  refine ⟨b / 2 ^ e, t / 2 ^ e, y1.symm, y2.symm, Nat.div_le_div_right h, ?_, rfl, rfl, rfl, rfl⟩
  have e2 : (2 : Int) ^ e = ((2 ^ e : Nat) : Int) := by simp
  rw [e2] at hg
  have hg2 : t ≤ b + 2048 * 2 ^ e := by omega
  generalize b / 2 ^ e = A at *
  generalize t / 2 ^ e = T at *
  generalize 2 ^ e = P at *
  subst y1
  subst y2
  rw [← Nat.add_mul] at hg2
  exact Nat.le_of_mul_le_mul_right hg2 hp
/-- The bounds of a region that is exact, wherever the cursor stands within. -/
theorem dec_exact (b t c : Nat) (h : b ≤ t) (h2 : t ≤ 4294967296) (h3 : b < 4294967296) (hx : exB b t = true) (hc1 : b ≤ c) (hc2 : c ≤ t) :
    dBase (expo b t) (m1 b t) (m2 b t) c = b ∧ dTop (expo b t) (m1 b t) (m2 b t) c = t := by
  obtain ⟨A, T, eA, eT, h4, h5, e1, e2, e3, e4⟩ := exact_parts b t h h2 hx
  have he := expo_le (b : Int) (t : Int)
  rw [e1, e2]
  unfold dBase dTop dOk mayB
  have c1 : b / 2 ^ expo b t ≤ c / 2 ^ expo b t := Nat.div_le_div_right hc1
  have c2 : c / 2 ^ expo b t ≤ t / 2 ^ expo b t := Nat.div_le_div_right hc2
  rw [e3] at c1
  rw [e4] at c2
  generalize expo (b : Int) (t : Int) = e at *
  rw [of_same e A c A c1 (by omega) (Nat.le_refl _) (by omega), of_same e A c T c1 (by omega) h4 h5, ← eA, ← eT]
  have o1 : okB (b : Int) (t : Int) = true := by unfold okB; simp; omega
  have o2 : ((b : Int) == 4294967296) = false := by simp; omega
  rw [o1, o2, decide_eq_true he, decide_eq_true (show A % 4096 < 4096 by omega), decide_eq_true (show T % 4096 < 4096 by omega)]
  exact ⟨rfl, rfl⟩
/-- What goes without an exponent is exact. -/
theorem small_exact (b t : Nat) (h : b ≤ t) (h2 : t ≤ b + 2048) : expo (b : Int) (t : Int) = 0 ∧ exB b t = true := by
  have hg : goes (b : Int) (t : Int) 0 = true := by
    rw [goes_iff, rup_nat, rdn_nat]
    simp [up]
    omega
  have e : expo (b : Int) (t : Int) = 0 := by unfold expo; exact expoF_yes _ _ _ _ hg (by omega)
  refine ⟨e, ?_⟩
  unfold exB
  rw [e]
  simp [Nat.mod_one]
end Go.Proofs.YthjbnbimfpbccaaGreatDoor
/-
  What scan.Stale computes: a capability whose base lies in what is painted; a paint that may be none. Condition: numbers in their types' ranges.
-/




set_option linter.unusedVariables false
namespace Go.Proofs.YthjbnbimfpbccaaGreatDoor
open Go.ChangeShapes Go.WideShapes Go.ChangeAt Go.RowKit
/-- A paint at a pointer, or none; hs tells what is painted; its blocks lie below B. -/
def Hs (B : Nat) (w : World) (pv : Option Addr) (hs : Int → Bool) : Prop :=
  (pv = none ∧ hs = fun _ => false) ∨ ∃ pp p g n f, pv = some ⟨pp, 0, none⟩ ∧ Pt w pp p g n f ∧ hs = hasP n f ∧ pp < B ∧ p < B ∧ g < B
section
variable {B B' : Nat} {w w' : World} {pv : Option Addr} {hs : Int → Bool} {S : List Nat}
theorem Hs.fr (h : Hs B w pv hs) (f : Fr S w w') (hS : ∀ k ∈ S, B ≤ k) : Hs B w' pv hs := by
  rcases h with h | ⟨pp, p, g, n, F, h1, h2, h3, h4, h5, h6⟩
  · exact .inl h
  · exact .inr ⟨pp, p, g, n, F, h1, h2.fr f (fun h => by have := hS _ h; omega) (fun h => by have := hS _ h; omega) (fun h => by have := hS _ h; omega), h3, h4, h5, h6⟩
theorem Hs.hp (h : Hs B w pv hs) (hv : w'.heap = w.heap) : Hs B w' pv hs := by
  rcases h with h | ⟨pp, p, g, n, F, h1, h2, h3⟩
  · exact .inl h
  · exact .inr ⟨pp, p, g, n, F, h1, h2.heap hv, h3⟩
theorem Hs.up (h : Hs B w pv hs) (hB : B ≤ B') : Hs B' w pv hs := by
  rcases h with h | ⟨pp, p, g, n, F, h1, h2, h3, h4, h5, h6⟩
  · exact .inl h
  · exact .inr ⟨pp, p, g, n, F, h1, h2, h3, by omega, by omega, by omega⟩
theorem Hs.of {pp p g n : Nat} {f : Nat → Bool} (h : Pt w pp p g n f) : Hs w.heap.size w (some ⟨pp, 0, none⟩) (hasP n f) := .inr ⟨pp, p, g, n, f, rfl, h, rfl, h.lt.1, h.lt.2.1, h.lt.2.2⟩
end
def nohs : Int → Bool := fun _ => false
theorem Hs.nil (B : Nat) (w : World) : Hs B w none nohs := .inl ⟨rfl, rfl⟩
theorem has_any {B : Nat} {w : World} {pv : Option Addr} {hs : Int → Bool} (h : Hs B w pv hs) (a : Int) (ha : 0 ≤ a) (ha2 : a ≤ 4294967295) :
    Calls Tryz.prog 99 #[.pointer pv, .int .u32 a] w fun r w' => r = .returned (.bool (hs a)) ∧ w = w' := by
  rcases h with ⟨rfl, rfl⟩ | ⟨pp, p, g, n, F, rfl, h2, rfl, _⟩
  · exact pthas_nil w a
  · exact pthas_any w pp p g n F h2 a ha ha2
def stB (hs : Int → Bool) (c : Cp) : Bool := c.v && hs c.base
theorem stale_any {B : Nat} {w : World} {pv : Option Addr} {hs : Int → Bool} (h : Hs B w pv hs) (hB : B ≤ w.heap.size) (c : Cp) (hc : c.cur < 4294967296) :
    Calls Tryz.prog 96 #[.agg #[.pointer pv], .agg c.cells] w fun r w' => r = .returned (.bool (stB hs c)) ∧ Fr [] w w' := by
  have hbd := dec_bd c.e c.b c.t c.cur
  have F0 := Lib.hid (show Fr [] w ((w.alloc (.cells #[.pointer pv] 166)).alloc (.cells c.cells 49)) from (by repeat (first | exact Fr.refl _ _ | assumption | refine Fr.trans0 ?_ (by assumption) | refine Fr.drewN ?_ _ | refine Fr.alloc ?_ _ | refine Fr.drew ?_)))
  have A0 := Lib.hid ((At.new w 166 #[.pointer pv]).old (.cells c.cells 49))
  have A1 := At.new (w.alloc (.cells #[.pointer pv] 166)) 49 c.cells
  rw [World.size_alloc] at A1
  have A1 := Lib.hid A1
  have C1 := Lib.hid fun W => range_any W c hc
  have C2 := Lib.hid fun (W : World) (hW : Fr [] w W) => has_any (h.fr hW (by simp)) c.base hbd.1 (by have := hbd.2.1; unfold Cp.base; omega)
  unfold stB
  generalize c.base = X at *
  generalize c.top = Y at *
  generalize hs X = b at *
  obtain ⟨cur, e, cb, ct, pm, ty, rs, v⟩ := c
  unfold Cp.cells at *
  dsimp only at *
  clear hbd h
  cases v
  · go_enter Tryz.func96, Tryz.ntmps96
    go_wp2_with (first | (go_at_call 92; refine (C1.out _).mono ?_; rintro e w2 ⟨rfl, hf2⟩; have c7 := (A1.out.fr hf2 (by simp)).cell 7; have c0 := (A0.out.fr hf2 (by simp)).cell 0; simp only [List.getElem?_toArray, List.getElem?_cons_zero, List.getElem?_cons_succ] at c7 c0) | (go_at_call 99; refine (C2.out _ (F0.out.trans0 hf2)).mono ?_; rintro e w3 ⟨rfl, rfl⟩))
    go_ret
    exact ⟨rfl, F0.out.trans0 hf2⟩
  · go_enter Tryz.func96, Tryz.ntmps96
    go_wp2_with (first | (go_at_call 92; refine (C1.out _).mono ?_; rintro e w2 ⟨rfl, hf2⟩; have c7 := (A1.out.fr hf2 (by simp)).cell 7; have c0 := (A0.out.fr hf2 (by simp)).cell 0; simp only [List.getElem?_toArray, List.getElem?_cons_zero, List.getElem?_cons_succ] at c7 c0) | (go_at_call 99; refine (C2.out _ (F0.out.trans0 hf2)).mono ?_; rintro e w3 ⟨rfl, rfl⟩))
    go_ret
    exact ⟨rfl, F0.out.trans0 hf2⟩
end Go.Proofs.YthjbnbimfpbccaaGreatDoor
/-
  What a look at a page of an arena leaves, in plain words: which tags go, how many. No condition.
-/







set_option linter.unusedVariables false
namespace Go.Proofs.YthjbnbimfpbccaaGreatDoor
open Go.ChangeShapes Go.WideShapes Go.ChangeAt Go.RowKit
/-- Is the capability of a tagged granule stale? -/
def sU (bs : List Nat) (hs : Int → Bool) (a : Nat) : Bool := stB hs (ofB (sub bs a 16) true)
/-- The tags behind a look at some granules. -/
def pgT (bs : List Nat) (hs : Int → Bool) (f : Nat → Bool) (l : List Nat) : Nat → Bool := fun i => f i && !(decide (16 * i ∈ l) && sU bs hs (16 * i))
def pgN (bs : List Nat) (hs : Int → Bool) (l : List Nat) : Nat := (l.filter (sU bs hs)).length
theorem pgT_nil (bs : List Nat) (hs : Int → Bool) (f : Nat → Bool) : pgT bs hs f [] = f := by
  funext i; unfold pgT; simp
/-- Granules of a list: tagged, within, each once. -/
structure Grs (N : Nat) (f : Nat → Bool) (l : List Nat) : Prop where
  nd : l.Nodup
  mod : ∀ a ∈ l, a % 16 = 0
  fit : ∀ a ∈ l, a + 16 ≤ N
  set : ∀ a ∈ l, f (a / 16) = true
theorem tagL_mem (f : Nat → Bool) (k j a : Nat) : a ∈ tagL f k j ↔ ∃ i, i < j ∧ f (k + i) = true ∧ a = (k + i) * 16 := by
  unfold tagL
  rw [List.mem_map]
  constructor
  · rintro ⟨i, hi, rfl⟩
    rw [List.mem_filter, List.mem_range] at hi
    exact ⟨i, hi.1, hi.2, rfl⟩
  · rintro ⟨i, h1, h2, rfl⟩
    exact ⟨i, List.mem_filter.2 ⟨List.mem_range.2 h1, h2⟩, rfl⟩
theorem tagL_grs (N : Nat) (f : Nat → Bool) (k j : Nat) (h : 16 * (k + j) ≤ N) : Grs N f (tagL f k j) := by
  refine ⟨?_, fun a ha => ?_, fun a ha => ?_, fun a ha => ?_⟩
  · unfold tagL
    refine List.Pairwise.map (R := fun i i' => i ≠ i') _ (fun i i' h => by omega) ?_
    exact List.Pairwise.filter _ List.nodup_range
  · obtain ⟨i, _, _, rfl⟩ := (tagL_mem f k j a).1 ha; omega
  · obtain ⟨i, _, _, rfl⟩ := (tagL_mem f k j a).1 ha; omega
  · obtain ⟨i, _, h2, rfl⟩ := (tagL_mem f k j a).1 ha
    rw [Nat.mul_div_cancel _ (by omega)]; exact h2
theorem tgP_grs (N : Nat) (f : Nat → Bool) (page : Int) : Grs N f (tgP N f page) := by
  unfold tgP
  split
  · exact tagL_grs N f _ _ (by omega)
  · exact ⟨List.nodup_nil, by simp, by simp, by simp⟩
theorem tgP_mem (N : Nat) (f : Nat → Bool) (P i : Nat) (hP : P < N / 256) : 16 * i ∈ tgP N f P ↔ i / 16 = P ∧ f i = true := by
  unfold tgP
  rw [if_pos ⟨by omega, by omega⟩, tagL_mem, Int.toNat_natCast]
  constructor
  · rintro ⟨j, h1, h2, h3⟩
    have e : i = 16 * P + j := by omega
    exact ⟨by omega, by rw [e]; exact h2⟩
  · rintro ⟨h1, h2⟩
    exact ⟨i - 16 * P, by omega, by rw [show 16 * P + (i - 16 * P) = i by omega]; exact h2, by omega⟩
section
variable {N : Nat} {f : Nat → Bool} {l : List Nat} (h : Grs N f l) (bs : List Nat) (hs : Int → Bool) (k a : Nat) (hk : l[k]? = some a)
include h hk
theorem Grs.not_before : a ∉ l.take k := fun hm => by
  obtain ⟨j, hj, he⟩ := List.getElem_of_mem hm
  rw [List.getElem_take] at he
  have hjk : j < k := by simp at hj; omega
  have hkl := (List.getElem?_eq_some_iff.1 hk)
  obtain ⟨hlt, he2⟩ := hkl
  have := (List.nodup_iff_pairwise_ne.1 h.nd)
  rw [List.pairwise_iff_getElem] at this
  exact this j k (by omega) hlt hjk (he.trans he2.symm)
theorem Grs.still : pgT bs hs f (l.take k) (a / 16) = true := by
  have hm := List.mem_of_getElem? hk
  unfold pgT
  have e : 16 * (a / 16) = a := by have := h.mod a hm; omega
  rw [e, decide_eq_false (h.not_before k a hk), h.set a hm]
  rfl
theorem Grs.taken (hs1 : sU bs hs a = true) : upd (pgT bs hs f (l.take k)) (a / 16) false = pgT bs hs f (l.take (k + 1)) := by
  have hm := List.mem_of_getElem? hk
  have e : 16 * (a / 16) = a := by have := h.mod a hm; omega
  funext i
  unfold upd
  have ht : l.take (k + 1) = l.take k ++ [a] := by rw [List.take_add_one, hk]; rfl
  by_cases hi : i = a / 16
  · subst hi
    rw [if_pos rfl]
    unfold pgT
    rw [e, hs1, ht, decide_eq_true (by simp)]
    simp
  · rw [if_neg hi]
    unfold pgT
    rw [ht]
    have : (16 * i ∈ l.take k ++ [a]) ↔ 16 * i ∈ l.take k := by
      rw [List.mem_append, List.mem_singleton]
      constructor
      · rintro (h | h)
        · exact h
        · omega
      · exact .inl
    simp only [this]
omit h in
theorem pgT_kept (hs1 : sU bs hs a = false) : pgT bs hs f (l.take k) = pgT bs hs f (l.take (k + 1)) := by
  funext i
  unfold pgT
  have ht : l.take (k + 1) = l.take k ++ [a] := by rw [List.take_add_one, hk]; rfl
  rw [ht]
  by_cases hi : 16 * i = a
  · rw [hi, hs1]; simp
  · have : (16 * i ∈ l.take k ++ [a]) ↔ 16 * i ∈ l.take k := by
      rw [List.mem_append, List.mem_singleton]
      exact ⟨fun h => h.resolve_right hi, .inl⟩
    simp only [this]
omit h in
theorem pgN_snoc : pgN bs hs (l.take (k + 1)) = pgN bs hs (l.take k) + (if sU bs hs a = true then 1 else 0) := by
  have ht : l.take (k + 1) = l.take k ++ [a] := by rw [List.take_add_one, hk]; rfl
  unfold pgN
  rw [ht, List.filter_append, List.length_append]
  by_cases hi : sU bs hs a = true
  · simp [hi]
  · simp [hi]
end
end Go.Proofs.YthjbnbimfpbccaaGreatDoor
/-
  scan.Page: which tags of a page it takes, and how many. Condition: the paint's blocks are older than the arena's.
-/







set_option linter.unusedVariables false
namespace Go.Proofs.YthjbnbimfpbccaaGreatDoor
open Go.ChangeShapes Go.WideShapes Go.ChangeAt Go.RowKit
theorem u32s_get (l : List Nat) (k a : Nat) (h : l[k]? = some a) : (u32s l)[k]? = some (.int .u32 (a : Int)) := by unfold u32s; rw [List.getElem?_map, h]; rfl
theorem Ar.wordsAt {w : World} {ap p g bg cap : Nat} {bs : List Nat} {f : Nat → Bool} (h : Ar w ap p g bg cap bs f) : ∃ cs, At w g 28 cs := by
  obtain ⟨a1, a2, a3, a4, a5, a6, ⟨b1, b2, b3, c, cs', b4, b5, b6, b7⟩, _⟩ := h
  exact ⟨_, b6⟩
theorem ofB_ok (l : List Nat) (v : Bool) (hl : Byt l) (hn : l.length = 16) : (ofB l v).cur < 4294967296 := by
  exact (ofB0_ok l hl).cur
set_option maxHeartbeats 2000000 in
set_option maxRecDepth 100000 in
theorem spage_gen {w : World} {pv : Option Addr} {hs : Int → Bool} (ap p g bg cap : Nat) (bs : List Nat) (f : Nat → Bool) (h : Ar w ap p g bg cap bs f) (hh : ∀ W, Fr [g] w W → ∃ B, B ≤ W.heap.size ∧ Hs B W pv hs) (page : Int) :
    Calls Tryz.prog 53 #[.pointer (some ⟨ap, 0, none⟩), .int .i64 page, .pointer pv] w fun r w' => r = .returned (.int .i64 (pgN bs hs (tgP bs.length f page) : Nat)) ∧ Ar w' ap p g bg cap bs (pgT bs hs f (tgP bs.length f page)) ∧ Fr [g] w w' := by
  have CT := Lib.hid (atagged_any w ap p g bg cap bs f h page)
  have hlt := tgP_len bs.length f page
  have HG := Lib.hid (tgP_grs bs.length f page)
  obtain ⟨l, hl⟩ : ∃ l, tgP bs.length f page = l := ⟨_, rfl⟩
  rw [hl] at CT hlt HG ⊢
  obtain ⟨n, hn⟩ : ∃ n, l.length = n := ⟨_, rfl⟩
  rw [hn] at CT hlt
  have HN := Lib.hid hn
  have H := Lib.hid h
  have HH := Lib.hid hh
  have hgl := h.lt.2.2.1
  have HIC := Lib.hid (fun c : Cp => (show (Tryz.prog.info? 49).map (·.size) = some c.cells.size from infoCapZ))
  clear hl hn h hh
  go_enter Tryz.func53, Tryz.ntmps53
  go_wp2_with fail
  refine (CT.out).mono ?_
  rintro e w2 ⟨v, rfl, ho, hf2⟩
  obtain ⟨va, vc, rfl, hvc⟩ := own_slice ho
  have O2 := Lib.hid (own_base ho (Nat.zero_le _))
  have F2 := Lib.hid hf2
  clear ho hf2 CT
  go_wp2_with fail
  go_loopw [8, 20] (fun sn i wr => ∃ k : Nat, k ≤ n ∧ i = .int .i64 k ∧ sn = .int .i64 (pgN bs hs (l.take k) : Nat) ∧ Ar wr ap p g bg cap bs (pgT bs hs f (l.take k)) ∧ wr.ownsRow 0 43 1 (.slice va n vc) n (u32s l) ∧ Fr [g] w wr) (fun _ i _ => n - (intOf i).toNat)
  case atStart => exact ⟨0, by omega, rfl, by simp [pgN], by rw [List.take_zero, pgT_nil]; exact H.out.fr0 F2.out, O2.out, F2.out.more (by simp)⟩
  case round =>
    clear O2 F2
    obtain ⟨k, hk, rfl, rfl, ha, ho, hf⟩ := hrel
    have HA := Lib.hid ha
    have HO := Lib.hid ho
    have HF := Lib.hid hf
    have hsz := hf.size
    by_cases h1 : k < n
    · obtain ⟨a, hka⟩ : ∃ a, l[k]? = some a := ⟨_, List.getElem?_eq_getElem (by rw [HN.out]; exact h1)⟩
      have hma := List.mem_of_getElem? hka
      have hfit := HG.out.fit a hma
      have hmod := HG.out.mod a hma
      have hbl := ha.2.1
      have ha32 : a < 4294967296 := by omega
      obtain ⟨gl, cl, he, -, -, hgll, hcl, -⟩ := own_open ho (by omega)
      injection he with e1 e2 e3
      subst e1 e3
      have cc := hcl k h1
      rw [u32s_get l k a hka] at cc
      have hst := HG.out.still bs hs k a hka
      have CL := Lib.hid (show Calls Tryz.prog 40 #[.pointer (some ⟨ap, 0, none⟩), .int .u32 a] wr fun r w' => r = .returned (.tuple #[.agg (ofB (sub bs a 16) true).cells, .bool true]) ∧ Fr [] wr w' from by
        have := aloadc_b wr ap p g bg cap bs _ ha a ha32
        unfold ldC at this
        rw [show whB bs.length a = true by unfold whB; simp; omega, if_pos rfl, hst] at this
        exact this)
      have hcur := ofB_ok (sub bs a 16) true (fun x hx => ha.2.2.2.2.1 x (List.mem_of_mem_drop (List.mem_of_mem_take hx))) (by unfold sub; rw [List.length_take, List.length_drop]; omega)
      have CU := Lib.hid fun W (hW : Fr [] wr W) => (show Calls Tryz.prog 97 #[.pointer (some ⟨ap, 0, none⟩), .int .u32 a] W fun r w' => r = .returned (.bool true) ∧ Ar w' ap p g bg cap bs (upd (pgT bs hs f (l.take k)) (a / 16) false) ∧ Fr [g] W w' from by
        have := auntag_any W ap p g bg cap bs _ (ha.fr0 hW) a ha32
        unfold unB at this
        rw [show whB bs.length a = true by unfold whB; simp; omega, hst, Bool.true_and, if_pos rfl] at this
        exact this)
      have HTK := Lib.hid (HG.out.taken bs hs k a hka)
      have HKP := Lib.hid (pgT_kept (f := f) bs hs k a hka)
      have HSN := Lib.hid (pgN_snoc bs hs k a hka)
      have hpn : pgN bs hs (l.take k) ≤ 16 := by unfold pgN; exact Nat.le_trans (List.length_filter_le _ _) (by rw [List.length_take]; omega)
      obtain ⟨N, hN⟩ : ∃ N, pgN bs hs (l.take k) = N := ⟨_, rfl⟩
      rw [hN] at hpn HSN ⊢
      have CS := Lib.hid fun W (hW : Fr [] wr W) => (show Calls Tryz.prog 96 #[.agg #[.pointer pv], .agg (ofB (sub bs a 16) true).cells] W fun r w' => r = .returned (.bool (sU bs hs a)) ∧ Fr [] W w' from (HH.out W (hf.trans0 hW)).elim fun B hb => stale_any hb.2 hb.1 _ hcur)
      obtain ⟨T, hT⟩ : ∃ T, sU bs hs a = T := ⟨_, rfl⟩
      obtain ⟨c, hc⟩ : ∃ c, ofB (sub bs a 16) true = c := ⟨_, rfl⟩
      rw [hT] at CS HTK HKP HSN
      rw [hc] at CS CL
      have hki : (k : Int) < n := by omega
      have hgA := Ar.wordsAt ha
      obtain ⟨gcs, hgA⟩ := hgA
      have HNE := Lib.hid (own_ne ho hgA (by decide))
      clear hka hma hfit hmod hbl hcl hst hcur hN hT hc ha ho hf hgA
      cases T with
      | true =>
        go_wp2_with fail
        refine (CL.out).mono ?_
        rintro e w4 ⟨rfl, hf4⟩
        have F4 := Lib.hid (hf4.alloc (.cells noC.cells 49))
        have hs4 := hf4.size
        clear hf4
        go_upto_region 7 with (refine wpList_store_all rfl 49 (.tmp 11) (.tmp 28) rfl _ c.cells rfl rfl 49 noC.cells (At.nw rfl) (HIC.out c) rfl (cellz_all c) ?_; intro w5 hA5 hF5)
        have A5 := Lib.hid hA5
        have F5 := Lib.hid (F4.out.trans hF5 (by simp <;> omega))
        clear hA5 hF5 F4
        go_wp2_with (refine wpList_load_all rfl 49 (.tmp 11) rfl _ rfl 49 c.cells _ A5.out Tryz.underlying49 rfl (HIC.out c) ?_)
        refine (CS.out _ F5.out).mono ?_
        rintro e w6 ⟨rfl, hf6⟩
        go_wp2_with fail
        refine (CU.out _ (F5.out.trans0 hf6)).mono ?_
        rintro e w7 ⟨rfl, h7, hf7⟩
        rw [HTK.out (by simp)] at h7
        have H7 := Lib.hid h7
        have F7 := Lib.hid ((HF.out.trans0 (F5.out.trans0 hf6)).trans hf7 (fun x hx => .inl hx))
        have O7 := Lib.hid (own_fr (own_fr0 HO.out (F5.out.trans0 hf6)) hf7 (fun x hx => by simpa using HNE.out x hx))
        clear h7 hf7 hf6 HTK HKP
        have HSN' := Lib.hid (show pgN bs hs (l.take (k + 1)) = N + 1 from HSN.out)
        clear HSN
        go_wp2_with fail
        go_roundw
        case rel => exact ⟨k + 1, by omega, by go_num, by rw [HSN'.out]; go_num, H7.out, O7.out, F7.out⟩
        case measure => simp [intOf]; omega
      | false =>
        go_wp2_with fail
        refine (CL.out).mono ?_
        rintro e w4 ⟨rfl, hf4⟩
        have F4 := Lib.hid (hf4.alloc (.cells noC.cells 49))
        have hs4 := hf4.size
        clear hf4
        go_upto_region 7 with (refine wpList_store_all rfl 49 (.tmp 11) (.tmp 28) rfl _ c.cells rfl rfl 49 noC.cells (At.nw rfl) (HIC.out c) rfl (cellz_all c) ?_; intro w5 hA5 hF5)
        have A5 := Lib.hid hA5
        have F5 := Lib.hid (F4.out.trans hF5 (by simp <;> omega))
        clear hA5 hF5 F4
        go_wp2_with (refine wpList_load_all rfl 49 (.tmp 11) rfl _ rfl 49 c.cells _ A5.out Tryz.underlying49 rfl (HIC.out c) ?_)
        refine (CS.out _ F5.out).mono ?_
        rintro e w6 ⟨rfl, hf6⟩
        have H7 := Lib.hid (HA.out.fr0 (F5.out.trans0 hf6))
        rw [HKP.out (by simp)] at H7
        have F7 := Lib.hid (HF.out.trans0 (F5.out.trans0 hf6))
        have O7 := Lib.hid (own_fr0 HO.out (F5.out.trans0 hf6))
        clear hf6 HTK HKP
        have HSN' := Lib.hid (show pgN bs hs (l.take (k + 1)) = N from HSN.out)
        clear HSN
        go_wp2_with fail
        go_roundw
        case rel => exact ⟨k + 1, by omega, by go_num, by rw [HSN'.out], H7.out, O7.out, F7.out⟩
        case measure => simp [intOf]; omega
    · obtain rfl : k = n := by omega
      go_wp2_with fail
      go_ret
      have hA := HA.out
      rw [← HN.out, List.take_length] at hA ⊢
      exact ⟨rfl, hA, HF.out⟩
theorem spage_any {B : Nat} {w : World} {pv : Option Addr} {hs : Int → Bool} (ap p g bg cap : Nat) (bs : List Nat) (f : Nat → Bool) (h : Ar w ap p g bg cap bs f) (hh : Hs B w pv hs) (hB : B ≤ w.heap.size) (hBg : B ≤ g) (page : Int) :
    Calls Tryz.prog 53 #[.pointer (some ⟨ap, 0, none⟩), .int .i64 page, .pointer pv] w fun r w' => r = .returned (.int .i64 (pgN bs hs (tgP bs.length f page) : Nat)) ∧ Ar w' ap p g bg cap bs (pgT bs hs f (tgP bs.length f page)) ∧ Fr [g] w w' :=
  spage_gen ap p g bg cap bs f h (fun W hW => ⟨B, Nat.le_trans hB hW.size, hh.fr hW (by simp; omega)⟩) page
end Go.Proofs.YthjbnbimfpbccaaGreatDoor
/-
  A sweeper with its arena, its yard and its book of pages. Condition: the table of math/bits is as the library lays it; an arena of sixteen pages.
-/









set_option linter.unusedVariables false
namespace Go.Proofs.YthjbnbimfpbccaaGreatDoor
open Go.ChangeShapes Go.WideShapes Go.ChangeAt Go.RowKit
/-- Where the parts lie. -/
structure Ids where
  sp : Nat
  gp : Nat
  p : Nat
  g : Nat
  ap : Nat
  q : Nat
  ag : Nat
  bg : Nat
  cap : Nat
  y : Nat
/-- What they hold. -/
structure Sm where
  st : Nat
  vis : Nat
  F : Nat → Bool
  m : MS
  bs : List Nat
  f : Nat → Bool
  hs : Int → Bool
def Ids.mut (i : Ids) : List Nat := [i.sp, i.gp, i.g, i.ag, i.bg]
def Pn (w : World) (i : Ids) (s : YS) (pv : Option Addr) (hs : Int → Bool) : Prop :=
  (pv = none ∧ hs = nohs) ∨ ∃ pp pq pg n Fp, pv = some ⟨pp, 0, none⟩ ∧ Pt w pp pq pg n Fp ∧ hs = hasP n Fp ∧ pg ≠ i.g ∧ pg ≠ i.ag ∧ pg ∉ s.foot
def Sm.cells (i : Ids) (x : Sm) (pv : Option Addr) : Array Value := #[.pointer (some ⟨i.gp, 0, none⟩), .pointer (some ⟨i.ap, 0, none⟩), .pointer (some ⟨i.y, 0, none⟩), .pointer pv, .int .i64 (x.st : Nat), .int .u64 (x.vis : Nat)]
structure Sv (w0 w : World) (i : Ids) (s : YS) (x : Sm) (pv : Option Addr) : Prop where
  S : At w i.sp 109 (x.cells i pv)
  P : Pn w i s pv x.hs
  G : Gn w i.gp i.p i.g 16 x.F x.m.ep
  A : Ar w i.ap i.q i.ag i.bg i.cap x.bs x.f
  Y : Yw w0 w i.y x.m s
  T : Tab w0
  d : i.p ≠ i.q ∧ i.g ≠ i.ag
  o : (i.g ≠ s.c ∧ i.g ≠ s.c') ∧ (i.ag ≠ s.c ∧ i.ag ≠ s.c')
  hi : ∀ k ∈ i.mut, w0.heap.size ≤ k
  n : x.m.n = 256
structure Sw (w0 w : World) (i : Ids) (s : YS) (x : Sm) (pv : Option Addr) : Prop extends Sv w0 w i s x pv where
  un : x.m.un = decide (x.st ≠ 0)
  z : x.st = 0 → cnt x.F 16 = 0
section
variable {w0 w w' : World} {i : Ids} {s : YS} {x : Sm} {pv : Option Addr}
theorem Pn.fr0 {hs : Int → Bool} (h : Pn w i s pv hs) (f : Fr [] w w') : Pn w' i s pv hs := by
  rcases h with h | ⟨pp, pq, pg, n, Fp, h1, h2, h3⟩
  · exact .inl h
  · exact .inr ⟨pp, pq, pg, n, Fp, h1, h2.fr f (by simp) (by simp) (by simp), h3⟩
theorem Sv.fr0 (h : Sv w0 w i s x pv) (f : Fr [] w w') : Sv w0 w' i s x pv :=
  ⟨h.S.fr f (by simp), h.P.fr0 f, h.G.fr f (by simp) (by simp) (by simp), h.A.fr0 f, h.Y.fr f, h.T, h.d, h.o, h.hi, h.n⟩
theorem Sw.fr0 (h : Sw w0 w i s x pv) (f : Fr [] w w') : Sw w0 w' i s x pv := ⟨h.toSv.fr0 f, h.un, h.z⟩
theorem Gn.words {gp p g n : Nat} {f : Nat → Bool} {ep : Int} (h : Gn w gp p g n f ep) : (∃ cs, At w p 179 cs) ∧ ∃ cs, At w g 28 cs := by
  obtain ⟨_, ⟨b1, b2, b3, c, cs', b4, b5, b6, b7⟩, _⟩ := h
  exact ⟨⟨_, b5⟩, _, b6⟩
theorem Sv.off (h : Sv w0 w i s x pv) : ∀ k ∈ i.mut, Offy w s k := by
  intro k hk
  unfold Ids.mut at hk
  simp only [List.mem_cons, List.not_mem_nil, or_false] at hk
  rcases hk with rfl | rfl | rfl | rfl | rfl
  · exact ⟨_, _, h.S, by decide, by decide, by decide, by decide, fun e => absurd e (by decide)⟩
  · exact ⟨_, _, h.G.1, by decide, by decide, by decide, by decide, fun e => absurd e (by decide)⟩
  · obtain ⟨_, _, hw⟩ := Gn.words h.G
    exact ⟨_, _, hw, by decide, by decide, by decide, by decide, fun _ => h.o.1⟩
  · obtain ⟨_, hw⟩ := Ar.wordsAt h.A
    exact ⟨_, _, hw, by decide, by decide, by decide, by decide, fun _ => h.o.2⟩
  · obtain ⟨a1, a2, a3, a4, a5, a6, a7, cs, a8, a9, a10⟩ := h.A
    exact ⟨_, _, a8, by decide, by decide, by decide, by decide, fun e => absurd e (by decide)⟩
theorem Sv.yard {S : List Nat} (h : Sv w0 w i s x pv) (hS : ∀ k ∈ S, k ∈ i.mut) (f : Fr S w w') : Yw w0 w' i.y x.m s :=
  h.Y.offY (fun k hk => ⟨h.off k (hS k hk), h.hi k (hS k hk)⟩) f
theorem Sv.paint {S : List Nat} (h : Sv w0 w i s x pv) (hS : ∀ k ∈ S, k ∈ i.mut) (f : Fr S w w') : Pn w' i s pv x.hs := by
  rcases h.P with h1 | ⟨pp, pq, pg, n, Fp, h1, h2, h3, h4, h5, h6⟩
  · exact .inl h1
  · obtain ⟨⟨_, k1⟩, ⟨_, k2⟩, ⟨_, k3⟩⟩ := Pt.blocks h2
    obtain ⟨_, _, hg⟩ := Gn.words h.G
    obtain ⟨_, hag⟩ := Ar.wordsAt h.A
    obtain ⟨a1, a2, a3, a4, a5, a6, a7, cs, a8, a9, a10⟩ := h.A
    have no : ∀ k t cs, At w k t cs → (t = 204 ∨ t = 179 ∨ (t = 28 ∧ k ≠ i.g ∧ k ≠ i.ag)) → k ∉ S := by
      intro k t cs hk ht hin
      have hm := hS k hin
      unfold Ids.mut at hm
      simp only [List.mem_cons, List.not_mem_nil, or_false] at hm
      rcases hm with rfl | rfl | rfl | rfl | rfl
      · have := (h.S.inj hk).1; subst this; revert ht; simp
      · have := (h.G.1.inj hk).1; subst this; revert ht; simp
      · have := (hg.inj hk).1; subst this; revert ht; simp
      · have := (hag.inj hk).1; subst this; revert ht; simp
      · have := (a8.inj hk).1; subst this; revert ht; simp
    exact .inr ⟨pp, pq, pg, n, Fp, h1, h2.fr f (no _ _ _ k1 (.inl rfl)) (no _ _ _ k2 (.inr (.inl rfl))) (no _ _ _ k3 (.inr (.inr ⟨rfl, h4, h5⟩))), h3, h4, h5, h6⟩
theorem Sv.notin (h : Sv w0 w i s x pv) {S : List Nat} (hS : ∀ k ∈ S, k ∈ i.mut) {k : Nat} {t : TypeId} {cs : Array Value} (hk : At w k t cs) (h1 : t ≠ 109) (h2 : t ≠ 164) (h3 : t ≠ 28) (h4 : t ≠ 5) : k ∉ S := by
  intro hin
  obtain ⟨_, _, hg⟩ := Gn.words h.G
  obtain ⟨_, hag⟩ := Ar.wordsAt h.A
  obtain ⟨a1, a2, a3, a4, a5, a6, a7, cs, a8, a9, a10⟩ := h.A
  have hm := hS k hin
  unfold Ids.mut at hm
  simp only [List.mem_cons, List.not_mem_nil, or_false] at hm
  rcases hm with rfl | rfl | rfl | rfl | rfl
  · exact h1 (h.S.inj hk).1.symm
  · exact h2 (h.G.1.inj hk).1.symm
  · exact h3 (hg.inj hk).1.symm
  · exact h3 (hag.inj hk).1.symm
  · exact h4 (a8.inj hk).1.symm
theorem Sv.gens {S : List Nat} (h : Sv w0 w i s x pv) (hS : ∀ k ∈ S, k ∈ i.mut) (f : Fr S w w') (h1 : i.gp ∉ S) (h2 : i.g ∉ S) : Gn w' i.gp i.p i.g 16 x.F x.m.ep := by
  obtain ⟨⟨_, hp⟩, _⟩ := Gn.words h.G
  exact h.G.fr f h1 (h.notin hS hp (by decide) (by decide) (by decide) (by decide)) h2
theorem Sv.arena {S : List Nat} (h : Sv w0 w i s x pv) (hS : ∀ k ∈ S, k ∈ i.mut) (f : Fr S w w') (h1 : i.ag ∉ S) (h2 : i.bg ∉ S) : Ar w' i.ap i.q i.ag i.bg i.cap x.bs x.f := by
  obtain ⟨a1, a2, a3, a4, a5, a6, ⟨b1, b2, b3, c, cs', b4, b5, b6, b7⟩, cs, a8, a9, a10⟩ := id h.A
  exact h.A.fr f (h.notin hS a6 (by decide) (by decide) (by decide) (by decide)) (h.notin hS b5 (by decide) (by decide) (by decide) (by decide)) h1 h2
theorem Sv.ne (h : Sv w0 w i s x pv) : (i.sp ≠ i.gp ∧ i.sp ≠ i.g ∧ i.sp ≠ i.ag ∧ i.sp ≠ i.bg) ∧ (i.gp ≠ i.g ∧ i.gp ≠ i.ag ∧ i.gp ≠ i.bg) ∧ (i.g ≠ i.ag ∧ i.g ≠ i.bg) ∧ i.ag ≠ i.bg := by
  obtain ⟨_, _, hg⟩ := Gn.words h.G
  obtain ⟨_, hag⟩ := Ar.wordsAt h.A
  obtain ⟨a1, a2, a3, a4, a5, a6, a7, cs, a8, a9, a10⟩ := id h.A
  have hgp := h.G.1
  have hsp := h.S
  exact ⟨⟨hsp.diff hgp (by decide), hsp.diff hg (by decide), hsp.diff hag (by decide), hsp.diff a8 (by decide)⟩, ⟨hgp.diff hg (by decide), hgp.diff hag (by decide), hgp.diff a8 (by decide)⟩, ⟨h.d.2, hg.diff a8 (by decide)⟩, hag.diff a8 (by decide)⟩
/-- A change in the sweeper's own cells. -/
theorem Sv.self {pv' : Option Addr} (h : Sv w0 w i s x pv) (st vis : Nat) (hs' : Int → Bool) (f : Fr [i.sp] w w') (hS : At w' i.sp 109 (({ x with st := st, vis := vis, hs := hs' } : Sm).cells i pv')) (hP : Pn w' i s pv' hs') : Sv w0 w' i s { x with st := st, vis := vis, hs := hs' } pv' := by
  have hm : ∀ k ∈ [i.sp], k ∈ i.mut := by unfold Ids.mut; simp
  obtain ⟨⟨n1, n2, n3, n4⟩, _⟩ := h.ne
  exact ⟨hS, hP, h.gens hm f (by simpa using n1.symm) (by simpa using n2.symm), h.arena hm f (by simpa using n3.symm) (by simpa using n4.symm), h.yard hm f, h.T, h.d, h.o, h.hi, h.n⟩
theorem Sw.self {pv' : Option Addr} (h : Sw w0 w i s x pv) (st vis : Nat) (hs' : Int → Bool) (f : Fr [i.sp] w w') (hS : At w' i.sp 109 (({ x with st := st, vis := vis, hs := hs' } : Sm).cells i pv')) (hP : Pn w' i s pv' hs')
    (un : x.m.un = decide (st ≠ 0)) (z : st = 0 → cnt x.F 16 = 0) : Sw w0 w' i s { x with st := st, vis := vis, hs := hs' } pv' := ⟨h.toSv.self st vis hs' f hS hP, un, z⟩
end
end Go.Proofs.YthjbnbimfpbccaaGreatDoor
/-
  A sweeper behind a turn of its yard. Condition: as for a sweeper.
-/









set_option linter.unusedVariables false
namespace Go.Proofs.YthjbnbimfpbccaaGreatDoor
open Go.ChangeShapes Go.WideShapes Go.ChangeAt Go.RowKit
section
variable {w0 w w' : World} {i : Ids} {s s' : YS} {x : Sm} {pv : Option Addr} {m' : MS}
theorem Yw.nfootT {y : Nat} {m : MS} (h : Yw w0 w y m s) {k : Nat} {t : TypeId} {cs : Array Value} (hk : At w k t cs) (h1 : t ≠ 119) (h2 : t ≠ 28) (h3 : t ≠ 45) : k ∉ s.foot := fun hin => by
  unfold YS.foot at hin
  rcases List.mem_cons.1 hin with e | hin
  · subst e; exact h1 (h.yd.at_.inj hk).1.symm
  · rcases List.mem_cons.1 hin with e | hin
    · obtain ⟨_, _, ⟨_, hc⟩⟩ := Pt.blocks h.yd.wt.pt
      subst e; exact h2 (hc.inj hk).1.symm
    · cases hv : s.wv.ownBlock with
      | none => rw [hv] at hin; simp at hin
      | some g => rw [hv] at hin; simp at hin; exact own_ne h.yd.wt.own hk h3 g hv hin.symm
theorem Sv.turn (h : Sv w0 w i s x pv) (ht : TurnC w0 w i.y s m' w' s') (hn : m'.n = x.m.n) (he : m'.ep = x.m.ep) (st : Nat) (un : m'.un = decide (st ≠ 0)) (z : st = 0 → cnt x.F 16 = 0) (hS : At w' i.sp 109 (({ x with st := st, m := m' } : Sm).cells i pv)) :
    Sw w0 w' i s' { x with st := st, m := m' } pv := by
  have o : ∀ k ∈ i.mut, k ∉ s.foot := fun k hk => h.Y.nfootY (h.off k hk)
  have lt := foot_ltY h.Y
  obtain ⟨⟨_, hp⟩, _, hg⟩ := Gn.words h.G
  obtain ⟨a1, a2, a3, a4, a5, a6, ⟨b1, b2, b3, c, cs', b4, b5, b6, b7⟩, cs, a8, a9, a10⟩ := id h.A
  have G' : Gn w' i.gp i.p i.g 16 x.F x.m.ep := h.G.fr ht.f (o _ (by unfold Ids.mut; simp)) (h.Y.nfootT hp (by decide) (by decide) (by decide)) (o _ (by unfold Ids.mut; simp))
  have A' : Ar w' i.ap i.q i.ag i.bg i.cap x.bs x.f := h.A.fr ht.f (h.Y.nfootT a6 (by decide) (by decide) (by decide)) (h.Y.nfootT b5 (by decide) (by decide) (by decide)) (o _ (by unfold Ids.mut; simp)) (o _ (by unfold Ids.mut; simp))
  have og : Offy w' s' i.g := (h.off i.g (by unfold Ids.mut; simp)).turn h.Y ht
  have oag : Offy w' s' i.ag := (h.off i.ag (by unfold Ids.mut; simp)).turn h.Y ht
  refine ⟨⟨hS, ?_, he ▸ G', A', ht.yw, h.T, h.d, ⟨?_, ?_⟩, h.hi, hn.trans h.n⟩, un, z⟩
  · rcases h.P with h1 | ⟨pp, pq, pg, n, Fp, k1, k2, k3, k4, k5, k6⟩
    · exact .inl h1
    · obtain ⟨⟨_, l1⟩, ⟨_, l2⟩, ⟨_, l3⟩⟩ := Pt.blocks k2
      refine .inr ⟨pp, pq, pg, n, Fp, k1, k2.fr ht.f (h.Y.nfootT l1 (by decide) (by decide) (by decide)) (h.Y.nfootT l2 (by decide) (by decide) (by decide)) k6, k3, k4, k5, fun hin => ?_⟩
      rcases ht.foot pg hin with e | e
      · exact k6 e
      · have := l3.lt; omega
  · obtain ⟨t, cs, hq, -, -, -, -, t5⟩ := og
    obtain ⟨_, _, hg'⟩ := Gn.words G'
    exact t5 (hq.inj hg').1
  · obtain ⟨t, cs, hq, -, -, -, -, t5⟩ := oag
    obtain ⟨_, hag'⟩ := Ar.wordsAt A'
    exact t5 (hq.inj hag').1
end
end Go.Proofs.YthjbnbimfpbccaaGreatDoor
/-
  A sweep's beginning: the closure. Condition: as for a sweeper; less than a million sweeps.
-/





set_option linter.unusedVariables false
namespace Go.Proofs.YthjbnbimfpbccaaGreatDoor
open Go.ChangeShapes Go.WideShapes Go.ChangeAt Go.RowKit
section
variable (w0 w : World) (i : Ids) (s : YS) (x : Sm) (pv : Option Addr) (h : Sv w0 w i s x pv)
include h
theorem swbegin1_yes (qs qn : Nat) (n0 : Int) (hq1 : w.cell? ⟨qs, 0, none⟩ = some (.pointer (some ⟨i.sp, 0, none⟩))) (hq2 : At w qn 28 #[.int .u64 n0]) (nf : qn ∉ s.foot) (hu : x.m.un = false) (he : x.m.ep < 1000000) :
    Calls Tryz.prog 45 #[.pointer (some ⟨qs, 0, none⟩), .pointer (some ⟨qn, 0, none⟩)] w fun r w' => r = .returned (.bool true) ∧ ∃ s' w2, TurnC w0 w i.y s (mBegin x.m) w2 s' ∧ At w' qn 28 #[.int .u64 ((x.m.ep + 1 : Nat) : Int)] ∧ Fr [qn] w2 w' := by
  have c2 := h.S.cell 2
  unfold Sm.cells at c2
  simp only [List.getElem?_toArray, List.getElem?_cons_zero, List.getElem?_cons_succ] at c2
  have CB := Lib.hid (begin_c h.Y he)
  rw [hu, if_neg (by simp), Bool.not_false] at CB
  have HQ := Lib.hid hq2
  have NF := Lib.hid nf
  obtain ⟨N, hN⟩ : ∃ N, x.m.ep + 1 = N := ⟨_, rfl⟩
  rw [hN] at CB ⊢
  clear h hq2 nf hu he hN
  go_enter Tryz.func45, Tryz.ntmps45
  go_wp2_with fail
  refine CB.out.mono ?_
  rintro e w2 ⟨rfl, s', ht⟩
  have HT := Lib.hid ht
  have Q2 := Lib.hid (HQ.out.fr ht.f NF.out)
  have q0 := Q2.out.cell 0
  have z0 := Q2.out.froz 0
  simp only [List.getElem?_toArray, List.getElem?_cons_zero] at q0
  clear ht CB
  go_wp2_with fail
  go_ret
  exact ⟨rfl, s', w2, HT.out, Q2.out.set 0 _, (Fr.refl _ _).set (.inl (by simp)) _⟩
end
/-- What a turn of the yard leaves of a sweeper's other parts. -/
theorem Sv.apart {w0 w w2 : World} {i : Ids} {s s' : YS} {x : Sm} {pv : Option Addr} {m' : MS} (h : Sv w0 w i s x pv) (ht : TurnC w0 w i.y s m' w2 s') :
    At w2 i.sp 109 (x.cells i pv) ∧ Gn w2 i.gp i.p i.g 16 x.F x.m.ep ∧ Ar w2 i.ap i.q i.ag i.bg i.cap x.bs x.f ∧ ∀ k ∈ i.mut, Offy w2 s' k := by
  have o : ∀ k ∈ i.mut, k ∉ s.foot := fun k hk => h.Y.nfootY (h.off k hk)
  obtain ⟨⟨_, hp⟩, _, hg⟩ := Gn.words h.G
  obtain ⟨a1, a2, a3, a4, a5, a6, ⟨b1, b2, b3, c, cs', b4, b5, b6, b7⟩, cs, a8, a9, a10⟩ := id h.A
  exact ⟨h.S.fr ht.f (o _ (by unfold Ids.mut; simp)), h.G.fr ht.f (o _ (by unfold Ids.mut; simp)) (h.Y.nfootT hp (by decide) (by decide) (by decide)) (o _ (by unfold Ids.mut; simp)),
    h.A.fr ht.f (h.Y.nfootT a6 (by decide) (by decide) (by decide)) (h.Y.nfootT b5 (by decide) (by decide) (by decide)) (o _ (by unfold Ids.mut; simp)) (o _ (by unfold Ids.mut; simp)), fun k hk => (h.off k hk).turn h.Y ht⟩
/-- A sweeper whose yard and whose book began anew. -/
theorem Sv.anew {w0 w w2 w' : World} {i : Ids} {s s' : YS} {x : Sm} {pv pv' : Option Addr} {m' : MS} {q : Nat} {cq : Array Value} (h : Sv w0 w i s x pv) (ht : TurnC w0 w i.y s m' w2 s') (hq : At w q 28 cq) (q0 : w0.heap.size ≤ q) (qc : q ≠ s.c ∧ q ≠ s.c') (qa : q ≠ i.ag) (f : Fr [q, i.gp, i.g, i.sp] w2 w') (x' : Sm)
    (hS : At w' i.sp 109 (x'.cells i pv')) (hP : Pn w' i s' pv' x'.hs) (hG : Gn w' i.gp i.p i.g 16 x'.F x'.m.ep) (hm : x'.m = m') (hb : x'.bs = x.bs) (hf : x'.f = x.f) (hn : m'.n = x.m.n) (un : x'.m.un = decide (x'.st ≠ 0)) (z : x'.st = 0 → cnt x'.F 16 = 0) : Sw w0 w' i s' x' pv' := by
  obtain ⟨hs2, hg2, ha2, o2⟩ := h.apart ht
  have oq : Offy w2 s' q := Offy.turn h.Y ht ⟨_, _, hq, by decide, by decide, by decide, by decide, fun _ => qc⟩
  have ne := h.ne
  have Y' : Yw w0 w' i.y m' s' := ht.yw.offY (S := [q, i.gp, i.g, i.sp]) (fun k hk => by
    rcases List.mem_cons.1 hk with rfl | hk
    · exact ⟨oq, q0⟩
    · have hm : k ∈ i.mut := by
        unfold Ids.mut
        simp only [List.mem_cons, List.not_mem_nil, or_false] at hk ⊢
        rcases hk with rfl | rfl | rfl <;> simp
      exact ⟨o2 k hm, h.hi k hm⟩) f
  obtain ⟨a1, a2, a3, a4, a5, a6, ⟨b1, b2, b3, c, cs', b4, b5, b6, b7⟩, cs, a8, a9, a10⟩ := id h.A
  have hm3 : ∀ k ∈ [i.gp, i.g, i.sp], k ∈ i.mut := by unfold Ids.mut; simp
  have p1 := h.notin hm3 a6 (by decide) (by decide) (by decide) (by decide)
  have p2 := h.notin hm3 b5 (by decide) (by decide) (by decide) (by decide)
  have p3 : i.ap ≠ q := a6.diff hq (by decide)
  have p4 : i.q ≠ q := b5.diff hq (by decide)
  have p5 : i.bg ≠ q := a8.diff hq (by decide)
  have A' : Ar w' i.ap i.q i.ag i.bg i.cap x.bs x.f := ha2.fr f (fun hk => by rcases List.mem_cons.1 hk with e | hk; exact p3 e; exact p1 hk) (fun hk => by rcases List.mem_cons.1 hk with e | hk; exact p4 e; exact p2 hk) (by simp; omega) (by simp; omega)
  have og := (o2 i.g (by unfold Ids.mut; simp))
  have oag := (o2 i.ag (by unfold Ids.mut; simp))
  refine ⟨⟨hS, hP, hG, by rw [hb, hf]; exact A', by rw [hm]; exact Y', h.T, h.d, ⟨?_, ?_⟩, h.hi, by rw [hm, hn]; exact h.n⟩, un, z⟩
  · obtain ⟨t, cs, hq, -, -, -, -, t5⟩ := og
    obtain ⟨_, _, hg'⟩ := Gn.words hg2
    exact t5 (hq.inj hg').1
  · obtain ⟨t, cs, hq, -, -, -, -, t5⟩ := oag
    obtain ⟨_, hag'⟩ := Ar.wordsAt ha2
    exact t5 (hq.inj hag').1
section
variable (w0 w : World) (i : Ids) (s : YS) (x : Sm) (pv : Option Addr) (h : Sw w0 w i s x pv)
include h
theorem swbegin_no (h1 : x.st ≠ 0) : Calls Tryz.prog 8 #[.pointer (some ⟨i.sp, 0, none⟩)] w fun r w' => r = .returned (.tuple #[.int .u64 0, .bool false]) ∧ Fr [] w w' := by
  obtain ⟨b0, hb0⟩ : ∃ b, w.heap.size = b := ⟨_, rfl⟩
  obtain ⟨w1, hw1⟩ : ∃ W, ((w.alloc (.cells #[.pointer (some ⟨i.sp, 0, none⟩)] 25)).alloc (.cells #[.int .u64 0] 28)).alloc (.cells #[.func (.func 45) #[] #[.pointer (some ⟨w.heap.size, 0, none⟩), .pointer (some ⟨w.heap.size + 1, 0, none⟩)]] 32) = W := ⟨_, rfl⟩
  have A1 := Lib.hid (show At w1 b0 25 #[.pointer (some ⟨i.sp, 0, none⟩)] from by (rw [← hw1, ← hb0]; repeat (first | exact At.nw (by first | rfl | simp only [World.size_alloc]) | refine At.old ?_ _)))
  have A2 := Lib.hid (show At w1 (b0 + 1) 28 #[.int .u64 0] from by (rw [← hw1, ← hb0]; repeat (first | exact At.nw (by first | rfl | simp only [World.size_alloc]) | refine At.old ?_ _)))
  have A3 := Lib.hid (show At w1 (b0 + 1 + 1) 32 #[.func (.func 45) #[] #[.pointer (some ⟨b0, 0, none⟩), .pointer (some ⟨b0 + 1, 0, none⟩)]] from by (rw [← hw1, ← hb0]; repeat (first | exact At.nw (by first | rfl | simp only [World.size_alloc]) | refine At.old ?_ _)))
  have F1 := Lib.hid (show Fr [] w w1 from by rw [← hw1]; exact (by repeat (first | exact Fr.refl _ _ | assumption | refine Fr.trans0 ?_ (by assumption) | refine Fr.drewN ?_ _ | refine Fr.alloc ?_ _ | refine Fr.drew ?_)))
  have S1 := Lib.hid (h.fr0 F1.out)
  have hgl := Lib.hid (show (i.gp < b0 ∧ i.p < b0 ∧ i.g < b0 ∧ i.sp < b0 ∧ i.ag < b0) ∧ (s.c < b0 ∧ s.c' < b0) ∧ (∀ k ∈ s.foot, k < b0) ∧ w0.heap.size ≤ b0 from by
    rw [← hb0]
    obtain ⟨_, hag⟩ := Ar.wordsAt h.A
    exact ⟨⟨h.G.lt.1, h.G.lt.2.1, h.G.lt.2.2, h.S.lt, hag.lt⟩, ⟨h.Y.yd.wt.lt.2.2, h.Y.yd.bt.lt.2.2⟩, foot_ltY h.Y, h.Y.f.size⟩)
  have HW1 := Lib.hid hw1
  have HB0 := Lib.hid hb0
  clear h hw1 hb0
  have c0 := S1.out.S.cell 0
  have c4 := S1.out.S.cell 4
  unfold Sm.cells at c0 c4
  simp only [List.getElem?_toArray, List.getElem?_cons_zero, List.getElem?_cons_succ] at c0 c4
  have CI := Lib.hid (swin_no w1 i.sp i.gp 0 x.st c0 c4 (.slice (some ⟨b0 + 1 + 1, 0, none⟩) 1 1) (by omega))
  clear h1 c0 c4
  go_enter Tryz.func8, Tryz.ntmps8
  go_wp2_with fail
  rw [HW1.out, HB0.out]
  refine CI.out.mono ?_
  rintro e w' ⟨rfl, rfl⟩
  go_wp2_with fail
  go_ret2
  exact ⟨rfl, F1.out⟩
set_option maxHeartbeats 1000000 in
set_option maxRecDepth 100000 in
theorem swbegin_yes (h1 : x.st = 0) (he : x.m.ep < 1000000) : Calls Tryz.prog 8 #[.pointer (some ⟨i.sp, 0, none⟩)] w fun r w' => r = .returned (.tuple #[.int .u64 (x.m.ep + 1 : Nat), .bool true]) ∧ ∃ s' pv', Sw w0 w' i s' { x with st := 1, m := mBegin x.m, F := fstF 16, hs := hasP 256 (cov x.m.lw) } pv' ∧ Fr (i.sp :: i.gp :: i.g :: s.foot) w w' ∧ ∀ k ∈ s'.foot, k ∈ s.foot ∨ w.heap.size ≤ k := by
  obtain ⟨b0, hb0⟩ : ∃ b, w.heap.size = b := ⟨_, rfl⟩
  obtain ⟨w1, hw1⟩ : ∃ W, ((w.alloc (.cells #[.pointer (some ⟨i.sp, 0, none⟩)] 25)).alloc (.cells #[.int .u64 0] 28)).alloc (.cells #[.func (.func 45) #[] #[.pointer (some ⟨w.heap.size, 0, none⟩), .pointer (some ⟨w.heap.size + 1, 0, none⟩)]] 32) = W := ⟨_, rfl⟩
  have A1 := Lib.hid (show At w1 b0 25 #[.pointer (some ⟨i.sp, 0, none⟩)] from by (rw [← hw1, ← hb0]; repeat (first | exact At.nw (by first | rfl | simp only [World.size_alloc]) | refine At.old ?_ _)))
  have A2 := Lib.hid (show At w1 (b0 + 1) 28 #[.int .u64 0] from by (rw [← hw1, ← hb0]; repeat (first | exact At.nw (by first | rfl | simp only [World.size_alloc]) | refine At.old ?_ _)))
  have A3 := Lib.hid (show At w1 (b0 + 1 + 1) 32 #[.func (.func 45) #[] #[.pointer (some ⟨b0, 0, none⟩), .pointer (some ⟨b0 + 1, 0, none⟩)]] from by (rw [← hw1, ← hb0]; repeat (first | exact At.nw (by first | rfl | simp only [World.size_alloc]) | refine At.old ?_ _)))
  have F1 := Lib.hid (show Fr [] w w1 from by rw [← hw1]; exact (by repeat (first | exact Fr.refl _ _ | assumption | refine Fr.trans0 ?_ (by assumption) | refine Fr.drewN ?_ _ | refine Fr.alloc ?_ _ | refine Fr.drew ?_)))
  have S1 := Lib.hid (h.fr0 F1.out)
  have hgl := Lib.hid (show (i.gp < b0 ∧ i.p < b0 ∧ i.g < b0 ∧ i.sp < b0 ∧ i.ag < b0) ∧ (s.c < b0 ∧ s.c' < b0) ∧ (∀ k ∈ s.foot, k < b0) ∧ w0.heap.size ≤ b0 from by
    rw [← hb0]
    obtain ⟨_, hag⟩ := Ar.wordsAt h.A
    exact ⟨⟨h.G.lt.1, h.G.lt.2.1, h.G.lt.2.2, h.S.lt, hag.lt⟩, ⟨h.Y.yd.wt.lt.2.2, h.Y.yd.bt.lt.2.2⟩, foot_ltY h.Y, h.Y.f.size⟩)
  have HW1 := Lib.hid hw1
  have HB0 := Lib.hid hb0
  clear h hw1 hb0
  have c0 := S1.out.S.cell 0
  have c4 := S1.out.S.cell 4
  unfold Sm.cells at c0 c4
  simp only [List.getElem?_toArray, List.getElem?_cons_zero, List.getElem?_cons_succ] at c0 c4
  have hun : x.m.un = false := by rw [S1.out.un, h1]; rfl
  have HUN := Lib.hid hun
  have HC := Lib.hid (S1.out.z h1)
  have CV := Lib.hid (swbegin1_yes w0 w1 i s x pv S1.out.toSv b0 (b0 + 1) 0 (A1.out.cell 0) A2.out (fun hk => by have := hgl.out.2.2.1 _ hk; omega) hun he)
  have CI := Lib.hid (swin_1 w1 i.sp i.gp 0 x.st c0 c4 (b0 + 1 + 1) 1 45 #[.pointer (some ⟨b0, 0, none⟩), .pointer (some ⟨b0 + 1, 0, none⟩)] (fun w' => ∃ s' w2, TurnC w0 w1 i.y s (mBegin x.m) w2 s' ∧ At w' (b0 + 1) 28 #[.int .u64 ((x.m.ep + 1 : Nat) : Int)] ∧ Fr [b0 + 1] w2 w') true (by omega) (A3.out.cell 0) (fun args w => by kernel_rfl) CV.out)
  have HM := Lib.hid (show (mBegin x.m).n = x.m.n ∧ (mBegin x.m).ep = x.m.ep + 1 ∧ (mBegin x.m).un = true ∧ (mBegin x.m).lb = x.m.lw from by unfold mBegin; rw [hun]; simp)
  have H1 := Lib.hid h1
  clear h1 c0 c4 CV hun
  obtain ⟨N, hN⟩ : ∃ N, x.m.ep + 1 = N := ⟨_, rfl⟩
  have HNN := Lib.hid hN
  rw [hN] at CI ⊢
  clear hN he
  go_enter Tryz.func8, Tryz.ntmps8
  go_wp2_with fail
  rw [HW1.out, HB0.out]
  refine CI.out.mono ?_
  rintro e w3 ⟨rfl, s', w2, ht, hq3, hf3⟩
  have HT := Lib.hid ht
  have Q3 := Lib.hid hq3
  have F3 := Lib.hid hf3
  clear ht hq3 hf3 CI
  have AP := Lib.hid (S1.out.toSv.apart HT.out)
  have G3 := Lib.hid (AP.out.2.1.fr F3.out (by have := hgl.out; simp; omega) (by have := hgl.out; simp; omega) (by have := hgl.out; simp; omega))
  have SP3 := Lib.hid (AP.out.1.fr F3.out (by have := hgl.out; simp; omega))
  have Y3 := Lib.hid (HT.out.yw.offY (S := [b0 + 1]) (fun k hk => by
    simp only [List.mem_cons, List.not_mem_nil, or_false] at hk
    subst hk
    have := hgl.out
    exact ⟨Offy.turn S1.out.Y HT.out ⟨_, _, A2.out, by decide, by decide, by decide, by decide, fun _ => by omega⟩, by omega⟩) F3.out)
  have B3 := Lib.hid ((A1.out.fr HT.out.f (fun hk => by have := hgl.out.2.2.1 _ hk; omega)).fr F3.out (by simp))
  have CG := Lib.hid fun W (hW : Fr [] w3 W) => gstart_yes W _ _ _ _ _ _ (G3.out.fr hW (by simp) (by simp) (by simp)) N (by have := HNN.out; omega) HC.out
  go_upto_region 5 with (fail)
  have q0 := SP3.out.cell 0
  have q2 := SP3.out.cell 2
  unfold Sm.cells at q0 q2
  simp only [List.getElem?_toArray, List.getElem?_cons_zero, List.getElem?_cons_succ] at q0 q2
  have Q0 := Lib.hid fun W (hW : Fr [] w3 W) => (B3.out.fr hW (by simp)).cell 0
  have Q4 := Lib.hid fun W (hW : Fr [] w3 W) => (Q3.out.fr hW (by simp)).cell 0
  have QG := Lib.hid fun W (hW : Fr [] w3 W) => (hW.cell (a := ⟨i.sp, 0, none⟩) SP3.out.lt (by simp)).trans q0
  have HQ2 := Lib.hid q2
  clear q0 q2
  refine wp_region_L (fun W => Fr [] w3 W) [5] (by kernel_rfl) ((Fr.refl _ _).drew) (fun hHeld => ?_)
  refine wpAnyL_take (i := 0) (v := ?_) rfl (by kernel_rfl) (fun _ _ _ h => h) (Or.inl ⟨by rfl, ?_⟩) (by assumption) ?_; rotate_left; (focus (intro w hSw; (have cc := Q0.out _ hSw); go_simp; (try with_reducible rfl))); (try (refine wpAnyL_norm (by simp only [Act.put, List.setIfInBounds_toArray, List.set_cons_zero, List.set_cons_succ]; rfl) ?_))
  refine wpAnyL_take (i := 1) (v := ?_) rfl (by kernel_rfl) (fun _ _ _ h => h) (Or.inl ⟨by rfl, ?_⟩) (by assumption) ?_; rotate_left; (focus (intro w hSw; skip; go_simp; (try with_reducible rfl))); (try (refine wpAnyL_norm (by simp only [Act.put, List.setIfInBounds_toArray, List.set_cons_zero, List.set_cons_succ]; rfl) ?_))
  refine wpAnyL_take (i := 2) (v := ?_) rfl (by kernel_rfl) (fun _ _ _ h => h) (Or.inl ⟨by rfl, ?_⟩) (by assumption) ?_; rotate_left; (focus (intro w hSw; skip; go_simp; (try with_reducible rfl))); (try (refine wpAnyL_norm (by simp only [Act.put, List.setIfInBounds_toArray, List.set_cons_zero, List.set_cons_succ]; rfl) ?_))
  refine wpAnyL_take (i := 3) (v := ?_) rfl (by kernel_rfl) (fun _ _ _ h => h) (Or.inl ⟨by rfl, ?_⟩) (by assumption) ?_; rotate_left; (focus (intro w hSw; (have cc := QG.out _ hSw); go_simp; (try with_reducible rfl))); (try (refine wpAnyL_norm (by simp only [Act.put, List.setIfInBounds_toArray, List.set_cons_zero, List.set_cons_succ]; rfl) ?_))
  refine wpAnyL_take (i := 4) (v := ?_) rfl (by kernel_rfl) (fun _ _ _ h => h) (Or.inl ⟨by rfl, ?_⟩) (by assumption) ?_; rotate_left; (focus (intro w hSw; (have cc := Q4.out _ hSw); go_simp; (try with_reducible rfl))); (try (refine wpAnyL_norm (by simp only [Act.put, List.setIfInBounds_toArray, List.set_cons_zero, List.set_cons_succ]; rfl) ?_))
  have F34 := hHeld
  refine wpAnyL_ready (rs := [5]) (by kernel_rfl) (by simp) ?_; refine AllReadyL.cons rfl (fun K hK => ?_) AllReadyL.nil
  go_simp
  refine (CG.out _ F34).mono ?_
  rintro e w4 ⟨rfl, hg4, hf4⟩
  have G4 := Lib.hid hg4
  have F4 := Lib.hid ((F34.more (T := [i.gp, i.g]) (by simp)).trans hf4 (fun k hk => .inl hk))
  clear hg4 hf4 F34 CG
  refine hK.out _ _ (fun h => (h (by decide)).elim) (fun _ => ?_); clear hK K; (try (refine wpAnyL_norm (by simp only [Act.put, List.setIfInBounds_toArray, List.set_cons_zero, List.set_cons_succ]; rfl) ?_))
  refine wpAnyL_done (by kernel_rfl) ?_ _
  have NE := Lib.hid S1.out.ne
  have SP4 := Lib.hid (SP3.out.fr F4.out (by have := NE.out; simp; omega))
  have B4 := Lib.hid (B3.out.fr F4.out (by have := hgl.out; simp; omega))
  have N4 := Lib.hid (Q3.out.fr F4.out (by have := hgl.out; simp; omega))
  have F24 := Lib.hid ((F3.out.more (T := [b0 + 1, i.gp, i.g]) (by simp)).trans F4.out (by simp))
  have OQ := Lib.hid (show Offy w2 s' (b0 + 1) from Offy.turn S1.out.Y HT.out ⟨_, _, A2.out, by decide, by decide, by decide, by decide, fun _ => by have := hgl.out; omega⟩)
  have Y4 := Lib.hid (HT.out.yw.offY (S := [b0 + 1, i.gp, i.g]) (fun k hk => by
    rcases List.mem_cons.1 hk with rfl | hk
    · exact ⟨OQ.out, by have := hgl.out; omega⟩
    · have hm : k ∈ i.mut := by
        unfold Ids.mut
        simp only [List.mem_cons, List.not_mem_nil, or_false] at hk ⊢
        rcases hk with rfl | rfl <;> simp
      exact ⟨AP.out.2.2.2 k hm, S1.out.hi k hm⟩) F24.out)
  clear Q0 Q4 QG hHeld
  go_upto_region 6 with (fail)
  have q2 := SP4.out.cell 2
  unfold Sm.cells at q2
  simp only [List.getElem?_toArray, List.getElem?_cons_zero, List.getElem?_cons_succ] at q2
  have Q2 := Lib.hid q2
  clear q2
  have CP := Lib.hid fun W (hW : Fr [] w4 W) => paint_m (Y4.out.fr hW)
  refine wp_region_L (fun W => W.cell? ⟨b0, 0, none⟩ = some (.pointer (some ⟨i.sp, 0, none⟩)) ∧ W.cell? ⟨i.sp, 2, none⟩ = some (.pointer (some ⟨i.y, 0, none⟩))) [12] (by kernel_rfl) ⟨B4.out.cell 0, Q2.out⟩ (fun hHeld => ?_)
  refine wpAnyL_take (i := 0) (v := ?_) rfl (by kernel_rfl) (fun _ _ _ h => h) (Or.inl ⟨by rfl, ?_⟩) (by assumption) ?_; rotate_left; (focus (intro w hSw; (have cc := hSw.1); go_simp; (try with_reducible rfl))); (try (refine wpAnyL_norm (by simp only [Act.put, List.setIfInBounds_toArray, List.set_cons_zero, List.set_cons_succ]; rfl) ?_))
  refine wpAnyL_take (i := 1) (v := ?_) rfl (by kernel_rfl) (fun _ _ _ h => h) (Or.inl ⟨by rfl, ?_⟩) (by assumption) ?_; rotate_left; (focus (intro w hSw; (have cc := hSw.1); go_simp; (try with_reducible rfl))); (try (refine wpAnyL_norm (by simp only [Act.put, List.setIfInBounds_toArray, List.set_cons_zero, List.set_cons_succ]; rfl) ?_))
  refine wpAnyL_take (i := 2) (v := ?_) rfl (by kernel_rfl) (fun _ _ _ h => h) (Or.inl ⟨by rfl, ?_⟩) (by assumption) ?_; rotate_left; (focus (intro w hSw; (have cc := hSw.1); go_simp; (try with_reducible rfl))); (try (refine wpAnyL_norm (by simp only [Act.put, List.setIfInBounds_toArray, List.set_cons_zero, List.set_cons_succ]; rfl) ?_))
  refine wpAnyL_take (i := 3) (v := ?_) rfl (by kernel_rfl) (fun _ _ _ h => h) (Or.inl ⟨by rfl, ?_⟩) (by assumption) ?_; rotate_left; (focus (intro w hSw; skip; go_simp; (try with_reducible rfl))); (try (refine wpAnyL_norm (by simp only [Act.put, List.setIfInBounds_toArray, List.set_cons_zero, List.set_cons_succ]; rfl) ?_))
  refine wpAnyL_take (i := 4) (v := ?_) rfl (by kernel_rfl) (fun _ _ _ h => h) (Or.inl ⟨by rfl, ?_⟩) (by assumption) ?_; rotate_left; (focus (intro w hSw; skip; go_simp; (try with_reducible rfl))); (try (refine wpAnyL_norm (by simp only [Act.put, List.setIfInBounds_toArray, List.set_cons_zero, List.set_cons_succ]; rfl) ?_))
  refine wpAnyL_take (i := 5) (v := ?_) rfl (by kernel_rfl) (fun _ _ _ h => h) (Or.inl ⟨by rfl, ?_⟩) (by assumption) ?_; rotate_left; (focus (intro w hSw; (have cc := hSw.2); go_simp; (try with_reducible rfl))); (try (refine wpAnyL_norm (by simp only [Act.put, List.setIfInBounds_toArray, List.set_cons_zero, List.set_cons_succ]; rfl) ?_))
  refine wpAnyL_ready (rs := [6]) (by kernel_rfl) (by simp) ?_; refine AllReadyL.cons rfl (fun K hK => ?_) AllReadyL.nil
  go_simp
  refine (CP.out _ ((Fr.refl [] w4).drew)).mono ?_
  rintro e w5 ⟨pp, pq, pg, rfl, hpt, hnew, hf5⟩
  have F5 := Lib.hid ((Fr.refl [] w4).drew.trans0 hf5)
  have PT5 := Lib.hid hpt
  have HNW := Lib.hid (show w4.heap.size ≤ pp ∧ w4.heap.size ≤ pq ∧ w4.heap.size ≤ pg from hnew)
  have SP5 := Lib.hid (SP4.out.fr F5.out (by simp))
  have B5 := Lib.hid (B4.out.fr F5.out (by simp))
  have N5 := Lib.hid (N4.out.fr F5.out (by simp))
  refine hK.out _ _ (fun _ => ⟨B5.out.cell 0, (hf5.cell (a := ⟨i.sp, 2, none⟩) SP4.out.lt (by simp)).trans Q2.out⟩) (fun hHeld' => ?_); have hHeld := hHeld' (by decide); clear hHeld' hK K; (try (refine wpAnyL_norm (by simp only [Act.put, List.setIfInBounds_toArray, List.set_cons_zero, List.set_cons_succ]; rfl) ?_))
  clear hpt hnew hf5 CP
  refine wpAnyL_take (i := 7) (v := ?_) rfl (by kernel_rfl) (fun _ _ _ h => h) (Or.inl ⟨by rfl, ?_⟩) (by assumption) ?_; rotate_left; (focus (intro w hSw; skip; go_simp; (try with_reducible rfl))); (try (refine wpAnyL_norm (by simp only [Act.put, List.setIfInBounds_toArray, List.set_cons_zero, List.set_cons_succ]; rfl) ?_))
  refine wpAnyL_take (i := 8) (v := ?_) rfl (by kernel_rfl) (fun _ _ _ h => h) (Or.inl ⟨by rfl, ?_⟩) (by assumption) ?_; rotate_left; (focus (intro w hSw; skip; go_simp; (try with_reducible rfl))); (try (refine wpAnyL_norm (by simp only [Act.put, List.setIfInBounds_toArray, List.set_cons_zero, List.set_cons_succ]; rfl) ?_))
  have z3 := SP5.out.froz 3
  have c3 := SP5.out.cell 3
  unfold Sm.cells at c3
  simp only [List.getElem?_toArray, List.getElem?_cons_zero, List.getElem?_cons_succ] at c3
  refine wpAnyL_ready (rs := [9]) (by kernel_rfl) (by simp) ?_; refine AllReadyL.cons rfl (fun K hK => ?_) AllReadyL.nil
  go_simp
  have f6 : Fr [i.sp] w5 (w5.setCell ⟨i.sp, 3, none⟩ (.pointer (some ⟨pp, 0, none⟩))) := (Fr.refl _ _).set (.inl (by simp)) _
  have SP6 := Lib.hid (SP5.out.set 3 (.pointer (some ⟨pp, 0, none⟩)))
  have F6 := Lib.hid f6
  have B6 := Lib.hid (B5.out.fr f6 (by have := hgl.out; simp; omega))
  have N6 := Lib.hid (N5.out.fr f6 (by have := hgl.out; simp; omega))
  obtain ⟨w6, hw6⟩ : ∃ W, w5.setCell ⟨i.sp, 3, none⟩ (.pointer (some ⟨pp, 0, none⟩)) = W := ⟨_, rfl⟩
  rw [hw6] at SP6 F6 B6 N6 ⊢
  have k2 := SP6.out.cell 2
  have z4 := SP6.out.froz 4
  have c4 := SP6.out.cell 4
  unfold Sm.cells at k2 c4
  simp only [List.setIfInBounds_toArray, List.set_cons_succ, List.set_cons_zero, List.getElem?_toArray, List.getElem?_cons_zero, List.getElem?_cons_succ] at k2 c4
  refine hK.out _ _ (fun _ => ⟨B6.out.cell 0, k2⟩) (fun hHeld' => ?_); have hHeld := hHeld' (by decide); clear hHeld' hK K; (try (refine wpAnyL_norm (by simp only [Act.put, List.setIfInBounds_toArray, List.set_cons_zero, List.set_cons_succ]; rfl) ?_))
  clear z3 c3 f6 hw6 k2
  refine wpAnyL_take (i := 10) (v := ?_) rfl (by kernel_rfl) (fun _ _ _ h => h) (Or.inl ⟨by rfl, ?_⟩) (by assumption) ?_; rotate_left; (focus (intro w hSw; skip; go_simp; (try with_reducible rfl))); (try (refine wpAnyL_norm (by simp only [Act.put, List.setIfInBounds_toArray, List.set_cons_zero, List.set_cons_succ]; rfl) ?_))
  refine wpAnyL_take (i := 11) (v := ?_) rfl (by kernel_rfl) (fun _ _ _ h => h) (Or.inl ⟨by rfl, ?_⟩) (by assumption) ?_; rotate_left; (focus (intro w hSw; skip; go_simp; (try with_reducible rfl))); (try (refine wpAnyL_norm (by simp only [Act.put, List.setIfInBounds_toArray, List.set_cons_zero, List.set_cons_succ]; rfl) ?_))
  refine wpAnyL_ready (rs := [12]) (by kernel_rfl) (by simp) ?_; refine AllReadyL.cons rfl (fun K hK => ?_) AllReadyL.nil
  go_simp
  have f7 : Fr [i.sp] w6 (w6.setCell ⟨i.sp, 4, none⟩ (.int .i64 1)) := (Fr.refl _ _).set (.inl (by simp)) _
  have SP7 := Lib.hid (SP6.out.set 4 (.int .i64 1))
  have F7 := Lib.hid f7
  have N7 := Lib.hid (N6.out.fr f7 (by have := hgl.out; simp; omega))
  obtain ⟨w7, hw7⟩ : ∃ W, w6.setCell ⟨i.sp, 4, none⟩ (.int .i64 1) = W := ⟨_, rfl⟩
  rw [hw7] at SP7 F7 N7 ⊢
  refine hK.out _ _ (fun h => (h (by decide)).elim) (fun _ => ?_); clear hK K; (try (refine wpAnyL_norm (by simp only [Act.put, List.setIfInBounds_toArray, List.set_cons_zero, List.set_cons_succ]; rfl) ?_))
  refine wpAnyL_done (by kernel_rfl) ?_ _
  clear z4 c4 f7 hw7 hHeld
  have n0 := N7.out.cell 0
  simp only [List.getElem?_toArray, List.getElem?_cons_zero] at n0
  go_wp2_with fail
  go_ret2
  have F47 := Lib.hid (((F5.out.more (T := [i.sp]) (by simp)).trans F6.out (fun k hk => .inl hk)).trans F7.out (fun k hk => .inl hk))
  have F27 := Lib.hid ((F24.out.more (T := [b0 + 1, i.gp, i.g, i.sp]) (by simp)).trans F47.out (by simp))
  have PT7 := Lib.hid ((PT5.out.fr F6.out (by have := HNW.out; have := SP4.out.lt; simp; omega) (by have := HNW.out; have := SP4.out.lt; simp; omega) (by have := HNW.out; have := SP4.out.lt; simp; omega)).fr F7.out (by have := HNW.out; have := SP4.out.lt; simp; omega) (by have := HNW.out; have := SP4.out.lt; simp; omega) (by have := HNW.out; have := SP4.out.lt; simp; omega))
  have G7 := Lib.hid (G4.out.fr F47.out (by have := NE.out; simp; omega) (by
    obtain ⟨⟨cs, k1⟩, _⟩ := Gn.words S1.out.G
    exact S1.out.notin (S := [i.sp]) (by unfold Ids.mut; simp) k1 (by decide) (by decide) (by decide) (by decide)) (by have := NE.out; simp; omega))
  have hsz : w2.heap.size ≤ w4.heap.size := F24.out.size
  have h01 : b0 ≤ w2.heap.size := by have := HT.out.f.size; have := F1.out.size; have := HB0.out; omega
  refine ⟨rfl, s', some ⟨pp, 0, none⟩, ?_, ?_, fun k hk => (HT.out.foot k hk).imp id (fun e => Nat.le_trans F1.out.size e)⟩
  · refine S1.out.toSv.anew HT.out A2.out (by have := hgl.out; omega) (by have := hgl.out; omega) (by have := hgl.out; omega) F27.out _ ?_ ?_ ?_ rfl rfl rfl HM.out.1 HM.out.2.2.1 (fun e => absurd e (by simp))
    · have := SP7.out
      unfold Sm.cells at this ⊢
      simpa using this
    · refine .inr ⟨pp, pq, pg, 256, cov x.m.lw, rfl, ?_, rfl, ?_, ?_, ?_⟩
      · have := PT7.out
        rw [HM.out.1, HM.out.2.2.2, S1.out.n] at this
        exact this
      · have := HNW.out; have := hgl.out; omega
      · have := HNW.out; have := hgl.out; omega
      · intro hin
        have := foot_ltY HT.out.yw _ hin
        have := HNW.out
        omega
    · have := G7.out
      dsimp only
      rw [HM.out.2.1, HNN.out]
      exact this
  · have g1 : Fr (i.sp :: i.gp :: i.g :: s.foot) w w2 := (F1.out.more (T := i.sp :: i.gp :: i.g :: s.foot) (by simp)).trans HT.out.f (fun k hk => .inl (by simp [hk]))
    refine g1.trans F27.out (fun k hk => ?_)
    simp only [List.mem_cons, List.not_mem_nil, or_false] at hk
    rcases hk with rfl | rfl | rfl | rfl
    · exact .inr (by have := HB0.out; omega)
    · exact .inl (by simp)
    · exact .inl (by simp)
    · exact .inl (by simp)
end
end Go.Proofs.YthjbnbimfpbccaaGreatDoor
/-
  A sweeper's small functions: Stopping, Go, Left, Visited, Old. Condition: as for a sweeper.
-/



set_option linter.unusedVariables false
namespace Go.Proofs.YthjbnbimfpbccaaGreatDoor
open Go.ChangeShapes Go.WideShapes Go.ChangeAt Go.RowKit
section
variable (w0 w : World) (i : Ids) (s : YS) (x : Sm) (pv : Option Addr) (h : Sw w0 w i s x pv)
include h
theorem swstop_any : Calls Tryz.prog 20 #[.pointer (some ⟨i.sp, 0, none⟩)] w fun r w' => r = .returned (.bool (decide (x.st = 1))) ∧ w = w' := by
  have c0 := h.S.cell 0
  have c1 := h.S.cell 1
  have c2 := h.S.cell 2
  have c3 := h.S.cell 3
  have c4 := h.S.cell 4
  have c5 := h.S.cell 5
  unfold Sm.cells at c0 c1 c2 c3 c4 c5
  simp only [List.getElem?_toArray, List.getElem?_cons_zero, List.getElem?_cons_succ] at c0 c1 c2 c3 c4 c5
  by_cases h1 : x.st = 1
  · have CI := Lib.hid (swin_0 w i.sp i.gp 1 x.st c0 c4 0 (by omega))
    rw [decide_eq_true h1]
    clear h h1 c0 c1 c2 c3 c4 c5
    go_enter Tryz.func20, Tryz.ntmps20
    go_wp2_with fail
    refine CI.out.mono ?_
    rintro e w' ⟨rfl, rfl⟩
    go_wp2_with fail
    go_ret
    exact ⟨rfl, rfl⟩
  · have CI := Lib.hid (swin_no w i.sp i.gp 1 x.st c0 c4 (.slice none 0 0) (by omega))
    rw [decide_eq_false h1]
    clear h h1 c0 c1 c2 c3 c4 c5
    go_enter Tryz.func20, Tryz.ntmps20
    go_wp2_with fail
    refine CI.out.mono ?_
    rintro e w' ⟨rfl, rfl⟩
    go_wp2_with fail
    go_ret
    exact ⟨rfl, rfl⟩
theorem swgo_yes (h1 : x.st = 1) : Calls Tryz.prog 10 #[.pointer (some ⟨i.sp, 0, none⟩)] w fun r w' => r = .returned (.bool true) ∧ Sw w0 w' i s { x with st := 2 } pv ∧ Fr [i.sp] w w' := by
  have H := Lib.hid h
  have c0 := h.S.cell 0
  have c1 := h.S.cell 1
  have c2 := h.S.cell 2
  have c3 := h.S.cell 3
  have c4 := h.S.cell 4
  have c5 := h.S.cell 5
  unfold Sm.cells at c0 c1 c2 c3 c4 c5
  simp only [List.getElem?_toArray, List.getElem?_cons_zero, List.getElem?_cons_succ] at c0 c1 c2 c3 c4 c5
  have z4 := h.S.froz 4
  have CI := Lib.hid (swin_0 w i.sp i.gp 1 x.st c0 c4 0 (by omega))
  have H1 := Lib.hid h1
  clear h h1
  go_enter Tryz.func10, Tryz.ntmps10
  go_wp2_with fail
  refine CI.out.mono ?_
  rintro e w' ⟨rfl, rfl⟩
  go_wp2_with fail
  go_ret
  have f : Fr [i.sp] w (w.setCell ⟨i.sp, 4, none⟩ (.int .i64 2)) := (Fr.refl _ _).set (.inl (by simp)) _
  exact ⟨rfl, H.out.self 2 x.vis x.hs f (H.out.S.set 4 _) (H.out.paint (S := [i.sp]) (by unfold Ids.mut; simp) f) (by rw [H.out.un, H1.out]; rfl) (by omega), f⟩
theorem swgo_no (h1 : x.st ≠ 1) : Calls Tryz.prog 10 #[.pointer (some ⟨i.sp, 0, none⟩)] w fun r w' => r = .returned (.bool false) ∧ w = w' := by
  have c0 := h.S.cell 0
  have c1 := h.S.cell 1
  have c2 := h.S.cell 2
  have c3 := h.S.cell 3
  have c4 := h.S.cell 4
  have c5 := h.S.cell 5
  unfold Sm.cells at c0 c1 c2 c3 c4 c5
  simp only [List.getElem?_toArray, List.getElem?_cons_zero, List.getElem?_cons_succ] at c0 c1 c2 c3 c4 c5
  have CI := Lib.hid (swin_no w i.sp i.gp 1 x.st c0 c4 (.slice none 0 0) (by omega))
  clear h h1 c0 c1 c2 c3 c4 c5
  go_enter Tryz.func10, Tryz.ntmps10
  go_wp2_with fail
  refine CI.out.mono ?_
  rintro e w' ⟨rfl, rfl⟩
  go_wp2_with fail
  go_ret
  exact ⟨rfl, rfl⟩
theorem swleft_any : Calls Tryz.prog 9 #[.pointer (some ⟨i.sp, 0, none⟩)] w fun r w' => r = .returned (.int .i64 (cnt x.F 16)) ∧ w = w' := by
  have c0 := h.S.cell 0
  have c1 := h.S.cell 1
  have c2 := h.S.cell 2
  have c3 := h.S.cell 3
  have c4 := h.S.cell 4
  have c5 := h.S.cell 5
  unfold Sm.cells at c0 c1 c2 c3 c4 c5
  simp only [List.getElem?_toArray, List.getElem?_cons_zero, List.getElem?_cons_succ] at c0 c1 c2 c3 c4 c5
  have CL := Lib.hid (gleft_any w _ _ _ _ _ _ h.G)
  clear h c1 c2 c3 c4 c5
  go_enter Tryz.func9, Tryz.ntmps9
  go_wp2_with fail
  refine CL.out.mono ?_
  rintro e w' ⟨rfl, rfl⟩
  go_wp2_with fail
  go_ret
  exact ⟨rfl, rfl⟩
theorem swvis_any : Calls Tryz.prog 15 #[.pointer (some ⟨i.sp, 0, none⟩)] w fun r w' => r = .returned (.int .u64 (x.vis : Nat)) ∧ w = w' := by
  have c0 := h.S.cell 0
  have c1 := h.S.cell 1
  have c2 := h.S.cell 2
  have c3 := h.S.cell 3
  have c4 := h.S.cell 4
  have c5 := h.S.cell 5
  unfold Sm.cells at c0 c1 c2 c3 c4 c5
  simp only [List.getElem?_toArray, List.getElem?_cons_zero, List.getElem?_cons_succ] at c0 c1 c2 c3 c4 c5
  clear h c0 c1 c2 c3 c4
  go_enter Tryz.func15, Tryz.ntmps15
  go_wp2_with fail
  go_ret
  exact ⟨rfl, rfl⟩
theorem swold_any (h2 : x.st ≤ 2) (page : Int) : Calls Tryz.prog 11 #[.pointer (some ⟨i.sp, 0, none⟩), .int .i64 page] w fun r w' => r = .returned (.bool (decide (x.st ≠ 0) && (inR page 16 && x.F page.toNat))) ∧ w = w' := by
  have c0 := h.S.cell 0
  have c1 := h.S.cell 1
  have c2 := h.S.cell 2
  have c3 := h.S.cell 3
  have c4 := h.S.cell 4
  have c5 := h.S.cell 5
  unfold Sm.cells at c0 c1 c2 c3 c4 c5
  simp only [List.getElem?_toArray, List.getElem?_cons_zero, List.getElem?_cons_succ] at c0 c1 c2 c3 c4 c5
  have CO := Lib.hid (gold_any w _ _ _ _ _ _ h.G page)
  obtain ⟨B, hB⟩ : ∃ B, (inR page 16 && x.F page.toNat) = B := ⟨_, rfl⟩
  rw [hB] at CO ⊢
  have C1 := Lib.hid (swin_0 w i.sp i.gp 1 x.st c0 c4 0)
  have C2 := Lib.hid (swin_0 w i.sp i.gp 2 x.st c0 c4 0)
  have N1 := Lib.hid (swin_no w i.sp i.gp 1 x.st c0 c4 (.slice none 0 0))
  have N2 := Lib.hid (swin_no w i.sp i.gp 2 x.st c0 c4 (.slice none 0 0))
  obtain ⟨st, hst⟩ : ∃ st, x.st = st := ⟨_, rfl⟩
  rw [hst] at C1 C2 N1 N2 h2 ⊢
  clear h hB c1 c2 c3 c4 c5 hst
  rcases (show st = 0 ∨ st = 1 ∨ st = 2 by omega) with rfl | rfl | rfl
  · rw [decide_eq_false (by simp), Bool.false_and]
    go_enter Tryz.func11, Tryz.ntmps11
    go_wp2_with fail
    refine (N1.out (by decide)).mono ?_
    rintro e w' ⟨rfl, rfl⟩
    go_wp2_with fail
    refine (N2.out (by decide)).mono ?_
    rintro e w' ⟨rfl, rfl⟩
    go_wp2_with fail
    go_ret
    exact ⟨rfl, rfl⟩
  · rw [decide_eq_true (by simp), Bool.true_and]
    go_enter Tryz.func11, Tryz.ntmps11
    go_wp2_with fail
    refine (C1.out rfl).mono ?_
    rintro e w' ⟨rfl, rfl⟩
    go_wp2_with fail
    refine CO.out.mono ?_
    rintro e w' ⟨rfl, rfl⟩
    go_wp2_with fail
    go_ret
    exact ⟨rfl, rfl⟩
  · rw [decide_eq_true (by simp), Bool.true_and]
    go_enter Tryz.func11, Tryz.ntmps11
    go_wp2_with fail
    refine (N1.out (by decide)).mono ?_
    rintro e w' ⟨rfl, rfl⟩
    go_wp2_with fail
    refine (C2.out rfl).mono ?_
    rintro e w' ⟨rfl, rfl⟩
    go_wp2_with fail
    refine CO.out.mono ?_
    rintro e w' ⟨rfl, rfl⟩
    go_wp2_with fail
    go_ret
    exact ⟨rfl, rfl⟩
end
end Go.Proofs.YthjbnbimfpbccaaGreatDoor
/-
  A sweeper's visit. Condition: as for a sweeper.
-/






set_option linter.unusedVariables false
namespace Go.Proofs.YthjbnbimfpbccaaGreatDoor
open Go.ChangeShapes Go.WideShapes Go.ChangeAt Go.RowKit
section
variable (w0 w : World) (i : Ids) (s : YS) (x : Sm) (pv : Option Addr) (h : Sw w0 w i s x pv)
include h
theorem swvisit1_gen (qs qp : Nat) (page : Int) (hq1 : w.cell? ⟨qs, 0, none⟩ = some (.pointer (some ⟨i.sp, 0, none⟩))) (hq2 : w.cell? ⟨qp, 0, none⟩ = some (.int .i64 page)) (n1 : qs ≠ i.g) (n2 : qp ≠ i.g) (X : World → Prop) (b : Bool)
    (hc : ∀ W, Fr [] w W → Calls Tryz.prog 52 #[.pointer (some ⟨i.gp, 0, none⟩), .int .i64 page] W fun r w' => r = .returned (.bool b) ∧ X w' ∧ Fr [i.g] W w') :
    Calls Tryz.prog 51 #[.pointer (some ⟨qs, 0, none⟩), .pointer (some ⟨qp, 0, none⟩)] w fun r w' => r = .returned (.bool b) ∧ X w' := by
  have c0 := h.S.cell 0
  have c1 := h.S.cell 1
  have c2 := h.S.cell 2
  have c3 := h.S.cell 3
  have c4 := h.S.cell 4
  have c5 := h.S.cell 5
  unfold Sm.cells at c0 c1 c2 c3 c4 c5
  simp only [List.getElem?_toArray, List.getElem?_cons_zero, List.getElem?_cons_succ] at c0 c1 c2 c3 c4 c5
  have l0 := lt_of_cell hq1
  have l1 := lt_of_cell hq2
  have l2 := h.S.lt
  have n3 := h.ne.1.2.1
  have Q1 := Lib.hid fun W (hW : Fr [i.g] w W) => (hW.cell (a := ⟨qs, 0, none⟩) l0 (by simpa using n1)).trans hq1
  have Q2 := Lib.hid fun W (hW : Fr [i.g] w W) => (hW.cell (a := ⟨qp, 0, none⟩) l1 (by simpa using n2)).trans hq2
  have Q3 := Lib.hid fun W (hW : Fr [i.g] w W) => (hW.cell (a := ⟨i.sp, 0, none⟩) l2 (by simpa using n3)).trans c0
  have HC := Lib.hid hc
  clear h hq1 hq2 c0 c1 c2 c3 c4 c5 hc l0 l1 l2
  go_enter Tryz.func51, Tryz.ntmps51
  go_upto_region 1 with (fail)
  refine wp_region_L (fun W => Fr [i.g] w W) [] (by kernel_rfl) ((Fr.refl _ _).drew) (fun hHeld => ?_)
  refine wpAnyL_take (i := 0) (v := ?_) rfl (by kernel_rfl) (fun _ _ _ h => h) (Or.inl ⟨by rfl, ?_⟩) (by assumption) ?_; rotate_left; (focus (intro w hSw; (have cc := Q1.out _ hSw); go_simp; (try with_reducible rfl))); (try (refine wpAnyL_norm (by simp only [Act.put, List.setIfInBounds_toArray, List.set_cons_zero, List.set_cons_succ]; rfl) ?_))
  refine wpAnyL_take (i := 1) (v := ?_) rfl (by kernel_rfl) (fun _ _ _ h => h) (Or.inl ⟨by rfl, ?_⟩) (by assumption) ?_; rotate_left; (focus (intro w hSw; skip; go_simp; (try with_reducible rfl))); (try (refine wpAnyL_norm (by simp only [Act.put, List.setIfInBounds_toArray, List.set_cons_zero, List.set_cons_succ]; rfl) ?_))
  refine wpAnyL_take (i := 2) (v := ?_) rfl (by kernel_rfl) (fun _ _ _ h => h) (Or.inl ⟨by rfl, ?_⟩) (by assumption) ?_; rotate_left; (focus (intro w hSw; skip; go_simp; (try with_reducible rfl))); (try (refine wpAnyL_norm (by simp only [Act.put, List.setIfInBounds_toArray, List.set_cons_zero, List.set_cons_succ]; rfl) ?_))
  refine wpAnyL_take (i := 3) (v := ?_) rfl (by kernel_rfl) (fun _ _ _ h => h) (Or.inl ⟨by rfl, ?_⟩) (by assumption) ?_; rotate_left; (focus (intro w hSw; (have cc := Q3.out _ hSw); go_simp; (try with_reducible rfl))); (try (refine wpAnyL_norm (by simp only [Act.put, List.setIfInBounds_toArray, List.set_cons_zero, List.set_cons_succ]; rfl) ?_))
  refine wpAnyL_take (i := 4) (v := ?_) rfl (by kernel_rfl) (fun _ _ _ h => h) (Or.inl ⟨by rfl, ?_⟩) (by assumption) ?_; rotate_left; (focus (intro w hSw; (have cc := Q2.out _ hSw); go_simp; (try with_reducible rfl))); (try (refine wpAnyL_norm (by simp only [Act.put, List.setIfInBounds_toArray, List.set_cons_zero, List.set_cons_succ]; rfl) ?_))
  refine wpAnyL_ready (rs := [5]) (by kernel_rfl) (by simp) ?_; refine AllReadyL.cons rfl (fun K hK => ?_) AllReadyL.nil
  go_simp
  refine (HC.out _ (Fr.refl [] w).drew).mono ?_
  rintro e w2 ⟨rfl, hx, hf2⟩
  have HX := Lib.hid hx
  refine hK.out _ _ (fun _ => hHeld.trans hf2 (fun k hk => .inl hk)) (fun hHeld' => ?_); have hHeld := hHeld' (by decide); clear hHeld' hK K; (try (refine wpAnyL_norm (by simp only [Act.put, List.setIfInBounds_toArray, List.set_cons_zero, List.set_cons_succ]; rfl) ?_))
  clear hx hf2
  refine wpAnyL_take (i := 6) (v := ?_) rfl (by kernel_rfl) (fun _ _ _ h => h) (Or.inl ⟨by rfl, ?_⟩) (by assumption) ?_; rotate_left; (focus (intro w hSw; skip; go_simp; (try with_reducible rfl))); (try (refine wpAnyL_norm (by simp only [Act.put, List.setIfInBounds_toArray, List.set_cons_zero, List.set_cons_succ]; rfl) ?_))
  refine wpAnyL_done (by kernel_rfl) ?_ _
  go_wp2_with fail
  go_ret
  exact ⟨rfl, HX.out⟩
theorem swvisit_out (page : Int) (h1 : x.st ≠ 2) : Calls Tryz.prog 12 #[.pointer (some ⟨i.sp, 0, none⟩), .int .i64 page] w fun r w' => r = .returned (.bool false) ∧ Fr [] w w' := by
  obtain ⟨b0, hb0⟩ : ∃ b, w.heap.size = b := ⟨_, rfl⟩
  obtain ⟨w1, hw1⟩ : ∃ W, ((w.alloc (.cells #[.pointer (some ⟨i.sp, 0, none⟩)] 25)).alloc (.cells #[.int .i64 page] 3)).alloc (.cells #[.func (.func 51) #[] #[.pointer (some ⟨w.heap.size, 0, none⟩), .pointer (some ⟨w.heap.size + 1, 0, none⟩)]] 32) = W := ⟨_, rfl⟩
  have A1 := Lib.hid (show At w1 b0 25 #[.pointer (some ⟨i.sp, 0, none⟩)] from by (rw [← hw1, ← hb0]; repeat (first | exact At.nw (by first | rfl | simp only [World.size_alloc]) | refine At.old ?_ _)))
  have A2 := Lib.hid (show At w1 (b0 + 1) 3 #[.int .i64 page] from by (rw [← hw1, ← hb0]; repeat (first | exact At.nw (by first | rfl | simp only [World.size_alloc]) | refine At.old ?_ _)))
  have A3 := Lib.hid (show At w1 (b0 + 1 + 1) 32 #[.func (.func 51) #[] #[.pointer (some ⟨b0, 0, none⟩), .pointer (some ⟨b0 + 1, 0, none⟩)]] from by (rw [← hw1, ← hb0]; repeat (first | exact At.nw (by first | rfl | simp only [World.size_alloc]) | refine At.old ?_ _)))
  have F1 := Lib.hid (show Fr [] w w1 from by rw [← hw1]; exact (by repeat (first | exact Fr.refl _ _ | assumption | refine Fr.trans0 ?_ (by assumption) | refine Fr.drewN ?_ _ | refine Fr.alloc ?_ _ | refine Fr.drew ?_)))
  have S1 := Lib.hid (h.fr0 F1.out)
  have hgl := Lib.hid (show i.g < b0 from by rw [← hb0]; exact h.G.lt.2.2)
  have HW1 := Lib.hid hw1
  have HB0 := Lib.hid hb0
  clear h hw1 hb0
  have c0 := S1.out.S.cell 0
  have c4 := S1.out.S.cell 4
  unfold Sm.cells at c0 c4
  simp only [List.getElem?_toArray, List.getElem?_cons_zero, List.getElem?_cons_succ] at c0 c4
  have CI := Lib.hid (swin_no w1 i.sp i.gp 2 x.st c0 c4 (.slice (some ⟨b0 + 1 + 1, 0, none⟩) 1 1) (by omega))
  clear h1 c0 c4
  go_enter Tryz.func12, Tryz.ntmps12
  go_wp2_with fail
  rw [HW1.out, HB0.out]
  refine CI.out.mono ?_
  rintro e w' ⟨rfl, rfl⟩
  go_wp2_with fail
  go_ret
  exact ⟨rfl, F1.out⟩
theorem swvisit_no (page : Int) (h1 : x.st = 2) (hn : (inR page 16 && x.F page.toNat) = false) : Calls Tryz.prog 12 #[.pointer (some ⟨i.sp, 0, none⟩), .int .i64 page] w fun r w' => r = .returned (.bool false) ∧ Fr [] w w' := by
  obtain ⟨b0, hb0⟩ : ∃ b, w.heap.size = b := ⟨_, rfl⟩
  obtain ⟨w1, hw1⟩ : ∃ W, ((w.alloc (.cells #[.pointer (some ⟨i.sp, 0, none⟩)] 25)).alloc (.cells #[.int .i64 page] 3)).alloc (.cells #[.func (.func 51) #[] #[.pointer (some ⟨w.heap.size, 0, none⟩), .pointer (some ⟨w.heap.size + 1, 0, none⟩)]] 32) = W := ⟨_, rfl⟩
  have A1 := Lib.hid (show At w1 b0 25 #[.pointer (some ⟨i.sp, 0, none⟩)] from by (rw [← hw1, ← hb0]; repeat (first | exact At.nw (by first | rfl | simp only [World.size_alloc]) | refine At.old ?_ _)))
  have A2 := Lib.hid (show At w1 (b0 + 1) 3 #[.int .i64 page] from by (rw [← hw1, ← hb0]; repeat (first | exact At.nw (by first | rfl | simp only [World.size_alloc]) | refine At.old ?_ _)))
  have A3 := Lib.hid (show At w1 (b0 + 1 + 1) 32 #[.func (.func 51) #[] #[.pointer (some ⟨b0, 0, none⟩), .pointer (some ⟨b0 + 1, 0, none⟩)]] from by (rw [← hw1, ← hb0]; repeat (first | exact At.nw (by first | rfl | simp only [World.size_alloc]) | refine At.old ?_ _)))
  have F1 := Lib.hid (show Fr [] w w1 from by rw [← hw1]; exact (by repeat (first | exact Fr.refl _ _ | assumption | refine Fr.trans0 ?_ (by assumption) | refine Fr.drewN ?_ _ | refine Fr.alloc ?_ _ | refine Fr.drew ?_)))
  have S1 := Lib.hid (h.fr0 F1.out)
  have hgl := Lib.hid (show i.g < b0 from by rw [← hb0]; exact h.G.lt.2.2)
  have HW1 := Lib.hid hw1
  have HB0 := Lib.hid hb0
  clear h hw1 hb0
  have c0 := S1.out.S.cell 0
  have c4 := S1.out.S.cell 4
  unfold Sm.cells at c0 c4
  simp only [List.getElem?_toArray, List.getElem?_cons_zero, List.getElem?_cons_succ] at c0 c4
  have NG := Lib.hid (show b0 ≠ i.g ∧ b0 + 1 ≠ i.g from by have := hgl.out; omega)
  have CV := Lib.hid (swvisit1_gen w0 w1 i s x pv S1.out b0 (b0 + 1) page (A1.out.cell 0) (A2.out.cell 0) NG.out.1 NG.out.2 (fun W => Fr [] w1 W) false (fun W hW => (gmark_no W _ _ _ _ _ _ (S1.out.fr0 hW).G page hn).mono fun r w' ⟨e1, e2⟩ => ⟨e1, e2 ▸ hW, e2 ▸ Fr.refl _ _⟩))
  have CI := Lib.hid (swin_1 w1 i.sp i.gp 2 x.st c0 c4 (b0 + 1 + 1) 1 51 #[.pointer (some ⟨b0, 0, none⟩), .pointer (some ⟨b0 + 1, 0, none⟩)] (fun W => Fr [] w1 W) false (by omega) (A3.out.cell 0) (fun args w => by kernel_rfl) CV.out)
  clear h1 c0 c4 hn CV
  go_enter Tryz.func12, Tryz.ntmps12
  go_wp2_with fail
  rw [HW1.out, HB0.out]
  refine CI.out.mono ?_
  rintro e w' ⟨rfl, hf⟩
  have F2 := Lib.hid (F1.out.trans0 hf)
  clear hf CI
  go_wp2_with fail
  go_ret
  exact ⟨rfl, F2.out⟩
omit h in
theorem Pn.has {w : World} {i : Ids} {s : YS} {pv : Option Addr} {hs : Int → Bool} (h : Pn w i s pv hs) : ∃ B, B ≤ w.heap.size ∧ Hs B w pv hs := by
  rcases h with ⟨rfl, rfl⟩ | ⟨pp, pq, pg, n, Fp, rfl, h2, rfl, _⟩
  · exact ⟨0, Nat.zero_le _, Hs.nil 0 w⟩
  · exact ⟨_, Nat.le_refl _, Hs.of h2⟩
omit h in
theorem Sw.mk2 {w0 w w' : World} {i : Ids} {s : YS} {x : Sm} {pv : Option Addr} {S : List Nat} (h : Sw w0 w i s x pv) (hS : ∀ k ∈ S, k ∈ i.mut) (f : Fr S w w') (x' : Sm) (h1 : At w' i.sp 109 (x'.cells i pv)) (h2 : Gn w' i.gp i.p i.g 16 x'.F x'.m.ep) (h3 : Ar w' i.ap i.q i.ag i.bg i.cap x'.bs x'.f)
    (hm : x'.m = x.m) (hh : x'.hs = x.hs) (un : x.m.un = decide (x'.st ≠ 0)) (z : x'.st = 0 → cnt x'.F 16 = 0) : Sw w0 w' i s x' pv :=
  ⟨⟨h1, hh ▸ h.paint hS f, h2, h3, hm ▸ h.yard hS f, h.T, h.d, h.o, h.hi, by rw [hm]; exact h.n⟩, by rw [hm]; exact un, z⟩
set_option maxHeartbeats 1000000 in
set_option maxRecDepth 100000 in
theorem swvisit_yes (P : Nat) (hP : P < 16) (hF : x.F P = true) (h1 : x.st = 2) (hv : x.vis < 1000000) : Calls Tryz.prog 12 #[.pointer (some ⟨i.sp, 0, none⟩), .int .i64 P] w fun r w' => r = .returned (.bool true) ∧ Sw w0 w' i s { x with vis := x.vis + 1, F := upd x.F P false, f := pgT x.bs x.hs x.f (tgP x.bs.length x.f P) } pv ∧ Fr [i.g, i.ag, i.sp] w w' := by
  obtain ⟨page, hpg⟩ : ∃ page : Int, (P : Int) = page := ⟨_, rfl⟩
  rw [hpg]
  obtain ⟨b0, hb0⟩ : ∃ b, w.heap.size = b := ⟨_, rfl⟩
  obtain ⟨w1, hw1⟩ : ∃ W, ((w.alloc (.cells #[.pointer (some ⟨i.sp, 0, none⟩)] 25)).alloc (.cells #[.int .i64 page] 3)).alloc (.cells #[.func (.func 51) #[] #[.pointer (some ⟨w.heap.size, 0, none⟩), .pointer (some ⟨w.heap.size + 1, 0, none⟩)]] 32) = W := ⟨_, rfl⟩
  have A1 := Lib.hid (show At w1 b0 25 #[.pointer (some ⟨i.sp, 0, none⟩)] from by (rw [← hw1, ← hb0]; repeat (first | exact At.nw (by first | rfl | simp only [World.size_alloc]) | refine At.old ?_ _)))
  have A2 := Lib.hid (show At w1 (b0 + 1) 3 #[.int .i64 page] from by (rw [← hw1, ← hb0]; repeat (first | exact At.nw (by first | rfl | simp only [World.size_alloc]) | refine At.old ?_ _)))
  have A3 := Lib.hid (show At w1 (b0 + 1 + 1) 32 #[.func (.func 51) #[] #[.pointer (some ⟨b0, 0, none⟩), .pointer (some ⟨b0 + 1, 0, none⟩)]] from by (rw [← hw1, ← hb0]; repeat (first | exact At.nw (by first | rfl | simp only [World.size_alloc]) | refine At.old ?_ _)))
  have F1 := Lib.hid (show Fr [] w w1 from by rw [← hw1]; exact (by repeat (first | exact Fr.refl _ _ | assumption | refine Fr.trans0 ?_ (by assumption) | refine Fr.drewN ?_ _ | refine Fr.alloc ?_ _ | refine Fr.drew ?_)))
  have S1 := Lib.hid (h.fr0 F1.out)
  have hgl := Lib.hid (show i.g < b0 from by rw [← hb0]; exact h.G.lt.2.2)
  have HW1 := Lib.hid hw1
  have HB0 := Lib.hid hb0
  clear h hw1 hb0
  have c0 := S1.out.S.cell 0
  have c4 := S1.out.S.cell 4
  unfold Sm.cells at c0 c4
  simp only [List.getElem?_toArray, List.getElem?_cons_zero, List.getElem?_cons_succ] at c0 c4
  have NG := Lib.hid (show b0 ≠ i.g ∧ b0 + 1 ≠ i.g from by have := hgl.out; omega)
  have CV := Lib.hid (swvisit1_gen w0 w1 i s x pv S1.out b0 (b0 + 1) page (A1.out.cell 0) (A2.out.cell 0) NG.out.1 NG.out.2 (fun W => Gn W i.gp i.p i.g 16 (upd x.F P false) x.m.ep ∧ Fr [i.g] w1 W) true (fun W hW => by
    rw [← hpg]
    exact (gmark_yes W _ _ _ _ _ _ (S1.out.fr0 hW).G P hP hF).mono fun r w' ⟨e1, e2, e3⟩ => ⟨e1, ⟨e2, (hW.more (by simp)).trans e3 (fun k hk => .inl hk)⟩, e3⟩))
  have CI := Lib.hid (swin_1 w1 i.sp i.gp 2 x.st c0 c4 (b0 + 1 + 1) 1 51 #[.pointer (some ⟨b0, 0, none⟩), .pointer (some ⟨b0 + 1, 0, none⟩)] (fun W => Gn W i.gp i.p i.g 16 (upd x.F P false) x.m.ep ∧ Fr [i.g] w1 W) true (by omega) (A3.out.cell 0) (fun args w => by kernel_rfl) CV.out)
  have H1 := Lib.hid h1
  have HPG := Lib.hid hpg
  clear h1 c0 c4 CV hpg hF
  go_enter Tryz.func12, Tryz.ntmps12
  go_wp2_with fail
  rw [HW1.out, HB0.out]
  refine CI.out.mono ?_
  rintro e w2 ⟨rfl, hg2, hf2⟩
  have G2 := Lib.hid hg2
  have F2 := Lib.hid hf2
  clear hg2 hf2 CI
  have NE := Lib.hid S1.out.ne
  have hm1 : ∀ k ∈ [i.g], k ∈ i.mut := by unfold Ids.mut; simp
  have AR2 := Lib.hid (S1.out.arena hm1 F2.out (by have := NE.out; simp; omega) (by have := NE.out; simp; omega))
  have B1 := Lib.hid (A1.out.fr F2.out (by have := NG.out; simp; omega))
  have B2 := Lib.hid (A2.out.fr F2.out (by have := NG.out; simp; omega))
  have SP2 := Lib.hid (S1.out.S.fr F2.out (by have := NE.out; simp; omega))
  have NB := Lib.hid (show b0 ≠ i.ag ∧ b0 + 1 ≠ i.ag from by
    obtain ⟨cs, hag⟩ := Ar.wordsAt AR2.out
    exact ⟨B1.out.diff hag (by decide), B2.out.diff hag (by decide)⟩)
  go_upto_region 3 with (fail)
  have q1 := SP2.out.cell 1
  have q3 := SP2.out.cell 3
  unfold Sm.cells at q1 q3
  simp only [List.getElem?_toArray, List.getElem?_cons_zero, List.getElem?_cons_succ] at q1 q3
  have Q0 := Lib.hid fun W (hW : Fr [] w2 W) => (B1.out.fr hW (by simp)).cell 0
  have Q4 := Lib.hid fun W (hW : Fr [] w2 W) => (B2.out.fr hW (by simp)).cell 0
  have Q1 := Lib.hid fun W (hW : Fr [] w2 W) => (hW.cell (a := ⟨i.sp, 1, none⟩) SP2.out.lt (by simp)).trans q1
  have Q3 := Lib.hid fun W (hW : Fr [] w2 W) => (hW.cell (a := ⟨i.sp, 3, none⟩) SP2.out.lt (by simp)).trans q3
  clear q1 q3
  refine wp_region_L (fun W => Fr [] w2 W) [9] (by kernel_rfl) ((Fr.refl _ _).drew) (fun hHeld => ?_)
  refine wpAnyL_take (i := 0) (v := ?_) rfl (by kernel_rfl) (fun _ _ _ h => h) (Or.inl ⟨by rfl, ?_⟩) (by assumption) ?_; rotate_left; (focus (intro w hSw; (have cc := Q0.out _ hSw); go_simp; (try with_reducible rfl))); (try (refine wpAnyL_norm (by simp only [Act.put, List.setIfInBounds_toArray, List.set_cons_zero, List.set_cons_succ]; rfl) ?_))
  refine wpAnyL_take (i := 1) (v := ?_) rfl (by kernel_rfl) (fun _ _ _ h => h) (Or.inl ⟨by rfl, ?_⟩) (by assumption) ?_; rotate_left; (focus (intro w hSw; skip; go_simp; (try with_reducible rfl))); (try (refine wpAnyL_norm (by simp only [Act.put, List.setIfInBounds_toArray, List.set_cons_zero, List.set_cons_succ]; rfl) ?_))
  refine wpAnyL_take (i := 2) (v := ?_) rfl (by kernel_rfl) (fun _ _ _ h => h) (Or.inl ⟨by rfl, ?_⟩) (by assumption) ?_; rotate_left; (focus (intro w hSw; skip; go_simp; (try with_reducible rfl))); (try (refine wpAnyL_norm (by simp only [Act.put, List.setIfInBounds_toArray, List.set_cons_zero, List.set_cons_succ]; rfl) ?_))
  refine wpAnyL_take (i := 3) (v := ?_) rfl (by kernel_rfl) (fun _ _ _ h => h) (Or.inl ⟨by rfl, ?_⟩) (by assumption) ?_; rotate_left; (focus (intro w hSw; (have cc := Q1.out _ hSw); go_simp; (try with_reducible rfl))); (try (refine wpAnyL_norm (by simp only [Act.put, List.setIfInBounds_toArray, List.set_cons_zero, List.set_cons_succ]; rfl) ?_))
  refine wpAnyL_take (i := 4) (v := ?_) rfl (by kernel_rfl) (fun _ _ _ h => h) (Or.inl ⟨by rfl, ?_⟩) (by assumption) ?_; rotate_left; (focus (intro w hSw; (have cc := Q4.out _ hSw); go_simp; (try with_reducible rfl))); (try (refine wpAnyL_norm (by simp only [Act.put, List.setIfInBounds_toArray, List.set_cons_zero, List.set_cons_succ]; rfl) ?_))
  refine wpAnyL_take (i := 5) (v := ?_) rfl (by kernel_rfl) (fun _ _ _ h => h) (Or.inl ⟨by rfl, ?_⟩) (by assumption) ?_; rotate_left; (focus (intro w hSw; (have cc := Q0.out _ hSw); go_simp; (try with_reducible rfl))); (try (refine wpAnyL_norm (by simp only [Act.put, List.setIfInBounds_toArray, List.set_cons_zero, List.set_cons_succ]; rfl) ?_))
  refine wpAnyL_take (i := 6) (v := ?_) rfl (by kernel_rfl) (fun _ _ _ h => h) (Or.inl ⟨by rfl, ?_⟩) (by assumption) ?_; rotate_left; (focus (intro w hSw; skip; go_simp; (try with_reducible rfl))); (try (refine wpAnyL_norm (by simp only [Act.put, List.setIfInBounds_toArray, List.set_cons_zero, List.set_cons_succ]; rfl) ?_))
  refine wpAnyL_take (i := 7) (v := ?_) rfl (by kernel_rfl) (fun _ _ _ h => h) (Or.inl ⟨by rfl, ?_⟩) (by assumption) ?_; rotate_left; (focus (intro w hSw; skip; go_simp; (try with_reducible rfl))); (try (refine wpAnyL_norm (by simp only [Act.put, List.setIfInBounds_toArray, List.set_cons_zero, List.set_cons_succ]; rfl) ?_))
  refine wpAnyL_take (i := 8) (v := ?_) rfl (by kernel_rfl) (fun _ _ _ h => h) (Or.inl ⟨by rfl, ?_⟩) (by assumption) ?_; rotate_left; (focus (intro w hSw; (have cc := Q3.out _ hSw); go_simp; (try with_reducible rfl))); (try (refine wpAnyL_norm (by simp only [Act.put, List.setIfInBounds_toArray, List.set_cons_zero, List.set_cons_succ]; rfl) ?_))
  have CP := Lib.hid (spage_gen i.ap i.q i.ag i.bg i.cap x.bs x.f (AR2.out.fr0 hHeld) (pv := pv) (hs := x.hs) (fun W hW => Pn.has (S1.out.paint (S := [i.g, i.ag]) (by unfold Ids.mut; simp) (((F2.out.trans0 hHeld).more (T := [i.g, i.ag]) (by simp)).trans hW (by simp)))) page)
  have F3 := Lib.hid (F2.out.trans0 hHeld)
  have G3 := Lib.hid (G2.out.fr hHeld (by simp) (by simp) (by simp))
  have SP3 := Lib.hid (SP2.out.fr hHeld (by simp))
  have C1' := Lib.hid (B1.out.fr hHeld (by simp))
  refine wpAnyL_ready (rs := [9]) (by kernel_rfl) (by simp) ?_; refine AllReadyL.cons rfl (fun K hK => ?_) AllReadyL.nil
  go_simp
  refine CP.out.mono ?_
  rintro e w4 ⟨rfl, h4, hf4⟩
  have A4 := Lib.hid h4
  have F4 := Lib.hid ((F3.out.more (T := [i.g, i.ag]) (by simp)).trans hf4 (by simp))
  have PN := Lib.hid (show i.p ∉ [i.ag] from by
    obtain ⟨⟨cs, k1⟩, _⟩ := Gn.words S1.out.G
    exact S1.out.notin (S := [i.ag]) (by unfold Ids.mut; simp) k1 (by decide) (by decide) (by decide) (by decide))
  have G4 := Lib.hid (G3.out.fr hf4 (by have := NE.out; simp; omega) PN.out (by have := NE.out; simp; omega))
  have SP4 := Lib.hid (SP3.out.fr hf4 (by have := NE.out; simp; omega))
  have D4 := Lib.hid (C1'.out.fr hf4 (by have := NB.out; simp; omega))
  clear h4 hf4 CP hHeld Q0 Q1 Q3 Q4
  refine hK.out _ _ (fun h => (h (by decide)).elim) (fun _ => ?_); clear hK K; (try (refine wpAnyL_norm (by simp only [Act.put, List.setIfInBounds_toArray, List.set_cons_zero, List.set_cons_succ]; rfl) ?_))
  refine wpAnyL_done (by kernel_rfl) ?_ _
  have q0 := D4.out.cell 0
  have q5 := SP4.out.cell 5
  have z5 := SP4.out.froz 5
  unfold Sm.cells at q5
  simp only [List.getElem?_toArray, List.getElem?_cons_zero, List.getElem?_cons_succ] at q0 q5
  have hw5 : IntKind.u64.wrap ((x.vis : Int) + 1) = (x.vis : Int) + 1 := by simp [IntKind.wrap, IntKind.signed, IntKind.bits]; omega
  have SP5 := Lib.hid (SP4.out.set 5 (.int .u64 ((x.vis : Int) + 1)))
  have hm3 : ∀ k ∈ [i.g, i.ag, i.sp], k ∈ i.mut := by unfold Ids.mut; simp
  have f5 : Fr [i.sp] w4 (w4.setCell ⟨i.sp, 5, none⟩ (.int .u64 ((x.vis : Int) + 1))) := (Fr.refl _ _).set (.inl (by simp)) _
  have F5 := Lib.hid ((F4.out.more (T := [i.g, i.ag, i.sp]) (by simp)).trans f5 (by simp))
  have G5 := Lib.hid (G4.out.fr f5 (by have := NE.out; simp; omega) (by
    obtain ⟨⟨cs, k1⟩, _⟩ := Gn.words S1.out.G
    exact S1.out.notin (S := [i.sp]) (by unfold Ids.mut; simp) k1 (by decide) (by decide) (by decide) (by decide)) (by have := NE.out; simp; omega))
  have A5 := Lib.hid (A4.out.fr f5 (by
    obtain ⟨a1, a2, a3, a4, a5, a6, _⟩ := id S1.out.A
    exact S1.out.notin (S := [i.sp]) (by unfold Ids.mut; simp) a6 (by decide) (by decide) (by decide) (by decide)) (by
    obtain ⟨a1, a2, a3, a4, a5, a6, ⟨b1, b2, b3, c, cs', b4, b5, b6, b7⟩, _⟩ := id S1.out.A
    exact S1.out.notin (S := [i.sp]) (by unfold Ids.mut; simp) b5 (by decide) (by decide) (by decide) (by decide)) (by have := NE.out; simp; omega) (by have := NE.out; simp; omega))
  clear f5 SP4 G4 A4 F4
  go_wp2_with fail
  go_ret
  exact ⟨rfl, S1.out.mk2 hm3 F5.out _ SP5.out G5.out A5.out rfl rfl (by rw [S1.out.un]) (fun e => absurd (H1.out.symm.trans e) (by decide)), (F1.out.more (by simp)).trans F5.out (fun k hk => .inl hk)⟩
end
end Go.Proofs.YthjbnbimfpbccaaGreatDoor
/-
  A sweeper's next page. Condition: as for a sweeper.
-/





set_option linter.unusedVariables false
namespace Go.Proofs.YthjbnbimfpbccaaGreatDoor
open Go.ChangeShapes Go.WideShapes Go.ChangeAt Go.RowKit
section
variable (w0 w : World) (i : Ids) (s : YS) (x : Sm) (pv : Option Addr) (h : Sw w0 w i s x pv)
include h
theorem Sw.tab : Tab w := h.T.fr h.Y.f (by simp)
theorem swpage_out (h1 : x.st ≠ 2) : Calls Tryz.prog 14 #[.pointer (some ⟨i.sp, 0, none⟩)] w fun r w' => r = .returned (.tuple #[.int .i64 0, .bool false]) ∧ w = w' := by
  have c0 := h.S.cell 0
  have c4 := h.S.cell 4
  unfold Sm.cells at c0 c4
  simp only [List.getElem?_toArray, List.getElem?_cons_zero, List.getElem?_cons_succ] at c0 c4
  have CI := Lib.hid (swin_no w i.sp i.gp 2 x.st c0 c4 (.slice none 0 0) (by omega))
  clear h h1 c0 c4
  go_enter Tryz.func14, Tryz.ntmps14
  go_wp2_with fail
  refine CI.out.mono ?_
  rintro e w' ⟨rfl, rfl⟩
  go_wp2_with fail
  go_ret2
  exact ⟨rfl, rfl⟩
theorem swpage_no (h1 : x.st = 2) (hn : nxtB x.F 16 = false) : Calls Tryz.prog 14 #[.pointer (some ⟨i.sp, 0, none⟩)] w fun r w' => r = .returned (.tuple #[.int .i64 0, .bool false]) ∧ Fr [] w w' := by
  have c0 := h.S.cell 0
  have c4 := h.S.cell 4
  unfold Sm.cells at c0 c4
  simp only [List.getElem?_toArray, List.getElem?_cons_zero, List.getElem?_cons_succ] at c0 c4
  have CI := Lib.hid (swin_0 w i.sp i.gp 2 x.st c0 c4 0 (by omega))
  have CN := Lib.hid (gnext_any w _ _ _ _ _ _ h.G h.tab)
  rw [hn] at CN
  obtain ⟨N, hN⟩ : ∃ N, nxtP x.F 16 = N := ⟨_, rfl⟩
  rw [hN] at CN
  clear h h1 c4 hN hn
  go_enter Tryz.func14, Tryz.ntmps14
  go_wp2_with fail
  refine CI.out.mono ?_
  rintro e w' ⟨rfl, rfl⟩
  go_wp2_with fail
  refine CN.out.mono ?_
  rintro e w2 ⟨rfl, hf⟩
  have F2 := Lib.hid hf
  clear hf CN
  go_wp2_with fail
  go_ret2
  exact ⟨rfl, F2.out⟩
theorem swpage_yes (P : Nat) (hP : P < 16) (hF : x.F P = true) (hB : nxtB x.F 16 = true) (hN : nxtP x.F 16 = P) (h1 : x.st = 2) (hv : x.vis < 1000000) : Calls Tryz.prog 14 #[.pointer (some ⟨i.sp, 0, none⟩)] w fun r w' => r = .returned (.tuple #[.int .i64 P, .bool true]) ∧ Sw w0 w' i s { x with vis := x.vis + 1, F := upd x.F P false, f := pgT x.bs x.hs x.f (tgP x.bs.length x.f P) } pv ∧ Fr [i.g, i.ag, i.sp] w w' := by
  have c0 := h.S.cell 0
  have c4 := h.S.cell 4
  unfold Sm.cells at c0 c4
  simp only [List.getElem?_toArray, List.getElem?_cons_zero, List.getElem?_cons_succ] at c0 c4
  have CI := Lib.hid (swin_0 w i.sp i.gp 2 x.st c0 c4 0 (by omega))
  have CN := Lib.hid (gnext_any w _ _ _ _ _ _ h.G h.tab)
  rw [hB, hN] at CN
  have CV := Lib.hid fun W (hW : Fr [] w W) => swvisit_yes w0 W i s x pv (h.fr0 hW) P hP hF h1 hv
  obtain ⟨x', hx⟩ : ∃ x' : Sm, { x with vis := x.vis + 1, F := upd x.F P false, f := pgT x.bs x.hs x.f (tgP x.bs.length x.f P) } = x' := ⟨_, rfl⟩
  rw [hx] at CV ⊢
  clear h h1 c4 hN hB hF hx hv
  go_enter Tryz.func14, Tryz.ntmps14
  go_wp2_with fail
  refine CI.out.mono ?_
  rintro e w' ⟨rfl, rfl⟩
  go_wp2_with fail
  refine CN.out.mono ?_
  rintro e w2 ⟨rfl, hf⟩
  have F2 := Lib.hid hf
  clear hf CN
  go_wp2_with fail
  refine (CV.out _ F2.out).mono ?_
  rintro e w3 ⟨rfl, h3, hf3⟩
  have H3 := Lib.hid h3
  have F3 := Lib.hid ((F2.out.more (T := [i.g, i.ag, i.sp]) (by simp)).trans hf3 (fun k hk => .inl hk))
  clear h3 hf3 CV
  go_wp2_with fail
  go_ret2
  exact ⟨rfl, H3.out, F3.out⟩
end
end Go.Proofs.YthjbnbimfpbccaaGreatDoor
/-
  A sweep's end. Condition: as for a sweeper.
-/



set_option linter.unusedVariables false
namespace Go.Proofs.YthjbnbimfpbccaaGreatDoor
open Go.ChangeShapes Go.WideShapes Go.ChangeAt Go.RowKit
section
variable (w0 w : World) (i : Ids) (s : YS) (x : Sm) (pv : Option Addr) (h : Sw w0 w i s x pv)
include h
theorem swend1_any (q : Nat) (hq : w.cell? ⟨q, 0, none⟩ = some (.pointer (some ⟨i.sp, 0, none⟩))) : Calls Tryz.prog 54 #[.pointer (some ⟨q, 0, none⟩)] w fun r w' => r = .returned (.bool (decide (cnt x.F 16 = 0))) ∧ w = w' := by
  have CL := Lib.hid (swleft_any w0 w i s x pv h)
  obtain ⟨N, hN⟩ : ∃ N, cnt x.F 16 = N := ⟨_, rfl⟩
  rw [hN] at CL ⊢
  clear h hN
  by_cases h0 : N = 0
  · subst h0
    go_enter Tryz.func54, Tryz.ntmps54
    go_wp2_with fail
    refine CL.out.mono ?_
    rintro e w' ⟨rfl, rfl⟩
    go_wp2_with fail
    go_ret
    exact ⟨rfl, rfl⟩
  · have h1 : ((N : Int) == 0) = false := by simp; omega
    rw [decide_eq_false h0]
    clear h0
    go_enter Tryz.func54, Tryz.ntmps54
    go_wp2_with fail
    refine CL.out.mono ?_
    rintro e w' ⟨rfl, rfl⟩
    go_wp2_with fail
    go_ret
    exact ⟨rfl, rfl⟩
theorem swend_out (h1 : x.st ≠ 2) : Calls Tryz.prog 13 #[.pointer (some ⟨i.sp, 0, none⟩)] w fun r w' => r = .returned (.tuple #[.slice none 0 0, .bool false]) ∧ Fr [] w w' := by
  obtain ⟨b0, hb0⟩ : ∃ b, w.heap.size = b := ⟨_, rfl⟩
  obtain ⟨w1, hw1⟩ : ∃ W, (w.alloc (.cells #[.pointer (some ⟨i.sp, 0, none⟩)] 25)).alloc (.cells #[.func (.func 54) #[] #[.pointer (some ⟨w.heap.size, 0, none⟩)]] 32) = W := ⟨_, rfl⟩
  have A1 := Lib.hid (show At w1 b0 25 #[.pointer (some ⟨i.sp, 0, none⟩)] from by (rw [← hw1, ← hb0]; repeat (first | exact At.nw (by first | rfl | simp only [World.size_alloc]) | refine At.old ?_ _)))
  have A3 := Lib.hid (show At w1 (b0 + 1) 32 #[.func (.func 54) #[] #[.pointer (some ⟨b0, 0, none⟩)]] from by (rw [← hw1, ← hb0]; repeat (first | exact At.nw (by first | rfl | simp only [World.size_alloc]) | refine At.old ?_ _)))
  have F1 := Lib.hid (show Fr [] w w1 from by rw [← hw1]; exact (by repeat (first | exact Fr.refl _ _ | assumption | refine Fr.trans0 ?_ (by assumption) | refine Fr.drewN ?_ _ | refine Fr.alloc ?_ _ | refine Fr.drew ?_)))
  have S1 := Lib.hid (h.fr0 F1.out)
  have HW1 := Lib.hid hw1
  have HB0 := Lib.hid hb0
  clear h hw1 hb0
  have c0 := S1.out.S.cell 0
  have c4 := S1.out.S.cell 4
  unfold Sm.cells at c0 c4
  simp only [List.getElem?_toArray, List.getElem?_cons_zero, List.getElem?_cons_succ] at c0 c4
  have CI := Lib.hid (swin_no w1 i.sp i.gp 2 x.st c0 c4 (.slice (some ⟨b0 + 1, 0, none⟩) 1 1) (by omega))
  clear h1 c0 c4
  go_enter Tryz.func13, Tryz.ntmps13
  go_wp2_with fail
  rw [HW1.out, HB0.out]
  refine CI.out.mono ?_
  rintro e w' ⟨rfl, rfl⟩
  go_wp2_with fail
  go_ret2
  exact ⟨rfl, F1.out⟩
theorem swend_no (h1 : x.st = 2) (hn : cnt x.F 16 ≠ 0) : Calls Tryz.prog 13 #[.pointer (some ⟨i.sp, 0, none⟩)] w fun r w' => r = .returned (.tuple #[.slice none 0 0, .bool false]) ∧ Fr [] w w' := by
  obtain ⟨b0, hb0⟩ : ∃ b, w.heap.size = b := ⟨_, rfl⟩
  obtain ⟨w1, hw1⟩ : ∃ W, (w.alloc (.cells #[.pointer (some ⟨i.sp, 0, none⟩)] 25)).alloc (.cells #[.func (.func 54) #[] #[.pointer (some ⟨w.heap.size, 0, none⟩)]] 32) = W := ⟨_, rfl⟩
  have A1 := Lib.hid (show At w1 b0 25 #[.pointer (some ⟨i.sp, 0, none⟩)] from by (rw [← hw1, ← hb0]; repeat (first | exact At.nw (by first | rfl | simp only [World.size_alloc]) | refine At.old ?_ _)))
  have A3 := Lib.hid (show At w1 (b0 + 1) 32 #[.func (.func 54) #[] #[.pointer (some ⟨b0, 0, none⟩)]] from by (rw [← hw1, ← hb0]; repeat (first | exact At.nw (by first | rfl | simp only [World.size_alloc]) | refine At.old ?_ _)))
  have F1 := Lib.hid (show Fr [] w w1 from by rw [← hw1]; exact (by repeat (first | exact Fr.refl _ _ | assumption | refine Fr.trans0 ?_ (by assumption) | refine Fr.drewN ?_ _ | refine Fr.alloc ?_ _ | refine Fr.drew ?_)))
  have S1 := Lib.hid (h.fr0 F1.out)
  have HW1 := Lib.hid hw1
  have HB0 := Lib.hid hb0
  clear h hw1 hb0
  have c0 := S1.out.S.cell 0
  have c4 := S1.out.S.cell 4
  unfold Sm.cells at c0 c4
  simp only [List.getElem?_toArray, List.getElem?_cons_zero, List.getElem?_cons_succ] at c0 c4
  have CV := Lib.hid (swend1_any w0 w1 i s x pv S1.out b0 (A1.out.cell 0))
  rw [decide_eq_false hn] at CV
  have CI := Lib.hid (swin_1 w1 i.sp i.gp 2 x.st c0 c4 (b0 + 1) 1 54 #[.pointer (some ⟨b0, 0, none⟩)] (fun W => w1 = W) false (by omega) (A3.out.cell 0) (fun args w => by kernel_rfl) CV.out)
  clear h1 c0 c4 hn CV
  go_enter Tryz.func13, Tryz.ntmps13
  go_wp2_with fail
  rw [HW1.out, HB0.out]
  refine CI.out.mono ?_
  rintro e w' ⟨rfl, rfl⟩
  go_wp2_with fail
  go_ret2
  exact ⟨rfl, F1.out⟩
end
end Go.Proofs.YthjbnbimfpbccaaGreatDoor
/-
  A sweep's end that is one. Condition: as for a sweeper.
-/





set_option linter.unusedVariables false
namespace Go.Proofs.YthjbnbimfpbccaaGreatDoor
open Go.ChangeShapes Go.WideShapes Go.ChangeAt Go.RowKit
set_option maxRecDepth 100000 in
theorem swend_yes (w0 w : World) (i : Ids) (s : YS) (x : Sm) (pv : Option Addr) (h : Sw w0 w i s x pv) (h1 : x.st = 2) (hn : cnt x.F 16 = 0) : Calls Tryz.prog 13 #[.pointer (some ⟨i.sp, 0, none⟩)] w fun r w' => ∃ v s', r = .returned (.tuple #[v, .bool true]) ∧ w'.ownsRow 0 45 2 v x.m.lb.length (rgv x.m.lb) ∧ (∀ g, v.ownBlock = some g → g ∉ s.foot) ∧ Sw w0 w' i s' { x with st := 0, m := mEnd x.m } pv ∧ Fr (i.sp :: s.foot) w w' ∧ ∀ k ∈ s'.foot, k ∈ s.foot ∨ w.heap.size ≤ k := by
  obtain ⟨b0, hb0⟩ : ∃ b, w.heap.size = b := ⟨_, rfl⟩
  obtain ⟨w1, hw1⟩ : ∃ W, (w.alloc (.cells #[.pointer (some ⟨i.sp, 0, none⟩)] 25)).alloc (.cells #[.func (.func 54) #[] #[.pointer (some ⟨w.heap.size, 0, none⟩)]] 32) = W := ⟨_, rfl⟩
  have A1 := Lib.hid (show At w1 b0 25 #[.pointer (some ⟨i.sp, 0, none⟩)] from by (rw [← hw1, ← hb0]; repeat (first | exact At.nw (by first | rfl | simp only [World.size_alloc]) | refine At.old ?_ _)))
  have A3 := Lib.hid (show At w1 (b0 + 1) 32 #[.func (.func 54) #[] #[.pointer (some ⟨b0, 0, none⟩)]] from by (rw [← hw1, ← hb0]; repeat (first | exact At.nw (by first | rfl | simp only [World.size_alloc]) | refine At.old ?_ _)))
  have F1 := Lib.hid (show Fr [] w w1 from by rw [← hw1]; exact (by repeat (first | exact Fr.refl _ _ | assumption | refine Fr.trans0 ?_ (by assumption) | refine Fr.drewN ?_ _ | refine Fr.alloc ?_ _ | refine Fr.drew ?_)))
  have S1 := Lib.hid (h.fr0 F1.out)
  have HW1 := Lib.hid hw1
  have HB0 := Lib.hid hb0
  clear h hw1 hb0
  have c0 := S1.out.S.cell 0
  have c4 := S1.out.S.cell 4
  unfold Sm.cells at c0 c4
  simp only [List.getElem?_toArray, List.getElem?_cons_zero, List.getElem?_cons_succ] at c0 c4
  have hun : x.m.un = true := by rw [S1.out.un, h1]; rfl
  have HUN := Lib.hid hun
  have HN := Lib.hid hn
  have hb0 := A1.out.cell 0
  have z4 := S1.out.S.froz 4
  have hne : b0 ≠ i.sp := A1.out.diff S1.out.S (by decide)
  have CV := Lib.hid (swend1_any w0 w1 i s x pv S1.out b0 (A1.out.cell 0))
  rw [decide_eq_true hn] at CV
  have CI := Lib.hid (swin_1 w1 i.sp i.gp 2 x.st c0 c4 (b0 + 1) 1 54 #[.pointer (some ⟨b0, 0, none⟩)] (fun W => w1 = W) true (by omega) (A3.out.cell 0) (fun args w => by kernel_rfl) CV.out)
  clear h1 hn CV hun
  go_enter Tryz.func13, Tryz.ntmps13
  go_wp2_with fail
  rw [HW1.out, HB0.out]
  refine CI.out.mono ?_
  rintro e w' ⟨rfl, rfl⟩
  clear CI
  go_upto_region 4 with (fail)
  have f2 : Fr [i.sp] w1 (w1.setCell ⟨i.sp, 4, none⟩ (.int .i64 0)) := (Fr.refl _ _).set (.inl (by simp)) _
  have hm : ∀ k ∈ [i.sp], k ∈ i.mut := by unfold Ids.mut; simp
  have SP2 := Lib.hid (S1.out.S.set 4 (.int .i64 0))
  have B2 := Lib.hid (A1.out.fr f2 (by simpa using hne))
  have Y2 := Lib.hid (S1.out.yard hm f2)
  have F2 := Lib.hid f2
  obtain ⟨w2, hw2⟩ : ∃ W, w1.setCell ⟨i.sp, 4, none⟩ (.int .i64 0) = W := ⟨_, rfl⟩
  rw [hw2] at SP2 B2 Y2 F2 ⊢
  clear hw2 f2 c0 c4 z4 hb0
  have PN2 := S1.out.paint hm F2.out
  have V2 : Hid (Sv w0 w2 i s { x with st := 0 } pv) := Lib.hid (S1.out.toSv.self 0 x.vis x.hs F2.out SP2.out PN2)
  have nsp : i.sp ∉ s.foot := Y2.out.nfootY (V2.out.off i.sp (by unfold Ids.mut; simp))
  have CE := Lib.hid (end_c Y2.out)
  rw [HUN.out, if_pos rfl] at CE
  have q0 := B2.out.cell 0
  have q2 := SP2.out.cell 2
  unfold Sm.cells at q2
  simp only [List.getElem?_toArray, List.getElem?_cons_zero] at q0 q2
  have HSP := Lib.hid nsp
  clear PN2 nsp hm hne
  go_wp2_with fail
  refine CE.out.mono ?_
  rintro e w3 ⟨v, rfl, hr, hown, s', ht⟩
  have HR := Lib.hid hr
  have HO := Lib.hid hown
  have HT := Lib.hid ht
  clear hr hown ht CE
  go_wp2_with fail
  go_ret2
  have e1 : (mEnd x.m).n = x.m.n ∧ (mEnd x.m).ep = x.m.ep ∧ (mEnd x.m).un = false := by unfold mEnd; rw [HUN.out]; simp
  exact ⟨v, s', rfl, HR.out, HO.out, V2.out.turn HT.out e1.1 e1.2.1 0 (by rw [e1.2.2]; rfl) (fun _ => HN.out) (SP2.out.fr HT.out.f HSP.out), ((F1.out.more (by simp)).trans (F2.out.more (T := i.sp :: s.foot) (fun k hk => .inl (by simp at hk; subst hk; simp))) (fun k hk => .inl hk)).trans HT.out.f (fun k hk => .inl (List.mem_cons_of_mem _ hk)), fun k hk => (HT.out.foot k hk).imp id (fun e => Nat.le_trans F1.out.size (Nat.le_trans F2.out.size e))⟩
end Go.Proofs.YthjbnbimfpbccaaGreatDoor
/-
  A sweeper while a region is freed, while a capability is stored. Condition: numbers in their types' ranges.
-/









set_option linter.unusedVariables false
namespace Go.Proofs.YthjbnbimfpbccaaGreatDoor
open Go.ChangeShapes Go.WideShapes Go.ChangeAt Go.RowKit
section
variable (w0 w : World) (i : Ids) (s : YS) (x : Sm) (pv : Option Addr) (h : Sw w0 w i s x pv)
include h
theorem swfree_any (a r : Nat) (ha : a < 4294967296) (hr : r < 4294967296) : Calls Tryz.prog 17 #[.pointer (some ⟨i.y, 0, none⟩), .agg #[.int .u32 a, .int .u32 r]] w fun e w' => e = .returned (.bool (frB x.m a r)) ∧ ∃ s', Sw w0 w' i s' { x with m := mFree x.m a r } pv ∧ Fr s.foot w w' ∧ ∀ k ∈ s'.foot, k ∈ s.foot ∨ w.heap.size ≤ k := by
  refine (free_c h.Y a r ha hr).mono ?_
  rintro e w' ⟨rfl, s', ht⟩
  have e1 : (mFree x.m a r).n = x.m.n ∧ (mFree x.m a r).ep = x.m.ep ∧ (mFree x.m a r).un = x.m.un := by unfold mFree; split <;> exact ⟨rfl, rfl, rfl⟩
  exact ⟨rfl, s', h.toSv.turn ht e1.1 e1.2.1 x.st (e1.2.2.trans h.un) h.z (h.S.fr ht.f (h.Y.nfootY (h.off i.sp (by unfold Ids.mut; simp)))), ht.f, ht.foot⟩
theorem swstorec_any (a : Nat) (ha : a < 4294967296) (c : Cp) (hc : c.Ok) : Calls Tryz.prog 18 #[.pointer (some ⟨i.ap, 0, none⟩), .int .u32 a, .agg c.cells] w fun e w' => e = .returned (.bool (whB x.bs.length a)) ∧ Sw w0 w' i s { x with bs := scL x.bs a c, f := scF x.bs x.f a c } pv ∧ Fr [i.ag, i.bg] w w' := by
  refine (astorec_b w _ _ _ _ _ _ _ h.A a ha c hc).mono ?_
  rintro e w' ⟨rfl, h2, hf⟩
  have hm : ∀ k ∈ [i.ag, i.bg], k ∈ i.mut := by unfold Ids.mut; simp
  have ne := h.ne
  exact ⟨rfl, h.mk2 hm hf _ (h.S.fr hf (by simp; omega)) (h.gens hm hf (by simp; omega) (by simp; omega)) h2 rfl rfl h.un h.z, hf⟩
end
end Go.Proofs.YthjbnbimfpbccaaGreatDoor
