/-
  An arena: bytes and tags; what it tells, and what lays bytes. Condition: numbers in their types' ranges.
-/





import Derived.Test.YtilgklpponaoeaaCapBytes
import Derived.Test.YtilgklpponaoeaaTags
import Derived.BigRegion
set_option linter.unusedVariables false
namespace Go.Proofs.Ytilgklpponaoeaa
open Go.ChangeShapes Go.WideShapes Go.ChangeAt Go.RowKit
/-- An arena at block ap: its map at p and g, its bytes bs in block bg. -/
def Ar (w : World) (ap p g bg cap : Nat) (bs : List Nat) (f : Nat → Bool) : Prop :=
  bs.length % 16 = 0 ∧ bs.length ≤ 262144 ∧ bs.length ≤ cap ∧ cap ≤ 9223372036854775807 ∧ Byt bs ∧
  At w ap 87 #[.pointer (some ⟨p, 0, none⟩), .slice (some ⟨bg, 0, none⟩) bs.length cap] ∧ Tg w p g (bs.length / 16) f ∧
  ∃ cs : Array Value, At w bg 5 cs ∧ bs.length ≤ cs.size ∧ cs.toList.take bs.length = bys bs
section
variable {w w' : World} {ap p g bg cap : Nat} {bs : List Nat} {f : Nat → Bool} {S : List Nat}
theorem At.diff {g g' : Nat} {t t' : TypeId} {cs cs' : Array Value} (h : At w g t cs) (h' : At w g' t' cs') (ht : t ≠ t') : g ≠ g' := by
  rintro rfl
  exact ht (At.inj h h').1
theorem Ar.fr (h : Ar w ap p g bg cap bs f) (hf : Fr S w w') (h1 : ap ∉ S) (h2 : p ∉ S) (h3 : g ∉ S) (h4 : bg ∉ S) : Ar w' ap p g bg cap bs f := by
  obtain ⟨a1, a2, a3, a4, a5, a6, a7, cs, a8, a9, a10⟩ := h
  exact ⟨a1, a2, a3, a4, a5, a6.fr hf h1, a7.fr hf h2 h3, cs, a8.fr hf h4, a9, a10⟩
theorem Ar.fr0 (h : Ar w ap p g bg cap bs f) (hf : Fr [] w w') : Ar w' ap p g bg cap bs f := h.fr hf (by simp) (by simp) (by simp) (by simp)
theorem Ar.top (h : Ar w ap p g bg cap bs f) : w.cell? ⟨ap, 0, none⟩ = some (.pointer (some ⟨p, 0, none⟩)) ∧ w.cell? ⟨ap, 1, none⟩ = some (.slice (some ⟨bg, 0, none⟩) bs.length cap) := by
  obtain ⟨a1, a2, a3, a4, a5, a6, _⟩ := h
  exact ⟨a6.cell 0, a6.cell 1⟩
theorem Ar.lt (h : Ar w ap p g bg cap bs f) : ap < w.heap.size ∧ p < w.heap.size ∧ g < w.heap.size ∧ bg < w.heap.size := by
  obtain ⟨a1, a2, a3, a4, a5, a6, a7, cs, a8, a9, a10⟩ := h
  exact ⟨a6.lt, a7.lt.1, a7.lt.2, a8.lt⟩
theorem Ar.ne (h : Ar w ap p g bg cap bs f) : ap ≠ bg ∧ p ≠ bg ∧ g ≠ bg ∧ ap ≠ g ∧ p ≠ g ∧ ap ≠ p := by
  obtain ⟨a1, a2, a3, a4, a5, a6, ⟨b1, b2, b3, c, cs', b4, b5, b6, b7⟩, cs, a8, a9, a10⟩ := h
  exact ⟨a6.diff a8 (by decide), b5.diff a8 (by decide), b6.diff a8 (by decide), a6.diff b6 (by decide), b1, a6.diff b5 (by decide)⟩
/-- The bytes from a place on. -/
theorem Ar.at_ (h : Ar w ap p g bg cap bs f) (k : Nat) (l : List Nat) (hl : l = (bs.drop k).take l.length) (j : Nat) (v : Value) (hv : (bys l)[j]? = some v) : w.cell? ⟨bg, k + j, none⟩ = some v := by
  obtain ⟨a1, a2, a3, a4, a5, a6, a7, cs, a8, a9, a10⟩ := h
  have hj : j < l.length := by have := (List.getElem?_eq_some_iff.1 hv).1; rwa [bys_len] at this
  rw [hl, ← bys_take, ← bys_drop, List.getElem?_take, if_pos hj, List.getElem?_drop, ← a10, List.getElem?_take] at hv
  by_cases hk : k + j < bs.length
  · rw [if_pos hk] at hv
    rw [a8.cell]
    simpa using hv
  · rw [if_neg hk] at hv
    simp at hv
end
/-! ### copy into a longer slice -/
section
variable {P : Program}
theorem run_copy_le (w : World) (dT sT ty elem : TypeId) (g o nd n dCap : Nat) (hnd : n ≤ nd) (a : Addr) (sCap : Nat) (cur : Array Value) (t : TypeId) (cs : List Value)
    (hu : P.underlying dT = some (.slice elem)) (hs : (P.info? elem).map (·.size) = some 1)
    (hg : w.heap[g]? = some (.cells cur t (0, 0))) (hn : cs.length = n)
    (hsrc : ∀ j v, cs[j]? = some v → w.cell? (a.add j) = some v) (hfit : o + cs.length ≤ cur.size) (h1 : ∀ v ∈ cs, v.oneCell' = true) :
    (Builtin.copy_ #[dT, sT] ty #[.slice (some ⟨g, o, none⟩) nd dCap, .slice (some a) n sCap]).run P w =
      .ok (goInt n) (w.setRow g (cur.toList.take o ++ cs ++ cur.toList.drop (o + cs.length)).toArray) := by
  have hl := run_loadCells_list (P := P) w a cs hsrc
  have hst := run_storeCells_at P g o t cs 0 cur w hg (by simpa using hfit) h1
  have hm : Nat.min n nd = n := Nat.min_eq_left hnd
  cases hq : P.info? elem with
  | none => simp [hq] at hs
  | some i =>
    have hi : i.size = 1 := by simpa [hq] using hs
    rw [hn] at hl hst
    simp [Builtin.copy_, run_underlying hu, Builtin.lenOf, Builtin.firstCells, sizeOf, typeInfo, hq, hi, hl, hst, hn, hm]
theorem run_copy_none (w : World) (dT sT ty elem : TypeId) (d : Option Addr) (nd dCap : Nat) (a : Option Addr) (sCap : Nat)
    (hu : P.underlying dT = some (.slice elem)) (hs : ((P.info? elem).map (·.size)).isSome = true) :
    (Builtin.copy_ #[dT, sT] ty #[.slice d nd dCap, .slice a 0 sCap]).run P w = .ok (goInt 0) w := by
  have hl : ∀ a : Addr, (loadCellsFrom a 0 0 #[]).run P w = .ok #[] w := fun a => by
    have := run_loadCells_list (P := P) w a [] (fun j v h => by simp at h)
    exact this
  cases hq : P.info? elem with
  | none => simp [hq] at hs
  | some i => cases d <;> cases a <;> simp [Builtin.copy_, run_underlying hu, Builtin.lenOf, Builtin.firstCells, sizeOf, typeInfo, hq, storeCells, loadCells, hl]
end
/-! ### what is there -/
theorem anone_no (w : World) (ap p g bg cap : Nat) (bs : List Nat) (f : Nat → Bool) (h : Ar w ap p g bg cap bs f) : Calls Try.prog 32 #[.pointer (some ⟨ap, 0, none⟩)] w fun r w' => r = .returned (.bool false) ∧ w = w' := by
  obtain ⟨c0, c1⟩ := h.top
  clear h
  go_enter Try.func32, Try.ntmps32
  go_wp2_with fail
  go_ret
  exact ⟨rfl, rfl⟩
theorem anone_nil (w : World) : Calls Try.prog 32 #[.pointer none] w fun r w' => r = .returned (.bool true) ∧ w = w' := by
  go_enter Try.func32, Try.ntmps32
  go_wp2_with fail
  go_ret
  exact ⟨rfl, rfl⟩
theorem asize_any (w : World) (ap p g bg cap : Nat) (bs : List Nat) (f : Nat → Bool) (h : Ar w ap p g bg cap bs f) : Calls Try.prog 9 #[.pointer (some ⟨ap, 0, none⟩)] w fun r w' => r = .returned (.int .i64 bs.length) ∧ w = w' := by
  have C := Lib.hid (anone_no w ap p g bg cap bs f h)
  obtain ⟨c0, c1⟩ := h.top
  clear h
  go_enter Try.func9, Try.ntmps9
  go_wp2_with fail
  refine (C.out).mono ?_
  rintro e w' ⟨rfl, rfl⟩
  go_wp2_with fail
  go_ret
  exact ⟨rfl, rfl⟩
def thB (N a : Nat) (n : Int) : Bool := decide (0 ≤ n) && (decide (n ≤ N) && decide ((a : Int) ≤ N - n))
theorem thB_nat (N a n : Nat) : thB N a n = decide (a + n ≤ N) := by
  unfold thB
  by_cases h : a + n ≤ N
  · rw [decide_eq_true h, decide_eq_true (by omega), decide_eq_true (by omega), decide_eq_true (by omega)]; rfl
  · rw [decide_eq_false h]
    by_cases h2 : (n : Int) ≤ N
    · rw [decide_eq_false (show ¬ (a : Int) ≤ N - n by omega), Bool.and_false, Bool.and_false]
    · rw [decide_eq_false h2, Bool.false_and, Bool.and_false]
theorem athere_any (w : World) (ap p g bg cap : Nat) (bs : List Nat) (f : Nat → Bool) (h : Ar w ap p g bg cap bs f) (a : Nat) (ha : a < 4294967296) (n : Int) (hn1 : -9223372036854775808 ≤ n) (hn2 : n ≤ 9223372036854775807) :
    Calls Try.prog 59 #[.pointer (some ⟨ap, 0, none⟩), .int .u32 a, .int .i64 n] w fun r w' => r = .returned (.bool (thB bs.length a n)) ∧ w = w' := by
  have C := Lib.hid (anone_no w ap p g bg cap bs f h)
  obtain ⟨c0, c1⟩ := h.top
  have hN := h.2.1
  obtain ⟨N, hNN⟩ : ∃ N, bs.length = N := ⟨_, rfl⟩
  rw [hNN] at c1 hN ⊢
  clear h hNN
  unfold thB
  by_cases h0 : 0 ≤ n
  · by_cases h1 : n ≤ N
    · by_cases h2 : (a : Int) ≤ N - n
      all_goals
        have d0 := decide_eq_true h0
        have d1 := decide_eq_true h1
        first | have d2 := decide_eq_false h2 | have d2 := decide_eq_true h2
        rw [d0, d1, d2]
        go_enter Try.func59, Try.ntmps59
        go_wp2_with fail
        refine (C.out).mono ?_
        rintro e w' ⟨rfl, rfl⟩
        go_wp2_with fail
        go_ret
        exact ⟨rfl, rfl⟩
    · have d0 := decide_eq_true h0
      have d1 := decide_eq_false h1
      rw [d0, d1, Bool.false_and, Bool.and_false]
      go_enter Try.func59, Try.ntmps59
      go_wp2_with fail
      refine (C.out).mono ?_
      rintro e w' ⟨rfl, rfl⟩
      go_wp2_with fail
      go_ret
      exact ⟨rfl, rfl⟩
  · have d0 := decide_eq_false h0
    rw [d0, Bool.false_and]
    go_enter Try.func59, Try.ntmps59
    go_wp2_with fail
    refine (C.out).mono ?_
    rintro e w' ⟨rfl, rfl⟩
    go_wp2_with fail
    go_ret
    exact ⟨rfl, rfl⟩
theorem athere_nil (w : World) (a n : Int) : Calls Try.prog 59 #[.pointer none, .int .u32 a, .int .i64 n] w fun r w' => r = .returned (.bool false) ∧ w = w' := by
  have C := Lib.hid (anone_nil w)
  go_enter Try.func59, Try.ntmps59
  go_wp2_with fail
  refine (C.out).mono ?_
  rintro e w' ⟨rfl, rfl⟩
  go_wp2_with fail
  go_ret
  exact ⟨rfl, rfl⟩
def whB (N a : Nat) : Bool := decide (a % 16 = 0) && decide (a + 16 ≤ N)
theorem awhole_any (w : World) (ap p g bg cap : Nat) (bs : List Nat) (f : Nat → Bool) (h : Ar w ap p g bg cap bs f) (a : Nat) (ha : a < 4294967296) :
    Calls Try.prog 35 #[.pointer (some ⟨ap, 0, none⟩), .int .u32 a] w fun r w' => r = .returned (.bool (whB bs.length a)) ∧ w = w' := by
  have C := Lib.hid (athere_any w ap p g bg cap bs f h a ha 16 (by omega) (by omega))
  unfold whB
  have e := thB_nat bs.length a 16
  rw [show (((16 : Nat) : Int)) = 16 from rfl] at e
  rw [e] at C
  obtain ⟨B, hB⟩ : ∃ B, decide (a + 16 ≤ bs.length) = B := ⟨_, rfl⟩
  rw [hB] at C ⊢
  clear h hB e
  by_cases h0 : a % 16 = 0
  · have d0 := decide_eq_true h0
    have hI : ((a : Int) % 16 == 0) = true := by simp; omega
    rw [d0, Bool.true_and]
    go_enter Try.func35, Try.ntmps35
    go_wp2_with fail
    refine (C.out).mono ?_
    rintro e w' ⟨rfl, rfl⟩
    go_wp2_with fail
    go_ret
    exact ⟨rfl, rfl⟩
  · have d0 := decide_eq_false h0
    have hI : ((a : Int) % 16 == 0) = false := by simp; omega
    rw [d0, Bool.false_and]
    go_enter Try.func35, Try.ntmps35
    go_wp2_with fail
    go_ret
    exact ⟨rfl, rfl⟩
theorem awhole_nil (w : World) (a : Nat) : Calls Try.prog 35 #[.pointer none, .int .u32 a] w fun r w' => r = .returned (.bool false) ∧ w = w' := by
  have C := Lib.hid fun W => athere_nil W a 16
  by_cases h0 : a % 16 = 0
  · have hI : ((a : Int) % 16 == 0) = true := by simp; omega
    go_enter Try.func35, Try.ntmps35
    go_wp2_with fail
    refine (C.out _).mono ?_
    rintro e w' ⟨rfl, rfl⟩
    go_wp2_with fail
    go_ret
    exact ⟨rfl, rfl⟩
  · have hI : ((a : Int) % 16 == 0) = false := by simp; omega
    go_enter Try.func35, Try.ntmps35
    go_wp2_with fail
    go_ret
    exact ⟨rfl, rfl⟩
end Go.Proofs.Ytilgklpponaoeaa
