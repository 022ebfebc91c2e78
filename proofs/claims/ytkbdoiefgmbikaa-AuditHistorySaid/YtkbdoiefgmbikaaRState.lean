/-
  The reference's state in memory, and what looks at it: rests, waits. Condition: lists of a thousand at most.
-/



import Derived.Test.YtkbdoiefgmbikaaRPlain
import Derived.Test.YtkbdoiefgmbikaaHist
import Derived.Test.YtkbdoiefgmbikaaOutside
import Derived.Deep.CutBlock
import Derived.Deep.DeepCutAuto
import Derived.BigRegion
set_option linter.unusedVariables false
namespace Go.Proofs.Ytkbdoiefgmbikaa
open Go.ChangeShapes Go.WideShapes Go.ChangeAt Go.RowKit
def RG.l (g : RG) : List Value := [.int .u64 g.n, .int .u32 g.a, .int .u32 g.s, .int .i64 g.st, .int .i64 g.fr]
def rgC (l : List RG) : List Value := l.flatMap RG.l
def evC (l : List Ev) : List Value := l.flatMap evl
theorem fm_len {α : Type} (F : α → List Value) (sz : Nat) (hF : ∀ x, (F x).length = sz) : ∀ l : List α, (l.flatMap F).length = l.length * sz
  | [] => by simp
  | a :: l => by rw [List.flatMap_cons, List.length_append, fm_len F sz hF l, hF, List.length_cons, Nat.add_mul]; omega
theorem fm_get {α : Type} (F : α → List Value) (sz : Nat) (hF : ∀ x, (F x).length = sz) : ∀ (l : List α) (k : Nat) (c : α) (j : Nat), l[k]? = some c → j < sz → (l.flatMap F)[k * sz + j]? = (F c)[j]?
  | [], k, c, j, h, _ => by cases h
  | a :: l, 0, c, j, h, hj => by
    simp at h; subst h
    rw [List.flatMap_cons, Nat.zero_mul, Nat.zero_add, List.getElem?_append_left (by rw [hF]; exact hj)]
  | a :: l, k + 1, c, j, h, hj => by
    have := fm_get F sz hF l k c j (by simpa using h) hj
    have e : (k + 1) * sz + j = sz + (k * sz + j) := by rw [Nat.add_mul]; omega
    rw [List.flatMap_cons, e, List.getElem?_append_right (by rw [hF]; omega), hF, show sz + (k * sz + j) - sz = k * sz + j by omega]
    exact this
/-- A list of rows of its own, read. -/
theorem own_rows {α : Type} (F : α → List Value) (sz : Nat) (hF : ∀ x, (F x).length = sz) {w : World} {B : Nat} {t : TypeId} {v : Value} {l : List α} (h : w.ownsRow B t sz v l.length (l.flatMap F)) :
    ∃ a c, v = .slice a l.length c ∧ RowsAt w a sz (l.map F) := by
  rcases h.2 with ⟨rfl, h0⟩ | ⟨g, cap, cur, rfl, hbg, h1, h2, h3, h4, h5⟩
  · have : l = [] := List.eq_nil_of_length_eq_zero h0
    subst this
    exact ⟨none, 0, rfl, .inl rfl⟩
  · have ha : At w g t cur := h1
    refine ⟨_, _, rfl, .inr ⟨g, 0, rfl, ha.lt, fun k c hk j v hv => ?_⟩⟩
    rw [List.getElem?_map, Option.map_eq_some_iff] at hk
    obtain ⟨c, hk, rfl⟩ := hk
    have hj : j < sz := by have := (List.getElem?_eq_some_iff.1 hv).1; rwa [hF] at this
    have hkl := (List.getElem?_eq_some_iff.1 hk).1
    rw [Go.WideShapes.add_plain, ha.cell, Nat.zero_add, ← Array.getElem?_toList]
    have : (cur.toList.take (l.length * sz))[k * sz + j]? = (l.flatMap F)[k * sz + j]? := by rw [← h5]
    have hle : k * sz + j < l.length * sz := by
      have : (k + 1) * sz ≤ l.length * sz := Nat.mul_le_mul_right _ hkl
      rw [Nat.add_mul] at this
      omega
    rw [List.getElem?_take, if_pos hle] at this
    rw [this, fm_get F sz hF l k c j hk hj, hv]
theorem nts_fm (l : List Nat) : nts l = l.flatMap fun (n : Nat) => [Value.int .i64 (n : Int)] := by
  unfold nts
  induction l with
  | nil => rfl
  | cons a l ih => rw [List.map_cons, ih, List.flatMap_cons]; rfl
structure Rst (w : World) (B p : Nat) (y : Rx) (gv ev av tv : Value) : Prop where
  at_ : At w p 84 #[gv, .bool y.sw, .int .u64 y.la, .int .i64 y.be, ev, av, tv]
  pb : B ≤ p
  g : w.ownsRow B 103 5 gv y.gs.length (rgC y.gs)
  e : w.ownsRow B 3 1 ev y.en.length (nts y.en)
  a : w.ownsRow B 41 6 av y.ks.length (evC (y.ks.map (·.1)))
  t : w.ownsRow B 3 1 tv y.ks.length (nts (y.ks.map (·.2)))
  ne : ∀ g, ev.ownBlock = some g → tv.ownBlock ≠ some g
theorem Rst.fr {w w' : World} {B p : Nat} {y : Rx} {gv ev av tv : Value} {S : List Nat} (h : Rst w B p y gv ev av tv) (f : Fr S w w') (hp : p ∉ S) (h1 : ∀ g, gv.ownBlock = some g → g ∉ S) (h2 : ∀ g, ev.ownBlock = some g → g ∉ S) (h3 : ∀ g, av.ownBlock = some g → g ∉ S) (h4 : ∀ g, tv.ownBlock = some g → g ∉ S) : Rst w' B p y gv ev av tv :=
  ⟨h.at_.fr f hp, h.pb, own_fr h.g f h1, own_fr h.e f h2, own_fr h.a f h3, own_fr h.t f h4, h.ne⟩
theorem Rst.fr0 {w w' : World} {B p : Nat} {y : Rx} {gv ev av tv : Value} (h : Rst w B p y gv ev av tv) (f : Fr [] w w') : Rst w' B p y gv ev av tv :=
  h.fr f (by simp) (by simp) (by simp) (by simp) (by simp)
theorem Rst.gr {w : World} {B p : Nat} {y : Rx} {gv ev av tv : Value} (h : Rst w B p y gv ev av tv) : ∃ a c, gv = .slice a y.gs.length c ∧ RowsAt w a 5 (y.gs.map RG.l) := own_rows RG.l 5 (fun _ => rfl) h.g
theorem Rst.er {w : World} {B p : Nat} {y : Rx} {gv ev av tv : Value} (h : Rst w B p y gv ev av tv) : ∃ a c, ev = .slice a y.en.length c ∧ RowsAt w a 1 (y.en.map fun (n : Nat) => [Value.int .i64 (n : Int)]) := own_rows _ 1 (fun _ => rfl) (by rw [← nts_fm]; exact h.e)
theorem Rst.ar {w : World} {B p : Nat} {y : Rx} {gv ev av tv : Value} (h : Rst w B p y gv ev av tv) : ∃ a c, av = .slice a y.ks.length c ∧ RowsAt w a 6 ((y.ks.map (·.1)).map evl) := by
  have := own_rows evl 6 (fun _ => rfl) (l := y.ks.map (·.1)) (by rw [List.length_map]; exact h.a)
  rwa [List.length_map] at this
theorem Rst.tr {w : World} {B p : Nat} {y : Rx} {gv ev av tv : Value} (h : Rst w B p y gv ev av tv) : ∃ a c, tv = .slice a y.ks.length c ∧ RowsAt w a 1 ((y.ks.map (·.2)).map fun (n : Nat) => [Value.int .i64 (n : Int)]) := by
  have := own_rows (fun (n : Nat) => [Value.int .i64 (n : Int)]) 1 (fun _ => rfl) (l := y.ks.map (·.2)) (by rw [List.length_map, ← nts_fm]; exact h.t)
  rwa [List.length_map] at this
/-- a cell of a row -/
theorem RowsAt.cell {w : World} {b off sz : Nat} {l : List (List Value)} (hc : ∀ k c, l[k]? = some c → ∀ j v, c[j]? = some v → w.cell? ((⟨b, off + k * sz, none⟩ : Addr).add j) = some v) {k : Nat} {c : List Value} (hk : l[k]? = some c) (j : Nat) {v : Value} (hv : c[j]? = some v) : w.cell? ⟨b, off + k * sz + j, none⟩ = some v := by
  have := hc k c hk j v hv
  rwa [Go.WideShapes.add_plain] at this
set_option maxHeartbeats 4000000 in
set_option maxRecDepth 100000 in
theorem rrests_any (w : World) (B p : Nat) (y : Rx) (gv ev av tv : Value) (h : Rst w B p y gv ev av tv) (t : Nat) (hn : y.gs.length ≤ 1000) :
    Calls Try.prog 56 #[.pointer (some ⟨p, 0, none⟩), .int .i64 t] w fun r w' => r = .returned (.bool (restR y.gs t)) ∧ Fr [] w w' := by
  obtain ⟨ga, gc, rfl, hrow⟩ := h.gr
  have HP := Lib.hid h.at_
  have HR := Lib.hid hrow
  obtain ⟨l, hl⟩ : ∃ l, y.gs = l := ⟨_, rfl⟩
  rw [hl] at HP HR hn ⊢
  obtain ⟨n, hnn⟩ : ∃ n, l.length = n := ⟨_, rfl⟩
  have HN := Lib.hid hnn
  rw [hnn] at HP hn
  obtain ⟨P, hP⟩ : ∃ P : RG → Bool, (fun g => g.st == 2 && decide (g.fr < t)) = P := ⟨_, rfl⟩
  have hPe : ∀ g : RG, P g = (g.st == 2 && decide (g.fr < t)) := fun g => by rw [← hP]
  have HPE := Lib.hid hPe
  unfold restR
  rw [hP]
  clear hP hPe h hrow hl hnn
  go_enter Try.func56, Try.ntmps56
  go_wp2_with fail
  go_loopw [5] (fun i wr => ∃ k : Nat, k ≤ n ∧ i = .int .i64 k ∧ (l.take k).any P = false ∧ Fr [] w wr) (fun i _ => n - (intOf i).toNat)
  case atStart => exact ⟨0, by omega, rfl, by simp, Fr.refl _ _⟩
  case round =>
    obtain ⟨k, hk, rfl, hno, hf⟩ := hrel
    have FR := Lib.hid hf
    have HNO := Lib.hid hno
    have c0 := (HP.out.fr hf (by simp)).cell 0
    simp only [List.getElem?_toArray, List.getElem?_cons_zero] at c0
    clear hf hno
    by_cases hlt : k < n
    · obtain ⟨g, hgk⟩ : ∃ g, l[k]? = some g := ⟨_, List.getElem?_eq_getElem (by rw [HN.out]; exact hlt)⟩
      rcases HR.out.fr0 FR.out with h0 | ⟨b, off, rfl, hb, hc⟩
      · have : l = [] := by simpa using h0
        rw [this] at hgk; cases hgk
      have hrk : (l.map RG.l)[k]? = some g.l := by rw [List.getElem?_map, hgk]; rfl
      have c2 := RowsAt.cell hc hrk 3 (v := .int .i64 g.st) rfl
      have c3 := RowsAt.cell hc hrk 4 (v := .int .i64 g.fr) rfl
      have hkI : (k : Int) < (n : Int) := by omega
      have hsn : (l.take (k + 1)).any P = P g := by
        rw [List.take_add_one, hgk, Option.toList_some, List.any_append, HNO.out]; simp
      have hany : P g = true → l.any P = true := fun h => List.any_eq_true.2 ⟨g, List.mem_of_getElem? hgk, h⟩
      rw [HPE.out g] at hsn hany
      obtain ⟨B1, hB1⟩ : ∃ B, ((g.st : Int) == 2) = B := ⟨_, rfl⟩
      obtain ⟨B2, hB2⟩ : ∃ B, decide ((g.fr : Int) < (t : Int)) = B := ⟨_, rfl⟩
      have e1 : (g.st == 2) = B1 := by rw [← hB1, Bool.eq_iff_iff]; simp only [beq_iff_eq]; omega
      have e2 : decide (g.fr < t) = B2 := by rw [← hB2, decide_eq_decide]; omega
      rw [e1, e2] at hsn hany
      have HSN := Lib.hid hsn
      have HANY := Lib.hid hany
      clear hc hgk hrk hsn hany
      cases B1
      · go_wp2_with fail
        go_roundw
        case rel => exact ⟨k + 1, by omega, by go_num, HSN.out, FR.out⟩
        case measure => simp [intOf]; omega
      · cases B2
        · go_wp2_with fail
          go_roundw
          case rel => exact ⟨k + 1, by omega, by go_num, HSN.out, FR.out⟩
          case measure => simp [intOf]; omega
        · go_wp2_with fail
          go_ret
          have hany : l.any P = true := HANY.out rfl
          exact ⟨ret_bool (by rw [hany]), FR.out⟩
    · obtain rfl : k = n := by omega
      have hno : l.any P = false := by have := HNO.out; rwa [← HN.out, List.take_length] at this
      go_wp2_with fail
      go_ret
      exact ⟨ret_bool (by rw [hno]), FR.out⟩
def wI (o : Option Nat) : Int := match o with | some k => (k : Int) | none => -1
theorem fidx_hit {α : Type} {P : α → Bool} {l : List α} {k : Nat} {g : α} (h : (l.take k).any P = false) (hk : l[k]? = some g) (hp : P g = true) : l.findIdx? P = some k := by
  obtain ⟨hkl, hg⟩ := List.getElem?_eq_some_iff.1 hk
  rw [List.findIdx?_eq_some_iff_getElem]
  refine ⟨hkl, by rw [hg]; exact hp, fun j hj => ?_⟩
  have hm : l[j] ∈ l.take k := by
    refine List.mem_of_getElem? (i := j) ?_
    rw [List.getElem?_take, if_pos hj]
    exact List.getElem?_eq_getElem (by omega)
  have := List.any_eq_false.1 h _ hm
  simpa using this
theorem fidx_miss {α : Type} {P : α → Bool} {l : List α} (h : l.any P = false) : l.findIdx? P = none := by
  rw [List.findIdx?_eq_none_iff]
  intro x hx
  have := List.any_eq_false.1 h x hx
  simpa using this
set_option maxHeartbeats 4000000 in
set_option maxRecDepth 100000 in
theorem rwaits_any (w : World) (B p : Nat) (y : Rx) (gv ev av tv : Value) (hh : Rst w B p y gv ev av tv) (h : Int) (hn : y.ks.length ≤ 1000) :
    Calls Try.prog 57 #[.pointer (some ⟨p, 0, none⟩), .int .i64 h] w fun r w' => r = .returned (.int .i64 (wI (waitR y.ks h))) ∧ Fr [] w w' := by
  obtain ⟨ga, gc, rfl, hrow⟩ := hh.ar
  have HP := Lib.hid hh.at_
  have HR := Lib.hid hrow
  obtain ⟨l, hl⟩ : ∃ l, y.ks = l := ⟨_, rfl⟩
  rw [hl] at HP HR hn ⊢
  obtain ⟨n, hnn⟩ : ∃ n, l.length = n := ⟨_, rfl⟩
  have HN := Lib.hid hnn
  rw [hnn] at HP hn
  obtain ⟨P, hP⟩ : ∃ P : Ev × Nat → Bool, (fun k => k.1.hart == h) = P := ⟨_, rfl⟩
  have hPe : ∀ g : Ev × Nat, P g = (g.1.hart == h) := fun g => by rw [← hP]
  have HPE := Lib.hid hPe
  unfold waitR
  rw [hP]
  clear hP hPe hh hrow hl hnn
  go_enter Try.func57, Try.ntmps57
  go_wp2_with fail
  go_loopw [5] (fun i wr => ∃ k : Nat, k ≤ n ∧ i = .int .i64 k ∧ (l.take k).any P = false ∧ Fr [] w wr) (fun i _ => n - (intOf i).toNat)
  case atStart => exact ⟨0, by omega, rfl, by simp, Fr.refl _ _⟩
  case round =>
    obtain ⟨k, hk, rfl, hno, hf⟩ := hrel
    have FR := Lib.hid hf
    have HNO := Lib.hid hno
    have c0 := (HP.out.fr hf (by simp)).cell 5
    simp only [List.getElem?_toArray, List.getElem?_cons_zero, List.getElem?_cons_succ] at c0
    clear hf hno
    by_cases hlt : k < n
    · obtain ⟨g, hgk⟩ : ∃ g, l[k]? = some g := ⟨_, List.getElem?_eq_getElem (by rw [HN.out]; exact hlt)⟩
      rcases HR.out.fr0 FR.out with h0 | ⟨b, off, rfl, hb, hc⟩
      · have : l = [] := by simpa using h0
        rw [this] at hgk; cases hgk
      have hrk : ((l.map (·.1)).map evl)[k]? = some (evl g.1) := by rw [List.getElem?_map, List.getElem?_map, hgk]; rfl
      have c2 := RowsAt.cell hc hrk 1 (v := .int .i64 g.1.hart) rfl
      have hkI : (k : Int) < (n : Int) := by omega
      have hsn : (l.take (k + 1)).any P = P g := by
        rw [List.take_add_one, hgk, Option.toList_some, List.any_append, HNO.out]; simp
      have hhit : P g = true → l.findIdx? P = some k := fun h => fidx_hit HNO.out hgk h
      rw [HPE.out g] at hsn hhit
      obtain ⟨B1, hB1⟩ : ∃ B, (g.1.hart == h) = B := ⟨_, rfl⟩
      rw [hB1] at hsn hhit
      have HSN := Lib.hid hsn
      have HHIT := Lib.hid hhit
      clear hc hgk hrk hsn hhit
      cases B1
      · go_wp2_with fail
        go_roundw
        case rel => exact ⟨k + 1, by omega, by go_num, HSN.out, FR.out⟩
        case measure => simp [intOf]; omega
      · go_wp2_with fail
        go_ret
        have hany : l.findIdx? P = some k := by first | exact HHIT.out rfl | exact HHIT.out trivial
        exact ⟨by rw [hany]; rfl, FR.out⟩
    · obtain rfl : k = n := by omega
      have hno : l.findIdx? P = none := fidx_miss (by have := HNO.out; rwa [← HN.out, List.take_length] at this)
      go_wp2_with fail
      go_ret
      exact ⟨by rw [hno]; rfl, FR.out⟩
end Go.Proofs.Ytkbdoiefgmbikaa
