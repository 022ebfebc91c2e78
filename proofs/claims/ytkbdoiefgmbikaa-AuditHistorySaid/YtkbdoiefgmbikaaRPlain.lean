/-
  The reference's history, in plain Lean: its state, the fault of an event, what counts; and that its faults are those of 32_Plain. No program in sight; no condition.
-/
import Derived.Test.YtkbdoiefgmbikaaPlain
set_option linter.unusedVariables false
namespace Go.Proofs.Ytkbdoiefgmbikaa
structure RG where
  n : Nat
  a : Nat
  s : Nat
  st : Nat
  fr : Nat
structure Rx where
  gs : List RG
  sw : Bool
  la : Nat
  be : Nat
  en : List Nat
  ks : List (Ev × Nat)
def gSame (e : Ev) (g : RG) : Bool := g.n == e.num && (g.a == e.a && g.s == e.s)
def findR (l : List RG) (e : Ev) : Option Nat := l.findIdx? (gSame e)
def waitR (l : List (Ev × Nat)) (h : Int) : Option Nat := l.findIdx? fun k => k.1.hart == h
def restR (l : List RG) (t : Nat) : Bool := l.any fun g => g.st == 2 && decide (g.fr < t)
def longB (en : List Nat) (t : Nat) : Bool := decide (2 ≤ en.length) && decide (t < en.getD (en.length - 2) 0)
def longR (en : List Nat) (ks : List (Ev × Nat)) : Bool := ks.any fun k => longB en k.2
def liveR (g : RG) (e : Ev) : Bool := decide (g.st < 3) && meetB g.a g.s e.a e.s
def faultG (ha hs : Nat) (y : Rx) (e : Ev) : Nat := if e.num ≠ y.gs.length + 1 then 2 else if e.s = 0 ∨ e.a < ha ∨ ha + hs < e.a + e.s then 6 else if y.gs.any (fun g => liveR g e) then 11 else 0
def stOf (l : List RG) (i : Nat) : Nat := match l[i]? with | some g => g.st | none => 0
def frOf (l : List RG) (i : Nat) : Nat := match l[i]? with | some g => g.fr | none => 0
def tOf (l : List (Ev × Nat)) (i : Nat) : Nat := match l[i]? with | some g => g.2 | none => 0
def faultF (y : Rx) (e : Ev) : Nat := match findR y.gs e with | none => 5 | some i => if stOf y.gs i = 1 then 0 else 5
def faultB (y : Rx) (e : Ev) : Nat := if y.sw = true ∨ e.num ≠ y.la + 1 then 4 else 0
def faultL (y : Rx) (e : Ev) : Nat := match findR y.gs e with | none => 8 | some i => if y.sw = true ∧ stOf y.gs i = 2 ∧ frOf y.gs i ≤ y.be then 0 else 8
def faultE (y : Rx) (e : Ev) : Nat := if y.sw = false ∨ e.num ≠ y.la then 4 else if restR y.gs y.be = true then 5 else if longR y.en y.ks = true then 3 else 0
def faultA (y : Rx) (e : Ev) : Nat := match waitR y.ks e.hart with | some _ => 11 | none => 0
def faultD (y : Rx) (e : Ev) : Nat := match waitR y.ks e.hart with | none => 5 | some i => if restR y.gs (tOf y.ks i) = true then 8 else 0
def faultR (ha hs : Nat) (y : Rx) (e : Ev) : Nat :=
  if e.kind = 2 then faultG ha hs y e else if e.kind = 3 then faultF y e else if e.kind = 6 then faultB y e else if e.kind = 4 then faultL y e else if e.kind = 7 then faultE y e else
  if e.kind = 11 then faultA y e else if e.kind = 10 then faultD y e else 0
def setSt (l : List RG) (i st fr : Nat) : List RG := match l[i]? with | some g => l.set i { g with st := st, fr := fr } | none => l
def countR (y : Rx) (e : Ev) (i : Nat) : Rx :=
  if e.kind = 2 then { y with gs := y.gs ++ [⟨e.num, e.a, e.s, 1, 0⟩] }
  else if e.kind = 3 then (match findR y.gs e with | some k => { y with gs := setSt y.gs k 2 i } | none => y)
  else if e.kind = 6 then { y with sw := true, la := e.num, be := i }
  else if e.kind = 4 then (match findR y.gs e with | some k => { y with gs := setSt y.gs k 3 (frOf y.gs k) } | none => y)
  else if e.kind = 7 then { y with sw := false, en := y.en ++ [i] }
  else if e.kind = 11 then { y with ks := y.ks ++ [(e, i)] }
  else if e.kind = 10 then (match waitR y.ks e.hart with | some k => { y with ks := y.ks.eraseIdx k } | none => y)
  else y
def seeR (ha hs : Nat) (y : Rx) (e : Ev) (i : Nat) : Nat × Rx := if faultR ha hs y e = 0 then (0, countR y e i) else (faultR ha hs y e, y)
def rx0 : Rx := ⟨[], false, 0, 0, [], []⟩
/-! ### a state as 32_Plain has it -/
def cvG (be : Nat) (g : RG) : Gr := ⟨g.n, g.a, g.s, g.st == 2, g.st == 2 && decide (g.fr < be), g.fr⟩
def lv (g : RG) : Bool := decide (g.st < 3)
def gsS (be : Nat) (l : List RG) : List Gr := (l.filter lv).map (cvG be)
def cvK (en : List Nat) (k : Ev × Nat) : Ak := ⟨k.1.hart, k.2, (en.filter fun x => decide (k.2 < x)).length⟩
def toS (y : Rx) : Sx := ⟨gsS y.be y.gs, y.gs.length, y.sw, y.la, y.ks.map (cvK y.en)⟩
structure Rx.Inv (y : Rx) (i : Nat) : Prop where
  nums : ∀ (j : Nat) (g : RG), y.gs[j]? = some g → g.n = j + 1
  st : ∀ g ∈ y.gs, 1 ≤ g.st ∧ g.st ≤ 3
  be : y.be < i ∨ (i = 0 ∧ y.be = 0 ∧ y.gs = [])
  fr : ∀ g ∈ y.gs, g.st = 2 → g.fr < i ∧ g.fr ≠ y.be
  en : ∀ t ∈ y.en, t < i
  asc : y.en.Pairwise (· < ·)
  ks : ∀ k ∈ y.ks, k.2 < i
  gl : y.gs.length ≤ i
  kl : y.ks.length ≤ i
  el : y.en.length ≤ i
  la : y.la ≤ i
theorem inv0 : Rx.Inv rx0 0 := ⟨by simp [rx0], by simp [rx0], .inr ⟨rfl, rfl, rfl⟩, by simp [rx0], by simp [rx0], by simp [rx0], by simp [rx0], by simp [rx0], by simp [rx0], by simp [rx0], by simp [rx0]⟩
theorem toS0 : toS rx0 = sx0 := rfl
theorem Rx.Inv.uni {y : Rx} {i : Nat} (h : y.Inv i) {g g' : RG} (h1 : g ∈ y.gs) (h2 : g' ∈ y.gs) (e : g.n = g'.n) : g = g' := by
  obtain ⟨j, hj⟩ := List.getElem?_of_mem h1
  obtain ⟨k, hk⟩ := List.getElem?_of_mem h2
  have a := h.nums j g hj
  have b := h.nums k g' hk
  obtain rfl : j = k := by omega
  rw [hj] at hk
  injection hk
theorem Rx.Inv.more {y : Rx} {i : Nat} (h : y.Inv i) : y.Inv (i + 1) := by
  refine ⟨h.nums, h.st, ?_, fun g hg h2 => ?_, fun t ht => ?_, h.asc, fun k hk => ?_, ?_, ?_, ?_, ?_⟩
  · rcases h.be with hb | ⟨h0, hb, hg⟩
    · exact .inl (by omega)
    · exact .inl (by omega)
  · have := h.fr g hg h2; omega
  · have := h.en t ht; omega
  · have := h.ks k hk; omega
  · have := h.gl; omega
  · have := h.kl; omega
  · have := h.el; omega
  · have := h.la; omega
/-! ### lists -/
theorem findR_some {l : List RG} {e : Ev} {k : Nat} (h : findR l e = some k) : ∃ g, l[k]? = some g ∧ gSame e g = true := by
  unfold findR at h
  rw [List.findIdx?_eq_some_iff_getElem] at h
  obtain ⟨hk, h1, _⟩ := h
  exact ⟨l[k], List.getElem?_eq_getElem hk, h1⟩
theorem findR_none {l : List RG} {e : Ev} (h : findR l e = none) : ∀ g ∈ l, gSame e g = false := by
  unfold findR at h
  simpa [List.findIdx?_eq_none_iff] using h
theorem waitR_some {l : List (Ev × Nat)} {h : Int} {k : Nat} (hw : waitR l h = some k) : ∃ g, l[k]? = some g ∧ g.1.hart = h ∧ l.find? (fun k => k.1.hart == h) = some g := by
  unfold waitR at hw
  rw [List.findIdx?_eq_some_iff_getElem] at hw
  obtain ⟨hk, h1, h2⟩ := hw
  refine ⟨l[k], List.getElem?_eq_getElem hk, by simpa using h1, ?_⟩
  rw [List.find?_eq_some_iff_getElem]
  exact ⟨h1, k, hk, rfl, fun j hj => by simpa using h2 j hj⟩
theorem waitR_none {l : List (Ev × Nat)} {h : Int} (hw : waitR l h = none) : l.find? (fun k => k.1.hart == h) = none := by
  unfold waitR at hw
  rw [List.find?_eq_none]
  intro x hx
  rw [List.findIdx?_eq_none_iff] at hw
  have := hw x hx
  simpa using this
theorem find_map_ks (en : List Nat) (l : List (Ev × Nat)) (h : Int) : findA (l.map (cvK en)) h = (l.find? fun k => k.1.hart == h).map (cvK en) := by
  unfold findA
  rw [List.find?_map]
  rfl
theorem erase_filter : ∀ (l : List (Ev × Nat)) (k : Nat) (kk : Ev × Nat), (l.map fun x => x.1.hart).Nodup → l[k]? = some kk → l.eraseIdx k = l.filter fun x => !(x.1.hart == kk.1.hart)
  | [], k, kk, _, h => by cases h
  | a :: t, 0, kk, hn, h => by
    simp at h
    subst h
    simp only [List.map_cons, List.nodup_cons, List.mem_map, not_exists, not_and] at hn
    rw [List.eraseIdx_cons_zero, List.filter_cons_of_neg (by simp)]
    rw [List.filter_eq_self.2]
    intro x hx
    have := hn.1 x hx
    simpa using this
  | a :: t, k + 1, kk, hn, h => by
    have h' : t[k]? = some kk := by simpa using h
    simp only [List.map_cons, List.nodup_cons, List.mem_map, not_exists, not_and] at hn
    have hne := hn.1 kk (List.mem_of_getElem? h')
    rw [List.eraseIdx_cons_succ, erase_filter t k kk hn.2 h', List.filter_cons_of_pos (by simpa using fun e => hne e.symm)]
theorem set_eq {l : List RG} (hn : ∀ (j : Nat) (g : RG), l[j]? = some g → g.n = j + 1) {k : Nat} {g : RG} (hk : l[k]? = some g) (u : RG) : l.set k u = l.map fun x => if x.n = g.n then u else x := by
  refine List.ext_getElem? fun j => ?_
  rw [List.getElem?_set, List.getElem?_map]
  have hkl := (List.getElem?_eq_some_iff.1 hk).1
  have e1 := hn k g hk
  by_cases hj : k = j
  · subst hj
    rw [if_pos rfl, if_pos hkl, hk]
    simp
  · rw [if_neg hj]
    cases hx : l[j]? with
    | none => rfl
    | some x =>
      have e2 := hn j x hx
      have : ¬ x.n = g.n := by omega
      simp [this]
theorem two_last : ∀ (en : List Nat), 2 ≤ en.length → ∃ pre a b, en = pre ++ [a, b]
  | [], h => by simp at h
  | [_], h => by simp at h
  | [a, b], _ => ⟨[], a, b, rfl⟩
  | a :: b :: c :: t, _ => by
    obtain ⟨pre, x, y, h⟩ := two_last (b :: c :: t) (by simp)
    exact ⟨a :: pre, x, y, by rw [h]; rfl⟩
theorem long_eq (en : List Nat) (ha : en.Pairwise (· < ·)) (t : Nat) : decide (2 ≤ (en.filter fun x => decide (t < x)).length) = longB en t := by
  unfold longB
  by_cases h2 : 2 ≤ en.length
  · obtain ⟨pre, a, b, rfl⟩ := two_last en h2
    have e1 : (pre ++ [a, b]).getD ((pre ++ [a, b]).length - 2) 0 = a := by simp
    rw [e1, List.filter_append, List.length_append]
    rw [List.pairwise_append] at ha
    have hab : a < b := by have := ha.2.1; simpa using this
    have hpre : ∀ x ∈ pre, x < a := fun x hx => ha.2.2 x hx a (by simp)
    rw [Bool.eq_iff_iff]
    simp only [Bool.and_eq_true, decide_eq_true_eq]
    constructor
    · intro h
      refine ⟨h2, ?_⟩
      rcases Nat.lt_or_ge t a with hta | hta
      · exact hta
      · have : pre.filter (fun x => decide (t < x)) = [] := by
          rw [List.filter_eq_nil_iff]
          intro x hx
          have := hpre x hx
          simp; omega
        rw [this] at h
        have h3 : ¬ t < a := by omega
        by_cases h4 : t < b <;> simp [h3, h4] at h
    · rintro ⟨_, hta⟩
      have h4 : t < b := by omega
      simp [hta, h4]
  · have h1 : (en.filter fun x => decide (t < x)).length ≤ en.length := List.length_filter_le _ _
    rw [Bool.eq_iff_iff]
    simp only [Bool.and_eq_true, decide_eq_true_eq]
    omega
/-! ### step by step -/
section
variable {ha hs : Nat} {y : Rx} {e : Ev} {i : Nat}
theorem simG (hi : y.Inv i) : grantS ha hs (toS y) e = (faultG ha hs y e, if faultG ha hs y e = 0 then toS { y with gs := y.gs ++ [⟨e.num, e.a, e.s, 1, 0⟩] } else toS y) := by
  unfold grantS faultG
  have hany : (toS y).gs.any (fun g => meetB g.a g.s e.a e.s) = y.gs.any (fun g => liveR g e) := by
    show ((y.gs.filter _).map _).any _ = _
    rw [List.any_map, List.any_filter]
    rfl
  rw [hany]
  show (if e.num ≠ y.gs.length + 1 then _ else _) = _
  by_cases h1 : e.num ≠ y.gs.length + 1
  · simp [h1]
  · rw [if_neg h1, if_neg h1]
    by_cases h2 : e.s = 0 ∨ e.a < ha ∨ ha + hs < e.a + e.s
    · simp [h2]
    · rw [if_neg h2, if_neg h2]
      cases h3 : y.gs.any (fun g => liveR g e)
      · simp only [Bool.false_eq_true, if_false, if_true]
        refine Prod.ext rfl ?_
        show Sx.mk _ _ _ _ _ = Sx.mk _ _ _ _ _
        have : gsS y.be (y.gs ++ [⟨e.num, e.a, e.s, 1, 0⟩]) = gsS y.be y.gs ++ [⟨e.num, e.a, e.s, false, false, 0⟩] := by
          unfold gsS
          rw [List.filter_append, List.map_append]
          rfl
        rw [this, List.length_append]
        rfl
      · simp
theorem invG (hi : y.Inv i) (h : faultG ha hs y e = 0) : Rx.Inv { y with gs := y.gs ++ [⟨e.num, e.a, e.s, 1, 0⟩] } (i + 1) := by
  have hnum : e.num = y.gs.length + 1 := by
    unfold faultG at h
    by_cases h1 : e.num ≠ y.gs.length + 1
    · simp [h1] at h
    · omega
  have hm := hi.more
  refine ⟨fun j g hj => ?_, fun g hg => ?_, ?_, fun g hg h2 => ?_, hm.en, hm.asc, hm.ks, ?_, hm.kl, hm.el, hm.la⟩
  · by_cases hjl : j < y.gs.length
    · rw [List.getElem?_append_left hjl] at hj
      exact hi.nums j g hj
    · have := (List.getElem?_eq_some_iff.1 hj).1
      simp at this
      obtain rfl : j = y.gs.length := by omega
      rw [List.getElem?_append_right (by omega)] at hj
      simp at hj
      subst hj
      exact hnum
  · rcases List.mem_append.1 hg with hg | hg
    · exact hi.st g hg
    · simp at hg; subst hg; exact ⟨Nat.le_refl _, by show 1 ≤ 3; omega⟩
  · rcases hi.be with hb | ⟨h0, hb, _⟩
    · exact .inl (by show y.be < _; omega)
    · exact .inl (by show y.be < _; omega)
  · rcases List.mem_append.1 hg with hg | hg
    · exact hm.fr g hg h2
    · simp at hg; subst hg; cases h2
  · have := hi.gl; simp; omega
theorem findG_gs (hi : y.Inv i) (hg : (toS y).Good i) {g : RG} (hm : g ∈ y.gs) : findG (gsS y.be y.gs) g.n = if g.st < 3 then some (cvG y.be g) else none := by
  split
  · rename_i h
    have : cvG y.be g ∈ gsS y.be y.gs := List.mem_map.2 ⟨g, List.mem_filter.2 ⟨hm, decide_eq_true h⟩, rfl⟩
    exact findG_of hg.one this
  · rename_i h
    unfold findG
    rw [List.find?_eq_none]
    intro x hx
    obtain ⟨g', hg', rfl⟩ := List.mem_map.1 hx
    obtain ⟨h1, h2⟩ := List.mem_filter.1 hg'
    simp only [beq_iff_eq]
    intro h3
    have := hi.uni h1 hm h3
    subst this
    unfold lv at h2
    simp at h2
    omega
theorem findG_out {g' : Gr} {n be : Nat} {l : List RG} (h : findG (gsS be l) n = some g') : ∃ g ∈ l, g.n = n ∧ cvG be g = g' := by
  obtain ⟨h1, h2⟩ := findG_mem h
  obtain ⟨g, hg, rfl⟩ := List.mem_map.1 h1
  exact ⟨g, (List.mem_filter.1 hg).1, h2, rfl⟩
theorem isB_gs (hi : y.Inv i) (hg : (toS y).Good i) {g : RG} (hm : g ∈ y.gs) (hs : gSame e g = true) (h3 : g.st < 3) : isB (toS y) e = true := by
  unfold gSame at hs
  simp only [Bool.and_eq_true, beq_iff_eq] at hs
  unfold isB
  have := findG_gs hi hg hm
  rw [if_pos h3, hs.1] at this
  show (match findG (gsS y.be y.gs) e.num with | some g => _ | none => false) = true
  rw [this]
  simp [cvG, hs.2.1, hs.2.2]
theorem isB_none (hi : y.Inv i) (h : findR y.gs e = none) : isB (toS y) e = false := by
  unfold isB
  show (match findG (gsS y.be y.gs) e.num with | some g => _ | none => false) = false
  cases hf : findG (gsS y.be y.gs) e.num with
  | none => rfl
  | some g' =>
    obtain ⟨g, hg, hn, rfl⟩ := findG_out hf
    have := findR_none h g hg
    unfold gSame at this
    simp [hn] at this
    show (decide (g.a = e.a) && decide (g.s = e.s)) = false
    rw [Bool.and_eq_false_iff]
    simp only [decide_eq_false_iff_not]
    by_cases h1 : g.a = e.a
    · exact .inr (this h1)
    · exact .inl h1
theorem setSt_eq {l : List RG} {k : Nat} {g : RG} (hk : l[k]? = some g) (st fr : Nat) : setSt l k st fr = l.set k { g with st := st, fr := fr } := by unfold setSt; rw [hk]
theorem stOf_eq {l : List RG} {k : Nat} {g : RG} (hk : l[k]? = some g) : stOf l k = g.st := by unfold stOf; rw [hk]
theorem frOf_eq {l : List RG} {k : Nat} {g : RG} (hk : l[k]? = some g) : frOf l k = g.fr := by unfold frOf; rw [hk]
theorem tOf_eq {l : List (Ev × Nat)} {k : Nat} {g : Ev × Nat} (hk : l[k]? = some g) : tOf l k = g.2 := by unfold tOf; rw [hk]
theorem be_lt (hi : y.Inv i) {g : RG} (hm : g ∈ y.gs) : y.be < i := by
  rcases hi.be with h | ⟨_, _, h⟩
  · exact h
  · rw [h] at hm; cases hm
theorem simF (hi : y.Inv i) (hg : (toS y).Good i) : freeS (toS y) e i = (faultF y e, if faultF y e = 0 then toS (match findR y.gs e with | some k => { y with gs := setSt y.gs k 2 i } | none => y) else toS y) := by
  unfold freeS faultF
  show (match findG (gsS y.be y.gs) e.num with | none => _ | some g => _) = _
  cases hf : findR y.gs e with
  | none =>
    have hb := isB_none hi hf
    simp only
    cases findG (gsS y.be y.gs) e.num with
    | none => rfl
    | some g => simp [hb]
  | some k =>
    obtain ⟨g, hk, hsm⟩ := findR_some hf
    have hm := List.mem_of_getElem? hk
    have hn : g.n = e.num := by unfold gSame at hsm; simp only [Bool.and_eq_true, beq_iff_eq] at hsm; exact hsm.1
    have hfg := findG_gs hi hg hm
    rw [hn] at hfg
    simp only [stOf_eq hk]
    rw [hfg]
    by_cases h1 : g.st = 1
    · have hb := isB_gs hi hg hm hsm (by omega)
      rw [if_pos (by omega)]
      have hc : ¬ (isB (toS y) e = false ∨ (cvG y.be g).rests = true) := by rw [hb]; simp [cvG, h1]
      simp only
      rw [if_neg hc, if_pos h1]
      refine Prod.ext rfl ?_
      simp only [if_true]
      rw [setSt_eq hk, set_eq hi.nums hk]
      show Sx.mk _ _ _ _ _ = Sx.mk _ _ _ _ _
      have hbe := be_lt hi hm
      have : gsS y.be (y.gs.map fun x => if x.n = g.n then { g with st := 2, fr := i } else x) = (gsS y.be y.gs).map fun g => if g.n = e.num then { g with rests := true, freed := i } else g := by
        unfold gsS
        rw [List.filter_map, List.map_map, List.map_map]
        have e1 : y.gs.filter (lv ∘ fun x => if x.n = g.n then { g with st := 2, fr := i } else x) = y.gs.filter lv := by
          refine List.filter_congr fun x hx => ?_
          simp only [Function.comp]
          by_cases hxn : x.n = g.n
          · have := hi.uni hx hm hxn
            subst this
            rw [if_pos rfl]
            simp [lv, h1]
          · rw [if_neg hxn]
        rw [e1]
        refine List.map_congr_left fun x hx => ?_
        have hx := (List.mem_filter.1 hx).1
        simp only [Function.comp]
        by_cases hxn : x.n = g.n
        · have := hi.uni hx hm hxn
          subst this
          rw [if_pos rfl, if_pos (by show x.n = _; exact hn)]
          have : ¬ i < y.be := by omega
          simp [cvG, h1, this]
        · rw [if_neg hxn, if_neg (by show ¬ x.n = _; omega)]
      rw [this, List.length_map]
      rfl
    · rw [if_neg h1]
      by_cases h3 : g.st < 3
      · have h2 : g.st = 2 := by have := hi.st g hm; omega
        rw [if_pos h3]
        simp [cvG, h2]
      · rw [if_neg h3]; simp
theorem invSet (hi : y.Inv i) {k : Nat} {g : RG} (hk : y.gs[k]? = some g) (st fr : Nat) (hst : 1 ≤ st ∧ st ≤ 3) (hfr : st = 2 → fr = i) : Rx.Inv { y with gs := setSt y.gs k st fr } (i + 1) := by
  have hm := hi.more
  have hmem := List.mem_of_getElem? hk
  have hbe := be_lt hi hmem
  rw [setSt_eq hk]
  refine ⟨fun j x hj => ?_, fun x hx => ?_, .inl (by show y.be < _; omega), fun x hx h2 => ?_, hm.en, hm.asc, hm.ks, by have := hm.gl; simpa using this, hm.kl, hm.el, hm.la⟩
  · rw [List.getElem?_set] at hj
    split at hj
    · rename_i e1
      subst e1
      split at hj
      · simp at hj; subst hj; exact hi.nums _ g hk
      · cases hj
    · exact hi.nums j x hj
  · rcases List.mem_or_eq_of_mem_set hx with hx | rfl
    · exact hi.st x hx
    · exact hst
  · rcases List.mem_or_eq_of_mem_set hx with hx | rfl
    · exact hm.fr x hx h2
    · have := hfr h2
      show fr < i + 1 ∧ fr ≠ y.be
      omega
theorem simL (hi : y.Inv i) (hg : (toS y).Good i) : releaseS (toS y) e = (faultL y e, if faultL y e = 0 then toS (match findR y.gs e with | some k => { y with gs := setSt y.gs k 3 (frOf y.gs k) } | none => y) else toS y) := by
  unfold releaseS faultL
  show (match findG (gsS y.be y.gs) e.num with | none => _ | some g => _) = _
  cases hf : findR y.gs e with
  | none =>
    have hb := isB_none hi hf
    simp only
    cases findG (gsS y.be y.gs) e.num with
    | none => rfl
    | some g => simp [hb]
  | some k =>
    obtain ⟨g, hk, hsm⟩ := findR_some hf
    have hm := List.mem_of_getElem? hk
    have hn : g.n = e.num := by unfold gSame at hsm; simp only [Bool.and_eq_true, beq_iff_eq] at hsm; exact hsm.1
    have hfg := findG_gs hi hg hm
    rw [hn] at hfg
    simp only [stOf_eq hk, frOf_eq hk]
    rw [hfg]
    by_cases h1 : y.sw = true ∧ g.st = 2 ∧ g.fr ≤ y.be
    · obtain ⟨hsw, h2, hfr⟩ := h1
      have hb := isB_gs hi hg hm hsm (by omega)
      have hlt : g.fr < y.be := by have := (hi.fr g hm h2).2; omega
      rw [if_pos (by omega), if_pos ⟨hsw, h2, hfr⟩]
      have hc : ¬ ((toS y).sw = false ∨ isB (toS y) e = false ∨ (cvG y.be g).batch = false) := by
        rw [hb, show (toS y).sw = true from hsw]; simp [cvG, h2, hlt]
      simp only
      rw [if_neg hc]
      refine Prod.ext rfl ?_
      simp only [if_true]
      rw [setSt_eq hk, set_eq hi.nums hk]
      show Sx.mk _ _ _ _ _ = Sx.mk _ _ _ _ _
      have : gsS y.be (y.gs.map fun x => if x.n = g.n then { g with st := 3, fr := g.fr } else x) = (gsS y.be y.gs).filter fun g => !(g.n == e.num) := by
        unfold gsS
        rw [List.filter_map, List.filter_map, List.map_map, List.filter_filter]
        have e1 : y.gs.filter (lv ∘ fun x => if x.n = g.n then { g with st := 3, fr := g.fr } else x) = y.gs.filter fun a => ((fun g : Gr => !(g.n == e.num)) ∘ cvG y.be) a && lv a := by
          refine List.filter_congr fun x hx => ?_
          simp only [Function.comp]
          by_cases hxn : x.n = g.n
          · rw [if_pos hxn]
            have : x.n = e.num := by omega
            simp [cvG, lv, this]
          · rw [if_neg hxn]
            have : ¬ x.n = e.num := by omega
            simp [cvG, this]
        rw [e1]
        refine List.map_congr_left fun x hx => ?_
        have hx := (List.mem_filter.1 hx).2
        simp only [Function.comp, Bool.and_eq_true] at hx
        have : ¬ x.n = g.n := by have := hx.1; simp [cvG] at this; omega
        simp only [Function.comp]
        rw [if_neg this]
      rw [this, List.length_map]
      rfl
    · rw [if_neg h1]
      by_cases h3 : g.st < 3
      · rw [if_pos h3]
        simp only
        have hc : (toS y).sw = false ∨ isB (toS y) e = false ∨ (cvG y.be g).batch = false := by
          cases hsw : y.sw
          · exact .inl hsw
          · refine .inr (.inr ?_)
            simp only [cvG]
            rw [Bool.and_eq_false_iff]
            by_cases h2 : g.st = 2
            · right
              have : ¬ g.fr ≤ y.be := fun h => h1 ⟨hsw, h2, h⟩
              simp; omega
            · left; simpa using h2
        rw [if_pos hc]
        simp
      · rw [if_neg h3]; simp
theorem simB (hi : y.Inv i) : beginS (toS y) e = (faultB y e, if faultB y e = 0 then toS { y with sw := true, la := e.num, be := i } else toS y) := by
  unfold beginS faultB
  show (if y.sw = true ∨ e.num ≠ y.la + 1 then _ else _) = _
  by_cases h : y.sw = true ∨ e.num ≠ y.la + 1
  · simp [h]
  · rw [if_neg h, if_neg h]
    have hn : e.num = y.la + 1 := by
      have : ¬ e.num ≠ y.la + 1 := fun h' => h (.inr h')
      omega
    refine Prod.ext rfl ?_
    simp only [if_true]
    show Sx.mk _ _ _ _ _ = Sx.mk _ _ _ _ _
    have : gsS i y.gs = (gsS y.be y.gs).map fun g => { g with batch := g.rests } := by
      unfold gsS
      rw [List.map_map]
      refine List.map_congr_left fun g hg => ?_
      have hg := (List.mem_filter.1 hg).1
      simp only [Function.comp, cvG]
      by_cases h2 : g.st = 2
      · have := (hi.fr g hg h2).1
        simp [h2, this]
      · have : (g.st == 2) = false := by simpa using h2
        simp [this]
    rw [this, hn]
    rfl
theorem invB (hi : y.Inv i) (h : faultB y e = 0) : Rx.Inv { y with sw := true, la := e.num, be := i } (i + 1) := by
  have hm := hi.more
  have hn : e.num = y.la + 1 := by
    unfold faultB at h
    by_cases h1 : y.sw = true ∨ e.num ≠ y.la + 1
    · simp [h1] at h
    · have : ¬ e.num ≠ y.la + 1 := fun h' => h1 (.inr h')
      omega
  exact ⟨hm.nums, hm.st, .inl (by show i < i + 1; omega), fun g hg h2 => by have := hi.fr g hg h2; show g.fr < i + 1 ∧ g.fr ≠ i; omega, hm.en, hm.asc, hm.ks, hm.gl, hm.kl, hm.el, by have := hi.la; show e.num ≤ i + 1; omega⟩
theorem any_rest (l : List RG) (be t : Nat) : (gsS be l).any (fun g => g.rests && decide (g.freed < t)) = restR l t := by
  unfold gsS restR
  rw [List.any_map, List.any_filter]
  congr 1
  funext g
  simp only [Function.comp, cvG, lv]
  by_cases h2 : g.st = 2
  · first | (simp [h2]; done) | (simp [h2]; rfl)
  · have : (g.st == 2) = false := by simpa using h2
    simp [this]
theorem any_batch (l : List RG) (be : Nat) : (gsS be l).any (·.batch) = restR l be := by
  unfold gsS restR
  rw [List.any_map, List.any_filter]
  congr 1
  funext g
  simp only [Function.comp, cvG, lv]
  by_cases h2 : g.st = 2
  · first | (simp [h2]; done) | (simp [h2]; rfl)
  · have : (g.st == 2) = false := by simpa using h2
    simp [this]
theorem simE (hi : y.Inv i) : endS (toS y) e = (faultE y e, if faultE y e = 0 then toS { y with sw := false, en := y.en ++ [i] } else toS y) := by
  unfold endS faultE
  have h1 : (toS y).gs.any (·.batch) = restR y.gs y.be := any_batch _ _
  have h2 : (toS y).ks.any (fun k => decide (2 ≤ k.e)) = longR y.en y.ks := by
    unfold longR
    show (y.ks.map (cvK y.en)).any _ = _
    rw [List.any_map]
    congr 1
    funext k
    exact long_eq y.en hi.asc k.2
  rw [h1, h2]
  show (if y.sw = false ∨ e.num ≠ y.la then _ else _) = _
  by_cases h : y.sw = false ∨ e.num ≠ y.la
  · simp [h]
  · rw [if_neg h, if_neg h]
    cases restR y.gs y.be
    · cases longR y.en y.ks
      · simp only [Bool.false_eq_true, if_false, if_true]
        refine Prod.ext rfl ?_
        show Sx.mk _ _ _ _ _ = Sx.mk _ _ _ _ _
        have : y.ks.map (cvK (y.en ++ [i])) = (y.ks.map (cvK y.en)).map fun k => { k with e := k.e + 1 } := by
          rw [List.map_map]
          refine List.map_congr_left fun k hk => ?_
          have := hi.ks k hk
          simp [cvK, List.filter_append, this]
        rw [this]
        rfl
      · simp
    · simp
theorem invE (hi : y.Inv i) : Rx.Inv { y with sw := false, en := y.en ++ [i] } (i + 1) := by
  have hm := hi.more
  refine ⟨hm.nums, hm.st, hm.be, hm.fr, fun t ht => ?_, ?_, hm.ks, hm.gl, hm.kl, by have := hi.el; simp; omega, hm.la⟩
  · rcases List.mem_append.1 ht with ht | ht
    · exact hm.en t ht
    · simp at ht; omega
  · show (y.en ++ [i]).Pairwise _
    rw [List.pairwise_append]
    exact ⟨hi.asc, by simp, fun a ha b hb => by simp at hb; subst hb; exact hi.en a ha⟩
theorem simA (hi : y.Inv i) : askS (toS y) e.hart i = (faultA y e, if faultA y e = 0 then toS { y with ks := y.ks ++ [(e, i)] } else toS y) := by
  unfold askS faultA
  show (match findA (y.ks.map (cvK y.en)) e.hart with | some _ => _ | none => _) = _
  rw [find_map_ks]
  cases hw : waitR y.ks e.hart with
  | none =>
    rw [waitR_none hw]
    simp only [Option.map_none, if_true]
    refine Prod.ext rfl ?_
    show Sx.mk _ _ _ _ _ = Sx.mk _ _ _ _ _
    have : cvK y.en (e, i) = ⟨e.hart, i, 0⟩ := by
      unfold cvK
      have : y.en.filter (fun x => decide (i < x)) = [] := by
        rw [List.filter_eq_nil_iff]
        intro x hx
        have := hi.en x hx
        simp; omega
      simp [this]
    rw [List.map_append, show [(e, i)].map (cvK y.en) = [cvK y.en (e, i)] from rfl, this]
    rfl
  | some k =>
    obtain ⟨g, _, _, h3⟩ := waitR_some hw
    rw [h3]
    simp
theorem invA (hi : y.Inv i) : Rx.Inv { y with ks := y.ks ++ [(e, i)] } (i + 1) := by
  have hm := hi.more
  refine ⟨hm.nums, hm.st, hm.be, hm.fr, hm.en, hm.asc, fun k hk => ?_, hm.gl, by have := hi.kl; simp; omega, hm.el, hm.la⟩
  rcases List.mem_append.1 hk with hk | hk
  · exact hm.ks k hk
  · simp at hk; subst hk; show i < i + 1; omega
theorem simD (hi : y.Inv i) (hg : (toS y).Good i) : drainS (toS y) e.hart = (faultD y e, if faultD y e = 0 then toS (match waitR y.ks e.hart with | some k => { y with ks := y.ks.eraseIdx k } | none => y) else toS y) := by
  unfold drainS faultD
  show (match findA (y.ks.map (cvK y.en)) e.hart with | none => _ | some _ => _) = _
  rw [find_map_ks]
  cases hw : waitR y.ks e.hart with
  | none =>
    rw [waitR_none hw]
    simp
  | some k =>
    obtain ⟨g, h1, h2, h3⟩ := waitR_some hw
    rw [h3]
    simp only [Option.map_some, tOf_eq h1]
    have ha : (toS y).gs.any (fun x => x.rests && decide (x.freed < (cvK y.en g).t)) = restR y.gs g.2 := any_rest _ _ _
    rw [ha]
    cases restR y.gs g.2
    · simp only [Bool.false_eq_true, if_false, if_true]
      refine Prod.ext rfl ?_
      show Sx.mk _ _ _ _ _ = Sx.mk _ _ _ _ _
      have hnd : (y.ks.map fun x => x.1.hart).Nodup := by
        have := hg.aone
        rw [show (toS y).ks = y.ks.map (cvK y.en) from rfl, List.map_map] at this
        exact this
      rw [erase_filter y.ks k g hnd h1, h2]
      have : (y.ks.filter fun x => !(x.1.hart == e.hart)).map (cvK y.en) = (y.ks.map (cvK y.en)).filter fun k => !(k.h == e.hart) := by
        rw [List.filter_map]
        rfl
      rw [this]
      rfl
    · simp
theorem invD (hi : y.Inv i) (k : Nat) : Rx.Inv { y with ks := y.ks.eraseIdx k } (i + 1) := by
  have hm := hi.more
  exact ⟨hm.nums, hm.st, hm.be, hm.fr, hm.en, hm.asc, fun x hx => hm.ks x (List.mem_of_mem_eraseIdx hx), hm.gl, Nat.le_trans (List.length_eraseIdx_le _ _) hm.kl, hm.el, hm.la⟩
theorem sim (hi : y.Inv i) (hg : (toS y).Good i) : seeS ha hs (toS y) e i = ((seeR ha hs y e i).1, toS (seeR ha hs y e i).2) ∧ (seeR ha hs y e i).2.Inv (i + 1) := by
  have key : ∀ (c : Nat) (r : Nat × Sx) (z : Rx), faultR ha hs y e = c → r = (c, if c = 0 then toS z else toS y) → countR y e i = z → (c = 0 → z.Inv (i + 1)) → r = ((seeR ha hs y e i).1, toS (seeR ha hs y e i).2) ∧ (seeR ha hs y e i).2.Inv (i + 1) := by
    intro c r z h1 h2 h3 h4
    unfold seeR
    rw [h1, h3]
    by_cases h0 : c = 0
    · rw [if_pos h0]
      refine ⟨?_, h4 h0⟩
      rw [h2, if_pos h0, h0]
    · rw [if_neg h0]
      refine ⟨?_, hi.more⟩
      rw [h2, if_neg h0]
  unfold seeS
  by_cases k2 : e.kind = 2
  · rw [if_pos k2]
    exact key _ _ _ (by unfold faultR; rw [if_pos k2]) (simG hi) (by unfold countR; rw [if_pos k2]) (fun h => invG hi h)
  rw [if_neg k2]
  by_cases k3 : e.kind = 3
  · rw [if_pos k3]
    refine key _ _ _ (by unfold faultR; rw [if_neg k2, if_pos k3]) (simF hi hg) (by unfold countR; rw [if_neg k2, if_pos k3]) (fun h => ?_)
    cases hf : findR y.gs e with
    | none => exact hi.more
    | some k =>
      obtain ⟨g, hk, _⟩ := findR_some hf
      exact invSet hi hk 2 i (by omega) (fun _ => rfl)
  rw [if_neg k3]
  by_cases k6 : e.kind = 6
  · rw [if_pos k6]
    exact key _ _ _ (by unfold faultR; rw [if_neg k2, if_neg k3, if_pos k6]) (simB hi) (by unfold countR; rw [if_neg k2, if_neg k3, if_pos k6]) (fun h => invB hi h)
  rw [if_neg k6]
  by_cases k4 : e.kind = 4
  · rw [if_pos k4]
    refine key _ _ _ (by unfold faultR; rw [if_neg k2, if_neg k3, if_neg k6, if_pos k4]) (simL hi hg) (by unfold countR; rw [if_neg k2, if_neg k3, if_neg k6, if_pos k4]) (fun h => ?_)
    cases hf : findR y.gs e with
    | none => exact hi.more
    | some k =>
      obtain ⟨g, hk, _⟩ := findR_some hf
      exact invSet hi hk 3 _ (by omega) (fun h => by cases h)
  rw [if_neg k4]
  by_cases k7 : e.kind = 7
  · rw [if_pos k7]
    exact key _ _ _ (by unfold faultR; rw [if_neg k2, if_neg k3, if_neg k6, if_neg k4, if_pos k7]) (simE hi) (by unfold countR; rw [if_neg k2, if_neg k3, if_neg k6, if_neg k4, if_pos k7]) (fun h => invE hi)
  rw [if_neg k7]
  by_cases k11 : e.kind = 11
  · rw [if_pos k11]
    exact key _ _ _ (by unfold faultR; rw [if_neg k2, if_neg k3, if_neg k6, if_neg k4, if_neg k7, if_pos k11]) (simA hi) (by unfold countR; rw [if_neg k2, if_neg k3, if_neg k6, if_neg k4, if_neg k7, if_pos k11]) (fun h => invA hi)
  rw [if_neg k11]
  by_cases k10 : e.kind = 10
  · rw [if_pos k10]
    refine key _ _ _ (by unfold faultR; rw [if_neg k2, if_neg k3, if_neg k6, if_neg k4, if_neg k7, if_neg k11, if_pos k10]) (simD hi hg) (by unfold countR; rw [if_neg k2, if_neg k3, if_neg k6, if_neg k4, if_neg k7, if_neg k11, if_pos k10]) (fun h => ?_)
    cases hf : waitR y.ks e.hart with
    | none => exact hi.more
    | some k => exact invD hi k
  rw [if_neg k10]
  exact key 0 _ _ (by unfold faultR; rw [if_neg k2, if_neg k3, if_neg k6, if_neg k4, if_neg k7, if_neg k11, if_neg k10]) rfl (by unfold countR; rw [if_neg k2, if_neg k3, if_neg k6, if_neg k4, if_neg k7, if_neg k11, if_neg k10]) (fun h => hi.more)
end
/-! ### the faults of a history -/
def hisF (ha hs : Nat) : List Ev → Nat → Rx → List (Nat × Nat)
  | [], _, _ => []
  | e :: l, i, x => ft (seeR ha hs x e i).1 i ++ hisF ha hs l (i + 1) (seeR ha hs x e i).2
def hisX (ha hs : Nat) : List Ev → Nat → Rx → Rx
  | [], _, x => x
  | e :: l, i, x => hisX ha hs l (i + 1) (seeR ha hs x e i).2
theorem hisF_snoc (ha hs : Nat) (e : Ev) : ∀ (l : List Ev) (i : Nat) (x : Rx), hisF ha hs (l ++ [e]) i x = hisF ha hs l i x ++ ft (seeR ha hs (hisX ha hs l i x) e (i + l.length)).1 (i + l.length)
  | [], i, x => by simp [hisF, hisX]
  | y :: l, i, x => by
    simp only [List.cons_append, hisF, hisX, List.length_cons]
    rw [hisF_snoc ha hs e l, show i + 1 + l.length = i + (l.length + 1) by omega, List.append_assoc]
theorem hisX_snoc (ha hs : Nat) (e : Ev) : ∀ (l : List Ev) (i : Nat) (x : Rx), hisX ha hs (l ++ [e]) i x = (seeR ha hs (hisX ha hs l i x) e (i + l.length)).2
  | [], i, x => by simp [hisX]
  | y :: l, i, x => by
    simp only [List.cons_append, hisX, List.length_cons]
    rw [hisX_snoc ha hs e l, show i + 1 + l.length = i + (l.length + 1) by omega]
theorem hisF_len (ha hs : Nat) : ∀ (l : List Ev) (i : Nat) (x : Rx), (hisF ha hs l i x).length ≤ l.length
  | [], i, x => by simp [hisF]
  | y :: l, i, x => by
    have := hisF_len ha hs l (i + 1) (seeR ha hs x y i).2
    simp only [hisF, List.length_append, List.length_cons]
    unfold ft
    split <;> simp <;> omega
theorem his_eq (ha hs : Nat) : ∀ (l : List Ev) (i : Nat) (y : Rx), y.Inv i → (toS y).Good i → (∀ e ∈ l, e.a < 4294967296 ∧ e.s < 4294967296) → histF ha hs l i (toS y) = hisF ha hs l i y ∧ (hisX ha hs l i y).Inv (i + l.length)
  | [], i, y, h, _, _ => ⟨rfl, h⟩
  | e :: l, i, y, h, hg, hb => by
    obtain ⟨h1, h2⟩ := sim (ha := ha) (hs := hs) (e := e) h hg
    have hg2 := good_see (ha := ha) (hs := hs) (e := e) hg (hb e (by simp)).1 (hb e (by simp)).2
    rw [h1] at hg2
    obtain ⟨h3, h4⟩ := his_eq ha hs l (i + 1) _ h2 hg2 (fun x hx => hb x (by simp [hx]))
    simp only [histF, hisF, hisX, List.length_cons]
    rw [h1]
    refine ⟨by rw [h3], ?_⟩
    rw [show i + (l.length + 1) = i + 1 + l.length by omega]
    exact h4
end Go.Proofs.Ytkbdoiefgmbikaa
