/-
  What Scan, Caps and Copy of a trusted stack do. Conditions: numbers in their types' ranges; a thousand capabilities at most.
-/





import Derived.Test.YtdfefnajhnlpdaaStack
import Derived.Test.YtdfefnajhnlpdaaScaps
import Derived.Test.YtdfefnajhnlpdaaCopy
import Derived.Test.YtdfefnajhnlpdaaCall
set_option linter.unusedVariables false
namespace Go.Proofs.Ytdfefnajhnlpdaa
open Go.ChangeShapes Go.WideShapes Go.ChangeAt Go.RowKit
set_option maxRecDepth 100000 in
/-- slices.Clone of capabilities: a new list over new memory. -/
theorem sclone_any {w : World} {v : Value} {l : List Cp} (h : w.ownsRow 0 25 8 v l.length (cat l)) (hl : l.length ≤ 1000) :
    Calls Try.prog 30 #[v] w fun r w' => ∃ v', r = .returned v' ∧ w'.ownsRow w.heap.size 25 8 v' l.length (cat l) ∧ Fr [] w w' := by
  obtain ⟨i0, hi, hz0, hz1, hz2⟩ := info_parts infoCap8
  obtain ⟨n, hn⟩ : ∃ n, l.length = n := ⟨_, rfl⟩
  have hc := cat_len l
  rw [hn] at h hc hl ⊢
  rcases h.2 with ⟨rfl, h0⟩ | ⟨g, cap, cur, rfl, hb, hg, h1, h2, h3, h4⟩
  · subst h0
    have e : cat l = [] := List.eq_nil_of_length_eq_zero (by omega)
    rw [e]
    have heq := fun W : World => Lib.run_eql_slice_nil (P := Try.prog) W 45 25 none 0 0 0 0 Try.underlying45
    clear h
    go_enter Try.func30, Try.ntmps30
    go_wp2_with fail
    go_ret
    exact ⟨_, rfl, World.ownsRow_nil _ _ _ _, Fr.refl _ _⟩
  · have hcell := Lib.hid fun (W : World) (f : Fr [] w W) j u (hu : (cat l)[j]? = some u) => show W.cell? ((⟨g, 0, none⟩ : Addr).add j) = some u by
      rw [Go.WideShapes.add_plain, Nat.zero_add, (At.fr (show At w g 25 cur from hg) f (by simp)).cell j]
      rw [← h4, List.getElem?_take] at hu
      split at hu
      · simpa using hu
      · cases hu
    have hone := Lib.hid (cat_one' l)
    have hl1 := Lib.hid hc
    have heq := fun W : World => Lib.run_eql_slice_nil (P := Try.prog) W 45 25 (some ⟨g, 0, none⟩) n cap 0 0 Try.underlying45
    simp only [Option.isNone_some] at heq
    clear h hg h4 hc
    go_enter Try.func30, Try.ntmps30
    have hown0 := Lib.hid (own_empty w 25 8)
    have hnews := Lib.hid (hcell.out (w.alloc (.cells #[] 25)) ((Fr.refl _ _).alloc _))
    go_wp2_with (at_builtin; refine wpList_append_own_at _ rfl (.tmp 5) (.tmp 6) 45 rfl w.heap.size 25 i0 (.agg noC.cells) 8 24 Try.underlying45 hi hz0 hz1 hz2 rfl (by omega) (.slice (some ⟨w.heap.size, 0, none⟩) 0 0) 0 [] rfl hown0.out ⟨g, 0, none⟩ n cap (cat l) rfl hl1.out hnews.out hone.out (by unfold maxLen; omega) (by omega) (by simp) ?_; intro v1 w1 hown1 hg1 hnil hat1)
    go_ret
    rw [Nat.zero_add, List.nil_append] at hown1
    exact ⟨v1, rfl, hown1, ((Fr.refl [] w).alloc _).trans (Fr.grown hg1) (by simp [Value.ownBlock])⟩
theorem scapsl_any {w : World} {sp : Nat} {v : Value} {l : List Cp} (h : St w sp v l) (hl : l.length ≤ 1000) :
    Calls Try.prog 16 #[.pointer (some ⟨sp, 0, none⟩)] w fun r w' => ∃ v', r = .returned v' ∧ w'.ownsRow w.heap.size 25 8 v' l.length (cat l) ∧ Fr [] w w' := by
  have C := Lib.hid (sclone_any h.2 hl)
  have c0 := h.1.cell 0
  simp only [List.getElem?_toArray, List.getElem?_cons_zero] at c0
  clear h
  go_enter Try.func16, Try.ntmps16
  go_wp2_with fail
  refine C.out.mono ?_
  rintro e w2 ⟨v', rfl, h2, hf⟩
  go_wp2_with fail
  go_ret
  exact ⟨_, rfl, h2, hf⟩
theorem scapsl_nil (w : World) : Calls Try.prog 16 #[.pointer none] w fun r w' => r = .returned (.slice none 0 0) ∧ w = w' := by
  go_enter Try.func16, Try.ntmps16
  go_wp2_with fail
  go_ret
  exact ⟨rfl, rfl⟩
theorem scopy_nil (w : World) : Calls Try.prog 17 #[.pointer none] w fun r w' => r = .returned (.pointer none) ∧ w = w' := by
  go_enter Try.func17, Try.ntmps17
  go_wp2_with fail
  go_ret
  exact ⟨rfl, rfl⟩
theorem scopy_any {w : World} {sp : Nat} {v : Value} {l : List Cp} (h : St w sp v l) (hl : l.length ≤ 1000) :
    Calls Try.prog 17 #[.pointer (some ⟨sp, 0, none⟩)] w fun r w' => ∃ sp' v', r = .returned (.pointer (some ⟨sp', 0, none⟩)) ∧ St w' sp' v' l ∧ w.heap.size ≤ sp' ∧ (∀ g, v'.ownBlock = some g → w.heap.size ≤ g) ∧ Fr [] w w' := by
  have C := Lib.hid (sclone_any h.2 hl)
  have c0 := h.1.cell 0
  simp only [List.getElem?_toArray, List.getElem?_cons_zero] at c0
  clear h
  go_enter Try.func17, Try.ntmps17
  go_wp2_with fail
  refine C.out.mono ?_
  rintro e w2 ⟨v', rfl, h2, hf⟩
  have H2 := Lib.hid h2
  have hs := hf.size
  obtain ⟨va, vc, rfl, hvc⟩ := own_slice h2
  have ho : ∀ g, (Value.slice va l.length vc).ownBlock = some g → w.heap.size ≤ g := fun g hg => by
    rcases h2.2 with ⟨e, _⟩ | ⟨g', cap, cur, e, hb, _⟩
    · rw [e] at hg; simp [Value.ownBlock] at hg
    · rw [e] at hg; simp [Value.ownBlock] at hg
      omega
  have HO := Lib.hid ho
  clear h2 ho
  go_wp2_with fail
  go_ret
  exact ⟨_, _, rfl, ⟨At.new _ _ _, own_base (own_fr0 H2.out (by repeat (first | exact Fr.refl _ _ | assumption | refine Fr.trans0 ?_ (by assumption) | refine Fr.drewN ?_ _ | refine Fr.alloc ?_ _ | refine Fr.drew ?_))) (by omega)⟩, hs, HO.out, hf.trans0 (by repeat (first | exact Fr.refl _ _ | assumption | refine Fr.trans0 ?_ (by assumption) | refine Fr.drewN ?_ _ | refine Fr.alloc ?_ _ | refine Fr.drew ?_))⟩
theorem sscan_nil (w : World) (pv : Option Addr) : Calls Try.prog 18 #[.pointer none, .pointer pv] w fun r w' => r = .returned (.int .i64 0) ∧ w = w' := by
  go_enter Try.func18, Try.ntmps18
  go_wp2_with fail
  go_ret
  exact ⟨rfl, rfl⟩
theorem St.caps {w : World} {sp : Nat} {a : Option Addr} {n c : Nat} {l : List Cp} (h : St w sp (.slice a n c) l) : n = l.length ∧ CapsIn w a l := by
  have hl := h.2.1
  rw [cat_len] at hl
  rcases h.2.2 with ⟨h1, h2⟩ | ⟨g, cap, cur, hv, hb, hg, hc, hx, hs, ht⟩
  · injection h1 with _ h1 _
    exact ⟨by omega, .inl (List.eq_nil_of_length_eq_zero h2)⟩
  · injection hv with e1 e2 e3
    refine ⟨e2, .inr ⟨_, e1, fun j v hj => ?_⟩⟩
    have hA : At w g 25 cur := hg
    rw [Go.WideShapes.add_plain, Nat.zero_add, hA.cell]
    rw [← ht, List.getElem?_take] at hj
    split at hj
    · simpa using hj
    · cases hj
theorem own_new {w : World} {b g : Nat} {l : List Cp} (h : At w g 25 (cat l).toArray) (hb : b ≤ g) (hl : l.length ≤ 1000) : w.ownsRow b 25 8 (.slice (some ⟨g, 0, none⟩) l.length l.length) l.length (cat l) := by
  refine ⟨cat_len l, .inr ⟨g, l.length, (cat l).toArray, rfl, hb, h, Nat.le_refl _, ?_, ?_, ?_⟩⟩
  · unfold maxLen; omega
  · simp [cat_len]
  · rw [List.take_of_length_le (by rw [cat_len]; omega)]
theorem sscan_any {B : Nat} {w : World} {pv : Option Addr} {hs : Int → Bool} (h : Hs B w pv hs) (hB : B ≤ w.heap.size) (sp : Nat) (v : Value) (l : List Cp) (hS : St w sp v l) (hc : ∀ c ∈ l, c.cur < 4294967296) (hl : l.length ≤ 1000) :
    Calls Try.prog 18 #[.pointer (some ⟨sp, 0, none⟩), .pointer pv] w fun r w' => ∃ v', r = .returned (.int .i64 (sums hs l : Nat)) ∧ St w' sp v' (l.map (cln hs)) ∧ Fr [sp] w w' ∧ ∀ g, v'.ownBlock = some g → w.heap.size ≤ g := by
  obtain ⟨va, vc, rfl, hvc⟩ := own_slice hS.2
  obtain ⟨-, hin⟩ := hS.caps
  have C := Lib.hid (scaps_any h hB va vc l hin hc hl)
  have c0 := hS.1.cell 0
  have z0 := hS.1.froz 0
  simp only [List.getElem?_toArray, List.getElem?_cons_zero] at c0
  have hL := own_len hS.2
  have HS := Lib.hid hS
  have hspl := hS.1.lt
  obtain ⟨m, hm⟩ : ∃ m, l.map (cln hs) = m := ⟨_, rfl⟩
  have hml : m.length = l.length := by rw [← hm]; simp
  obtain ⟨s, hs1⟩ : ∃ s, sums hs l = s := ⟨_, rfl⟩
  rw [hm, hs1] at C
  rw [hm, hs1]
  obtain ⟨n, hn⟩ : ∃ n, l.length = n := ⟨_, rfl⟩
  rw [hn] at C c0 hL HS hml hl
  clear h hS hin hc hm hs1
  go_enter Try.func18, Try.ntmps18
  go_wp2_with fail
  refine C.out.mono ?_
  rintro e w2 ⟨g, rfl, h2, hg, hf⟩
  have c1 := (hf.cell (lt_of_cell c0) (by simp)).trans c0
  have hS2 := HS.out.1.fr hf (by simp)
  have z1 := hS2.froz 0
  have H2 := Lib.hid h2
  have HF := Lib.hid hf
  have HS2 := Lib.hid hS2
  clear h2 hf hS2
  go_wp2_with fail
  go_ret
  have hgs : g ≠ sp := by omega
  have hf2 : Fr [sp] w2 (w2.setCell ⟨sp, 0, none⟩ (.slice (some ⟨g, 0, none⟩) n n)) := (Fr.refl _ _).set (.inl (by simp)) _
  refine ⟨_, rfl, ⟨HS2.out.set 0 _, ?_⟩, (HF.out.more (by simp)).trans hf2 (fun k hk => .inl hk), fun g' hg' => by simp [Value.ownBlock] at hg'; subst hg'; exact hg⟩
  rw [hml]
  have hO := own_new (b := 0) (H2.out.fr hf2 (by simpa using hgs)) (by omega) (by omega)
  rw [hml] at hO
  exact hO
end Go.Proofs.Ytdfefnajhnlpdaa
