/-
  Calls and returns, by the program and by the reference: both come to the same. Condition: numbers in their types' ranges; the stack holds a multiple of three, sixteen entries at most.
-/



import Derived.Test.YtdfefnajhnlpdaaRCall
import Derived.Test.YtdfefnajhnlpdaaRet
import Derived.Test.YtdfefnajhnlpdaaCall
set_option linter.unusedVariables false
namespace Go.Proofs.Ytdfefnajhnlpdaa
open Go.ChangeShapes Go.WideShapes Go.ChangeAt Go.RowKit
def Cur (l : List Cp) : Prop := ∀ c ∈ l, c.cur < 4294967296
theorem Cur.set {l : List Cp} (h : Cur l) {c : Cp} (hc : c.cur < 4294967296) (i : Nat) : Cur (l.set i c) := fun d hd => by
  rcases List.mem_or_eq_of_mem_set hd with h' | rfl
  · exact h d h'
  · exact hc
theorem cur_zf : Cur zf := fun c hc => by
  unfold zf at hc
  rw [List.mem_replicate] at hc
  rw [hc.2]
  decide
theorem Cur.getD {l : List Cp} (h : Cur l) (i : Nat) : (l.getD i noC).cur < 4294967296 := by
  rw [List.getD_eq_getElem?_getD]
  cases hi : l[i]? with
  | none => decide
  | some c => exact h c (List.mem_of_getElem? hi)
theorem Cur.pass {fr : List Cp} (h : Cur fr) : Cur (passF fr) := (cur_zf.set (h.getD 10) 10).set (h.getD 11) 11
theorem Cur.take {l : List Cp} (h : Cur l) (n : Nat) : Cur (l.take n) := fun c hc => h c (List.mem_of_mem_take hc)
theorem Cur.append {l m : List Cp} (h : Cur l) (h' : Cur m) : Cur (l ++ m) := fun c hc => by
  rcases List.mem_append.1 hc with h1 | h1
  · exact h c h1
  · exact h' c h1
theorem pass_len (fr : List Cp) : (passF fr).length = 17 := by unfold passF; rw [List.length_set, List.length_set, zf_len]
def Deep (l : List Cp) : Prop := ∃ d, l.length = 3 * d ∧ d ≤ 16
/-- What a call, or a return, comes to: what is told, the frame, the stack then. -/
structure Twin (fp fq : FuncId) (l : List Cp) (rest : List Value) (T : Int) (G l' : List Cp) : Prop where
  len : G.length = 17
  cur : Cur G
  deep : Deep l'
  cur' : Cur l'
  prog : ∀ (w : World) (sp : Nat) (v : Value), St w sp v l → Calls Try.prog fp (.pointer (some ⟨sp, 0, none⟩) :: rest).toArray w fun r w' => ∃ v', r = .returned (.tuple #[.agg (cat G).toArray, .int .i64 T]) ∧ St w' sp v' l' ∧ Fr (sp :: v.ownBlock.toList) w w' ∧ ∀ g, v'.ownBlock = some g → v.ownBlock = some g ∨ w.heap.size ≤ g
  ref : ∀ (w : World) (u : Value), w.ownsRow 0 25 8 u l.length (cat l) → Calls Try.prog fq (u :: rest).toArray w fun r w' => ∃ u', r = .returned (.tuple #[u', .agg (cat G).toArray, .int .i64 T]) ∧ w'.ownsRow 0 25 8 u' l'.length (cat l') ∧ Fr [] w w' ∧ ∀ g, u'.ownBlock = some g → u.ownBlock = some g ∨ w.heap.size ≤ g
theorem call_twin (l : List Cp) (hd : Deep l) (hc : Cur l) (fr : List Cp) (hl : fr.length = 17) (hf : Cur fr) (a b : Cp) (ha : a.cur < 4294967296) (hb : b.cur < 4294967296) :
    ∃ T G l', Twin 10 21 l [.agg (cat fr).toArray, .agg a.cells, .agg b.cells] T G l' := by
  have same : ∀ (T : Int), (∀ (w : World) (sp : Nat) (v : Value), St w sp v l → Calls Try.prog 10 #[.pointer (some ⟨sp, 0, none⟩), .agg (cat fr).toArray, .agg a.cells, .agg b.cells] w fun r w' => r = .returned (.tuple #[.agg (cat zf).toArray, .int .i64 T]) ∧ Fr [] w w') →
      (∀ (w : World) (u : Value), w.ownsRow 0 25 8 u l.length (cat l) → Calls Try.prog 21 #[u, .agg (cat fr).toArray, .agg a.cells, .agg b.cells] w fun r w' => r = .returned (.tuple #[u, .agg (cat zf).toArray, .int .i64 T]) ∧ Fr [] w w') →
      ∃ T G l', Twin 10 21 l [.agg (cat fr).toArray, .agg a.cells, .agg b.cells] T G l' := fun T h1 h2 =>
    ⟨T, zf, l, zf_len, cur_zf, hd, hc,
      fun w sp v hs => (h1 w sp v hs).mono fun r w' ⟨e, f⟩ => ⟨v, e, hs.fr0 f, f.more (by simp), fun g hg => .inl hg⟩,
      fun w u hu => (h2 w u hu).mono fun r w' ⟨e, f⟩ => ⟨u, e, own_fr0 hu f, f, fun g hg => .inl hg⟩⟩
  by_cases ht : trapI a b = 0
  · by_cases hn : 48 ≤ l.length
    · exact same 9 (fun w sp v hs => scall_full w sp v l hs hn fr a b ht) (fun w u hu => r20call_full w u l hu hn fr a b ht)
    · have g16 : fr[16]? = some (fr.getD 16 noC) := by rw [List.getD_eq_getElem?_getD]; simp [hl]
      have g14 : fr[14]? = some (fr.getD 14 noC) := by rw [List.getD_eq_getElem?_getD]; simp [hl]
      have g15 : fr[15]? = some (fr.getD 15 noC) := by rw [List.getD_eq_getElem?_getD]; simp [hl]
      obtain ⟨d, hd1, hd2⟩ := hd
      refine ⟨0, ((passF fr).set 16 a.opened).set 15 b.opened, l ++ [(fr.getD 16 noC).addr (((fr.getD 16 noC).cur + 4) % 4294967296), fr.getD 14 noC, fr.getD 15 noC], by rw [List.length_set, List.length_set, pass_len], (hf.pass.set (c := a.opened) ha 16).set (c := b.opened) hb 15, ⟨d + 1, by rw [List.length_append, hd1]; simp; omega, by omega⟩, hc.append fun c hc => ?_, fun w sp v hs => ?_, fun w u hu => ?_⟩
      · simp only [List.mem_cons, List.not_mem_nil, or_false] at hc
        rcases hc with rfl | rfl | rfl
        · exact Nat.mod_lt _ (by omega)
        · exact hf.getD 14
        · exact hf.getD 15
      · exact scall_ok w sp v l hs (by omega) fr hl _ _ _ g16 g14 g15 (hf.getD 16) a b ht
      · refine (r20call_ok w u l hu (by omega) fr hl _ _ _ g16 g14 g15 (hf.getD 16) a b ht).mono ?_
        rintro r w' ⟨u', e, h1, h2⟩
        exact ⟨u', e, by rw [List.length_append]; exact own_base h1 (Nat.zero_le _), h2, fun g hg => .inr (h1.lt g hg).1⟩
  · exact same (trapI a b) (fun w sp v hs => scall_bad w sp fr a b ht) (fun w u hu => r20call_bad w u l hu fr a b ht)
theorem ret_twin (l : List Cp) (hd : Deep l) (hc : Cur l) (fr : List Cp) (hl : fr.length = 17) (hf : Cur fr) :
    ∃ T G l', Twin 15 22 l [.agg (cat fr).toArray] T G l' := by
  obtain ⟨d, hd1, hd2⟩ := hd
  cases d with
  | zero =>
    refine ⟨9, zf, l, zf_len, cur_zf, ⟨0, hd1, by omega⟩, hc, fun w sp v hs => ?_, fun w u hu => ?_⟩
    · exact (sret_none w sp v l hs (by omega) fr).mono fun r w' ⟨e, f⟩ => ⟨v, e, hs.fr0 f, f.more (by simp), fun g hg => .inl hg⟩
    · exact (r20ret_none w u l hu (by omega) fr).mono fun r w' ⟨e, f⟩ => ⟨u, e, own_fr0 hu f, f, fun g hg => .inl hg⟩
  | succ d =>
    have g0 : l[3 * d]? = some (l.getD (3 * d) noC) := by rw [List.getD_eq_getElem?_getD, List.getElem?_eq_getElem (by omega)]; rfl
    have g1 : l[3 * d + 1]? = some (l.getD (3 * d + 1) noC) := by rw [List.getD_eq_getElem?_getD, List.getElem?_eq_getElem (by omega)]; rfl
    have g2 : l[3 * d + 2]? = some (l.getD (3 * d + 2) noC) := by rw [List.getD_eq_getElem?_getD, List.getElem?_eq_getElem (by omega)]; rfl
    have hlt : (l.take (3 * d)).length = 3 * d := by rw [List.length_take, hd1]; omega
    refine ⟨0, (((passF fr).set 16 (l.getD (3 * d) noC)).set 14 (l.getD (3 * d + 1) noC)).set 15 (l.getD (3 * d + 2) noC), l.take (3 * d), by rw [List.length_set, List.length_set, List.length_set, pass_len], ((hf.pass.set (hc.getD _) 16).set (hc.getD _) 14).set (hc.getD _) 15, ⟨d, hlt, by omega⟩, hc.take _, fun w sp v hs => ?_, fun w u hu => ?_⟩
    · refine (sret_ok w sp v l hs d hd1 (by omega) _ _ _ g0 g1 g2 fr hl).mono ?_
      rintro r w' ⟨v', e, h1, h2, h3⟩
      exact ⟨v', e, h1, h2.more (by simp), fun g hg => .inl (h3 ▸ hg)⟩
    · refine (r20ret_ok w u l hu (3 * d) (by omega) (by omega) _ _ _ g0 g1 g2 fr hl).mono ?_
      rintro r w' ⟨u', e, h1, h2, h3⟩
      exact ⟨u', e, by rw [hlt]; exact h1, h2, fun g hg => .inl (h3 ▸ hg)⟩
end Go.Proofs.Ytdfefnajhnlpdaa
