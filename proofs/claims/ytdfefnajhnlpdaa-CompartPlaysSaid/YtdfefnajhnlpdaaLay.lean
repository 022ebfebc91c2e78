/-
  How a frame, a stack and the reference's list lie in memory while CompartPlays goes on, and what a step does to that. No condition.
-/



import Derived.Test.YtdfefnajhnlpdaaTwin
import Derived.Test.YtdfefnajhnlpdaaFitsCap
import Derived.Test.YtdfefnajhnlpdaaScaps
set_option linter.unusedVariables false
namespace Go.Proofs.Ytdfefnajhnlpdaa
open Go.ChangeShapes Go.WideShapes Go.ChangeAt Go.RowKit
namespace compartPlays
theorem Fits.split {a b : List Leaf} {cs : List Value} (h : Fits (a ++ b) cs) : Fits a (cs.take a.length) ∧ Fits b (cs.drop a.length) := by
  have hl := h.len
  rw [List.length_append] at hl
  refine ⟨⟨by rw [List.length_take]; omega, fun j l hj => ?_⟩, ⟨by rw [List.length_drop]; omega, fun j l hj => ?_⟩⟩
  · have hjl := (List.getElem?_eq_some_iff.1 hj).1
    obtain ⟨v, hv, hok⟩ := h.at_ j l (by rw [List.getElem?_append_left hjl]; exact hj)
    exact ⟨v, by rw [List.getElem?_take_of_lt hjl]; exact hv, hok⟩
  · obtain ⟨v, hv, hok⟩ := h.at_ (a.length + j) l (by rw [List.getElem?_append_right (by omega)]; simpa using hj)
    exact ⟨v, by rw [List.getElem?_drop]; exact hv, hok⟩
def c8 : List Leaf := [.i .u32, .i .u8, .i .u16, .i .u16, .i .u16, .i .u16, .i .u32, .b]
theorem frame_of : ∀ (n : Nat) (cs : List Value), Fits (List.replicate n c8).flatten cs → ∃ fr : List Cp, cs = cat fr ∧ fr.length = n ∧ ∀ c ∈ fr, c.Ok
  | 0, cs, h => ⟨[], by rw [show cs = [] from Fits.nil h]; rfl, rfl, by simp⟩
  | n + 1, cs, h => by
    rw [List.replicate_succ, List.flatten_cons] at h
    obtain ⟨h8, hr⟩ := Fits.split h
    obtain ⟨c, hc, hok⟩ := fitsC h8
    obtain ⟨fr, hfr, hlen, hall⟩ := frame_of n _ hr
    refine ⟨c :: fr, ?_, by rw [List.length_cons, hlen], fun d hd => ?_⟩
    · rw [← List.take_append_drop c8.length cs, hc, hfr]; rfl
    · rcases List.mem_cons.1 hd with rfl | hd
      · exact hok
      · exact hall d hd
/-- A step's cells. -/
def doL (k : Int) (cl : List Cp) (ra rs : Int) : List Value := .int .i64 k :: (cat cl ++ [.int .u32 ra, .int .u32 rs])
def doLeaves : List Leaf := [.i .i64, .i .u32, .i .u8, .i .u16, .i .u16, .i .u16, .i .u16, .i .u32, .b, .i .u32, .i .u8, .i .u16, .i .u16, .i .u16, .i .u16, .i .u32, .b, .i .u32, .i .u8, .i .u16, .i .u16, .i .u16, .i .u16, .i .u32, .b, .i .u32, .i .u8, .i .u16, .i .u16, .i .u16, .i .u16, .i .u32, .b, .i .u32, .i .u8, .i .u16, .i .u16, .i .u16, .i .u16, .i .u32, .b, .i .u32, .i .u8, .i .u16, .i .u16, .i .u16, .i .u16, .i .u32, .b, .i .u32, .i .u32]
theorem do_of {cs : List Value} (h : Fits doLeaves cs) : ∃ (k : Int) (r0 r1 r2 r3 cd dt : Cp) (ra rs : Int), cs = doL k [r0, r1, r2, r3, cd, dt] ra rs ∧ (∀ c ∈ [r0, r1, r2, r3, cd, dt], c.Ok) ∧ (Lit.int .i64 k).wf = true ∧ (Lit.int .u32 ra).wf = true ∧ (Lit.int .u32 rs).wf = true := by
  have h : Fits (.i .i64 :: ((List.replicate 6 c8).flatten ++ [.i .u32, .i .u32])) cs := h
  obtain ⟨v0, c1, e0, ⟨k, rfl, w0⟩, h1⟩ := h.cons
  obtain ⟨h2, h3⟩ := Fits.split h1
  obtain ⟨cl, hcl, hlen, hok⟩ := frame_of 6 _ h2
  obtain ⟨v1, c2, e1, ⟨ra, rfl, w1⟩, h4⟩ := h3.cons
  obtain ⟨v2, c3, e2, ⟨rs, rfl, w2⟩, h5⟩ := h4.cons
  match cl, hlen with
  | [r0, r1, r2, r3, cd, dt], _ =>
    refine ⟨k, r0, r1, r2, r3, cd, dt, ra, rs, ?_, hok, w0, w1, w2⟩
    rw [e0, ← List.take_append_drop ((List.replicate 6 c8).flatten.length) c1, hcl, e1, e2, h5.nil]
    rfl
theorem doL_len (k : Int) (cl : List Cp) (h : cl.length = 6) (ra rs : Int) : (doL k cl ra rs).length = 51 := by unfold doL; simp [cat_len, h]
theorem doL_one (k : Int) (cl : List Cp) (ra rs : Int) : (doL k cl ra rs).toArray.all (·.oneCell') = true := by
  rw [Array.all_eq_true_iff_forall_mem]
  intro v hv
  simp only [doL, List.mem_toArray, List.mem_cons, List.mem_append, List.not_mem_nil, or_false] at hv
  rcases hv with rfl | hv | rfl | rfl
  · rfl
  · exact cat_one' cl v hv
  · rfl
  · rfl
def zDo : Array Value := (doL 0 (List.replicate 6 noC) 0 0).toArray
theorem zeroDo (w : World) : (zeroValue 59).run Try.prog w = .ok (.agg zDo) w := by kernel_rfl
theorem infoDo : (Try.prog.info? 59).map (·.size) = some 51 := by kernel_rfl
theorem do_cap {w : World} {q : Nat} {k : Int} {cl : List Cp} {ra rs : Int} (h : At w q 59 (doL k cl ra rs).toArray) (i : Nat) (c : Cp) (hi : cl[i]? = some c) (o : Nat) (ho : o = 1 + i * 8) : ∀ j v, c.l[j]? = some v → w.cell? ((⟨q, o, none⟩ : Addr).add j) = some v := fun j v hv => by
  have hj : j < 8 := by have := (List.getElem?_eq_some_iff.1 hv).1; rw [Cp.l_len] at this; exact this
  have hil := (List.getElem?_eq_some_iff.1 hi).1
  rw [Go.WideShapes.add_plain, h.cell, List.getElem?_toArray, ho]
  unfold doL
  rw [show 1 + i * 8 + j = (i * 8 + j) + 1 by omega, List.getElem?_cons_succ, List.getElem?_append_left (by rw [cat_len]; omega), cat_get cl i j c hi hj, hv]
theorem do_reg {w : World} {q : Nat} {k : Int} {cl : List Cp} (hl : cl.length = 6) {ra rs : Int} (h : At w q 59 (doL k cl ra rs).toArray) : ∀ j v, [Value.int .u32 ra, .int .u32 rs][j]? = some v → w.cell? ((⟨q, 49, none⟩ : Addr).add j) = some v := fun j v hv => by
  rw [Go.WideShapes.add_plain, h.cell, List.getElem?_toArray]
  unfold doL
  rw [show 49 + j = (48 + j) + 1 by omega, List.getElem?_cons_succ, List.getElem?_append_right (by rw [cat_len]; omega), cat_len, hl, show 48 + j - 6 * 8 = j by omega, hv]
theorem own_in {w : World} {a : Option Addr} {n c b : Nat} {l : List Cp} (h : w.ownsRow b 25 8 (.slice a n c) n (cat l)) : CapsIn w a l := by
  have hl := h.1
  rw [cat_len] at hl
  rcases h.2 with ⟨h1, h2⟩ | ⟨g, cap, cur, hv, hb, hg, hc, hx, hs, ht⟩
  · exact .inl (List.eq_nil_of_length_eq_zero (by omega))
  · injection hv with e1 e2 e3
    refine .inr ⟨_, e1, fun j v hj => ?_⟩
    have hA : At w g 25 cur := hg
    rw [Go.WideShapes.add_plain, Nat.zero_add, hA.cell]
    rw [← ht, List.getElem?_take] at hj
    split at hj
    · simpa using hj
    · cases hj
theorem cur_map {l : List Cp} (h : Cur l) (hs : Int → Bool) : Cur (l.map (cln hs)) := fun c hc => by
  obtain ⟨d, hd, rfl⟩ := List.mem_map.1 hc
  unfold cln
  split
  · exact h d hd
  · exact h d hd
theorem tmod4 (x : Int) : -4 < x.tmod 4 ∧ x.tmod 4 < 4 := by
  rcases Int.lt_or_le x 0 with h | h
  · have e : x.tmod 4 = -((-x).tmod 4) := by rw [Int.neg_tmod]; omega
    rw [e, Int.tmod_eq_emod_of_nonneg (by omega)]
    omega
  · rw [Int.tmod_eq_emod_of_nonneg h]
    omega
/-- How things lie: the frame, the stack, the reference's list. -/
structure Lay (w wr : World) (fr l : List Cp) (sp : Nat) (v m : Value) : Prop where
  len : fr.length = 17
  cur : Cur fr
  deep : Deep l
  cur' : Cur l
  fr : At wr w.heap.size 31 (cat fr).toArray
  st : St wr sp v l
  own : wr.ownsRow 0 25 8 m l.length (cat l)
  sp : w.heap.size < sp
  far : ∀ g, v.ownBlock = some g → w.heap.size < g
  apart : ∀ g, v.ownBlock = some g → m.ownBlock ≠ some g
  f : Fr [] w wr
/-- The same, where the stack has done its step, and the reference has not. -/
structure Half (w wr : World) (fr l l' : List Cp) (sp : Nat) (v m : Value) : Prop where
  len : fr.length = 17
  cur : Cur fr
  fr : At wr w.heap.size 31 (cat fr).toArray
  st : St wr sp v l'
  own : wr.ownsRow 0 25 8 m l.length (cat l)
  sp : w.heap.size < sp
  far : ∀ g, v.ownBlock = some g → w.heap.size < g
  apart : ∀ g, v.ownBlock = some g → m.ownBlock ≠ some g
  f : Fr [] w wr
theorem St.ne {wr : World} {sp q : Nat} {v : Value} {l : List Cp} {t : TypeId} {cs : Array Value} (h : St wr sp v l) (ha : At wr q t cs) (h1 : t ≠ 69) (h2 : t ≠ 25) : q ∉ sp :: v.ownBlock.toList := fun hm => by
  rcases List.mem_cons.1 hm with rfl | hm
  · exact h1 (ha.inj h.1).1
  · exact own_toList h.2 ha h2 hm
theorem Lay.half {w wr : World} {fr l : List Cp} {sp : Nat} {v m : Value} (h : Lay w wr fr l sp v m) : Half w wr fr l l sp v m := ⟨h.len, h.cur, h.fr, h.st, h.own, h.sp, h.far, h.apart, h.f⟩
theorem Lay.act {w wr wr' : World} {fr l l' : List Cp} {sp : Nat} {v v' m : Value} (h : Lay w wr fr l sp v m) (f : Fr (sp :: v.ownBlock.toList) wr wr') (hs : St wr' sp v' l') (hb : ∀ g, v'.ownBlock = some g → v.ownBlock = some g ∨ wr.heap.size ≤ g) : Half w wr' fr l l' sp v' m := by
  have hw := h.f.size
  have hfb := h.fr.lt
  have hsp := h.sp
  have big : ∀ k ∈ sp :: v.ownBlock.toList, w.heap.size < k := fun k hk => by
    rcases List.mem_cons.1 hk with rfl | hk
    · exact hsp
    · cases hv : v.ownBlock with
      | none => rw [hv] at hk; simp at hk
      | some r => rw [hv] at hk; simp at hk; subst hk; exact h.far _ hv
  refine ⟨h.len, h.cur, h.fr.fr f (fun hm => by have := big _ hm; omega), hs, own_fr h.own f (fun g hg hm => ?_), h.sp, fun g hg => ?_, fun g hg hm => ?_, h.f.trans f (fun k hk => .inr (by have := big k hk; omega))⟩
  · rcases List.mem_cons.1 hm with rfl | hm
    · exact own_ne h.own h.st.1 (by decide) g hg rfl
    · cases hv : v.ownBlock with
      | none => rw [hv] at hm; simp at hm
      | some r => rw [hv] at hm; simp at hm; subst hm; exact h.apart _ hv hg
  · rcases hb g hg with h1 | h1
    · exact h.far g h1
    · omega
  · rcases hb g hg with h1 | h1
    · exact h.apart g h1 hm
    · have := (h.own.lt g hm).2; omega
theorem Half.keep {w wr wr' : World} {fr l l' : List Cp} {sp q : Nat} {v m : Value} {t : TypeId} {cs : Array Value} (h : Half w wr fr l l' sp v m) (f : Fr [q] wr wr') (ha : At wr q t cs) (h1 : t ≠ 69) (h2 : t ≠ 25) (hq : w.heap.size < q) : Half w wr' fr l l' sp v m := by
  have hn := St.ne h.st ha h1 h2
  have hsp := h.sp
  refine ⟨h.len, h.cur, h.fr.fr f (by simp; omega), h.st.fr f (fun hm => hn (by simp at hm; rw [← hm]; exact List.mem_cons_self)) (fun g hg hm => hn (by simp at hm; rw [← hm]; simp [hg])), own_fr h.own f (fun g hg => by have := own_ne h.own ha h2 g hg; simpa using this), h.sp, h.far, h.apart, h.f.trans f (fun k hk => .inr (by simp at hk; omega))⟩
theorem Half.step0 {w wr wr' : World} {fr l l' : List Cp} {sp : Nat} {v m : Value} (h : Half w wr fr l l' sp v m) (f : Fr [] wr wr') : Half w wr' fr l l' sp v m :=
  ⟨h.len, h.cur, h.fr.fr f (by simp), h.st.fr0 f, own_fr0 h.own f, h.sp, h.far, h.apart, h.f.trans0 f⟩
theorem Half.join {w wr wr' : World} {fr l l' : List Cp} {sp : Nat} {v m m' : Value} (h : Half w wr fr l l' sp v m) (f : Fr [] wr wr') (ho : wr'.ownsRow 0 25 8 m' l'.length (cat l')) (hb : ∀ g, m'.ownBlock = some g → m.ownBlock = some g ∨ wr.heap.size ≤ g) (hd : Deep l') (hc : Cur l') : Lay w wr' fr l' sp v m' :=
  ⟨h.len, h.cur, hd, hc, h.fr.fr f (by simp), h.st.fr0 f, ho, h.sp, h.far, fun g hg hm => by
    rcases hb g hm with h1 | h1
    · exact h.apart g hg h1
    · have := (h.st.2.lt g hg).2; omega, h.f.trans0 f⟩
theorem Lay.keep {w wr wr' : World} {fr l : List Cp} {sp q : Nat} {v m : Value} {t : TypeId} {cs : Array Value} (h : Lay w wr fr l sp v m) (f : Fr [q] wr wr') (ha : At wr q t cs) (h1 : t ≠ 69) (h2 : t ≠ 25) (hq : w.heap.size < q) : Lay w wr' fr l sp v m := by
  have k := h.half.keep f ha h1 h2 hq
  exact ⟨k.len, k.cur, h.deep, h.cur', k.fr, k.st, k.own, k.sp, k.far, k.apart, k.f⟩
theorem Lay.step {w wr wr' : World} {fr l : List Cp} {sp : Nat} {v m : Value} {S : List Nat} (h : Lay w wr fr l sp v m) (f : Fr S wr wr') (hS : ∀ k ∈ S, wr.heap.size ≤ k) : Lay w wr' fr l sp v m := by
  have no : ∀ k, k < wr.heap.size → k ∉ S := fun k hk hm => by have := hS k hm; omega
  have hw := h.f.size
  exact ⟨h.len, h.cur, h.deep, h.cur', h.fr.fr f (no _ h.fr.lt), h.st.fr f (no _ h.st.1.lt) (fun g hg => no _ (h.st.2.lt g hg).2), own_fr h.own f (fun g hg => no _ (h.own.lt g hg).2), h.sp, h.far, h.apart, h.f.trans f (fun k hk => .inr (by have := hS k hk; omega))⟩
theorem Lay.put {w wr wr' : World} {fr fr' l : List Cp} {sp : Nat} {v m : Value} (h : Lay w wr fr l sp v m) (f : Fr [w.heap.size] wr wr') (ha : At wr' w.heap.size 31 (cat fr').toArray) (hl : fr'.length = 17) (hc : Cur fr') : Lay w wr' fr' l sp v m := by
  have hsp := h.sp
  exact ⟨hl, hc, h.deep, h.cur', ha, h.st.fr f (by simp; omega) (fun g hg => by have := h.far g hg; simp; omega), own_fr h.own f (fun g hg => by have := own_ne h.own h.fr (by decide) g hg; simpa using this), h.sp, h.far, h.apart, h.f.trans f (fun k hk => by simp at hk; subst hk; exact .inr (Nat.le_refl _))⟩
theorem Half.copy {w wr wr' : World} {fr l l' : List Cp} {sp sp' : Nat} {v v' v0 m : Value} (h : Half w wr' fr l l' sp v0 m) (hd : Deep l) (hc : Cur l) (hs : St wr' sp' v' l) (h1 : w.heap.size < sp') (h2 : ∀ g, v'.ownBlock = some g → w.heap.size < g ∧ m.ownBlock ≠ some g) : Lay w wr' fr l sp' v' m :=
  ⟨h.len, h.cur, hd, hc, h.fr, hs, h.own, h1, fun g hg => (h2 g hg).1, fun g hg => (h2 g hg).2, h.f⟩
end compartPlays
end Go.Proofs.Ytdfefnajhnlpdaa
