/-
  The reference's state in memory, as its lists grow and its grants change. No condition.
-/



import Derived.Test.YtkbdoiefgmbikaaRState
set_option linter.unusedVariables false
namespace Go.Proofs.Ytkbdoiefgmbikaa
open Go.ChangeShapes Go.WideShapes Go.ChangeAt Go.RowKit
section
variable {w w' w1 w2 : World} {B p : Nat} {y : Rx} {gv ev av tv : Value}
theorem own_sep {b b' s s' n n' : Nat} {e e' : TypeId} {v v' : Value} {xs xs' : List Value} (h : w.ownsRow b e s v n xs) (h' : w.ownsRow b' e' s' v' n' xs') (hne : e ≠ e') : ∀ g, v.ownBlock = some g → v'.ownBlock ≠ some g := by
  intro g hg hg'
  rcases h'.2 with ⟨rfl, _⟩ | ⟨g', cap, cur, rfl, _, h1, _⟩
  · simp [Value.ownBlock] at hg'
  · simp [Value.ownBlock] at hg'
    subst hg'
    exact own_ne h (show At w g' e' cur from h1) (Ne.symm hne) g' hg rfl
theorem toL {v v' : Value} (h : ∀ g, v.ownBlock = some g → v'.ownBlock ≠ some g) : ∀ g, v.ownBlock = some g → g ∉ v'.ownBlock.toList := by
  intro g hg hm
  cases hv : v'.ownBlock with
  | none => rw [hv] at hm; simp at hm
  | some x => rw [hv] at hm; simp at hm; subst hm; exact h _ hg hv
/-- The blocks of a state. -/
def sB (p : Nat) (gv ev av tv : Value) : List Nat := p :: (gv.ownBlock.toList ++ (ev.ownBlock.toList ++ (av.ownBlock.toList ++ tv.ownBlock.toList)))
/-- A list of another type is none of these. -/
theorem Rst.apart (h : Rst w B p y gv ev av tv) {b s n : Nat} {v : Value} {xs : List Value} {e : TypeId} (ho : w.ownsRow b e s v n xs) (h1 : e ≠ 84) (h2 : e ≠ 103) (h3 : e ≠ 3) (h4 : e ≠ 41) : ∀ g, v.ownBlock = some g → g ∉ sB p gv ev av tv := by
  intro g hg hm
  unfold sB at hm
  simp only [List.mem_cons, List.mem_append] at hm
  rcases hm with rfl | hm | hm | hm | hm
  · exact own_ne ho h.at_ (Ne.symm h1) _ hg rfl
  · exact toL (own_sep ho h.g h2) g hg hm
  · exact toL (own_sep ho h.e h3) g hg hm
  · exact toL (own_sep ho h.a h4) g hg hm
  · exact toL (own_sep ho h.t h3) g hg hm
theorem Rst.ge (h : Rst w B p y gv ev av tv) : ∀ b ∈ sB p gv ev av tv, B ≤ b := by
  intro g hm
  unfold sB at hm
  simp only [List.mem_cons, List.mem_append] at hm
  have key : ∀ {e s n : Nat} {v : Value} {xs : List Value}, w.ownsRow B e s v n xs → g ∈ v.ownBlock.toList → B ≤ g := fun {e s n v xs} ho hg => by
    cases hv : v.ownBlock with
    | none => rw [hv] at hg; simp at hg
    | some x => rw [hv] at hg; simp at hg; subst hg; exact (ho.lt _ hv).1
  rcases hm with rfl | hm | hm | hm | hm
  · exact h.pb
  · exact key h.g hm
  · exact key h.e hm
  · exact key h.a hm
  · exact key h.t hm
theorem Rst.lo (h : Rst w B p y gv ev av tv) : B ≤ w.heap.size := Nat.le_trans h.pb (Nat.le_of_lt h.at_.lt)
theorem sB_p : p ∈ sB p gv ev av tv := by simp [sB]
theorem sB_g {k : Nat} (h : k ∈ gv.ownBlock.toList) : k ∈ sB p gv ev av tv := by unfold sB; simp only [List.mem_cons, List.mem_append]; exact .inr (.inl h)
theorem sB_e {k : Nat} (h : k ∈ ev.ownBlock.toList) : k ∈ sB p gv ev av tv := by unfold sB; simp only [List.mem_cons, List.mem_append]; exact .inr (.inr (.inl h))
theorem sB_a {k : Nat} (h : k ∈ av.ownBlock.toList) : k ∈ sB p gv ev av tv := by unfold sB; simp only [List.mem_cons, List.mem_append]; exact .inr (.inr (.inr (.inl h)))
theorem sB_t {k : Nat} (h : k ∈ tv.ownBlock.toList) : k ∈ sB p gv ev av tv := by unfold sB; simp only [List.mem_cons, List.mem_append]; exact .inr (.inr (.inr (.inr h)))
theorem to_mem {v : Value} {g : Nat} (h : v.ownBlock = some g) : g ∈ v.ownBlock.toList := by rw [h]; simp
theorem Fr.wid {S : List Nat} (f : Fr [] w w1) : Fr S w w1 := f.more (by simp)
/-- A cell of the state's own block. -/
theorem Rst.setP (h : Rst w B p y gv ev av tv) (i : Nat) (u : Value) {y' : Rx} (e : (#[gv, Value.bool y.sw, .int .u64 y.la, .int .i64 y.be, ev, av, tv].setIfInBounds i u) = #[gv, Value.bool y'.sw, .int .u64 y'.la, .int .i64 y'.be, ev, av, tv])
    (h1 : y'.gs = y.gs) (h2 : y'.en = y.en) (h3 : y'.ks = y.ks) : Rst (w.setCell ⟨p, i, none⟩ u) B p y' gv ev av tv ∧ Fr (sB p gv ev av tv) w (w.setCell ⟨p, i, none⟩ u) := by
  have G := (Fr.refl [p] w).set (a := ⟨p, i, none⟩) (.inl (by simp)) u
  have hP := h.at_
  refine ⟨⟨e ▸ hP.set i u, h.pb, ?_, ?_, ?_, ?_, h.ne⟩, (Fr.refl _ w).set (a := ⟨p, i, none⟩) (.inl sB_p) u⟩
  · rw [h1]; exact own_fr h.g G (fun g hg => by simpa using own_ne h.g hP (by decide) g hg)
  · rw [h2]; exact own_fr h.e G (fun g hg => by simpa using own_ne h.e hP (by decide) g hg)
  · rw [h3]; exact own_fr h.a G (fun g hg => by simpa using own_ne h.a hP (by decide) g hg)
  · rw [h3]; exact own_fr h.t G (fun g hg => by simpa using own_ne h.t hP (by decide) g hg)
/-- The grants have grown. -/
theorem Rst.addG (h : Rst w B p y gv ev av tv) (f : Fr [] w w1) {v : Value} {g : RG} (hg : w1.grownBy w2 gv.ownBlock) (ho : w2.ownsRow B 103 5 v (y.gs.length + 1) (rgC y.gs ++ g.l)) :
    Rst (w2.setCell ⟨p, 0, none⟩ v) B p { y with gs := y.gs ++ [g] } v ev av tv ∧ Fr (sB p gv ev av tv) w (w2.setCell ⟨p, 0, none⟩ v) := by
  have h1 := h.fr0 f
  have F := Fr.grown hg
  have hP := h1.at_.fr F (own_toList h1.g h1.at_ (by decide))
  have hE := own_fr h1.e F (toL (own_sep h1.e h1.g (by decide)))
  have hA := own_fr h1.a F (toL (own_sep h1.a h1.g (by decide)))
  have hT := own_fr h1.t F (toL (own_sep h1.t h1.g (by decide)))
  have G := (Fr.refl [p] w2).set (a := ⟨p, 0, none⟩) (.inl (by simp)) v
  refine ⟨⟨hP.set 0 v, h.pb, ?_, own_fr hE G (fun g hg => by simpa using own_ne hE hP (by decide) g hg), own_fr hA G (fun g hg => by simpa using own_ne hA hP (by decide) g hg), own_fr hT G (fun g hg => by simpa using own_ne hT hP (by decide) g hg), h.ne⟩, ?_⟩
  · have : rgC (y.gs ++ [g]) = rgC y.gs ++ g.l := by unfold rgC; rw [List.flatMap_append]; simp
    rw [this, List.length_append]
    exact own_fr ho G (fun g hg => by simpa using own_ne ho hP (by decide) g hg)
  · exact ((f.wid (S := sB p gv ev av tv)).trans F (fun k hk => .inl (sB_g hk))).trans G (fun k hk => .inl (by simp at hk; rw [hk]; exact sB_p))
/-- The ends have grown. -/
theorem Rst.addE (h : Rst w B p y gv ev av tv) (f : Fr [] w w1) {v : Value} {i : Nat} (hg : w1.grownBy w2 ev.ownBlock) (ho : w2.ownsRow B 3 1 v (y.en.length + 1) (nts y.en ++ [.int .i64 (i : Int)])) (hat : v.ownBlock = ev.ownBlock ∨ v.ownBlock = some w1.heap.size) :
    Rst (w2.setCell ⟨p, 4, none⟩ v) B p { y with en := y.en ++ [i] } gv v av tv ∧ Fr (sB p gv ev av tv) w (w2.setCell ⟨p, 4, none⟩ v) := by
  have h1 := h.fr0 f
  have F := Fr.grown hg
  have hP := h1.at_.fr F (own_toList h1.e h1.at_ (by decide))
  have hG := own_fr h1.g F (toL (own_sep h1.g h1.e (by decide)))
  have hA := own_fr h1.a F (toL (own_sep h1.a h1.e (by decide)))
  have hT := own_fr h1.t F (toL (fun g hg hg' => h.ne g hg' hg))
  have G := (Fr.refl [p] w2).set (a := ⟨p, 4, none⟩) (.inl (by simp)) v
  refine ⟨⟨hP.set 4 v, h.pb, own_fr hG G (fun g hg => by simpa using own_ne hG hP (by decide) g hg), ?_, own_fr hA G (fun g hg => by simpa using own_ne hA hP (by decide) g hg), own_fr hT G (fun g hg => by simpa using own_ne hT hP (by decide) g hg), ?_⟩, ?_⟩
  · have : nts (y.en ++ [i]) = nts y.en ++ [.int .i64 (i : Int)] := by unfold nts; rw [List.map_append]; rfl
    rw [this, List.length_append]
    exact own_fr ho G (fun g hg => by simpa using own_ne ho hP (by decide) g hg)
  · intro g hg'
    rcases hat with e | e
    · rw [e] at hg'; exact h.ne g hg'
    · intro ht
      have := (h1.t.lt g ht).2
      rw [e] at hg'
      injection hg' with hg'
      omega
  · exact ((f.wid (S := sB p gv ev av tv)).trans F (fun k hk => .inl (sB_e hk))).trans G (fun k hk => .inl (by simp at hk; rw [hk]; exact sB_p))
/-- What was asked has grown, and then where. -/
theorem Rst.addA1 (h : Rst w B p y gv ev av tv) (f : Fr [] w w1) {v : Value} {e : Ev} (hg : w1.grownBy w2 av.ownBlock) (ho : w2.ownsRow B 41 6 v (y.ks.length + 1) (evC (y.ks.map (·.1)) ++ evl e)) :
    At (w2.setCell ⟨p, 5, none⟩ v) p 84 #[gv, .bool y.sw, .int .u64 y.la, .int .i64 y.be, ev, v, tv] ∧ (w2.setCell ⟨p, 5, none⟩ v).ownsRow B 103 5 gv y.gs.length (rgC y.gs) ∧
    (w2.setCell ⟨p, 5, none⟩ v).ownsRow B 3 1 ev y.en.length (nts y.en) ∧ (w2.setCell ⟨p, 5, none⟩ v).ownsRow B 41 6 v (y.ks.length + 1) (evC (y.ks.map (·.1)) ++ evl e) ∧
    (w2.setCell ⟨p, 5, none⟩ v).ownsRow B 3 1 tv y.ks.length (nts (y.ks.map (·.2))) ∧ Fr (sB p gv ev av tv) w (w2.setCell ⟨p, 5, none⟩ v) := by
  have h1 := h.fr0 f
  have F := Fr.grown hg
  have hP := h1.at_.fr F (own_toList h1.a h1.at_ (by decide))
  have hG := own_fr h1.g F (toL (own_sep h1.g h1.a (by decide)))
  have hE := own_fr h1.e F (toL (own_sep h1.e h1.a (by decide)))
  have hT := own_fr h1.t F (toL (own_sep h1.t h1.a (by decide)))
  have G := (Fr.refl [p] w2).set (a := ⟨p, 5, none⟩) (.inl (by simp)) v
  exact ⟨hP.set 5 v, own_fr hG G (fun g hg => by simpa using own_ne hG hP (by decide) g hg), own_fr hE G (fun g hg => by simpa using own_ne hE hP (by decide) g hg), own_fr ho G (fun g hg => by simpa using own_ne ho hP (by decide) g hg),
    own_fr hT G (fun g hg => by simpa using own_ne hT hP (by decide) g hg), ((f.wid (S := sB p gv ev av tv)).trans F (fun k hk => .inl (sB_a hk))).trans G (fun k hk => .inl (by simp at hk; rw [hk]; exact sB_p))⟩
theorem Rst.addA2 (h : Rst w B p y gv ev av tv) {W3 w4 w5 : World} {v : Value} {e : Ev} (k1 : At W3 p 84 #[gv, .bool y.sw, .int .u64 y.la, .int .i64 y.be, ev, v, tv]) (k2 : W3.ownsRow B 103 5 gv y.gs.length (rgC y.gs))
    (k3 : W3.ownsRow B 3 1 ev y.en.length (nts y.en)) (k4 : W3.ownsRow B 41 6 v (y.ks.length + 1) (evC (y.ks.map (·.1)) ++ evl e)) (k5 : W3.ownsRow B 3 1 tv y.ks.length (nts (y.ks.map (·.2)))) (k6 : Fr (sB p gv ev av tv) w W3)
    (f : Fr [] W3 w4) {u : Value} {i : Nat} (hg : w4.grownBy w5 tv.ownBlock) (ho : w5.ownsRow B 3 1 u (y.ks.length + 1) (nts (y.ks.map (·.2)) ++ [.int .i64 (i : Int)])) (hat : u.ownBlock = tv.ownBlock ∨ u.ownBlock = some w4.heap.size) :
    Rst (w5.setCell ⟨p, 6, none⟩ u) B p { y with ks := y.ks ++ [(e, i)] } gv ev v u ∧ Fr (sB p gv ev av tv) w (w5.setCell ⟨p, 6, none⟩ u) := by
  have j1 := k1.fr f (by simp)
  have j2 := own_fr0 k2 f
  have j3 := own_fr0 k3 f
  have j4 := own_fr0 k4 f
  have j5 := own_fr0 k5 f
  have F := Fr.grown hg
  have hP := j1.fr F (own_toList j5 j1 (by decide))
  have hG := own_fr j2 F (toL (own_sep j2 j5 (by decide)))
  have hE := own_fr j3 F (toL h.ne)
  have hA := own_fr j4 F (toL (own_sep j4 j5 (by decide)))
  have G := (Fr.refl [p] w5).set (a := ⟨p, 6, none⟩) (.inl (by simp)) u
  refine ⟨⟨hP.set 6 u, h.pb, own_fr hG G (fun g hg => by simpa using own_ne hG hP (by decide) g hg), own_fr hE G (fun g hg => by simpa using own_ne hE hP (by decide) g hg), ?_, ?_, ?_⟩, ?_⟩
  · have : evC ((y.ks ++ [(e, i)]).map (·.1)) = evC (y.ks.map (·.1)) ++ evl e := by unfold evC; rw [List.map_append, List.flatMap_append]; simp
    rw [this, List.length_append]
    exact own_fr hA G (fun g hg => by simpa using own_ne hA hP (by decide) g hg)
  · have : nts ((y.ks ++ [(e, i)]).map (·.2)) = nts (y.ks.map (·.2)) ++ [.int .i64 (i : Int)] := by unfold nts; rw [List.map_append, List.map_append]; rfl
    rw [this, List.length_append]
    exact own_fr ho G (fun g hg => by simpa using own_ne ho hP (by decide) g hg)
  · intro g hg'
    rcases hat with e | e
    · rw [e]; exact h.ne g hg'
    · intro ht
      have := (j3.lt g hg').2
      rw [e] at ht
      injection ht with ht
      omega
  · exact ((k6.trans0 f).trans F (fun k hk => .inl (sB_t hk))).trans G (fun k hk => .inl (by simp at hk; rw [hk]; exact sB_p))
/-- A cell of an element. -/
theorem own_setS {b size n : Nat} {e : TypeId} {v : Value} {xs : List Value} (h : w.ownsRow b e size v n xs) {g c : Nat} (hv : v = .slice (some ⟨g, 0, none⟩) n c) (k : Nat) (u : Value) : (w.setCell ⟨g, k, none⟩ u).ownsRow b e size v n (xs.set k u) := by
  subst hv
  rcases h.2 with ⟨h0, _⟩ | ⟨g', cap, cur, h0, hbg, h1, h2, h3, h4, h5⟩
  · cases h0
  · injection h0 with ha _ hc
    injection ha with ha
    injection ha with ha
    subst ha hc
    refine ⟨by rw [List.length_set]; exact h.1, .inr ⟨g, c, cur.setIfInBounds k u, rfl, hbg, At.set h1 k u, h2, h3, by simpa using h4, ?_⟩⟩
    rw [← h5]
    simp [List.take_set]
theorem rgC_set (l : List RG) (k j : Nat) (g g' : RG) (u : Value) (hk : l[k]? = some g) (hj : j < 5) (hg : g'.l = g.l.set j u) : (rgC l).set (k * 5 + j) u = rgC (l.set k g') := by
  have hkl := (List.getElem?_eq_some_iff.1 hk).1
  have hlen : ∀ m : List RG, (rgC m).length = m.length * 5 := fun m => fm_len RG.l 5 (fun _ => rfl) m
  refine List.ext_getElem? fun q => ?_
  by_cases hq : q < l.length * 5
  · obtain ⟨c, hc⟩ : ∃ c, l[q / 5]? = some c := ⟨_, List.getElem?_eq_getElem (by omega)⟩
    have hd : q / 5 * 5 + q % 5 = q := by omega
    have h5 : q % 5 < 5 := Nat.mod_lt _ (by omega)
    have h1 := fm_get RG.l 5 (fun _ => rfl) l (q / 5) c (q % 5) hc h5
    rw [hd] at h1
    by_cases hqk : q / 5 = k
    · have h2 := fm_get RG.l 5 (fun _ => rfl) (l.set k g') (q / 5) g' (q % 5) (by rw [hqk, List.getElem?_set_self hkl]) h5
      rw [hd] at h2
      have hcg : c = g := by rw [hqk, hk] at hc; injection hc with hc; exact hc.symm
      show ((rgC l).set (k * 5 + j) u)[q]? = (rgC (l.set k g'))[q]?
      unfold rgC
      rw [h2, hg, List.getElem?_set, List.getElem?_set]
      by_cases hjq : j = q % 5
      · have : k * 5 + j = q := by omega
        have h3 : q < (l.flatMap RG.l).length := by have := hlen l; unfold rgC at this; omega
        rw [if_pos this, if_pos hjq, this, if_pos h3]
        have : q % 5 < g.l.length := h5
        rw [if_pos (by rw [hjq]; exact this)]
      · have : ¬ k * 5 + j = q := by omega
        rw [if_neg this, if_neg hjq, h1, hcg]
    · have h2 := fm_get RG.l 5 (fun _ => rfl) (l.set k g') (q / 5) c (q % 5) (by rw [List.getElem?_set_ne (Ne.symm hqk)]; exact hc) h5
      rw [hd] at h2
      unfold rgC
      rw [h2, List.getElem?_set_ne (by omega), h1]
  · rw [List.getElem?_eq_none (by rw [List.length_set, hlen]; omega), List.getElem?_eq_none (by rw [hlen, List.length_set]; omega)]
/-- A cell of a grant. -/
theorem Rst.setG (h : Rst w B p y gv ev av tv) {gb gc k j : Nat} {g g' : RG} (hv : gv = .slice (some ⟨gb, 0, none⟩) y.gs.length gc) (u : Value) (hk : y.gs[k]? = some g) (hj : j < 5) (hg : g'.l = g.l.set j u) :
    Rst (w.setCell ⟨gb, k * 5 + j, none⟩ u) B p { y with gs := y.gs.set k g' } gv ev av tv ∧ Fr (sB p gv ev av tv) w (w.setCell ⟨gb, k * 5 + j, none⟩ u) := by
  have hob : gv.ownBlock = some gb := by rw [hv]; rfl
  have G := (Fr.refl [gb] w).set (a := ⟨gb, k * 5 + j, none⟩) (.inl (by simp)) u
  have hm : gb ∈ gv.ownBlock.toList := by rw [hob]; simp
  have hp : p ≠ gb := fun e => own_ne h.g h.at_ (by decide) gb hob e.symm
  have key : ∀ {v' : Value}, (∀ g, v'.ownBlock = some g → gv.ownBlock ≠ some g) → ∀ g, v'.ownBlock = some g → g ∉ [gb] := fun hne g hg => by
    simp
    rintro rfl
    exact hne g hg hob
  refine ⟨⟨h.at_.fr G (by simpa using hp), h.pb, ?_, own_fr h.e G (key (own_sep h.e h.g (by decide))), own_fr h.a G (key (own_sep h.a h.g (by decide))), own_fr h.t G (key (own_sep h.t h.g (by decide))), h.ne⟩, (Fr.refl _ w).set (a := ⟨gb, k * 5 + j, none⟩) (.inl (sB_g hm)) u⟩
  have := own_setS h.g hv (k * 5 + j) u
  rw [rgC_set y.gs k j g g' u hk hj hg] at this
  rw [List.length_set]
  exact this
end
end Go.Proofs.Ytkbdoiefgmbikaa
