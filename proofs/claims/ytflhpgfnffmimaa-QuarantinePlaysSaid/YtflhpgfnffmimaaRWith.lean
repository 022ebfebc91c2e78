/-
  The reference's with: a list of regions with one more. Condition: numbers in their types' ranges, a list of a hundred thousand at most.
-/



import Derived.Test.YtflhpgfnffmimaaRPlain
import Derived.Test.YtflhpgfnffmimaaREnd2
set_option linter.unusedVariables false
namespace Go.Proofs.Ytflhpgfnffmimaa
open Go.ChangeShapes Go.WideShapes Go.ChangeAt Go.RowKit
theorem built1r (W : World) (a s : Int) : (Instr.buildSlice 35 1 #[(0, .agg #[.int .u32 a, .int .u32 s])]).run Try.prog W = .ok (.slice (some ⟨W.heap.size, 0, none⟩) 1 1) (W.alloc (.cells #[.int .u32 a, .int .u32 s] 30)) := by kernel_rfl
theorem one2 (a s : Int) : ∀ u ∈ [Value.int .u32 a, .int .u32 s], u.oneCell' = true := fun u hu => by simp at hu; rcases hu with rfl | rfl <;> rfl
theorem rgv_snoc (l : List (Nat × Nat)) (a s : Nat) : rgv (l ++ [(a, s)]) = rgv l ++ [.int .u32 (a : Int), .int .u32 (s : Int)] := by rw [rgv_append]; rfl
/-- What is out, and is to come. -/
def wthIs (l : List (Nat × Nat)) (r : Nat × Nat) (k : Nat) (B : Bool) (out : List (Nat × Nat)) : Prop := out ++ (if B = true then l.drop k else ref16.wth (l.drop k) r) = ref16.wth l r
theorem wthIs.start (l : List (Nat × Nat)) (r : Nat × Nat) : wthIs l r 0 false [] := rfl
theorem drop_at {l : List (Nat × Nat)} {k : Nat} {q : Nat × Nat} (h : l[k]? = some q) : l.drop k = q :: l.drop (k + 1) := by
  obtain ⟨h1, h2⟩ := List.getElem?_eq_some_iff.1 h
  rw [← h2]; exact List.drop_eq_getElem_cons h1
theorem wthIs.yes {l : List (Nat × Nat)} {r q : Nat × Nat} {k : Nat} {out : List (Nat × Nat)} (h : wthIs l r k true out) (hq : l[k]? = some q) : wthIs l r (k + 1) true (out ++ [q]) := by
  unfold wthIs at *
  rw [if_pos rfl] at *
  rw [drop_at hq] at h
  rw [← h]; simp
theorem wthIs.put {l : List (Nat × Nat)} {r q : Nat × Nat} {k : Nat} {out : List (Nat × Nat)} (h : wthIs l r k false out) (hq : l[k]? = some q) (hr : r.1 < q.1) : wthIs l r (k + 1) true (out ++ [r] ++ [q]) := by
  unfold wthIs at *
  rw [if_pos rfl]
  rw [if_neg (by simp), drop_at hq] at h
  conv at h => lhs; rw [ref16.wth]
  rw [if_pos hr] at h
  rw [← h]; simp
theorem wthIs.no {l : List (Nat × Nat)} {r q : Nat × Nat} {k : Nat} {out : List (Nat × Nat)} (h : wthIs l r k false out) (hq : l[k]? = some q) (hr : ¬ r.1 < q.1) : wthIs l r (k + 1) false (out ++ [q]) := by
  unfold wthIs at *
  rw [if_neg (by simp)] at *
  rw [drop_at hq] at h
  conv at h => lhs; rw [ref16.wth]
  rw [if_neg hr] at h
  rw [← h]; simp
theorem wthIs.end1 {l : List (Nat × Nat)} {r : Nat × Nat} {out : List (Nat × Nat)} (h : wthIs l r l.length true out) : out = ref16.wth l r := by
  unfold wthIs at h
  rw [if_pos rfl, List.drop_length, List.append_nil] at h
  exact h
theorem wthIs.end0 {l : List (Nat × Nat)} {r : Nat × Nat} {out : List (Nat × Nat)} (h : wthIs l r l.length false out) : out ++ [r] = ref16.wth l r := by
  unfold wthIs at h
  rw [if_neg (by simp), List.drop_length] at h
  exact h
set_option maxHeartbeats 2000000 in
set_option maxRecDepth 100000 in
theorem rwith_any (w : World) (v : Value) (l : List (Nat × Nat)) (base : Nat) (hv : w.ownsRow base 30 2 v l.length (rgv l)) (hl : ∀ q ∈ l, q.1 < 4294967296 ∧ q.2 < 4294967296) (hn : l.length ≤ 100000) (a s : Nat) (ha : a < 4294967296) (hs : s < 4294967296) :
    Calls Try.prog 40 #[v, .agg #[.int .u32 a, .int .u32 s]] w fun e w' => ∃ u, e = .returned u ∧ w'.ownsRow w.heap.size 30 2 u (l.length + 1) (rgv (ref16.wth l (a, s))) ∧ Fr [] w w' := by
  obtain ⟨i0, hi, hz0, hz1, hz2⟩ := info_parts infoRg
  have A0 := Lib.hid (At.new w 30 #[.int .u32 (a : Int), .int .u32 s])
  have F0 := Lib.hid (show Fr [] w (w.alloc (.cells #[.int .u32 (a : Int), .int .u32 s] 30)) from (by repeat (first | exact Fr.refl _ _ | assumption | refine Fr.trans0 ?_ (by assumption) | refine Fr.drewN ?_ _ | refine Fr.alloc ?_ _ | refine Fr.drew ?_)))
  have HV := Lib.hid hv
  have HLB := Lib.hid hl
  obtain ⟨va, vc, rfl, -⟩ := own_slice hv
  obtain ⟨n, hn'⟩ : ∃ n, l.length = n := ⟨_, rfl⟩
  rw [hn'] at hn HV ⊢
  have HN := Lib.hid hn'
  clear hv hl hn'
  go_enter Try.func40, Try.ntmps40
  go_wp2_with fail
  go_loopw [5, 6, 7] (fun o p i wr => ∃ (k : Nat) (B : Bool) (out : List (Nat × Nat)), k ≤ n ∧ i = .int .i64 k ∧ p = .bool B ∧ wr.ownsRow (w.heap.size + 1) 30 2 o out.length (rgv out) ∧ out.length = k + B.toNat ∧ wthIs l (a, s) k B out ∧ Fr [] w wr ∧ At wr w.heap.size 30 #[.int .u32 (a : Int), .int .u32 s]) (fun _ _ i _ => n - (intOf i).toNat)
  case atStart => exact ⟨0, false, [], by omega, rfl, rfl, World.ownsRow_nil _ _ _ _, rfl, wthIs.start _ _, F0.out, A0.out⟩
  case round =>
    clear A0 F0
    obtain ⟨k, B, out, hk, rfl, rfl, ho, hm, hw, hf, hat⟩ := hrel
    obtain ⟨m, hmo⟩ : ∃ m, out.length = m := ⟨_, rfl⟩
    rw [hmo] at ho hm
    have HMO := Lib.hid hmo
    have OX := Lib.hid ho
    have HW := Lib.hid hw
    have FX := Lib.hid hf
    have AX := Lib.hid hat
    obtain ⟨oa, oc, rfl, -⟩ := own_slice ho
    clear hmo ho hw hf hat
    by_cases h1 : k < n
    · obtain ⟨r, hr⟩ : ∃ r, l[k]? = some r := ⟨_, List.getElem?_eq_getElem (by rw [HN.out]; exact h1)⟩
      obtain ⟨hb1, hb2⟩ := HLB.out r (List.mem_of_getElem? hr)
      rcases rows_open HV.out with ⟨_, h0⟩ | ⟨g, cap, cur, hv, -, hA, g1, g2, g3, g4⟩
      · omega
      · injection hv with e1 e2 e3
        subst e1 e3
        have q0 := rows_at (n := n) (cap := vc) hA g4 (k * 2) 0 (.int .u32 (r.1 : Nat)) (by rw [List.getElem?_drop]; exact (rgv_get _ k r hr).1)
        have q1 := rows_at (n := n) (cap := vc) hA g4 (k * 2) 1 (.int .u32 (r.2 : Nat)) (by rw [List.getElem?_drop]; exact (rgv_get _ k r hr).2)
        have Q0 := Lib.hid q0
        have Q1 := Lib.hid q1
        have HGL := Lib.hid hA.lt
        obtain ⟨b, t⟩ := r
        have HR := Lib.hid hr
        dsimp only at Q0 Q1 hb1 hb2
        have hki : (k : Int) < n := by omega
        clear hr hA g1 g2 g3 g4 q0 q1
        cases B with
        | true =>
          have hm2 : m = k + 1 := hm
          clear hm
          have HM := Lib.hid hm2
          have hmb : m ≤ 100000 := by omega
          clear hm2
          go_wp2_with fail
          refine wp_region_L (fun W => Fr [] wr W) [] (by kernel_rfl) ((Fr.refl _ _).drew) (fun hHeld => ?_)
          refine wpAnyL_take (i := 0) (v := ?_) rfl (by kernel_rfl) (fun _ _ _ h => h) (Or.inl ⟨by rfl, ?_⟩) (by assumption) ?_; rotate_left; (focus (intro w hSw; skip; go_simp; (try with_reducible rfl))); (try (refine wpAnyL_norm (by simp only [Act.put, List.setIfInBounds_toArray, List.set_cons_zero, List.set_cons_succ]; rfl) ?_))
          refine wpAnyL_take (i := 1) (v := ?_) rfl (by kernel_rfl) (fun _ _ _ h => h) (Or.inl ⟨by rfl, ?_⟩) (by assumption) ?_; rotate_left; (focus (intro w hSw; skip; go_simp; (try with_reducible rfl))); (try (refine wpAnyL_norm (by simp only [Act.put, List.setIfInBounds_toArray, List.set_cons_zero, List.set_cons_succ]; rfl) ?_))
          refine wpAnyL_take (i := 2) (v := ?_) rfl (by kernel_rfl) (fun _ _ _ h => h) (Or.inl ⟨by rfl, ?_⟩) (by assumption) ?_; rotate_left; (focus (intro w hSw; skip; go_simp; (try with_reducible rfl))); (try (refine wpAnyL_norm (by simp only [Act.put, List.setIfInBounds_toArray, List.set_cons_zero, List.set_cons_succ]; rfl) ?_))
          refine wpAnyL_take (i := 3) (v := undef) rfl (by kernel_rfl) (fun _ _ _ h => h) (Or.inr ⟨by rfl, rfl⟩) (by assumption) ?_; (try (refine wpAnyL_norm (by simp only [Act.put, List.setIfInBounds_toArray, List.set_cons_zero, List.set_cons_succ]; rfl) ?_))
          refine wpAnyL_take (i := 4) (v := undef) rfl (by kernel_rfl) (fun _ _ _ h => h) (Or.inr ⟨by rfl, rfl⟩) (by assumption) ?_; (try (refine wpAnyL_norm (by simp only [Act.put, List.setIfInBounds_toArray, List.set_cons_zero, List.set_cons_succ]; rfl) ?_))
          refine wpAnyL_take (i := 5) (v := undef) rfl (by kernel_rfl) (fun _ _ _ h => h) (Or.inr ⟨by rfl, rfl⟩) (by assumption) ?_; (try (refine wpAnyL_norm (by simp only [Act.put, List.setIfInBounds_toArray, List.set_cons_zero, List.set_cons_succ]; rfl) ?_))
          refine wpAnyL_take (i := 6) (v := undef) rfl (by kernel_rfl) (fun _ _ _ h => h) (Or.inr ⟨by rfl, rfl⟩) (by assumption) ?_; (try (refine wpAnyL_norm (by simp only [Act.put, List.setIfInBounds_toArray, List.set_cons_zero, List.set_cons_succ]; rfl) ?_))
          refine wpAnyL_take (i := 7) (v := undef) rfl (by kernel_rfl) (fun _ _ _ h => h) (Or.inr ⟨by rfl, rfl⟩) (by assumption) ?_; (try (refine wpAnyL_norm (by simp only [Act.put, List.setIfInBounds_toArray, List.set_cons_zero, List.set_cons_succ]; rfl) ?_))
          refine wpAnyL_take (i := 8) (v := undef) rfl (by kernel_rfl) (fun _ _ _ h => h) (Or.inr ⟨by rfl, rfl⟩) (by assumption) ?_; (try (refine wpAnyL_norm (by simp only [Act.put, List.setIfInBounds_toArray, List.set_cons_zero, List.set_cons_succ]; rfl) ?_))
          refine wpAnyL_take (i := 9) (v := undef) rfl (by kernel_rfl) (fun _ _ _ h => h) (Or.inr ⟨by rfl, rfl⟩) (by assumption) ?_; (try (refine wpAnyL_norm (by simp only [Act.put, List.setIfInBounds_toArray, List.set_cons_zero, List.set_cons_succ]; rfl) ?_))
          refine wpAnyL_take (i := 10) (v := undef) rfl (by kernel_rfl) (fun _ _ _ h => h) (Or.inr ⟨by rfl, rfl⟩) (by assumption) ?_; (try (refine wpAnyL_norm (by simp only [Act.put, List.setIfInBounds_toArray, List.set_cons_zero, List.set_cons_succ]; rfl) ?_))
          refine wpAnyL_take (i := 11) (v := ?_) rfl (by kernel_rfl) (fun _ _ _ h => h) (Or.inl ⟨by rfl, ?_⟩) (by assumption) ?_; rotate_left; (focus (intro w hSw; skip; go_simp; (try with_reducible rfl))); (try (refine wpAnyL_norm (by simp only [Act.put, List.setIfInBounds_toArray, List.set_cons_zero, List.set_cons_succ]; rfl) ?_))
          refine wpAnyL_done (by kernel_rfl) ?_ _
          replace OX := Lib.hid (own_fr0 OX.out hHeld)
          replace FX := Lib.hid (FX.out.trans0 hHeld)
          replace AX := Lib.hid (AX.out.fr hHeld (by simp))
          clear hHeld
          -- at region 9 in world wr.drew: OX owned (slice oa m oc, out list out), FX, AX
          have HLB' := Lib.hid (show At (wr.drew.alloc (.cells #[.int .u32 (b : Int), .int .u32 t] 30)) wr.drew.heap.size 30 #[.int .u32 (b : Int), .int .u32 t] from At.new _ _ _)
          have OY := Lib.hid (own_fr0 OX.out (show Fr [] wr.drew (wr.drew.alloc (.cells #[.int .u32 (b : Int), .int .u32 t] 30)) from (by repeat (first | exact Fr.refl _ _ | assumption | refine Fr.trans0 ?_ (by assumption) | refine Fr.drewN ?_ _ | refine Fr.alloc ?_ _ | refine Fr.drew ?_))))
          have hsz9 : w.heap.size + 1 ≤ wr.heap.size := AX.out.lt
          go_wp2_with (first | (refine wpList_load_at rfl 30 (.tmp 33) rfl ⟨g, k * 2, none⟩ rfl [.int .u32 b, .int .u32 t] _ (fun jj v hv => by
            rw [Go.WideShapes.add_plain]
            match jj, hv with
            | 0, hv => exact ((FX.out.cell (a := ⟨g, k * 2 + 0, none⟩) HGL.out (by simp)).trans Q0.out).trans hv
            | 1, hv => exact ((FX.out.cell (a := ⟨g, k * 2 + 1, none⟩) HGL.out (by simp)).trans Q1.out).trans hv) Try.underlying30 rfl infoRgS ?_) | (refine wpList_buildSlice rfl 35 1 _ _ _ _ (built1r _ b t) rfl (by simp [go_sem]) ?_) | (at_builtin; refine wpList_append_own_at _ rfl (.tmp 30) (.tmp 35) 35 rfl (w.heap.size + 1) 30 i0 (.agg #[.int .u32 0, .int .u32 0]) 2 8 Try.underlying35 hi hz0 hz1 hz2 rfl (by omega) (.slice oa m oc) m _ rfl OY.out ⟨wr.drew.heap.size, 0, none⟩ 1 1 [.int .u32 (b : Int), .int .u32 (t : Int)] rfl rfl (fun j u hu => by rw [Go.WideShapes.add_plain, Nat.zero_add, HLB'.out.cell]; simpa using hu) (one2 _ _) (by unfold maxLen; omega) (by omega) (by simp <;> omega) ?_; intro v9 w9 hown9 hg9 hnil9 hat9))
          have G9 := Lib.hid (Fr.trans (S := (Value.slice oa m oc).ownBlock.toList) ((show Fr [] wr.drew (wr.drew.alloc (.cells #[.int .u32 (b : Int), .int .u32 t] 30)) from (by repeat (first | exact Fr.refl _ _ | assumption | refine Fr.trans0 ?_ (by assumption) | refine Fr.drewN ?_ _ | refine Fr.alloc ?_ _ | refine Fr.drew ?_))).more (by simp)) (Fr.grown hg9) (fun k hk => .inl hk))
          have OZ := Lib.hid (show w9.ownsRow (w.heap.size + 1) 30 2 v9 (out ++ [(b, t)]).length (rgv (out ++ [(b, t)])) by rw [rgv_snoc, List.length_append, HMO.out]; exact hown9)
          have HGE := Lib.hid (fun k (hk : k ∈ (Value.slice oa m oc).ownBlock.toList) => (OX.out.lt k (by simpa using hk)).1)
          go_roundw
          case rel =>
            refine ⟨k + 1, true, out ++ [(b, t)], by omega, by go_num, rfl, OZ.out, by rw [List.length_append, HMO.out, List.length_singleton]; (have := HM.out; simp [Bool.toNat]; omega), HW.out.yes HR.out, FX.out.trans G9.out (fun k hk => .inr (by have := HGE.out k hk; omega)), AX.out.fr G9.out (fun hk => by have := HGE.out _ hk; omega)⟩
          case measure => simp [intOf]; omega
        | false =>
          have hm2 : m = k := hm
          clear hm
          have HM := Lib.hid hm2
          have hmb : m ≤ 100000 := by omega
          have hwl := AX.out.lt
          have z0 := AX.out.cell 0
          simp only [List.getElem?_toArray, List.getElem?_cons_zero] at z0
          have ZF := Lib.hid (fun W (h : Fr [] wr W) => (h.cell (a := ⟨w.heap.size, 0, none⟩) hwl (by simp)).trans z0)
          clear z0
          by_cases hab : a < b
          · have hd : decide ((a : Int) < (b : Int)) = true := by simpa using hab
            have HM2 := Lib.hid hm2
            clear hm2
            go_wp2_with fail
            refine wp_region_L (fun W => Fr [] wr W) [] (by kernel_rfl) ((Fr.refl _ _).drew) (fun hHeld => ?_)
            refine wpAnyL_take (i := 0) (v := ?_) rfl (by kernel_rfl) (fun _ _ _ h => h) (Or.inl ⟨by rfl, ?_⟩) (by assumption) ?_; rotate_left; (focus (intro w hSw; skip; go_simp; (try with_reducible rfl))); (try (refine wpAnyL_norm (by simp only [Act.put, List.setIfInBounds_toArray, List.set_cons_zero, List.set_cons_succ]; rfl) ?_))
            refine wpAnyL_take (i := 1) (v := ?_) rfl (by kernel_rfl) (fun _ _ _ h => h) (Or.inl ⟨by rfl, ?_⟩) (by assumption) ?_; rotate_left; (focus (intro w hSw; skip; go_simp; (try with_reducible rfl))); (try (refine wpAnyL_norm (by simp only [Act.put, List.setIfInBounds_toArray, List.set_cons_zero, List.set_cons_succ]; rfl) ?_))
            refine wpAnyL_take (i := 2) (v := ?_) rfl (by kernel_rfl) (fun _ _ _ h => h) (Or.inl ⟨by rfl, ?_⟩) (by assumption) ?_; rotate_left; (focus (intro w hSw; skip; go_simp; (try with_reducible rfl))); (try (refine wpAnyL_norm (by simp only [Act.put, List.setIfInBounds_toArray, List.set_cons_zero, List.set_cons_succ]; rfl) ?_))
            refine wpAnyL_take (i := 3) (v := ?_) rfl (by kernel_rfl) (fun _ _ _ h => h) (Or.inl ⟨by rfl, ?_⟩) (by assumption) ?_; rotate_left; (focus (intro w hSw; skip; go_simp; (try with_reducible rfl))); (try (refine wpAnyL_norm (by simp only [Act.put, List.setIfInBounds_toArray, List.set_cons_zero, List.set_cons_succ]; rfl) ?_))
            refine wpAnyL_take (i := 4) (v := ?_) rfl (by kernel_rfl) (fun _ _ _ h => h) (Or.inl ⟨by rfl, ?_⟩) (by assumption) ?_; rotate_left; (focus (intro w hSw; skip; go_simp; (try with_reducible rfl))); (try (refine wpAnyL_norm (by simp only [Act.put, List.setIfInBounds_toArray, List.set_cons_zero, List.set_cons_succ]; rfl) ?_))
            refine wpAnyL_take (i := 5) (v := ?_) rfl (by kernel_rfl) (fun _ _ _ h => h) (Or.inl ⟨by rfl, ?_⟩) (by assumption) ?_; rotate_left; (focus (intro w hSw; skip; go_simp; (try with_reducible rfl))); (try (refine wpAnyL_norm (by simp only [Act.put, List.setIfInBounds_toArray, List.set_cons_zero, List.set_cons_succ]; rfl) ?_))
            refine wpAnyL_take (i := 6) (v := ?_) rfl (by kernel_rfl) (fun _ _ _ h => h) (Or.inl ⟨by rfl, ?_⟩) (by assumption) ?_; rotate_left; (focus (intro w hSw; skip; go_simp; (try with_reducible rfl))); (try (refine wpAnyL_norm (by simp only [Act.put, List.setIfInBounds_toArray, List.set_cons_zero, List.set_cons_succ]; rfl) ?_))
            refine wpAnyL_take (i := 7) (v := ?_) rfl (by kernel_rfl) (fun _ _ _ h => h) (Or.inl ⟨by rfl, ?_⟩) (by assumption) ?_; rotate_left; (focus (intro w hSw; ((have cc := ((FX.out.trans0 hSw).cell (a := ⟨g, k * 2 + 0, none⟩) HGL.out (by simp)).trans Q0.out); (simp only [Nat.add_zero] at cc)); go_simp; (try with_reducible rfl))); (try (refine wpAnyL_norm (by simp only [Act.put, List.setIfInBounds_toArray, List.set_cons_zero, List.set_cons_succ]; rfl) ?_))
            refine wpAnyL_take (i := 8) (v := ?_) rfl (by kernel_rfl) (fun _ _ _ h => h) (Or.inl ⟨by rfl, ?_⟩) (by assumption) ?_; rotate_left; (focus (intro w hSw; skip; go_simp; (try with_reducible rfl))); (try (refine wpAnyL_norm (by simp only [Act.put, List.setIfInBounds_toArray, List.set_cons_zero, List.set_cons_succ]; rfl) ?_))
            refine wpAnyL_take (i := 9) (v := ?_) rfl (by kernel_rfl) (fun _ _ _ h => h) (Or.inl ⟨by rfl, ?_⟩) (by assumption) ?_; rotate_left; (focus (intro w hSw; (have cc := ZF.out _ hSw); go_simp; (try with_reducible rfl))); (try (refine wpAnyL_norm (by simp only [Act.put, List.setIfInBounds_toArray, List.set_cons_zero, List.set_cons_succ]; rfl) ?_))
            refine wpAnyL_take (i := 10) (v := ?_) rfl (by kernel_rfl) (fun _ _ _ h => h) (Or.inl ⟨by rfl, ?_⟩) (by assumption) ?_; rotate_left; (focus (intro w hSw; skip; go_simp; (try with_reducible rfl))); (try (refine wpAnyL_norm (by simp only [Act.put, List.setIfInBounds_toArray, List.set_cons_zero, List.set_cons_succ]; rfl) ?_))
            refine wpAnyL_take (i := 11) (v := ?_) rfl (by kernel_rfl) (fun _ _ _ h => h) (Or.inl ⟨by rfl, ?_⟩) (by assumption) ?_; rotate_left; (focus (intro w hSw; skip; go_simp; (try with_reducible rfl))); (try (refine wpAnyL_norm (by simp only [Act.put, List.setIfInBounds_toArray, List.set_cons_zero, List.set_cons_succ]; rfl) ?_))
            refine wpAnyL_done (by kernel_rfl) ?_ _
            replace OX := Lib.hid (own_fr0 OX.out hHeld)
            replace FX := Lib.hid (FX.out.trans0 hHeld)
            replace AX := Lib.hid (AX.out.fr hHeld (by simp))
            clear hHeld
            have HLA := Lib.hid (show At (wr.drew.alloc (.cells #[.int .u32 (a : Int), .int .u32 s] 30)) wr.drew.heap.size 30 #[.int .u32 (a : Int), .int .u32 s] from At.new _ _ _)
            have OY := Lib.hid (own_fr0 OX.out (show Fr [] wr.drew (wr.drew.alloc (.cells #[.int .u32 (a : Int), .int .u32 s] 30)) from (by repeat (first | exact Fr.refl _ _ | assumption | refine Fr.trans0 ?_ (by assumption) | refine Fr.drewN ?_ _ | refine Fr.alloc ?_ _ | refine Fr.drew ?_))))
            have hsz7 : w.heap.size + 1 ≤ wr.heap.size := hwl
            go_upto_region 9 with (first | (refine wpList_load_all rfl 30 (.tmp 3) rfl w.heap.size rfl 30 #[.int .u32 (a : Int), .int .u32 s] _ AX.out Try.underlying30 rfl infoRgS ?_) | (refine wpList_buildSlice rfl 35 1 _ _ _ _ (built1r _ a s) rfl (by simp [go_sem]) ?_) | (at_builtin; refine wpList_append_own_at _ rfl (.tmp 26) (.tmp 28) 35 rfl (w.heap.size + 1) 30 i0 (.agg #[.int .u32 0, .int .u32 0]) 2 8 Try.underlying35 hi hz0 hz1 hz2 rfl (by omega) (.slice oa m oc) m _ rfl OY.out ⟨wr.drew.heap.size, 0, none⟩ 1 1 [.int .u32 (a : Int), .int .u32 (s : Int)] rfl rfl (fun j u hu => by rw [Go.WideShapes.add_plain, Nat.zero_add, HLA.out.cell]; simpa using hu) (one2 _ _) (by unfold maxLen; omega) (by omega) (by simp <;> omega) ?_; intro v7 w7 hown7 hg7 hnil7 hat7))
            have G7 := Lib.hid (Fr.trans (S := (Value.slice oa m oc).ownBlock.toList) ((show Fr [] wr.drew (wr.drew.alloc (.cells #[.int .u32 (a : Int), .int .u32 s] 30)) from (by repeat (first | exact Fr.refl _ _ | assumption | refine Fr.trans0 ?_ (by assumption) | refine Fr.drewN ?_ _ | refine Fr.alloc ?_ _ | refine Fr.drew ?_))).more (by simp)) (Fr.grown hg7) (fun k hk => .inl hk))
            have HGE := Lib.hid (fun k (hk : k ∈ (Value.slice oa m oc).ownBlock.toList) => (OX.out.lt k (by simpa using hk)).1)
            replace FX := Lib.hid (FX.out.trans G7.out (fun k hk => .inr (by have := HGE.out k hk; omega)))
            replace AX := Lib.hid (AX.out.fr G7.out (fun hk => by have := HGE.out _ hk; omega))
            replace HW := Lib.hid (HW.out.put HR.out hab)
            have HL7 : (out ++ [(a, s)] : List (Nat × Nat)).length = k + 1 := by rw [List.length_append, HMO.out, List.length_singleton, HM2.out]
            have hown8 : w7.ownsRow (w.heap.size + 1) 30 2 v7 (k + 1) (rgv (out ++ [(a, s)])) := by rw [rgv_snoc, ← HM2.out]; exact hown7
            have HWP : Hid (wthIs l (a, s) (k + 1) true ((out ++ [(a, s)]) ++ [(b, t)])) := HW
            obtain ⟨out7, hout7⟩ : ∃ x : List (Nat × Nat), out ++ [(a, s)] = x := ⟨_, rfl⟩
            rw [hout7] at hown8 HL7 HWP
            obtain ⟨m7, hm7⟩ : ∃ m7, k + 1 = m7 := ⟨_, rfl⟩
            rw [hm7] at hown8 HL7
            obtain ⟨oa7, oc7, rfl, -⟩ := own_slice hown8
            replace HMO := Lib.hid HL7
            replace HM := Lib.hid hm7
            replace OX := Lib.hid hown8
            have hmb7 : m7 ≤ 100001 := by omega
            clear hown7 hg7 hnil7 hat7 hown8 HL7 hout7 hm7 OY HLA hsz7 hwl HW
            -- at region 9 in world w7: OX owned (slice oa m oc, out list out), FX, AX
            have HLB' := Lib.hid (show At (w7.alloc (.cells #[.int .u32 (b : Int), .int .u32 t] 30)) w7.heap.size 30 #[.int .u32 (b : Int), .int .u32 t] from At.new _ _ _)
            have OY := Lib.hid (own_fr0 OX.out (show Fr [] w7 (w7.alloc (.cells #[.int .u32 (b : Int), .int .u32 t] 30)) from (by repeat (first | exact Fr.refl _ _ | assumption | refine Fr.trans0 ?_ (by assumption) | refine Fr.drewN ?_ _ | refine Fr.alloc ?_ _ | refine Fr.drew ?_))))
            have hsz9 : w.heap.size + 1 ≤ w7.heap.size := AX.out.lt
            go_wp2_with (first | (refine wpList_load_at rfl 30 (.tmp 33) rfl ⟨g, k * 2, none⟩ rfl [.int .u32 b, .int .u32 t] _ (fun jj v hv => by
              rw [Go.WideShapes.add_plain]
              match jj, hv with
              | 0, hv => exact ((FX.out.cell (a := ⟨g, k * 2 + 0, none⟩) HGL.out (by simp)).trans Q0.out).trans hv
              | 1, hv => exact ((FX.out.cell (a := ⟨g, k * 2 + 1, none⟩) HGL.out (by simp)).trans Q1.out).trans hv) Try.underlying30 rfl infoRgS ?_) | (refine wpList_buildSlice rfl 35 1 _ _ _ _ (built1r _ b t) rfl (by simp [go_sem]) ?_) | (at_builtin; refine wpList_append_own_at _ rfl (.tmp 30) (.tmp 35) 35 rfl (w.heap.size + 1) 30 i0 (.agg #[.int .u32 0, .int .u32 0]) 2 8 Try.underlying35 hi hz0 hz1 hz2 rfl (by omega) (.slice oa7 m7 oc7) m7 _ rfl OY.out ⟨w7.heap.size, 0, none⟩ 1 1 [.int .u32 (b : Int), .int .u32 (t : Int)] rfl rfl (fun j u hu => by rw [Go.WideShapes.add_plain, Nat.zero_add, HLB'.out.cell]; simpa using hu) (one2 _ _) (by unfold maxLen; omega) (by omega) (by simp <;> omega) ?_; intro v9 w9 hown9 hg9 hnil9 hat9))
            have G9 := Lib.hid (Fr.trans (S := (Value.slice oa7 m7 oc7).ownBlock.toList) ((show Fr [] w7 (w7.alloc (.cells #[.int .u32 (b : Int), .int .u32 t] 30)) from (by repeat (first | exact Fr.refl _ _ | assumption | refine Fr.trans0 ?_ (by assumption) | refine Fr.drewN ?_ _ | refine Fr.alloc ?_ _ | refine Fr.drew ?_))).more (by simp)) (Fr.grown hg9) (fun k hk => .inl hk))
            have OZ := Lib.hid (show w9.ownsRow (w.heap.size + 1) 30 2 v9 (out7 ++ [(b, t)]).length (rgv (out7 ++ [(b, t)])) by rw [rgv_snoc, List.length_append, HMO.out]; exact hown9)
            have HGE := Lib.hid (fun k (hk : k ∈ (Value.slice oa7 m7 oc7).ownBlock.toList) => (OX.out.lt k (by simpa using hk)).1)
            go_roundw
            case rel =>
              refine ⟨k + 1, true, out7 ++ [(b, t)], by omega, by go_num, rfl, OZ.out, by rw [List.length_append, HMO.out, List.length_singleton]; (have := HM.out; simp [Bool.toNat]; omega), HWP.out, FX.out.trans G9.out (fun k hk => .inr (by have := HGE.out k hk; omega)), AX.out.fr G9.out (fun hk => by have := HGE.out _ hk; omega)⟩
            case measure => simp [intOf]; omega
          · have hd : decide ((a : Int) < (b : Int)) = false := by simpa using hab
            clear hm2
            go_wp2_with fail
            refine wp_region_L (fun W => Fr [] wr W) [] (by kernel_rfl) ((Fr.refl _ _).drew) (fun hHeld => ?_)
            refine wpAnyL_take (i := 0) (v := ?_) rfl (by kernel_rfl) (fun _ _ _ h => h) (Or.inl ⟨by rfl, ?_⟩) (by assumption) ?_; rotate_left; (focus (intro w hSw; skip; go_simp; (try with_reducible rfl))); (try (refine wpAnyL_norm (by simp only [Act.put, List.setIfInBounds_toArray, List.set_cons_zero, List.set_cons_succ]; rfl) ?_))
            refine wpAnyL_take (i := 1) (v := ?_) rfl (by kernel_rfl) (fun _ _ _ h => h) (Or.inl ⟨by rfl, ?_⟩) (by assumption) ?_; rotate_left; (focus (intro w hSw; skip; go_simp; (try with_reducible rfl))); (try (refine wpAnyL_norm (by simp only [Act.put, List.setIfInBounds_toArray, List.set_cons_zero, List.set_cons_succ]; rfl) ?_))
            refine wpAnyL_take (i := 2) (v := ?_) rfl (by kernel_rfl) (fun _ _ _ h => h) (Or.inl ⟨by rfl, ?_⟩) (by assumption) ?_; rotate_left; (focus (intro w hSw; skip; go_simp; (try with_reducible rfl))); (try (refine wpAnyL_norm (by simp only [Act.put, List.setIfInBounds_toArray, List.set_cons_zero, List.set_cons_succ]; rfl) ?_))
            refine wpAnyL_take (i := 3) (v := ?_) rfl (by kernel_rfl) (fun _ _ _ h => h) (Or.inl ⟨by rfl, ?_⟩) (by assumption) ?_; rotate_left; (focus (intro w hSw; skip; go_simp; (try with_reducible rfl))); (try (refine wpAnyL_norm (by simp only [Act.put, List.setIfInBounds_toArray, List.set_cons_zero, List.set_cons_succ]; rfl) ?_))
            refine wpAnyL_take (i := 4) (v := ?_) rfl (by kernel_rfl) (fun _ _ _ h => h) (Or.inl ⟨by rfl, ?_⟩) (by assumption) ?_; rotate_left; (focus (intro w hSw; skip; go_simp; (try with_reducible rfl))); (try (refine wpAnyL_norm (by simp only [Act.put, List.setIfInBounds_toArray, List.set_cons_zero, List.set_cons_succ]; rfl) ?_))
            refine wpAnyL_take (i := 5) (v := ?_) rfl (by kernel_rfl) (fun _ _ _ h => h) (Or.inl ⟨by rfl, ?_⟩) (by assumption) ?_; rotate_left; (focus (intro w hSw; skip; go_simp; (try with_reducible rfl))); (try (refine wpAnyL_norm (by simp only [Act.put, List.setIfInBounds_toArray, List.set_cons_zero, List.set_cons_succ]; rfl) ?_))
            refine wpAnyL_take (i := 6) (v := ?_) rfl (by kernel_rfl) (fun _ _ _ h => h) (Or.inl ⟨by rfl, ?_⟩) (by assumption) ?_; rotate_left; (focus (intro w hSw; skip; go_simp; (try with_reducible rfl))); (try (refine wpAnyL_norm (by simp only [Act.put, List.setIfInBounds_toArray, List.set_cons_zero, List.set_cons_succ]; rfl) ?_))
            refine wpAnyL_take (i := 7) (v := ?_) rfl (by kernel_rfl) (fun _ _ _ h => h) (Or.inl ⟨by rfl, ?_⟩) (by assumption) ?_; rotate_left; (focus (intro w hSw; ((have cc := ((FX.out.trans0 hSw).cell (a := ⟨g, k * 2 + 0, none⟩) HGL.out (by simp)).trans Q0.out); (simp only [Nat.add_zero] at cc)); go_simp; (try with_reducible rfl))); (try (refine wpAnyL_norm (by simp only [Act.put, List.setIfInBounds_toArray, List.set_cons_zero, List.set_cons_succ]; rfl) ?_))
            refine wpAnyL_take (i := 8) (v := ?_) rfl (by kernel_rfl) (fun _ _ _ h => h) (Or.inl ⟨by rfl, ?_⟩) (by assumption) ?_; rotate_left; (focus (intro w hSw; skip; go_simp; (try with_reducible rfl))); (try (refine wpAnyL_norm (by simp only [Act.put, List.setIfInBounds_toArray, List.set_cons_zero, List.set_cons_succ]; rfl) ?_))
            refine wpAnyL_take (i := 9) (v := ?_) rfl (by kernel_rfl) (fun _ _ _ h => h) (Or.inl ⟨by rfl, ?_⟩) (by assumption) ?_; rotate_left; (focus (intro w hSw; (have cc := ZF.out _ hSw); go_simp; (try with_reducible rfl))); (try (refine wpAnyL_norm (by simp only [Act.put, List.setIfInBounds_toArray, List.set_cons_zero, List.set_cons_succ]; rfl) ?_))
            refine wpAnyL_take (i := 10) (v := ?_) rfl (by kernel_rfl) (fun _ _ _ h => h) (Or.inl ⟨by rfl, ?_⟩) (by assumption) ?_; rotate_left; (focus (intro w hSw; skip; go_simp; (try with_reducible rfl))); (try (refine wpAnyL_norm (by simp only [Act.put, List.setIfInBounds_toArray, List.set_cons_zero, List.set_cons_succ]; rfl) ?_))
            refine wpAnyL_take (i := 11) (v := ?_) rfl (by kernel_rfl) (fun _ _ _ h => h) (Or.inl ⟨by rfl, ?_⟩) (by assumption) ?_; rotate_left; (focus (intro w hSw; skip; go_simp; (try with_reducible rfl))); (try (refine wpAnyL_norm (by simp only [Act.put, List.setIfInBounds_toArray, List.set_cons_zero, List.set_cons_succ]; rfl) ?_))
            refine wpAnyL_done (by kernel_rfl) ?_ _
            replace OX := Lib.hid (own_fr0 OX.out hHeld)
            replace FX := Lib.hid (FX.out.trans0 hHeld)
            replace AX := Lib.hid (AX.out.fr hHeld (by simp))
            clear hHeld
            -- at region 9 in world wr.drew: OX owned (slice oa m oc, out list out), FX, AX
            have HLB' := Lib.hid (show At (wr.drew.alloc (.cells #[.int .u32 (b : Int), .int .u32 t] 30)) wr.drew.heap.size 30 #[.int .u32 (b : Int), .int .u32 t] from At.new _ _ _)
            have OY := Lib.hid (own_fr0 OX.out (show Fr [] wr.drew (wr.drew.alloc (.cells #[.int .u32 (b : Int), .int .u32 t] 30)) from (by repeat (first | exact Fr.refl _ _ | assumption | refine Fr.trans0 ?_ (by assumption) | refine Fr.drewN ?_ _ | refine Fr.alloc ?_ _ | refine Fr.drew ?_))))
            have hsz9 : w.heap.size + 1 ≤ wr.heap.size := AX.out.lt
            go_wp2_with (first | (refine wpList_load_at rfl 30 (.tmp 33) rfl ⟨g, k * 2, none⟩ rfl [.int .u32 b, .int .u32 t] _ (fun jj v hv => by
              rw [Go.WideShapes.add_plain]
              match jj, hv with
              | 0, hv => exact ((FX.out.cell (a := ⟨g, k * 2 + 0, none⟩) HGL.out (by simp)).trans Q0.out).trans hv
              | 1, hv => exact ((FX.out.cell (a := ⟨g, k * 2 + 1, none⟩) HGL.out (by simp)).trans Q1.out).trans hv) Try.underlying30 rfl infoRgS ?_) | (refine wpList_buildSlice rfl 35 1 _ _ _ _ (built1r _ b t) rfl (by simp [go_sem]) ?_) | (at_builtin; refine wpList_append_own_at _ rfl (.tmp 30) (.tmp 35) 35 rfl (w.heap.size + 1) 30 i0 (.agg #[.int .u32 0, .int .u32 0]) 2 8 Try.underlying35 hi hz0 hz1 hz2 rfl (by omega) (.slice oa m oc) m _ rfl OY.out ⟨wr.drew.heap.size, 0, none⟩ 1 1 [.int .u32 (b : Int), .int .u32 (t : Int)] rfl rfl (fun j u hu => by rw [Go.WideShapes.add_plain, Nat.zero_add, HLB'.out.cell]; simpa using hu) (one2 _ _) (by unfold maxLen; omega) (by omega) (by simp <;> omega) ?_; intro v9 w9 hown9 hg9 hnil9 hat9))
            have G9 := Lib.hid (Fr.trans (S := (Value.slice oa m oc).ownBlock.toList) ((show Fr [] wr.drew (wr.drew.alloc (.cells #[.int .u32 (b : Int), .int .u32 t] 30)) from (by repeat (first | exact Fr.refl _ _ | assumption | refine Fr.trans0 ?_ (by assumption) | refine Fr.drewN ?_ _ | refine Fr.alloc ?_ _ | refine Fr.drew ?_))).more (by simp)) (Fr.grown hg9) (fun k hk => .inl hk))
            have OZ := Lib.hid (show w9.ownsRow (w.heap.size + 1) 30 2 v9 (out ++ [(b, t)]).length (rgv (out ++ [(b, t)])) by rw [rgv_snoc, List.length_append, HMO.out]; exact hown9)
            have HGE := Lib.hid (fun k (hk : k ∈ (Value.slice oa m oc).ownBlock.toList) => (OX.out.lt k (by simpa using hk)).1)
            go_roundw
            case rel =>
              refine ⟨k + 1, false, out ++ [(b, t)], by omega, by go_num, rfl, OZ.out, by rw [List.length_append, HMO.out, List.length_singleton]; (have := HM.out; simp [Bool.toNat]; omega), HW.out.no HR.out hab, FX.out.trans G9.out (fun k hk => .inr (by have := HGE.out k hk; omega)), AX.out.fr G9.out (fun hk => by have := HGE.out _ hk; omega)⟩
            case measure => simp [intOf]; omega
    · obtain rfl : k = n := by omega
      cases B with
      | true =>
        have hm2 : m = k + 1 := hm
        have HE : out = ref16.wth l (a, s) := wthIs.end1 (by rw [HN.out]; exact HW.out)
        have HO : Hid (wr.ownsRow w.heap.size 30 2 (.slice oa m oc) (k + 1) (rgv (ref16.wth l (a, s)))) := Lib.hid (by rw [← HE, ← hm2]; exact own_base OX.out (by omega))
        clear hm hm2 HE
        go_wp2_with fail
        go_ret
        exact ⟨_, rfl, HO.out, FX.out⟩
      | false =>
        have hm2 : m = k := hm
        have HE : out ++ [(a, s)] = ref16.wth l (a, s) := wthIs.end0 (by rw [HN.out]; exact HW.out)
        have HO : Hid (rgv out ++ [.int .u32 (a : Int), .int .u32 (s : Int)] = rgv (ref16.wth l (a, s))) := Lib.hid (by rw [← HE, rgv_snoc])
        have HM2 := Lib.hid hm2
        have hmb : m ≤ 100000 := by omega
        clear hm hm2 HE
        have HLA := Lib.hid (show At (wr.alloc (.cells #[.int .u32 (a : Int), .int .u32 s] 30)) wr.heap.size 30 #[.int .u32 (a : Int), .int .u32 s] from At.new _ _ _)
        have OY := Lib.hid (own_fr0 OX.out (show Fr [] wr (wr.alloc (.cells #[.int .u32 (a : Int), .int .u32 s] 30)) from (by repeat (first | exact Fr.refl _ _ | assumption | refine Fr.trans0 ?_ (by assumption) | refine Fr.drewN ?_ _ | refine Fr.alloc ?_ _ | refine Fr.drew ?_))))
        have hsz7 : w.heap.size + 1 ≤ wr.heap.size := AX.out.lt
        go_wp2_with (first | (refine wpList_load_all rfl 30 (.tmp 3) rfl w.heap.size rfl 30 #[.int .u32 (a : Int), .int .u32 s] _ AX.out Try.underlying30 rfl infoRgS ?_) | (refine wpList_buildSlice rfl 35 1 _ _ _ _ (built1r _ a s) rfl (by simp [go_sem]) ?_) | (at_builtin; refine wpList_append_own_at _ rfl (.tmp 39) (.tmp 41) 35 rfl (w.heap.size + 1) 30 i0 (.agg #[.int .u32 0, .int .u32 0]) 2 8 Try.underlying35 hi hz0 hz1 hz2 rfl (by omega) (.slice oa m oc) m _ rfl OY.out ⟨wr.heap.size, 0, none⟩ 1 1 [.int .u32 (a : Int), .int .u32 (s : Int)] rfl rfl (fun j u hu => by rw [Go.WideShapes.add_plain, Nat.zero_add, HLA.out.cell]; simpa using hu) (one2 _ _) (by unfold maxLen; omega) (by omega) (by simp <;> omega) ?_; intro v7 w7 hown7 hg7 hnil7 hat7))
        go_ret
        have G7 := Fr.trans (S := (Value.slice oa m oc).ownBlock.toList) ((show Fr [] wr (wr.alloc (.cells #[.int .u32 (a : Int), .int .u32 s] 30)) from (by repeat (first | exact Fr.refl _ _ | assumption | refine Fr.trans0 ?_ (by assumption) | refine Fr.drewN ?_ _ | refine Fr.alloc ?_ _ | refine Fr.drew ?_))).more (by simp)) (Fr.grown hg7) (fun k hk => .inl hk)
        rw [HO.out, HM2.out] at hown7
        exact ⟨_, rfl, own_base hown7 (by omega), FX.out.trans G7 (fun x hx => .inr (by have := (OX.out.lt x (by simpa using hx)).1; omega))⟩
end Go.Proofs.Ytflhpgfnffmimaa
