/-
  A yard's copy. Condition: numbers in their types' ranges.
-/



import Derived.Test.YtflhpgfnffmimaaSteps
import Derived.Deep.CutBlock
import Derived.Deep.DeepCutAuto
set_option linter.unusedVariables false
namespace Go.Proofs.Ytflhpgfnffmimaa
open Go.ChangeShapes Go.WideShapes Go.ChangeAt Go.RowKit
set_option maxHeartbeats 2000000 in
set_option maxRecDepth 100000 in
theorem lcopy_any (w : World) (v : Value) (a b c n : Nat) (l : List (Nat × Nat)) (h : Lt w v a b c n l) :
    Calls Try.prog 41 #[.agg #[v, .pointer (some ⟨a, 0, none⟩)]] w fun r w' => ∃ v' p q g, r = .returned (.agg #[v', .pointer (some ⟨p, 0, none⟩)]) ∧ Lt w' v' p q g n l ∧ (w.heap.size ≤ p ∧ w.heap.size ≤ q ∧ w.heap.size ≤ g ∧ ∀ k, v'.ownBlock = some k → w.heap.size ≤ k) ∧ Fr [] w w' := by
  have hl := h.good.len
  have hn := h.pt.2.2.2.2
  have HG := Lib.hid h.good
  have C1 := Lib.hid fun (W : World) (hW : Fr [] w W) => qclone_any (own_fr0 h.own hW) (by omega)
  have C2 := Lib.hid fun (W : World) (hW : Fr [] w W) => ptcopy_any W a b c n (cov l) (h.pt.fr hW (by simp) (by simp) (by simp))
  have HLI := Lib.hid (show (Try.prog.info? 66).map (·.size) = some 2 by kernel_rfl)
  have A0 := Lib.hid ((At.new w 66 #[v, .pointer (some ⟨a, 0, none⟩)]).old (.cells #[.slice none 0 0, .pointer none] 66))
  have A1 := Lib.hid (At.newq (w := w.alloc (.cells #[v, .pointer (some ⟨a, 0, none⟩)] 66)) (g := w.heap.size + 1) (t := 66) (cs := #[.slice none 0 0, .pointer none]) (by simp only [World.size_alloc]))
  have F0 := Lib.hid (show Fr [] w ((w.alloc (.cells #[v, .pointer (some ⟨a, 0, none⟩)] 66)).alloc (.cells #[.slice none 0 0, .pointer none] 66)) from (by repeat (first | exact Fr.refl _ _ | assumption | refine Fr.trans0 ?_ (by assumption) | refine Fr.drewN ?_ _ | refine Fr.alloc ?_ _ | refine Fr.drew ?_)))
  clear h
  go_enter Try.func41, Try.ntmps41
  go_wp2_with fail
  refine wp_region_L (fun W => Fr [] w W ∧ At W w.heap.size 66 #[v, .pointer (some ⟨a, 0, none⟩)] ∧ At W (w.heap.size + 1) 66 #[.slice none 0 0, .pointer none]) [7] (by kernel_rfl) ⟨F0.out.drew, A0.out.hp rfl, A1.out.hp rfl⟩ (fun hHeld => ?_)
  refine wpAnyL_take (i := 0) (v := ?_) rfl (by kernel_rfl) (fun _ _ _ h => h) (Or.inl ⟨by rfl, ?_⟩) (by assumption) ?_; rotate_left; (focus (intro w hSw; skip; go_simp; (try with_reducible rfl))); (try (refine wpAnyL_norm (by simp only [Act.put, List.setIfInBounds_toArray, List.set_cons_zero, List.set_cons_succ]; rfl) ?_))
  refine wpAnyL_take (i := 1) (v := ?_) rfl (by kernel_rfl) (fun _ _ _ h => h) (Or.inl ⟨by rfl, ?_⟩) (by assumption) ?_; rotate_left; (focus (intro w hSw; (have cc := hSw.2.1.cell 0); (simp only [List.getElem?_toArray, List.getElem?_cons_zero, List.getElem?_cons_succ] at cc); go_simp; (try with_reducible rfl))); (try (refine wpAnyL_norm (by simp only [Act.put, List.setIfInBounds_toArray, List.set_cons_zero, List.set_cons_succ]; rfl) ?_))
  refine wpAnyL_take (i := 3) (v := ?_) rfl (by kernel_rfl) (fun _ _ _ h => h) (Or.inl ⟨by rfl, ?_⟩) (by assumption) ?_; rotate_left; (focus (intro w hSw; skip; go_simp; (try with_reducible rfl))); (try (refine wpAnyL_norm (by simp only [Act.put, List.setIfInBounds_toArray, List.set_cons_zero, List.set_cons_succ]; rfl) ?_))
  refine wpAnyL_take (i := 4) (v := ?_) rfl (by kernel_rfl) (fun _ _ _ h => h) (Or.inl ⟨by rfl, ?_⟩) (by assumption) ?_; rotate_left; (focus (intro w hSw; (have cc := hSw.2.1.cell 1); (simp only [List.getElem?_toArray, List.getElem?_cons_zero, List.getElem?_cons_succ] at cc); go_simp; (try with_reducible rfl))); (try (refine wpAnyL_norm (by simp only [Act.put, List.setIfInBounds_toArray, List.set_cons_zero, List.set_cons_succ]; rfl) ?_))
  refine wpAnyL_ready (rs := [2]) (by kernel_rfl) (by simp) ?_; refine AllReadyL.cons rfl (fun K hK => ?_) AllReadyL.nil
  go_simp
  refine (C1.out _ hHeld.1).mono ?_
  rintro e w2 ⟨v', rfl, ho, hf2⟩
  obtain ⟨va, vc, rfl, -⟩ := own_slice ho
  have hs2 := hHeld.2.2.lt
  refine hK.out _ _ (fun _ => ⟨hHeld.1.trans0 hf2, hHeld.2.1.fr hf2 (by simp), hHeld.2.2.fr hf2 (by simp)⟩) (fun hHeld' => ?_); have hHeld := hHeld' (by decide); clear hHeld' hK K; (try (refine wpAnyL_norm (by simp only [Act.put, List.setIfInBounds_toArray, List.set_cons_zero, List.set_cons_succ]; rfl) ?_))
  have O2 := Lib.hid ho
  have HOB := Lib.hid fun k hk => (ho.lt k hk).1
  clear ho hf2
  refine wpAnyL_ready (rs := [5]) (by kernel_rfl) (by simp) ?_; refine AllReadyL.cons rfl (fun K hK => ?_) AllReadyL.nil
  go_simp
  refine (C2.out _ hHeld.1).mono ?_
  rintro e w3 ⟨p, q, g, rfl, hp3, hp, hq, hg, hf3⟩
  have hs3 := hHeld.2.2.lt
  refine hK.out _ _ (fun _ => ⟨hHeld.1.trans0 hf3, hHeld.2.1.fr hf3 (by simp), hHeld.2.2.fr hf3 (by simp)⟩) (fun hHeld' => ?_); have hHeld := hHeld' (by decide); clear hHeld' hK K; (try (refine wpAnyL_norm (by simp only [Act.put, List.setIfInBounds_toArray, List.set_cons_zero, List.set_cons_succ]; rfl) ?_))
  have O3 := Lib.hid (own_fr0 O2.out hf3)
  have P3 := Lib.hid hp3
  clear hp3 hf3 O2
  refine wpAnyL_take (i := 6) (v := ?_) rfl (by kernel_rfl) (fun _ _ _ h => h) (Or.inl ⟨by rfl, ?_⟩) (by assumption) ?_; rotate_left; (focus (intro w hSw; skip; go_simp; (try with_reducible rfl))); (try (refine wpAnyL_norm (by simp only [Act.put, List.setIfInBounds_toArray, List.set_cons_zero, List.set_cons_succ]; rfl) ?_))
  have YA := Lib.hid hHeld.2.2
  have FW := Lib.hid hHeld.1
  refine wpAnyL_ready (rs := [7]) (by kernel_rfl) (by simp) ?_; refine AllReadyL.cons rfl (fun K hK => ?_) AllReadyL.nil
  rw [if_pos (by rfl)]
  refine wp_store_at 66 (.tmp 2) (.tmp 9) rfl (w.heap.size + 1) 0 [.slice va l.length vc, .pointer (some ⟨p, 0, none⟩)] rfl rfl 66 [.slice none 0 0, .pointer none] YA.out HLI.out (by simp) (fun u hu => by simp at hu; rcases hu with rfl | rfl <;> rfl) ?_
  intro w4 hA4 hF4
  simp only [List.length_cons, List.length_nil, Nat.reduceAdd, List.take_succ_cons, List.take_zero, List.drop_succ_cons, List.drop_zero, List.drop_nil, List.cons_append, List.nil_append, List.append_nil] at hA4
  refine hK.out _ _ (fun h => (h (by decide)).elim) (fun _ => ?_); clear hK K; (try (refine wpAnyL_norm (by simp only [Act.put, List.setIfInBounds_toArray, List.set_cons_zero, List.set_cons_succ]; rfl) ?_))
  refine wpAnyL_done (by kernel_rfl) ?_ _
  have hbig : ∀ k, (Value.slice va l.length vc).ownBlock = some k → w.heap.size + 1 < k := fun k hk => Nat.lt_of_lt_of_le hs2 (HOB.out k hk)
  have Y4 := Lib.hid hA4
  have F4 := Lib.hid hF4
  have hyl := YA.out.lt
  have HBG := Lib.hid hbig
  clear hA4 hF4 hHeld hbig
  go_wp2_with fail
  refine bodyPost_ret (res_rowL rfl _ _ (w.heap.size + 1) 66 _ _ rfl Y4.out Try.underlying66 rfl HLI.out) rfl ⟨.slice va l.length vc, p, q, g, rfl, ⟨own_base (own_fr O3.out F4.out (fun k hk => by have := HBG.out k hk; simp; omega)) (Nat.zero_le _), P3.out.fr F4.out ?_ ?_ ?_, HG.out⟩, ⟨?_, ?_, ?_, fun k hk => by have := HBG.out k hk; omega⟩, FW.out.trans F4.out (by simp <;> omega)⟩
  · have : w.heap.size + 1 < p := Nat.lt_of_lt_of_le hs3 hp
    simp; omega
  · have : w.heap.size + 1 < q := Nat.lt_of_lt_of_le hs3 hq
    simp; omega
  · have : w.heap.size + 1 < g := Nat.lt_of_lt_of_le hs3 hg
    simp; omega
  · have : w.heap.size + 1 < p := Nat.lt_of_lt_of_le hs3 hp
    omega
  · have : w.heap.size + 1 < q := Nat.lt_of_lt_of_le hs3 hq
    omega
  · have : w.heap.size + 1 < g := Nat.lt_of_lt_of_le hs3 hg
    omega
set_option maxHeartbeats 2000000 in
set_option maxRecDepth 100000 in
theorem qcopy_any {w : World} {s : YS} (h : Yd w s) : Calls Try.prog 25 #[.pointer (some ⟨s.y, 0, none⟩)] w fun r w' => ∃ (y2 : Nat) (v1 : Value) (p1 q1 g1 : Nat) (v2 : Value) (p2 q2 g2 : Nat), r = .returned (.pointer (some ⟨y2, 0, none⟩)) ∧ Yd w' { s with y := y2, wv := v1, a := p1, b := q1, c := g1, bv := v2, a' := p2, b' := q2, c' := g2 } ∧ (w.heap.size ≤ y2 ∧ w.heap.size ≤ g1 ∧ w.heap.size ≤ g2 ∧ (∀ k, v1.ownBlock = some k → w.heap.size ≤ k) ∧ ∀ k, v2.ownBlock = some k → w.heap.size ≤ k) ∧ Fr [] w w' := by
  have C1 := Lib.hid fun (W : World) (hW : Fr [] w W) => lcopy_any W s.wv s.a s.b s.c s.n s.lw (h.wt.fr0 hW)
  have C2 := Lib.hid fun (W : World) (hW : Fr [] w W) => lcopy_any W s.bv s.a' s.b' s.c' s.n s.lb (h.bt.fr0 hW)
  have HLI := Lib.hid (show (Try.prog.info? 66).map (·.size) = some 2 by kernel_rfl)
  have HCI := Lib.hid (show (Try.prog.info? 64).map (·.size) = some 2 by kernel_rfl)
  have HN := Lib.hid (qnone_any h)
  have H := Lib.hid h
  have hat := h.at_
  have hfew := h.few
  have hup := h.up
  have hn2 := h.wt.pt.2.2.2.2
  unfold YS.cells at hat
  obtain ⟨y, n, ep, un, wv, a, b, c, lw, bv, a', b', c', lb⟩ := s
  dsimp only at *
  obtain ⟨N, hNN⟩ : ∃ N, 16 * n = N := ⟨_, rfl⟩
  rw [hNN] at hat
  have HNN := Lib.hid hNN
  have Y0 := Lib.hid hat
  clear hNN
  clear hat h
  go_enter Try.func25, Try.ntmps25
  go_wp2_with fail
  refine (HN.out).mono ?_
  rintro e w' ⟨rfl, rfl⟩
  go_wp2_with fail
  refine wp_region_L (fun W => Fr [] w W ∧ At W y 68 #[.int .u64 (ep : Int), .bool un, .int .i64 (N : Int), wv, .pointer (some ⟨a, 0, none⟩), bv, .pointer (some ⟨a', 0, none⟩)]) [] (by kernel_rfl) ⟨(Fr.refl _ _).drew, Y0.out.hp rfl⟩ (fun hHeld => ?_)
  refine wpAnyL_take (i := 0) (v := ?_) rfl (by kernel_rfl) (fun _ _ _ h => h) (Or.inl ⟨by rfl, ?_⟩) (by assumption) ?_; rotate_left; (focus (intro w hSw; skip; go_simp; (try with_reducible rfl))); (try (refine wpAnyL_norm (by simp only [Act.put, List.setIfInBounds_toArray, List.set_cons_zero, List.set_cons_succ]; rfl) ?_))
  refine wpAnyL_take (i := 1) (v := ?_) rfl (by kernel_rfl) (fun _ _ _ h => h) (Or.inl ⟨by rfl, ?_⟩) (by assumption) ?_; rotate_left; (focus (intro w hSw; skip; go_simp; (try with_reducible rfl))); (try (refine wpAnyL_norm (by simp only [Act.put, List.setIfInBounds_toArray, List.set_cons_zero, List.set_cons_succ]; rfl) ?_))
  refine wpAnyL_take (i := 2) (v := ?_) rfl (by kernel_rfl) (fun _ _ _ h => h) (Or.inl ⟨by rfl, ?_⟩) (by assumption) ?_; rotate_left; (focus (intro w hSw; skip; go_simp; (try with_reducible rfl))); (try (refine wpAnyL_norm (by simp only [Act.put, List.setIfInBounds_toArray, List.set_cons_zero, List.set_cons_succ]; rfl) ?_))
  refine wpAnyL_take (i := 3) rfl (by kernel_rfl) (fun _ _ _ h => h) (yields_load_at 64 (.tmp 7) rfl ⟨y, 0, none⟩ rfl [.int .u64 (ep : Int), .bool un] _ (fun W h => two_at h.2 0 _ _ rfl rfl) Try.underlying64 rfl HCI.out rfl) (by assumption) ?_; (try (refine wpAnyL_norm (by simp only [Act.put, List.setIfInBounds_toArray, List.set_cons_zero, List.set_cons_succ]; rfl) ?_))
  refine wpAnyL_take (i := 4) (v := ?_) rfl (by kernel_rfl) (fun _ _ _ h => h) (Or.inl ⟨by rfl, ?_⟩) (by assumption) ?_; rotate_left; (focus (intro w hSw; skip; go_simp; (try with_reducible rfl))); (try (refine wpAnyL_norm (by simp only [Act.put, List.setIfInBounds_toArray, List.set_cons_zero, List.set_cons_succ]; rfl) ?_))
  refine wpAnyL_take (i := 5) (v := ?_) rfl (by kernel_rfl) (fun _ _ _ h => h) (Or.inl ⟨by rfl, ?_⟩) (by assumption) ?_; rotate_left; (focus (intro w hSw; skip; go_simp; (try with_reducible rfl))); (try (refine wpAnyL_norm (by simp only [Act.put, List.setIfInBounds_toArray, List.set_cons_zero, List.set_cons_succ]; rfl) ?_))
  refine wpAnyL_take (i := 6) (v := ?_) rfl (by kernel_rfl) (fun _ _ _ h => h) (Or.inl ⟨by rfl, ?_⟩) (by assumption) ?_; rotate_left; (focus (intro w hSw; skip; go_simp; (try with_reducible rfl))); (try (refine wpAnyL_norm (by simp only [Act.put, List.setIfInBounds_toArray, List.set_cons_zero, List.set_cons_succ]; rfl) ?_))
  refine wpAnyL_take (i := 7) (v := ?_) rfl (by kernel_rfl) (fun _ _ _ h => h) (Or.inl ⟨by rfl, ?_⟩) (by assumption) ?_; rotate_left; (focus (intro w hSw; (have cc := hSw.2.cell 2); (simp only [List.getElem?_toArray, List.getElem?_cons_zero, List.getElem?_cons_succ] at cc); go_simp; (try with_reducible rfl))); (try (refine wpAnyL_norm (by simp only [Act.put, List.setIfInBounds_toArray, List.set_cons_zero, List.set_cons_succ]; rfl) ?_))
  refine wpAnyL_take (i := 8) (v := ?_) rfl (by kernel_rfl) (fun _ _ _ h => h) (Or.inl ⟨by rfl, ?_⟩) (by assumption) ?_; rotate_left; (focus (intro w hSw; skip; go_simp; (try with_reducible rfl))); (try (refine wpAnyL_norm (by simp only [Act.put, List.setIfInBounds_toArray, List.set_cons_zero, List.set_cons_succ]; rfl) ?_))
  refine wpAnyL_take (i := 9) (v := ?_) rfl (by kernel_rfl) (fun _ _ _ h => h) (Or.inl ⟨by rfl, ?_⟩) (by assumption) ?_; rotate_left; (focus (intro w hSw; skip; go_simp; (try with_reducible rfl))); (try (refine wpAnyL_norm (by simp only [Act.put, List.setIfInBounds_toArray, List.set_cons_zero, List.set_cons_succ]; rfl) ?_))
  refine wpAnyL_take (i := 10) (v := ?_) rfl (by kernel_rfl) (fun _ _ _ h => h) (Or.inl ⟨by rfl, ?_⟩) (by assumption) ?_; rotate_left; (focus (intro w hSw; skip; go_simp; (try with_reducible rfl))); (try (refine wpAnyL_norm (by simp only [Act.put, List.setIfInBounds_toArray, List.set_cons_zero, List.set_cons_succ]; rfl) ?_))
  refine wpAnyL_take (i := 11) rfl (by kernel_rfl) (fun _ _ _ h => h) (yields_load_at 66 (.tmp 15) rfl ⟨y, 3, none⟩ rfl [wv, .pointer (some ⟨a, 0, none⟩)] _ (fun W h => two_at h.2 3 _ _ rfl rfl) Try.underlying66 rfl HLI.out rfl) (by assumption) ?_; (try (refine wpAnyL_norm (by simp only [Act.put, List.setIfInBounds_toArray, List.set_cons_zero, List.set_cons_succ]; rfl) ?_))
  refine wpAnyL_take (i := 13) (v := ?_) rfl (by kernel_rfl) (fun _ _ _ h => h) (Or.inl ⟨by rfl, ?_⟩) (by assumption) ?_; rotate_left; (focus (intro w hSw; skip; go_simp; (try with_reducible rfl))); (try (refine wpAnyL_norm (by simp only [Act.put, List.setIfInBounds_toArray, List.set_cons_zero, List.set_cons_succ]; rfl) ?_))
  refine wpAnyL_take (i := 14) (v := ?_) rfl (by kernel_rfl) (fun _ _ _ h => h) (Or.inl ⟨by rfl, ?_⟩) (by assumption) ?_; rotate_left; (focus (intro w hSw; skip; go_simp; (try with_reducible rfl))); (try (refine wpAnyL_norm (by simp only [Act.put, List.setIfInBounds_toArray, List.set_cons_zero, List.set_cons_succ]; rfl) ?_))
  refine wpAnyL_take (i := 15) (v := ?_) rfl (by kernel_rfl) (fun _ _ _ h => h) (Or.inl ⟨by rfl, ?_⟩) (by assumption) ?_; rotate_left; (focus (intro w hSw; skip; go_simp; (try with_reducible rfl))); (try (refine wpAnyL_norm (by simp only [Act.put, List.setIfInBounds_toArray, List.set_cons_zero, List.set_cons_succ]; rfl) ?_))
  refine wpAnyL_take (i := 16) rfl (by kernel_rfl) (fun _ _ _ h => h) (yields_load_at 66 (.tmp 20) rfl ⟨y, 5, none⟩ rfl [bv, .pointer (some ⟨a', 0, none⟩)] _ (fun W h => two_at h.2 5 _ _ rfl rfl) Try.underlying66 rfl HLI.out rfl) (by assumption) ?_; (try (refine wpAnyL_norm (by simp only [Act.put, List.setIfInBounds_toArray, List.set_cons_zero, List.set_cons_succ]; rfl) ?_))
  refine wpAnyL_ready (rs := [12]) (by kernel_rfl) (by simp) ?_; refine AllReadyL.cons rfl (fun K hK => ?_) AllReadyL.nil
  go_simp
  refine (C1.out _ hHeld.1).mono ?_
  rintro e w2 ⟨v1, p1, q1', g1, rfl, hl2, ⟨hp1, hq1, hg1, hv1⟩, hf2⟩
  have hs2 := hHeld.1.size
  refine hK.out _ _ (fun _ => ⟨hHeld.1.trans0 hf2, hHeld.2.fr hf2 (by simp)⟩) (fun hHeld' => ?_); have hHeld := hHeld' (by decide); clear hHeld' hK K; (try (refine wpAnyL_norm (by simp only [Act.put, List.setIfInBounds_toArray, List.set_cons_zero, List.set_cons_succ]; rfl) ?_))
  have L2 := Lib.hid hl2
  have HV1 := Lib.hid hv1
  clear hl2 hf2 hv1
  refine wpAnyL_ready (rs := [17]) (by kernel_rfl) (by simp) ?_; refine AllReadyL.cons rfl (fun K hK => ?_) AllReadyL.nil
  go_simp
  refine (C2.out _ hHeld.1).mono ?_
  rintro e w3 ⟨v2, p2, q2', g2, rfl, hl3, ⟨hp2, hq2, hg2, hv2⟩, hf3⟩
  have hs3 := hHeld.1.size
  refine hK.out _ _ (fun _ => ⟨hHeld.1.trans0 hf3, hHeld.2.fr hf3 (by simp)⟩) (fun hHeld' => ?_); have hHeld := hHeld' (by decide); clear hHeld' hK K; (try (refine wpAnyL_norm (by simp only [Act.put, List.setIfInBounds_toArray, List.set_cons_zero, List.set_cons_succ]; rfl) ?_))
  have L2' := Lib.hid (L2.out.fr0 hf3)
  have L3 := Lib.hid hl3
  have HV2 := Lib.hid hv2
  have hcl := L2.out.lt.2.2
  have hvl := fun k hk => (L2.out.own.lt k hk).2
  have HVL := Lib.hid hvl
  clear hl3 hf3 hv2 L2 hvl
  refine wpAnyL_take (i := 18) (v := ?_) rfl (by kernel_rfl) (fun _ _ _ h => h) (Or.inl ⟨by rfl, ?_⟩) (by assumption) ?_; rotate_left; (focus (intro w hSw; skip; go_simp; (try with_reducible rfl))); (try (refine wpAnyL_norm (by simp only [Act.put, List.setIfInBounds_toArray, List.set_cons_zero, List.set_cons_succ]; rfl) ?_))
  refine wpAnyL_ready (rs := [19]) (by kernel_rfl) (by simp) ?_; refine AllReadyL.cons rfl (fun K hK => ?_) AllReadyL.nil
  go_simp
  have hfa : Fr [] w3 (w3.alloc (.cells #[.int .u64 (ep : Int), .bool un, .int .i64 (N : Int), v1, .pointer (some ⟨p1, 0, none⟩), v2, .pointer (some ⟨p2, 0, none⟩)] 68)) := (by repeat (first | exact Fr.refl _ _ | assumption | refine Fr.trans0 ?_ (by assumption) | refine Fr.drewN ?_ _ | refine Fr.alloc ?_ _ | refine Fr.drew ?_))
  refine hK.out _ _ (fun _ => ⟨hHeld.1.trans0 hfa, hHeld.2.fr hfa (by simp)⟩) (fun hHeld' => ?_); have hHeld := hHeld' (by decide); clear hHeld' hK K; (try (refine wpAnyL_norm (by simp only [Act.put, List.setIfInBounds_toArray, List.set_cons_zero, List.set_cons_succ]; rfl) ?_))
  refine wpAnyL_take (i := 20) (v := ?_) rfl (by kernel_rfl) (fun _ _ _ h => h) (Or.inl ⟨by rfl, ?_⟩) (by assumption) ?_; rotate_left; (focus (intro w hSw; skip; go_simp; (try with_reducible rfl))); (try (refine wpAnyL_norm (by simp only [Act.put, List.setIfInBounds_toArray, List.set_cons_zero, List.set_cons_succ]; rfl) ?_))
  refine wpAnyL_done (by kernel_rfl) ?_ _
  have Y4 := Lib.hid (At.new w3 68 #[.int .u64 (ep : Int), .bool un, .int .i64 (N : Int), v1, .pointer (some ⟨p1, 0, none⟩), v2, .pointer (some ⟨p2, 0, none⟩)])
  have L4 := Lib.hid (L2'.out.fr0 hfa)
  have L5 := Lib.hid (L3.out.fr0 hfa)
  have FW := Lib.hid hHeld.1
  have hw3 := L3.out.lt
  obtain ⟨w4, hw4⟩ : ∃ W, w3.alloc (.cells #[.int .u64 (ep : Int), .bool un, .int .i64 (N : Int), v1, .pointer (some ⟨p1, 0, none⟩), v2, .pointer (some ⟨p2, 0, none⟩)] 68) = W := ⟨_, rfl⟩
  rw [hw4] at Y4 L4 L5 FW
  rw [hw4]
  clear hw4 hfa hHeld
  go_wp2_with fail
  go_ret
  have q1 : w.heap.size ≤ g1 := Nat.le_trans hs2 hg1
  have q2 : w.heap.size ≤ g2 := Nat.le_trans hs3 hg2
  have hg12 : g1 < g2 := Nat.lt_of_lt_of_le hcl hg2
  have q3 : w.heap.size ≤ w3.heap.size := by omega
  refine ⟨w3.heap.size, v1, p1, q1', g1, v2, p2, q2', g2, rfl, ⟨?_, L4.out, L5.out, (show g1 ≠ g2 by omega), (fun k hk h => ?_), hup, hfew⟩, ⟨q3, q1, q2, fun k hk => Nat.le_trans hs2 (HV1.out k hk), fun k hk => Nat.le_trans hs3 (HV2.out k hk)⟩, FW.out⟩
  · unfold YS.cells
    dsimp only
    rw [HNN.out]
    exact Y4.out
  · have h1 := HVL.out k hk
    have h2 := HV2.out k h
    exact absurd h1 (Nat.not_lt.2 h2)
end Go.Proofs.Ytflhpgfnffmimaa
