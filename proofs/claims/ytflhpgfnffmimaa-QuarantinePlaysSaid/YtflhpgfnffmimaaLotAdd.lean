/-
  What lot.add does with a region that touches nothing. Condition: numbers in their types' ranges.
-/



import Derived.Test.YtflhpgfnffmimaaLot
import Derived.Deep.CutBlock
import Derived.Deep.DeepCutAuto
set_option linter.unusedVariables false
namespace Go.Proofs.Ytflhpgfnffmimaa
open Go.ChangeShapes Go.WideShapes Go.ChangeAt Go.RowKit
theorem builtR (w : World) (x y : Nat) : (Instr.buildSlice 35 1 #[(0, .agg #[.int .u32 x, .int .u32 y])]).run Try.prog w = .ok (.slice (some ⟨w.heap.size, 0, none⟩) 1 1) (w.alloc (.cells #[.int .u32 x, .int .u32 y] 30)) := by kernel_rfl
def Added (w : World) (y o : Nat) (t : TypeId) (cs : Array Value) (v : Value) (a b c n : Nat) (l : List (Nat × Nat)) (A R : Nat) (w' : World) : Prop :=
  ∃ (v' : Value) (k : Nat), Place l (16 * A) k ∧ At w' y t (cs.setIfInBounds o v') ∧ Lt w' v' a b c n (insL l k (16 * A, 16 * R)) ∧ Fr (y :: c :: v.ownBlock.toList) w w' ∧ ∀ g, v'.ownBlock = some g → v.ownBlock = some g ∨ w.heap.size ≤ g
theorem Pt.blocks {w : World} {a b c n : Nat} {f : Nat → Bool} (h : Pt w a b c n f) : (∃ cs, At w a 80 cs) ∧ (∃ cs, At w b 93 cs) ∧ ∃ cs, At w c 32 cs := by
  obtain ⟨h1, ⟨k1, k2, k3, m, cs, k4, k5, k6, k7⟩, _⟩ := h
  exact ⟨⟨_, h1⟩, ⟨_, k5⟩, ⟨_, k6⟩⟩
theorem Lt.apart {w : World} {v : Value} {a b c n : Nat} {l : List (Nat × Nat)} (h : Lt w v a b c n l) : a ∉ v.ownBlock.toList ∧ b ∉ v.ownBlock.toList ∧ c ∉ v.ownBlock.toList := by
  obtain ⟨⟨_, h1⟩, ⟨_, h2⟩, ⟨_, h3⟩⟩ := Pt.blocks h.pt
  exact ⟨own_toList h.own h1 (by decide), own_toList h.own h2 (by decide), own_toList h.own h3 (by decide)⟩
theorem Pt.apart {w : World} {a b c n y : Nat} {f : Nat → Bool} {cs : Array Value} (h : Pt w a b c n f) (hy : At w y 68 cs) : a ≠ y ∧ b ≠ y ∧ c ≠ y := by
  obtain ⟨⟨_, h1⟩, ⟨_, h2⟩, ⟨_, h3⟩⟩ := Pt.blocks h
  refine ⟨?_, ?_, ?_⟩
  · rintro rfl; exact absurd (h1.inj hy).1 (by decide)
  · rintro rfl; exact absurd (h2.inj hy).1 (by decide)
  · rintro rfl; exact absurd (h3.inj hy).1 (by decide)
set_option maxHeartbeats 2000000 in
set_option maxRecDepth 100000 in
theorem ladd_any (w : World) (y o : Nat) (cs : Array Value) (v : Value) (a b c n : Nat) (l : List (Nat × Nat)) (hy : At w y 68 cs) (h0 : cs[o]? = some v) (h1 : cs[o + 1]? = some (.pointer (some ⟨a, 0, none⟩))) (h : Lt w v a b c n l)
    (A R : Nat) (hR : 1 ≤ R) (hn : A + R ≤ n) (ht : tch (cov l) A R = false) :
    Calls Try.prog 36 #[.pointer (some ⟨y, o, none⟩), .agg #[.int .u32 (16 * A : Nat), .int .u32 (16 * R : Nat)]] w fun e w' => (∃ x, e = .returned x) ∧ Added w y o 68 cs v a b c n l A R w' := by
  have hn2 := h.pt.2.2.2.2
  have hlen := h.good.len
  have CB := Lib.hid fun (W : World) (hW : Fr [] w W) => bsearch_any W v l (16 * A, 16 * R) (own_fr0 h.own hW) (by omega) h.good.rise (fun x hx => by have := h.good.al x hx; omega) (by dsimp only; omega)
  have HPA := Lib.hid fun k => paint_ins l A R k hR hn ht
  have HGI := Lib.hid fun k hk => h.good.ins A R k (by omega) hn hk ht
  have H := Lib.hid h
  have HIL := Lib.hid fun k (hk : k ≤ l.length) => insL_len l k (16 * A, 16 * R) hk
  obtain ⟨sa, hsa⟩ : ∃ s, 16 * A = s := ⟨_, rfl⟩
  obtain ⟨sr, hsr⟩ : ∃ s, 16 * R = s := ⟨_, rfl⟩
  have HSA := Lib.hid hsa
  have HSR := Lib.hid hsr
  have hb1 : sa + sr ≤ 262144 := by omega
  rw [hsa, hsr] at CB HGI HIL HPA ⊢
  unfold Added
  rw [hsa, hsr]
  have HY := Lib.hid hy
  have H0 := Lib.hid h0
  have H1 := Lib.hid h1
  have A0 := Lib.hid (At.new w 30 #[.int .u32 (sa : Int), .int .u32 (sr : Int)])
  have F0 := Lib.hid (show Fr [] w (w.alloc (.cells #[.int .u32 (sa : Int), .int .u32 (sr : Int)] 30)) from (by repeat (first | exact Fr.refl _ _ | assumption | refine Fr.trans0 ?_ (by assumption) | refine Fr.drewN ?_ _ | refine Fr.alloc ?_ _ | refine Fr.drew ?_)))
  have Y0 := Lib.hid (hy.old (.cells #[.int .u32 (sa : Int), .int .u32 (sr : Int)] 30))
  have HIN := Lib.hid fun (W : World) (u : Value) q hq hu i hi hne => insert_any W l (sa, sr) q hq (by omega) u hu i hi hne
  obtain ⟨X, hX⟩ : ∃ X, w.alloc (.cells #[.int .u32 (sa : Int), .int .u32 (sr : Int)] 30) = X := ⟨_, rfl⟩
  rw [hX] at A0 F0 Y0
  have HX := Lib.hid hX
  have hyl := hy.lt
  clear hsa hsr hy h0 h1 h ht hX
  go_enter Try.func36, Try.ntmps36
  go_wp2_with fail
  rw [HX.out]
  refine wp_region_L (fun W => Fr [] w W ∧ At W y 68 cs ∧ At W w.heap.size 30 #[.int .u32 (sa : Int), .int .u32 (sr : Int)]) [] (by kernel_rfl) ⟨F0.out.drew, Y0.out.hp rfl, A0.out.hp rfl⟩ (fun hHeld => ?_)
  refine wpAnyL_take (i := 0) (v := ?_) rfl (by kernel_rfl) (fun _ _ _ h => h) (Or.inl ⟨by rfl, ?_⟩) (by assumption) ?_; rotate_left; (focus (intro w hSw; skip; go_simp; (try with_reducible rfl))); (try (refine wpAnyL_norm (by simp only [Act.put, List.setIfInBounds_toArray, List.set_cons_zero, List.set_cons_succ]; rfl) ?_))
  refine wpAnyL_take (i := 1) (v := ?_) rfl (by kernel_rfl) (fun _ _ _ h => h) (Or.inl ⟨by rfl, ?_⟩) (by assumption) ?_; rotate_left; (focus (intro w hSw; skip; go_simp; (try with_reducible rfl))); (try (refine wpAnyL_norm (by simp only [Act.put, List.setIfInBounds_toArray, List.set_cons_zero, List.set_cons_succ]; rfl) ?_))
  refine wpAnyL_take (i := 2) (v := ?_) rfl (by kernel_rfl) (fun _ _ _ h => h) (Or.inl ⟨by rfl, ?_⟩) (by assumption) ?_; rotate_left; (focus (intro w hSw; skip; go_simp; (try with_reducible rfl))); (try (refine wpAnyL_norm (by simp only [Act.put, List.setIfInBounds_toArray, List.set_cons_zero, List.set_cons_succ]; rfl) ?_))
  refine wpAnyL_take (i := 3) (v := ?_) rfl (by kernel_rfl) (fun _ _ _ h => h) (Or.inl ⟨by rfl, ?_⟩) (by assumption) ?_; rotate_left; (focus (intro w hSw; (have cc := (hSw.2.1.cell o).trans H0.out); go_simp; (try with_reducible rfl))); (try (refine wpAnyL_norm (by simp only [Act.put, List.setIfInBounds_toArray, List.set_cons_zero, List.set_cons_succ]; rfl) ?_))
  refine wpAnyL_take (i := 4) rfl (by kernel_rfl) (fun _ _ _ h => h) (yields_load_at 30 (.tmp 3) rfl ⟨w.heap.size, 0, none⟩ rfl [.int .u32 (sa : Int), .int .u32 (sr : Int)] _ (fun W h j v hv => by rw [Go.WideShapes.add_plain, Nat.zero_add, h.2.2.cell, List.getElem?_toArray]; exact hv) Try.underlying30 rfl infoRgS rfl) (by assumption) ?_; (try (refine wpAnyL_norm (by simp only [Act.put, List.setIfInBounds_toArray, List.set_cons_zero, List.set_cons_succ]; rfl) ?_))
  refine wpAnyL_ready (rs := [5]) (by kernel_rfl) (by simp) ?_; refine AllReadyL.cons rfl (fun K hK => ?_) AllReadyL.nil
  go_simp
  refine (CB.out _ hHeld.1).mono ?_
  rintro e w3 ⟨k, hpl, ⟨bb, rfl⟩, hf3⟩
  refine hK.out _ _ (fun _ => ⟨hHeld.1.trans0 hf3, hHeld.2.1.fr hf3 (by simp), hHeld.2.2.fr hf3 (by simp)⟩) (fun hHeld' => ?_); have hHeld := hHeld' (by decide); clear hHeld' hK K; (try (refine wpAnyL_norm (by simp only [Act.put, List.setIfInBounds_toArray, List.set_cons_zero, List.set_cons_succ]; rfl) ?_))
  refine wpAnyL_take (i := 6) (v := ?_) rfl (by kernel_rfl) (fun _ _ _ h => h) (Or.inl ⟨by rfl, ?_⟩) (by assumption) ?_; rotate_left; (focus (intro w hSw; skip; go_simp; (try with_reducible rfl))); (try (refine wpAnyL_norm (by simp only [Act.put, List.setIfInBounds_toArray, List.set_cons_zero, List.set_cons_succ]; rfl) ?_))
  refine wpAnyL_take (i := 7) (v := ?_) rfl (by kernel_rfl) (fun _ _ _ h => h) (Or.inl ⟨by rfl, ?_⟩) (by assumption) ?_; rotate_left; (focus (intro w hSw; skip; go_simp; (try with_reducible rfl))); (try (refine wpAnyL_norm (by simp only [Act.put, List.setIfInBounds_toArray, List.set_cons_zero, List.set_cons_succ]; rfl) ?_))
  refine wpAnyL_take (i := 8) (v := ?_) rfl (by kernel_rfl) (fun _ _ _ h => h) (Or.inl ⟨by rfl, ?_⟩) (by assumption) ?_; rotate_left; (focus (intro w hSw; skip; go_simp; (try with_reducible rfl))); (try (refine wpAnyL_norm (by simp only [Act.put, List.setIfInBounds_toArray, List.set_cons_zero, List.set_cons_succ]; rfl) ?_))
  refine wpAnyL_take (i := 9) (v := ?_) rfl (by kernel_rfl) (fun _ _ _ h => h) (Or.inl ⟨by rfl, ?_⟩) (by assumption) ?_; rotate_left; (focus (intro w hSw; skip; go_simp; (try with_reducible rfl))); (try (refine wpAnyL_norm (by simp only [Act.put, List.setIfInBounds_toArray, List.set_cons_zero, List.set_cons_succ]; rfl) ?_))
  refine wpAnyL_take (i := 10) (v := ?_) rfl (by kernel_rfl) (fun _ _ _ h => h) (Or.inl ⟨by rfl, ?_⟩) (by assumption) ?_; rotate_left; (focus (intro w hSw; skip; go_simp; (try with_reducible rfl))); (try (refine wpAnyL_norm (by simp only [Act.put, List.setIfInBounds_toArray, List.set_cons_zero, List.set_cons_succ]; rfl) ?_))
  refine wpAnyL_done (by kernel_rfl) ?_ _
  have HPL := Lib.hid hpl
  have S3 := Lib.hid hHeld
  clear hf3 hpl hHeld A0 F0 Y0 HX CB
  go_wp2_with fail
  have hvl := fun g hg => (H.out.own.lt g hg).2
  have HVL := Lib.hid hvl
  have OV := Lib.hid (own_fr0 H.out.own S3.out.1)
  clear hvl
  refine wp_region_L (fun W => At W y 68 cs ∧ At W w.heap.size 30 #[.int .u32 (sa : Int), .int .u32 (sr : Int)]) [11] (by kernel_rfl) ⟨S3.out.2.1.hp rfl, S3.out.2.2.hp rfl⟩ (fun hHeld => ?_)
  refine wpAnyL_take (i := 0) (v := ?_) rfl (by kernel_rfl) (fun _ _ _ h => h) (Or.inl ⟨by rfl, ?_⟩) (by assumption) ?_; rotate_left; (focus (intro w hSw; skip; go_simp; (try with_reducible rfl))); (try (refine wpAnyL_norm (by simp only [Act.put, List.setIfInBounds_toArray, List.set_cons_zero, List.set_cons_succ]; rfl) ?_))
  refine wpAnyL_take (i := 1) (v := ?_) rfl (by kernel_rfl) (fun _ _ _ h => h) (Or.inl ⟨by rfl, ?_⟩) (by assumption) ?_; rotate_left; (focus (intro w hSw; skip; go_simp; (try with_reducible rfl))); (try (refine wpAnyL_norm (by simp only [Act.put, List.setIfInBounds_toArray, List.set_cons_zero, List.set_cons_succ]; rfl) ?_))
  refine wpAnyL_take (i := 2) (v := ?_) rfl (by kernel_rfl) (fun _ _ _ h => h) (Or.inl ⟨by rfl, ?_⟩) (by assumption) ?_; rotate_left; (focus (intro w hSw; skip; go_simp; (try with_reducible rfl))); (try (refine wpAnyL_norm (by simp only [Act.put, List.setIfInBounds_toArray, List.set_cons_zero, List.set_cons_succ]; rfl) ?_))
  refine wpAnyL_take (i := 3) (v := ?_) rfl (by kernel_rfl) (fun _ _ _ h => h) (Or.inl ⟨by rfl, ?_⟩) (by assumption) ?_; rotate_left; (focus (intro w hSw; skip; go_simp; (try with_reducible rfl))); (try (refine wpAnyL_norm (by simp only [Act.put, List.setIfInBounds_toArray, List.set_cons_zero, List.set_cons_succ]; rfl) ?_))
  refine wpAnyL_take (i := 4) (v := ?_) rfl (by kernel_rfl) (fun _ _ _ h => h) (Or.inl ⟨by rfl, ?_⟩) (by assumption) ?_; rotate_left; (focus (intro w hSw; (have cc := (hSw.1.cell o).trans H0.out); go_simp; (try with_reducible rfl))); (try (refine wpAnyL_norm (by simp only [Act.put, List.setIfInBounds_toArray, List.set_cons_zero, List.set_cons_succ]; rfl) ?_))
  refine wpAnyL_take (i := 5) (v := ?_) rfl (by kernel_rfl) (fun _ _ _ h => h) (Or.inl ⟨by rfl, ?_⟩) (by assumption) ?_; rotate_left; (focus (intro w hSw; skip; go_simp; (try with_reducible rfl))); (try (refine wpAnyL_norm (by simp only [Act.put, List.setIfInBounds_toArray, List.set_cons_zero, List.set_cons_succ]; rfl) ?_))
  refine wpAnyL_take (i := 6) rfl (by kernel_rfl) (fun _ _ _ h => h) (yields_load_at 30 (.tmp 3) rfl ⟨w.heap.size, 0, none⟩ rfl [.int .u32 (sa : Int), .int .u32 (sr : Int)] _ (fun W h j v hv => by rw [Go.WideShapes.add_plain, Nat.zero_add, h.2.cell, List.getElem?_toArray]; exact hv) Try.underlying30 rfl infoRgS rfl) (by assumption) ?_; (try (refine wpAnyL_norm (by simp only [Act.put, List.setIfInBounds_toArray, List.set_cons_zero, List.set_cons_succ]; rfl) ?_))
  refine wpAnyL_ready (rs := [7]) (by kernel_rfl) (by simp) ?_; refine AllReadyL.cons rfl (fun K hK => ?_) AllReadyL.nil
  rw [if_pos (by rfl)]
  refine wp_buildSl 35 1 _ _ _ _ (builtR _ sa sr) rfl (by kernel_rfl) ?_
  have hf4 : Fr [] w3.drew (w3.drew.alloc (.cells #[.int .u32 (sa : Int), .int .u32 (sr : Int)] 30)) := (by repeat (first | exact Fr.refl _ _ | assumption | refine Fr.trans0 ?_ (by assumption) | refine Fr.drewN ?_ _ | refine Fr.alloc ?_ _ | refine Fr.drew ?_))
  refine hK.out _ _ (fun _ => ⟨hHeld.1.fr hf4 (by simp), hHeld.2.fr hf4 (by simp)⟩) (fun hHeld' => ?_); have hHeld := hHeld' (by decide); clear hHeld' hK K; (try (refine wpAnyL_norm (by simp only [Act.put, List.setIfInBounds_toArray, List.set_cons_zero, List.set_cons_succ]; rfl) ?_))
  have N4 := Lib.hid (At.new w3.drew 30 #[.int .u32 (sa : Int), .int .u32 (sr : Int)])
  have hf4' : Fr [] w3 (w3.drew.alloc (.cells #[.int .u32 (sa : Int), .int .u32 (sr : Int)] 30)) := (Fr.refl [] w3).drew.trans0 hf4
  have O4 := Lib.hid (own_fr0 OV.out hf4')
  have F4 := Lib.hid (S3.out.1.trans0 hf4')
  obtain ⟨w4, hw4⟩ : ∃ W, w3.drew.alloc (.cells #[.int .u32 (sa : Int), .int .u32 (sr : Int)] 30) = W := ⟨_, rfl⟩
  rw [hw4] at N4 O4 F4 hHeld
  rw [hw4]
  have hs3 := S3.out.1.size
  have hqs : w.heap.size ≤ w3.drew.heap.size := hs3
  clear hf4 hf4' hw4
  refine wpAnyL_ready (rs := [8]) (by kernel_rfl) (by simp) ?_; refine AllReadyL.cons rfl (fun K hK => ?_) AllReadyL.nil
  go_simp
  refine (HIN.out w4 v w3.drew.heap.size N4.out O4.out k HPL.out.1 (fun g hg => by have := HVL.out g hg; omega)).mono ?_
  rintro e w5 ⟨v', rfl, ho5, hf5, hv5⟩
  obtain ⟨va', vc', rfl, hvc'⟩ := own_slice ho5
  have ny : y ∉ v.ownBlock.toList := own_toList O4.out hHeld.1 (by decide)
  have nB : w.heap.size ∉ v.ownBlock.toList := fun hm => by
    cases hv : v.ownBlock with
    | none => rw [hv] at hm; simp at hm
    | some g => rw [hv] at hm; simp at hm; have := HVL.out g hv; omega
  refine hK.out _ _ (fun _ => ⟨hHeld.1.fr hf5 ny, hHeld.2.fr hf5 nB⟩) (fun hHeld' => ?_); have hHeld := hHeld' (by decide); clear hHeld' hK K; (try (refine wpAnyL_norm (by simp only [Act.put, List.setIfInBounds_toArray, List.set_cons_zero, List.set_cons_succ]; rfl) ?_))
  refine wpAnyL_take (i := 9) (v := ?_) rfl (by kernel_rfl) (fun _ _ _ h => h) (Or.inl ⟨by rfl, ?_⟩) (by assumption) ?_; rotate_left; (focus (intro w hSw; skip; go_simp; (try with_reducible rfl))); (try (refine wpAnyL_norm (by simp only [Act.put, List.setIfInBounds_toArray, List.set_cons_zero, List.set_cons_succ]; rfl) ?_))
  refine wpAnyL_take (i := 10) (v := ?_) rfl (by kernel_rfl) (fun _ _ _ h => h) (Or.inl ⟨by rfl, ?_⟩) (by assumption) ?_; rotate_left; (focus (intro w hSw; skip; go_simp; (try with_reducible rfl))); (try (refine wpAnyL_norm (by simp only [Act.put, List.setIfInBounds_toArray, List.set_cons_zero, List.set_cons_succ]; rfl) ?_))
  have cc := (hHeld.1.cell o).trans H0.out
  have zz := hHeld.1.froz o
  refine wpAnyL_ready (rs := [11]) (by kernel_rfl) (by simp) ?_; refine AllReadyL.cons rfl (fun K hK => ?_) AllReadyL.nil
  go_simp
  refine hK.out _ _ (fun h => (h (by decide)).elim) (fun _ => ?_); clear hK K; (try (refine wpAnyL_norm (by simp only [Act.put, List.setIfInBounds_toArray, List.set_cons_zero, List.set_cons_succ]; rfl) ?_))
  refine wpAnyL_done (by kernel_rfl) ?_ _
  obtain ⟨n1, n2, n3⟩ := Pt.apart H.out.pt HY.out
  obtain ⟨m1, m2, m3⟩ := H.out.apart
  have hst : Fr [y] w5 (w5.setCell ⟨y, o, none⟩ (.slice va' (l.length + 1) vc')) := (Fr.refl _ _).set (.inl (by simp)) _
  have f56 : Fr (y :: v.ownBlock.toList) w4 (w5.setCell ⟨y, o, none⟩ (.slice va' (l.length + 1) vc')) := (hf5.more (T := y :: v.ownBlock.toList) (fun k hk => .inl (List.mem_cons_of_mem _ hk))).trans hst (fun k hk => .inl (by simp at hk; rw [hk]; exact List.mem_cons_self))
  have a1 : a ∉ y :: v.ownBlock.toList := by simp only [List.mem_cons, not_or]; exact ⟨n1, m1⟩
  have a2 : b ∉ y :: v.ownBlock.toList := by simp only [List.mem_cons, not_or]; exact ⟨n2, m2⟩
  have a3 : c ∉ y :: v.ownBlock.toList := by simp only [List.mem_cons, not_or]; exact ⟨n3, m3⟩
  have P6 := Lib.hid ((H.out.pt.fr F4.out (by simp) (by simp) (by simp)).fr f56 a1 a2 a3)
  have F6 := Lib.hid ((F4.out.more (T := y :: v.ownBlock.toList) (by simp)).trans f56 (fun k hk => .inl hk))
  have Y6 := Lib.hid (hHeld.1.set o (.slice va' (l.length + 1) vc'))
  have B6 := Lib.hid (hHeld.2.far (a := ⟨y, o, none⟩) (show w.heap.size ≠ y by omega) (.slice va' (l.length + 1) vc'))
  have O6 := Lib.hid (own_fr ho5 hst (fun g hg => by have := own_ne ho5 hHeld.1 (by decide) g hg; simpa using this))
  have HV5 := Lib.hid hv5
  obtain ⟨w6, hw6⟩ : ∃ W, w5.setCell ⟨y, o, none⟩ (.slice va' (l.length + 1) vc') = W := ⟨_, rfl⟩
  rw [hw6] at P6 F6 Y6 B6 O6 ⊢
  have hs4 := F4.out.size
  clear hw6 hst f56 ho5 hf5 hv5 hHeld cc zz ny nB O4 N4 OV S3 n1 n2 n3 m1 m2 m3
  have H1' := Lib.hid (show (cs.setIfInBounds o (.slice va' (l.length + 1) vc'))[o + 1]? = some (.pointer (some ⟨a, 0, none⟩)) by rw [Array.getElem?_setIfInBounds_ne (by omega)]; exact H1.out)
  have CP := Lib.hid fun (W : World) (hW : Fr [] w6 W) => ptadd_any W a b c n (cov l) (P6.out.fr hW (by simp) (by simp) (by simp)) (sa : Int) (sr : Int) (by omega) (by omega) (by omega) (by omega)
  have hpi := HPA.out k
  rw [hpi.1, hpi.2] at CP
  clear hpi
  go_wp2_with fail
  refine wp_region_L (fun W => Fr [] w6 W ∧ At W y 68 (cs.setIfInBounds o (.slice va' (l.length + 1) vc')) ∧ At W w.heap.size 30 #[.int .u32 (sa : Int), .int .u32 (sr : Int)]) [5] (by kernel_rfl) ⟨(Fr.refl _ _).drew, Y6.out.hp rfl, B6.out.hp rfl⟩ (fun hHeld => ?_)
  refine wpAnyL_take (i := 0) (v := ?_) rfl (by kernel_rfl) (fun _ _ _ h => h) (Or.inl ⟨by rfl, ?_⟩) (by assumption) ?_; rotate_left; (focus (intro w hSw; skip; go_simp; (try with_reducible rfl))); (try (refine wpAnyL_norm (by simp only [Act.put, List.setIfInBounds_toArray, List.set_cons_zero, List.set_cons_succ]; rfl) ?_))
  refine wpAnyL_take (i := 1) (v := ?_) rfl (by kernel_rfl) (fun _ _ _ h => h) (Or.inl ⟨by rfl, ?_⟩) (by assumption) ?_; rotate_left; (focus (intro w hSw; skip; go_simp; (try with_reducible rfl))); (try (refine wpAnyL_norm (by simp only [Act.put, List.setIfInBounds_toArray, List.set_cons_zero, List.set_cons_succ]; rfl) ?_))
  refine wpAnyL_take (i := 2) (v := ?_) rfl (by kernel_rfl) (fun _ _ _ h => h) (Or.inl ⟨by rfl, ?_⟩) (by assumption) ?_; rotate_left; (focus (intro w hSw; skip; go_simp; (try with_reducible rfl))); (try (refine wpAnyL_norm (by simp only [Act.put, List.setIfInBounds_toArray, List.set_cons_zero, List.set_cons_succ]; rfl) ?_))
  refine wpAnyL_take (i := 3) (v := ?_) rfl (by kernel_rfl) (fun _ _ _ h => h) (Or.inl ⟨by rfl, ?_⟩) (by assumption) ?_; rotate_left; (focus (intro w hSw; (have cc := (hSw.2.1.cell (o + 1)).trans H1'.out); go_simp; (try with_reducible rfl))); (try (refine wpAnyL_norm (by simp only [Act.put, List.setIfInBounds_toArray, List.set_cons_zero, List.set_cons_succ]; rfl) ?_))
  refine wpAnyL_take (i := 4) rfl (by kernel_rfl) (fun _ _ _ h => h) (yields_load_at 30 (.tmp 3) rfl ⟨w.heap.size, 0, none⟩ rfl [.int .u32 (sa : Int), .int .u32 (sr : Int)] _ (fun W h j v hv => by rw [Go.WideShapes.add_plain, Nat.zero_add, h.2.2.cell, List.getElem?_toArray]; exact hv) Try.underlying30 rfl infoRgS rfl) (by assumption) ?_; (try (refine wpAnyL_norm (by simp only [Act.put, List.setIfInBounds_toArray, List.set_cons_zero, List.set_cons_succ]; rfl) ?_))
  refine wpAnyL_ready (rs := [5]) (by kernel_rfl) (by simp) ?_; refine AllReadyL.cons rfl (fun K hK => ?_) AllReadyL.nil
  go_simp
  refine (CP.out _ hHeld.1).mono ?_
  rintro e w7 ⟨rfl, hp7, hf7⟩
  refine hK.out _ _ (fun h => (h (by decide)).elim) (fun _ => ?_); clear hK K; (try (refine wpAnyL_norm (by simp only [Act.put, List.setIfInBounds_toArray, List.set_cons_zero, List.set_cons_succ]; rfl) ?_))
  refine wpAnyL_done (by kernel_rfl) ?_ _
  go_wp2_with fail
  go_end0
  have hf7' : Fr [c] w6 w7 := ((hHeld.1).more (T := [c]) (by simp)).trans hf7 (fun k hk => .inl hk)
  have P6o := P6.out
  obtain ⟨n1, n2, n3⟩ := Pt.apart P6o Y6.out
  obtain ⟨-, -, ⟨_, hcc⟩⟩ := Pt.blocks P6o
  refine ⟨⟨_, rfl⟩, .slice va' (l.length + 1) vc', k, HPL.out, Y6.out.fr hf7' (by simpa using fun h => n3 h.symm), ⟨?_, hp7, HGI.out k HPL.out⟩, ?_, fun g hg => ?_⟩
  · rw [HIL.out k HPL.out.1]
    exact own_fr O6.out hf7' (fun g hg => by have := own_ne O6.out hcc (by decide) g hg; simpa using this)
  · refine (F6.out.more (T := y :: c :: v.ownBlock.toList) (fun k hk => .inl ?_)).trans hf7' (fun k hk => .inl ?_)
    · rcases List.mem_cons.1 hk with rfl | hk
      · exact List.mem_cons_self
      · exact List.mem_cons_of_mem _ (List.mem_cons_of_mem _ hk)
    · simp at hk; rw [hk]; exact List.mem_cons_of_mem _ List.mem_cons_self
  · rcases HV5.out g hg with h | h
    · exact .inl h
    · exact .inr (by omega)
end Go.Proofs.Ytflhpgfnffmimaa
