/-
  What the functions of a lot compute. Condition: numbers in their types' ranges.
-/
import Derived.Deep.CutBlock
import Derived.Deep.DeepCutAuto
import Derived.Test.YthjbnbimfpbccaaGreatDoorJ1



set_option linter.unusedVariables false
namespace Go.Proofs.YthjbnbimfpbccaaGreatDoor
open Go.ChangeShapes Go.WideShapes Go.ChangeAt Go.RowKit
theorem res_rowL {P : Program} {fn : Func} {p : Tmp} {ty : TypeId} (h : fn.results = #[.cell p ty]) (tmps : Array Value) (w : World) (g : Nat) (t : TypeId) (cs : Array Value) (d : TypeDesc)
    (hp : tmps.getD p undef = .pointer (some ⟨g, 0, none⟩)) (hg : At w g t cs)
    (hu : P.underlying ty = some d) (hd : (match d with | .struct _ | .array _ _ => true | _ => false) = true) (hi : (P.info? ty).map (·.size) = some cs.size) :
    (results fn tmps).run P w = .ok (.agg cs) w := results_cell_row h tmps w g t cs (0, 0) d hp hg hu hd hi
theorem At.newq {w : World} {g : Nat} {t : TypeId} {cs : Array Value} (h : g = w.heap.size) : At (w.alloc (.cells cs t)) g t cs := by subst h; exact At.new w t cs
/-- A list and its paint. -/
structure Lt (w : World) (v : Value) (a b c n : Nat) (l : List (Nat × Nat)) : Prop where
  own : w.ownsRow 0 45 2 v l.length (rgv l)
  pt : Pt w a b c n (cov l)
  good : Good n l
theorem Lt.fr {w w' : World} {v : Value} {a b c n : Nat} {l : List (Nat × Nat)} {S : List Nat} (h : Lt w v a b c n l) (f : Fr S w w') (h1 : a ∉ S) (h2 : b ∉ S) (h3 : c ∉ S) (h4 : ∀ g, v.ownBlock = some g → g ∉ S) : Lt w' v a b c n l := ⟨own_fr h.own f h4, h.pt.fr f h1 h2 h3, h.good⟩
theorem Lt.fr0 {w w' : World} {v : Value} {a b c n : Nat} {l : List (Nat × Nat)} (h : Lt w v a b c n l) (f : Fr [] w w') : Lt w' v a b c n l := h.fr f (by simp) (by simp) (by simp) (by simp)
set_option maxRecDepth 100000 in
theorem fresh_any (n : Nat) (w : World) (hn : n ≤ 16384) :
    Calls Tryz.prog 70 #[.int .i64 (16 * n : Nat)] w fun r w' => ∃ a b c, r = .returned (.agg #[.slice none 0 0, .pointer (some ⟨a, 0, none⟩)]) ∧ Lt w' (.slice none 0 0) a b c n [] ∧ w.heap.size ≤ a ∧ w.heap.size ≤ b ∧ w.heap.size ≤ c ∧ Fr [] w w' := by
  obtain ⟨m, hm⟩ : ∃ m, 16 * n = m := ⟨_, rfl⟩
  have C := Lib.hid fun W => ptnew_any n W hn
  rw [hm] at C ⊢
  have HI := Lib.hid (show (Tryz.prog.info? 117).map (·.size) = some 2 by kernel_rfl)
  clear hm
  go_enter Tryz.func70, Tryz.ntmps70
  go_wp2_with fail
  refine (C.out _).mono ?_
  rintro e w2 ⟨a, b, c, rfl, h2, ha, hb, hc, hf2⟩
  have hga : Fr [] w (w.alloc (.cells #[.slice none 0 0, .pointer none] 117)) := (by repeat (first | exact Fr.refl _ _ | assumption | refine Fr.trans0 ?_ (by assumption) | refine Fr.drewN ?_ _ | refine Fr.alloc ?_ _ | refine Fr.drew ?_))
  rw [World.size_alloc] at ha hb hc
  have A2 := (At.new w 117 #[.slice none 0 0, .pointer none]).fr hf2 (by simp)
  have P2 := Lib.hid h2
  have F2 := Lib.hid (hga.trans0 hf2)
  have HA2 := Lib.hid A2
  have c0 := A2.cell 0
  have c1 := A2.cell 1
  have z0 := A2.froz 0
  have z1 := A2.froz 1
  simp only [List.getElem?_toArray, List.getElem?_cons_zero, List.getElem?_cons_succ] at c0 c1
  clear h2 hf2 hga A2
  go_wp2_with fail
  have hs := F2.out.size
  have A3 := (HA2.out.set 0 (.slice none 0 0)).set 1 (.pointer (some ⟨a, 0, none⟩))
  have F3 : Fr [w.heap.size] w2 ((w2.setCell ⟨w.heap.size, 0, none⟩ (.slice none 0 0)).setCell ⟨w.heap.size, 1, none⟩ (.pointer (some ⟨a, 0, none⟩))) := ((Fr.refl _ _).set (.inl (by simp)) _).set (.inl (by simp)) _
  refine bodyPost_ret (res_rowL rfl _ _ w.heap.size 117 _ _ rfl A3 Tryz.underlying117 rfl HI.out) rfl ⟨a, b, c, rfl, ⟨World.ownsRow_nil _ _ _ _, ?_, good_nil n⟩, by omega, by omega, by omega, F2.out.trans F3 (by simp)⟩
  exact P2.out.fr F3 (by simp; omega) (by simp; omega) (by simp; omega)
set_option maxHeartbeats 1000000 in
set_option maxRecDepth 100000 in
theorem touched_any (w : World) (v : Value) (a b c n : Nat) (l : List (Nat × Nat)) (h : Lt w v a b c n l) (A R : Nat) (hn : A + R ≤ n) :
    Calls Tryz.prog 58 #[.agg #[v, .pointer (some ⟨a, 0, none⟩)], .agg #[.int .u32 (16 * A : Nat), .int .u32 (16 * R : Nat)]] w fun r w' => r = .returned (.bool (tch (cov l) A R)) ∧ Fr [] w w' := by
  have hn2 := h.pt.2.2.2.2
  have C := Lib.hid fun (W : World) (hW : Fr [] w W) (x : Nat) (hx : x < n) => pthas_any W a b c n (cov l) (h.pt.fr hW (by simp) (by simp) (by simp)) ((16 * x : Nat) : Int) (by omega) (by omega)
  have CH := Lib.hid fun (x : Nat) (hx : x < n) => show hasP n (cov l) ((16 * x : Nat) : Int) = cov l x by
    unfold hasP
    rw [show (((16 * x : Nat) : Int) / 16) = (x : Int) by omega, inR_nat x n hx, Int.toNat_natCast, Bool.true_and]
  have hT0 : Hid (tch (cov l) A R = (List.range R).any fun k => cov l (A + k)) := Lib.hid rfl
  obtain ⟨T, hT⟩ : ∃ T, tch (cov l) A R = T := ⟨_, rfl⟩
  rw [hT] at hT0 ⊢
  obtain ⟨sa, hsa⟩ : ∃ s, 16 * A = s := ⟨_, rfl⟩
  obtain ⟨sr, hsr⟩ : ∃ s, 16 * R = s := ⟨_, rfl⟩
  obtain ⟨va, vc, rfl, -⟩ := own_slice h.own
  have HSA := Lib.hid hsa
  have HSR := Lib.hid hsr
  have hb1 : sa + sr ≤ 262144 := by omega
  rw [hsa, hsr]
  obtain ⟨L, hL⟩ : ∃ L, l.length = L := ⟨_, rfl⟩
  rw [hL]
  have w1 : IntKind.u64.wrap (sa : Int) = sa := by simp [IntKind.wrap, IntKind.signed, IntKind.bits]; omega
  have A0 := Lib.hid ((At.new w 117 #[.slice va L vc, .pointer (some ⟨a, 0, none⟩)]).old (.cells #[.int .u32 (sa : Int), .int .u32 (sr : Int)] 45))
  have A1 := Lib.hid (At.newq (w := w.alloc (.cells #[.slice va L vc, .pointer (some ⟨a, 0, none⟩)] 117)) (g := w.heap.size + 1) (t := 45) (cs := #[.int .u32 (sa : Int), .int .u32 (sr : Int)]) (by simp only [World.size_alloc]))
  have F0 := Lib.hid (show Fr [] w ((w.alloc (.cells #[.slice va L vc, .pointer (some ⟨a, 0, none⟩)] 117)).alloc (.cells #[.int .u32 (sa : Int), .int .u32 (sr : Int)] 45)) from (by repeat (first | exact Fr.refl _ _ | assumption | refine Fr.trans0 ?_ (by assumption) | refine Fr.drewN ?_ _ | refine Fr.alloc ?_ _ | refine Fr.drew ?_)))
  clear h hT hsa hsr hL
  go_enter Tryz.func58, Tryz.ntmps58
  go_wp2_with fail
  go_loopw [5] (fun s wr => ∃ k : Nat, k ≤ R ∧ s = .int .u64 ((sa + 16 * k : Nat) : Int) ∧ ((List.range k).any fun k => cov l (A + k)) = false ∧ At wr w.heap.size 117 #[.slice va L vc, .pointer (some ⟨a, 0, none⟩)] ∧ At wr (w.heap.size + 1) 45 #[.int .u32 (sa : Int), .int .u32 (sr : Int)] ∧ Fr [] w wr) (fun s _ => sa + sr - (intOf s).toNat)
  case atStart => exact ⟨0, by omega, rfl, rfl, A0.out, A1.out, F0.out⟩
  case round =>
    clear A0 A1 F0
    obtain ⟨k, hk, rfl, hno, h0, h1, hf⟩ := hrel
    have c0 := h0.cell 1
    have d0 := h1.cell 0
    have d1 := h1.cell 1
    simp only [List.getElem?_toArray, List.getElem?_cons_zero, List.getElem?_cons_succ] at c0 d0 d1
    have H0 := Lib.hid h0
    have H1 := Lib.hid h1
    have HF := Lib.hid hf
    have HNO := Lib.hid hno
    have hR := HSR.out
    have hA := HSA.out
    have hra : sr = R * 16 := by omega
    have w2 : IntKind.u64.wrap (sr : Int) = sr := by simp [IntKind.wrap, IntKind.signed, IntKind.bits]; omega
    have w3 : IntKind.u64.wrap ((sa : Int) + (sr : Int)) = (sa : Int) + sr := by simp [IntKind.wrap, IntKind.signed, IntKind.bits]; omega
    clear h0 h1 hf hno
    obtain ⟨p, hp⟩ : ∃ p, sa + 16 * k = p := ⟨_, rfl⟩
    have hp16 : p = 16 * (A + k) := by omega
    have w4 : IntKind.u32.wrap (p : Int) = (p : Int) := by simp [IntKind.wrap, IntKind.signed, IntKind.bits]; omega
    have w5 : IntKind.u64.wrap ((p : Int) + 16) = (p : Int) + 16 := by simp [IntKind.wrap, IntKind.signed, IntKind.bits]; omega
    rw [hp]
    by_cases hkr : k < R
    · have hlt : (p : Int) < (sa : Int) + (sr : Int) := by omega
      have CX := C.out wr HF.out (A + k) (by omega)
      rw [CH.out (A + k) (by omega), ← hp16] at CX
      obtain ⟨B, hB⟩ : ∃ B, cov l (A + k) = B := ⟨_, rfl⟩
      rw [hB] at CX
      have HCX := Lib.hid CX
      have HB := Lib.hid hB
      have HPE := Lib.hid hp
      clear CX hB hR hA hra hp16 hp
      cases B
      · go_wp2_with fail
        refine (HCX.out).mono ?_
        rintro e w' ⟨rfl, rfl⟩
        go_wp2_with fail
        go_roundw
        case rel => exact ⟨k + 1, by omega, by rw [show sa + 16 * (k + 1) = p + 16 by have := HPE.out; omega]; go_num, by rw [List.range_succ, List.any_append, HNO.out]; simp [HB.out], H0.out, H1.out, HF.out⟩
        case measure => simp [intOf]; omega
      · go_wp2_with fail
        refine (HCX.out).mono ?_
        rintro e w' ⟨rfl, rfl⟩
        go_wp2_with fail
        go_ret
        refine ⟨ret_bool ?_, HF.out⟩
        rw [hT0.out]
        symm
        rw [List.any_eq_true]
        exact ⟨k, List.mem_range.2 hkr, HB.out⟩
    · obtain rfl : k = R := by omega
      have hlt : ¬ ((p : Int) < (sa : Int) + (sr : Int)) := by omega
      clear hR hA hra hp16 hp
      go_wp2_with fail
      go_ret
      exact ⟨ret_bool (by rw [hT0.out]; exact HNO.out.symm), HF.out⟩
end Go.Proofs.YthjbnbimfpbccaaGreatDoor
/-
  What lot.add does with a region that touches nothing. Condition: numbers in their types' ranges.
-/



set_option linter.unusedVariables false
namespace Go.Proofs.YthjbnbimfpbccaaGreatDoor
open Go.ChangeShapes Go.WideShapes Go.ChangeAt Go.RowKit
theorem builtR (w : World) (x y : Nat) : (Instr.buildSlice 35 1 #[(0, .agg #[.int .u32 x, .int .u32 y])]).run Tryz.prog w = .ok (.slice (some ⟨w.heap.size, 0, none⟩) 1 1) (w.alloc (.cells #[.int .u32 x, .int .u32 y] 45)) := by kernel_rfl
def Added (w : World) (y o : Nat) (t : TypeId) (cs : Array Value) (v : Value) (a b c n : Nat) (l : List (Nat × Nat)) (A R : Nat) (w' : World) : Prop :=
  ∃ (v' : Value) (k : Nat), Place l (16 * A) k ∧ At w' y t (cs.setIfInBounds o v') ∧ Lt w' v' a b c n (insL l k (16 * A, 16 * R)) ∧ Fr (y :: c :: v.ownBlock.toList) w w' ∧ ∀ g, v'.ownBlock = some g → v.ownBlock = some g ∨ w.heap.size ≤ g
theorem Pt.blocks {w : World} {a b c n : Nat} {f : Nat → Bool} (h : Pt w a b c n f) : (∃ cs, At w a 204 cs) ∧ (∃ cs, At w b 179 cs) ∧ ∃ cs, At w c 28 cs := by
  obtain ⟨h1, ⟨k1, k2, k3, m, cs, k4, k5, k6, k7⟩, _⟩ := h
  exact ⟨⟨_, h1⟩, ⟨_, k5⟩, ⟨_, k6⟩⟩
theorem Lt.apart {w : World} {v : Value} {a b c n : Nat} {l : List (Nat × Nat)} (h : Lt w v a b c n l) : a ∉ v.ownBlock.toList ∧ b ∉ v.ownBlock.toList ∧ c ∉ v.ownBlock.toList := by
  obtain ⟨⟨_, h1⟩, ⟨_, h2⟩, ⟨_, h3⟩⟩ := Pt.blocks h.pt
  exact ⟨own_toList h.own h1 (by decide), own_toList h.own h2 (by decide), own_toList h.own h3 (by decide)⟩
theorem Pt.apart {w : World} {a b c n y : Nat} {f : Nat → Bool} {cs : Array Value} (h : Pt w a b c n f) (hy : At w y 119 cs) : a ≠ y ∧ b ≠ y ∧ c ≠ y := by
  obtain ⟨⟨_, h1⟩, ⟨_, h2⟩, ⟨_, h3⟩⟩ := Pt.blocks h
  refine ⟨?_, ?_, ?_⟩
  · rintro rfl; exact absurd (h1.inj hy).1 (by decide)
  · rintro rfl; exact absurd (h2.inj hy).1 (by decide)
  · rintro rfl; exact absurd (h3.inj hy).1 (by decide)
set_option maxHeartbeats 2000000 in
set_option maxRecDepth 100000 in
theorem ladd_any (w : World) (y o : Nat) (cs : Array Value) (v : Value) (a b c n : Nat) (l : List (Nat × Nat)) (hy : At w y 119 cs) (h0 : cs[o]? = some v) (h1 : cs[o + 1]? = some (.pointer (some ⟨a, 0, none⟩))) (h : Lt w v a b c n l)
    (A R : Nat) (hR : 1 ≤ R) (hn : A + R ≤ n) (ht : tch (cov l) A R = false) :
    Calls Tryz.prog 59 #[.pointer (some ⟨y, o, none⟩), .agg #[.int .u32 (16 * A : Nat), .int .u32 (16 * R : Nat)]] w fun e w' => (∃ x, e = .returned x) ∧ Added w y o 119 cs v a b c n l A R w' := by
  have hn2 := h.pt.2.2.2.2
  have hlen := h.good.len
  have CB := Lib.hid fun (W : World) (hW : Fr [] w W) => bsearch_any W v l (16 * A, 16 * R) (own_fr0 h.own hW) (by omega) h.good.rise (fun x hx => by have := h.good.al x hx; omega) (by dsimp only; omega)
  have HPA := Lib.hid fun k => paint_ins l A R k hR hn ht
  have HGI := Lib.hid fun k hk => h.good.ins A R k (by omega) hn hk ht
  have H := Lib.hid h
  have HIL := Lib.hid fun k (hk : k ≤ l.length) => insL_len l k (16 * A, 16 * R) hk
  obtain ⟨sa, hsa⟩ : ∃ s, 16 * A = s := ⟨_, rfl⟩
  obtain ⟨sr, hsr⟩ : ∃ s, 16 * R = s := ⟨_, rfl⟩
  have HSA := Lib.hid hsa
  have HSR := Lib.hid hsr
  have hb1 : sa + sr ≤ 262144 := by omega
  rw [hsa, hsr] at CB HGI HIL HPA ⊢
  unfold Added
  rw [hsa, hsr]
  have HY := Lib.hid hy
  have H0 := Lib.hid h0
  have H1 := Lib.hid h1
  have A0 := Lib.hid (At.new w 45 #[.int .u32 (sa : Int), .int .u32 (sr : Int)])
  have F0 := Lib.hid (show Fr [] w (w.alloc (.cells #[.int .u32 (sa : Int), .int .u32 (sr : Int)] 45)) from (by repeat (first | exact Fr.refl _ _ | assumption | refine Fr.trans0 ?_ (by assumption) | refine Fr.drewN ?_ _ | refine Fr.alloc ?_ _ | refine Fr.drew ?_)))
  have Y0 := Lib.hid (hy.old (.cells #[.int .u32 (sa : Int), .int .u32 (sr : Int)] 45))
  have HIN := Lib.hid fun (W : World) (u : Value) q hq hu i hi hne => insert_any W l (sa, sr) q hq (by omega) u hu i hi hne
  obtain ⟨X, hX⟩ : ∃ X, w.alloc (.cells #[.int .u32 (sa : Int), .int .u32 (sr : Int)] 45) = X := ⟨_, rfl⟩
  rw [hX] at A0 F0 Y0
  have HX := Lib.hid hX
  have hyl := hy.lt
  clear hsa hsr hy h0 h1 h ht hX
  go_enter Tryz.func59, Tryz.ntmps59
  go_wp2_with fail
  rw [HX.out]
  refine wp_region_L (fun W => Fr [] w W ∧ At W y 119 cs ∧ At W w.heap.size 45 #[.int .u32 (sa : Int), .int .u32 (sr : Int)]) [] (by kernel_rfl) ⟨F0.out.drew, Y0.out.hp rfl, A0.out.hp rfl⟩ (fun hHeld => ?_)
  refine wpAnyL_take (i := 0) (v := ?_) rfl (by kernel_rfl) (fun _ _ _ h => h) (Or.inl ⟨by rfl, ?_⟩) (by assumption) ?_; rotate_left; (focus (intro w hSw; skip; go_simp; (try with_reducible rfl))); (try (refine wpAnyL_norm (by simp only [Act.put, List.setIfInBounds_toArray, List.set_cons_zero, List.set_cons_succ]; rfl) ?_))
  refine wpAnyL_take (i := 1) (v := ?_) rfl (by kernel_rfl) (fun _ _ _ h => h) (Or.inl ⟨by rfl, ?_⟩) (by assumption) ?_; rotate_left; (focus (intro w hSw; skip; go_simp; (try with_reducible rfl))); (try (refine wpAnyL_norm (by simp only [Act.put, List.setIfInBounds_toArray, List.set_cons_zero, List.set_cons_succ]; rfl) ?_))
  refine wpAnyL_take (i := 2) (v := ?_) rfl (by kernel_rfl) (fun _ _ _ h => h) (Or.inl ⟨by rfl, ?_⟩) (by assumption) ?_; rotate_left; (focus (intro w hSw; skip; go_simp; (try with_reducible rfl))); (try (refine wpAnyL_norm (by simp only [Act.put, List.setIfInBounds_toArray, List.set_cons_zero, List.set_cons_succ]; rfl) ?_))
  refine wpAnyL_take (i := 3) (v := ?_) rfl (by kernel_rfl) (fun _ _ _ h => h) (Or.inl ⟨by rfl, ?_⟩) (by assumption) ?_; rotate_left; (focus (intro w hSw; (have cc := (hSw.2.1.cell o).trans H0.out); go_simp; (try with_reducible rfl))); (try (refine wpAnyL_norm (by simp only [Act.put, List.setIfInBounds_toArray, List.set_cons_zero, List.set_cons_succ]; rfl) ?_))
  refine wpAnyL_take (i := 4) rfl (by kernel_rfl) (fun _ _ _ h => h) (yields_load_at 45 (.tmp 3) rfl ⟨w.heap.size, 0, none⟩ rfl [.int .u32 (sa : Int), .int .u32 (sr : Int)] _ (fun W h j v hv => by rw [Go.WideShapes.add_plain, Nat.zero_add, h.2.2.cell, List.getElem?_toArray]; exact hv) Tryz.underlying45 rfl infoRgS rfl) (by assumption) ?_; (try (refine wpAnyL_norm (by simp only [Act.put, List.setIfInBounds_toArray, List.set_cons_zero, List.set_cons_succ]; rfl) ?_))
  refine wpAnyL_ready (rs := [5]) (by kernel_rfl) (by simp) ?_; refine AllReadyL.cons rfl (fun K hK => ?_) AllReadyL.nil
  go_simp
  refine (CB.out _ hHeld.1).mono ?_
  rintro e w3 ⟨k, hpl, ⟨bb, rfl⟩, hf3⟩
  refine hK.out _ _ (fun _ => ⟨hHeld.1.trans0 hf3, hHeld.2.1.fr hf3 (by simp), hHeld.2.2.fr hf3 (by simp)⟩) (fun hHeld' => ?_); have hHeld := hHeld' (by decide); clear hHeld' hK K; (try (refine wpAnyL_norm (by simp only [Act.put, List.setIfInBounds_toArray, List.set_cons_zero, List.set_cons_succ]; rfl) ?_))
  refine wpAnyL_take (i := 6) (v := ?_) rfl (by kernel_rfl) (fun _ _ _ h => h) (Or.inl ⟨by rfl, ?_⟩) (by assumption) ?_; rotate_left; (focus (intro w hSw; skip; go_simp; (try with_reducible rfl))); (try (refine wpAnyL_norm (by simp only [Act.put, List.setIfInBounds_toArray, List.set_cons_zero, List.set_cons_succ]; rfl) ?_))
  refine wpAnyL_take (i := 7) (v := ?_) rfl (by kernel_rfl) (fun _ _ _ h => h) (Or.inl ⟨by rfl, ?_⟩) (by assumption) ?_; rotate_left; (focus (intro w hSw; skip; go_simp; (try with_reducible rfl))); (try (refine wpAnyL_norm (by simp only [Act.put, List.setIfInBounds_toArray, List.set_cons_zero, List.set_cons_succ]; rfl) ?_))
  refine wpAnyL_take (i := 8) (v := ?_) rfl (by kernel_rfl) (fun _ _ _ h => h) (Or.inl ⟨by rfl, ?_⟩) (by assumption) ?_; rotate_left; (focus (intro w hSw; skip; go_simp; (try with_reducible rfl))); (try (refine wpAnyL_norm (by simp only [Act.put, List.setIfInBounds_toArray, List.set_cons_zero, List.set_cons_succ]; rfl) ?_))
  refine wpAnyL_take (i := 9) (v := ?_) rfl (by kernel_rfl) (fun _ _ _ h => h) (Or.inl ⟨by rfl, ?_⟩) (by assumption) ?_; rotate_left; (focus (intro w hSw; skip; go_simp; (try with_reducible rfl))); (try (refine wpAnyL_norm (by simp only [Act.put, List.setIfInBounds_toArray, List.set_cons_zero, List.set_cons_succ]; rfl) ?_))
  refine wpAnyL_take (i := 10) (v := ?_) rfl (by kernel_rfl) (fun _ _ _ h => h) (Or.inl ⟨by rfl, ?_⟩) (by assumption) ?_; rotate_left; (focus (intro w hSw; skip; go_simp; (try with_reducible rfl))); (try (refine wpAnyL_norm (by simp only [Act.put, List.setIfInBounds_toArray, List.set_cons_zero, List.set_cons_succ]; rfl) ?_))
  refine wpAnyL_done (by kernel_rfl) ?_ _
  have HPL := Lib.hid hpl
  have S3 := Lib.hid hHeld
  clear hf3 hpl hHeld A0 F0 Y0 HX CB
  go_wp2_with fail
  have hvl := fun g hg => (H.out.own.lt g hg).2
  have HVL := Lib.hid hvl
  have OV := Lib.hid (own_fr0 H.out.own S3.out.1)
  clear hvl
  refine wp_region_L (fun W => At W y 119 cs ∧ At W w.heap.size 45 #[.int .u32 (sa : Int), .int .u32 (sr : Int)]) [11] (by kernel_rfl) ⟨S3.out.2.1.hp rfl, S3.out.2.2.hp rfl⟩ (fun hHeld => ?_)
  refine wpAnyL_take (i := 0) (v := ?_) rfl (by kernel_rfl) (fun _ _ _ h => h) (Or.inl ⟨by rfl, ?_⟩) (by assumption) ?_; rotate_left; (focus (intro w hSw; skip; go_simp; (try with_reducible rfl))); (try (refine wpAnyL_norm (by simp only [Act.put, List.setIfInBounds_toArray, List.set_cons_zero, List.set_cons_succ]; rfl) ?_))
  refine wpAnyL_take (i := 1) (v := ?_) rfl (by kernel_rfl) (fun _ _ _ h => h) (Or.inl ⟨by rfl, ?_⟩) (by assumption) ?_; rotate_left; (focus (intro w hSw; skip; go_simp; (try with_reducible rfl))); (try (refine wpAnyL_norm (by simp only [Act.put, List.setIfInBounds_toArray, List.set_cons_zero, List.set_cons_succ]; rfl) ?_))
  refine wpAnyL_take (i := 2) (v := ?_) rfl (by kernel_rfl) (fun _ _ _ h => h) (Or.inl ⟨by rfl, ?_⟩) (by assumption) ?_; rotate_left; (focus (intro w hSw; skip; go_simp; (try with_reducible rfl))); (try (refine wpAnyL_norm (by simp only [Act.put, List.setIfInBounds_toArray, List.set_cons_zero, List.set_cons_succ]; rfl) ?_))
  refine wpAnyL_take (i := 3) (v := ?_) rfl (by kernel_rfl) (fun _ _ _ h => h) (Or.inl ⟨by rfl, ?_⟩) (by assumption) ?_; rotate_left; (focus (intro w hSw; skip; go_simp; (try with_reducible rfl))); (try (refine wpAnyL_norm (by simp only [Act.put, List.setIfInBounds_toArray, List.set_cons_zero, List.set_cons_succ]; rfl) ?_))
  refine wpAnyL_take (i := 4) (v := ?_) rfl (by kernel_rfl) (fun _ _ _ h => h) (Or.inl ⟨by rfl, ?_⟩) (by assumption) ?_; rotate_left; (focus (intro w hSw; (have cc := (hSw.1.cell o).trans H0.out); go_simp; (try with_reducible rfl))); (try (refine wpAnyL_norm (by simp only [Act.put, List.setIfInBounds_toArray, List.set_cons_zero, List.set_cons_succ]; rfl) ?_))
  refine wpAnyL_take (i := 5) (v := ?_) rfl (by kernel_rfl) (fun _ _ _ h => h) (Or.inl ⟨by rfl, ?_⟩) (by assumption) ?_; rotate_left; (focus (intro w hSw; skip; go_simp; (try with_reducible rfl))); (try (refine wpAnyL_norm (by simp only [Act.put, List.setIfInBounds_toArray, List.set_cons_zero, List.set_cons_succ]; rfl) ?_))
  refine wpAnyL_take (i := 6) rfl (by kernel_rfl) (fun _ _ _ h => h) (yields_load_at 45 (.tmp 3) rfl ⟨w.heap.size, 0, none⟩ rfl [.int .u32 (sa : Int), .int .u32 (sr : Int)] _ (fun W h j v hv => by rw [Go.WideShapes.add_plain, Nat.zero_add, h.2.cell, List.getElem?_toArray]; exact hv) Tryz.underlying45 rfl infoRgS rfl) (by assumption) ?_; (try (refine wpAnyL_norm (by simp only [Act.put, List.setIfInBounds_toArray, List.set_cons_zero, List.set_cons_succ]; rfl) ?_))
  refine wpAnyL_ready (rs := [7]) (by kernel_rfl) (by simp) ?_; refine AllReadyL.cons rfl (fun K hK => ?_) AllReadyL.nil
  rw [if_pos (by rfl)]
  refine wp_buildSl 35 1 _ _ _ _ (builtR _ sa sr) rfl (by kernel_rfl) ?_
  have hf4 : Fr [] w3.drew (w3.drew.alloc (.cells #[.int .u32 (sa : Int), .int .u32 (sr : Int)] 45)) := (by repeat (first | exact Fr.refl _ _ | assumption | refine Fr.trans0 ?_ (by assumption) | refine Fr.drewN ?_ _ | refine Fr.alloc ?_ _ | refine Fr.drew ?_))
  refine hK.out _ _ (fun _ => ⟨hHeld.1.fr hf4 (by simp), hHeld.2.fr hf4 (by simp)⟩) (fun hHeld' => ?_); have hHeld := hHeld' (by decide); clear hHeld' hK K; (try (refine wpAnyL_norm (by simp only [Act.put, List.setIfInBounds_toArray, List.set_cons_zero, List.set_cons_succ]; rfl) ?_))
  have N4 := Lib.hid (At.new w3.drew 45 #[.int .u32 (sa : Int), .int .u32 (sr : Int)])
  have hf4' : Fr [] w3 (w3.drew.alloc (.cells #[.int .u32 (sa : Int), .int .u32 (sr : Int)] 45)) := (Fr.refl [] w3).drew.trans0 hf4
  have O4 := Lib.hid (own_fr0 OV.out hf4')
  have F4 := Lib.hid (S3.out.1.trans0 hf4')
  obtain ⟨w4, hw4⟩ : ∃ W, w3.drew.alloc (.cells #[.int .u32 (sa : Int), .int .u32 (sr : Int)] 45) = W := ⟨_, rfl⟩
  rw [hw4] at N4 O4 F4 hHeld
  rw [hw4]
  have hs3 := S3.out.1.size
  have hqs : w.heap.size ≤ w3.drew.heap.size := hs3
  clear hf4 hf4' hw4
  refine wpAnyL_ready (rs := [8]) (by kernel_rfl) (by simp) ?_; refine AllReadyL.cons rfl (fun K hK => ?_) AllReadyL.nil
  go_simp
  refine (HIN.out w4 v w3.drew.heap.size N4.out O4.out k HPL.out.1 (fun g hg => by have := HVL.out g hg; omega)).mono ?_
  rintro e w5 ⟨v', rfl, ho5, hf5, hv5⟩
  obtain ⟨va', vc', rfl, hvc'⟩ := own_slice ho5
  have ny : y ∉ v.ownBlock.toList := own_toList O4.out hHeld.1 (by decide)
  have nB : w.heap.size ∉ v.ownBlock.toList := fun hm => by
    cases hv : v.ownBlock with
    | none => rw [hv] at hm; simp at hm
    | some g => rw [hv] at hm; simp at hm; have := HVL.out g hv; omega
  refine hK.out _ _ (fun _ => ⟨hHeld.1.fr hf5 ny, hHeld.2.fr hf5 nB⟩) (fun hHeld' => ?_); have hHeld := hHeld' (by decide); clear hHeld' hK K; (try (refine wpAnyL_norm (by simp only [Act.put, List.setIfInBounds_toArray, List.set_cons_zero, List.set_cons_succ]; rfl) ?_))
  refine wpAnyL_take (i := 9) (v := ?_) rfl (by kernel_rfl) (fun _ _ _ h => h) (Or.inl ⟨by rfl, ?_⟩) (by assumption) ?_; rotate_left; (focus (intro w hSw; skip; go_simp; (try with_reducible rfl))); (try (refine wpAnyL_norm (by simp only [Act.put, List.setIfInBounds_toArray, List.set_cons_zero, List.set_cons_succ]; rfl) ?_))
  refine wpAnyL_take (i := 10) (v := ?_) rfl (by kernel_rfl) (fun _ _ _ h => h) (Or.inl ⟨by rfl, ?_⟩) (by assumption) ?_; rotate_left; (focus (intro w hSw; skip; go_simp; (try with_reducible rfl))); (try (refine wpAnyL_norm (by simp only [Act.put, List.setIfInBounds_toArray, List.set_cons_zero, List.set_cons_succ]; rfl) ?_))
  have cc := (hHeld.1.cell o).trans H0.out
  have zz := hHeld.1.froz o
  refine wpAnyL_ready (rs := [11]) (by kernel_rfl) (by simp) ?_; refine AllReadyL.cons rfl (fun K hK => ?_) AllReadyL.nil
  go_simp
  refine hK.out _ _ (fun h => (h (by decide)).elim) (fun _ => ?_); clear hK K; (try (refine wpAnyL_norm (by simp only [Act.put, List.setIfInBounds_toArray, List.set_cons_zero, List.set_cons_succ]; rfl) ?_))
  refine wpAnyL_done (by kernel_rfl) ?_ _
  obtain ⟨n1, n2, n3⟩ := Pt.apart H.out.pt HY.out
  obtain ⟨m1, m2, m3⟩ := H.out.apart
  have hst : Fr [y] w5 (w5.setCell ⟨y, o, none⟩ (.slice va' (l.length + 1) vc')) := (Fr.refl _ _).set (.inl (by simp)) _
  have f56 : Fr (y :: v.ownBlock.toList) w4 (w5.setCell ⟨y, o, none⟩ (.slice va' (l.length + 1) vc')) := (hf5.more (T := y :: v.ownBlock.toList) (fun k hk => .inl (List.mem_cons_of_mem _ hk))).trans hst (fun k hk => .inl (by simp at hk; rw [hk]; exact List.mem_cons_self))
  have a1 : a ∉ y :: v.ownBlock.toList := by simp only [List.mem_cons, not_or]; exact ⟨n1, m1⟩
  have a2 : b ∉ y :: v.ownBlock.toList := by simp only [List.mem_cons, not_or]; exact ⟨n2, m2⟩
  have a3 : c ∉ y :: v.ownBlock.toList := by simp only [List.mem_cons, not_or]; exact ⟨n3, m3⟩
  have P6 := Lib.hid ((H.out.pt.fr F4.out (by simp) (by simp) (by simp)).fr f56 a1 a2 a3)
  have F6 := Lib.hid ((F4.out.more (T := y :: v.ownBlock.toList) (by simp)).trans f56 (fun k hk => .inl hk))
  have Y6 := Lib.hid (hHeld.1.set o (.slice va' (l.length + 1) vc'))
  have B6 := Lib.hid (hHeld.2.far (a := ⟨y, o, none⟩) (show w.heap.size ≠ y by omega) (.slice va' (l.length + 1) vc'))
  have O6 := Lib.hid (own_fr ho5 hst (fun g hg => by have := own_ne ho5 hHeld.1 (by decide) g hg; simpa using this))
  have HV5 := Lib.hid hv5
  obtain ⟨w6, hw6⟩ : ∃ W, w5.setCell ⟨y, o, none⟩ (.slice va' (l.length + 1) vc') = W := ⟨_, rfl⟩
  rw [hw6] at P6 F6 Y6 B6 O6 ⊢
  have hs4 := F4.out.size
  clear hw6 hst f56 ho5 hf5 hv5 hHeld cc zz ny nB O4 N4 OV S3 n1 n2 n3 m1 m2 m3
  have H1' := Lib.hid (show (cs.setIfInBounds o (.slice va' (l.length + 1) vc'))[o + 1]? = some (.pointer (some ⟨a, 0, none⟩)) by rw [Array.getElem?_setIfInBounds_ne (by omega)]; exact H1.out)
  have CP := Lib.hid fun (W : World) (hW : Fr [] w6 W) => ptadd_any W a b c n (cov l) (P6.out.fr hW (by simp) (by simp) (by simp)) (sa : Int) (sr : Int) (by omega) (by omega) (by omega) (by omega)
  have hpi := HPA.out k
  rw [hpi.1, hpi.2] at CP
  clear hpi
  go_wp2_with fail
  refine wp_region_L (fun W => Fr [] w6 W ∧ At W y 119 (cs.setIfInBounds o (.slice va' (l.length + 1) vc')) ∧ At W w.heap.size 45 #[.int .u32 (sa : Int), .int .u32 (sr : Int)]) [5] (by kernel_rfl) ⟨(Fr.refl _ _).drew, Y6.out.hp rfl, B6.out.hp rfl⟩ (fun hHeld => ?_)
  refine wpAnyL_take (i := 0) (v := ?_) rfl (by kernel_rfl) (fun _ _ _ h => h) (Or.inl ⟨by rfl, ?_⟩) (by assumption) ?_; rotate_left; (focus (intro w hSw; skip; go_simp; (try with_reducible rfl))); (try (refine wpAnyL_norm (by simp only [Act.put, List.setIfInBounds_toArray, List.set_cons_zero, List.set_cons_succ]; rfl) ?_))
  refine wpAnyL_take (i := 1) (v := ?_) rfl (by kernel_rfl) (fun _ _ _ h => h) (Or.inl ⟨by rfl, ?_⟩) (by assumption) ?_; rotate_left; (focus (intro w hSw; skip; go_simp; (try with_reducible rfl))); (try (refine wpAnyL_norm (by simp only [Act.put, List.setIfInBounds_toArray, List.set_cons_zero, List.set_cons_succ]; rfl) ?_))
  refine wpAnyL_take (i := 2) (v := ?_) rfl (by kernel_rfl) (fun _ _ _ h => h) (Or.inl ⟨by rfl, ?_⟩) (by assumption) ?_; rotate_left; (focus (intro w hSw; skip; go_simp; (try with_reducible rfl))); (try (refine wpAnyL_norm (by simp only [Act.put, List.setIfInBounds_toArray, List.set_cons_zero, List.set_cons_succ]; rfl) ?_))
  refine wpAnyL_take (i := 3) (v := ?_) rfl (by kernel_rfl) (fun _ _ _ h => h) (Or.inl ⟨by rfl, ?_⟩) (by assumption) ?_; rotate_left; (focus (intro w hSw; (have cc := (hSw.2.1.cell (o + 1)).trans H1'.out); go_simp; (try with_reducible rfl))); (try (refine wpAnyL_norm (by simp only [Act.put, List.setIfInBounds_toArray, List.set_cons_zero, List.set_cons_succ]; rfl) ?_))
  refine wpAnyL_take (i := 4) rfl (by kernel_rfl) (fun _ _ _ h => h) (yields_load_at 45 (.tmp 3) rfl ⟨w.heap.size, 0, none⟩ rfl [.int .u32 (sa : Int), .int .u32 (sr : Int)] _ (fun W h j v hv => by rw [Go.WideShapes.add_plain, Nat.zero_add, h.2.2.cell, List.getElem?_toArray]; exact hv) Tryz.underlying45 rfl infoRgS rfl) (by assumption) ?_; (try (refine wpAnyL_norm (by simp only [Act.put, List.setIfInBounds_toArray, List.set_cons_zero, List.set_cons_succ]; rfl) ?_))
  refine wpAnyL_ready (rs := [5]) (by kernel_rfl) (by simp) ?_; refine AllReadyL.cons rfl (fun K hK => ?_) AllReadyL.nil
  go_simp
  refine (CP.out _ hHeld.1).mono ?_
  rintro e w7 ⟨rfl, hp7, hf7⟩
  refine hK.out _ _ (fun h => (h (by decide)).elim) (fun _ => ?_); clear hK K; (try (refine wpAnyL_norm (by simp only [Act.put, List.setIfInBounds_toArray, List.set_cons_zero, List.set_cons_succ]; rfl) ?_))
  refine wpAnyL_done (by kernel_rfl) ?_ _
  go_wp2_with fail
  go_end0
  have hf7' : Fr [c] w6 w7 := ((hHeld.1).more (T := [c]) (by simp)).trans hf7 (fun k hk => .inl hk)
  have P6o := P6.out
  obtain ⟨n1, n2, n3⟩ := Pt.apart P6o Y6.out
  obtain ⟨-, -, ⟨_, hcc⟩⟩ := Pt.blocks P6o
  refine ⟨⟨_, rfl⟩, .slice va' (l.length + 1) vc', k, HPL.out, Y6.out.fr hf7' (by simpa using fun h => n3 h.symm), ⟨?_, hp7, HGI.out k HPL.out⟩, ?_, fun g hg => ?_⟩
  · rw [HIL.out k HPL.out.1]
    exact own_fr O6.out hf7' (fun g hg => by have := own_ne O6.out hcc (by decide) g hg; simpa using this)
  · refine (F6.out.more (T := y :: c :: v.ownBlock.toList) (fun k hk => .inl ?_)).trans hf7' (fun k hk => .inl ?_)
    · rcases List.mem_cons.1 hk with rfl | hk
      · exact List.mem_cons_self
      · exact List.mem_cons_of_mem _ (List.mem_cons_of_mem _ hk)
    · simp at hk; rw [hk]; exact List.mem_cons_of_mem _ List.mem_cons_self
  · rcases HV5.out g hg with h | h
    · exact .inl h
    · exact .inr (by omega)
end Go.Proofs.YthjbnbimfpbccaaGreatDoor
/-
  A yard in memory; none, New, and what Free refuses. Condition: numbers in their types' ranges.
-/



set_option linter.unusedVariables false
namespace Go.Proofs.YthjbnbimfpbccaaGreatDoor
open Go.ChangeShapes Go.WideShapes Go.ChangeAt Go.RowKit
/-- What a yard holds, and where. -/
structure YS where
  y : Nat
  n : Nat
  ep : Nat
  un : Bool
  wv : Value
  a : Nat
  b : Nat
  c : Nat
  lw : List (Nat × Nat)
  bv : Value
  a' : Nat
  b' : Nat
  c' : Nat
  lb : List (Nat × Nat)
def YS.cells (s : YS) : Array Value := #[.int .u64 s.ep, .bool s.un, .int .i64 (16 * s.n : Nat), s.wv, .pointer (some ⟨s.a, 0, none⟩), s.bv, .pointer (some ⟨s.a', 0, none⟩)]
structure Yd (w : World) (s : YS) : Prop where
  at_ : At w s.y 119 s.cells
  wt : Lt w s.wv s.a s.b s.c s.n s.lw
  bt : Lt w s.bv s.a' s.b' s.c' s.n s.lb
  ne : s.c ≠ s.c'
  apart : ∀ g, s.wv.ownBlock = some g → s.bv.ownBlock ≠ some g
  up : s.un = true → 1 ≤ s.ep
  few : s.ep ≤ 1000000
theorem Yd.fr0 {w w' : World} {s : YS} (h : Yd w s) (f : Fr [] w w') : Yd w' s := ⟨h.at_.fr f (by simp), h.wt.fr0 f, h.bt.fr0 f, h.ne, h.apart, h.up, h.few⟩
theorem qnone_any {w : World} {s : YS} (h : Yd w s) : Calls Tryz.prog 57 #[.pointer (some ⟨s.y, 0, none⟩)] w fun r w' => r = .returned (.bool false) ∧ w = w' := by
  have c4 := h.at_.cell 4
  unfold YS.cells at c4
  simp only [List.getElem?_toArray, List.getElem?_cons_zero, List.getElem?_cons_succ] at c4
  clear h
  go_enter Tryz.func57, Tryz.ntmps57
  go_wp2_with fail
  go_ret
  exact ⟨rfl, rfl⟩
theorem qnone_nil (w : World) : Calls Tryz.prog 57 #[.pointer none] w fun r w' => r = .returned (.bool true) ∧ w = w' := by
  go_enter Tryz.func57, Tryz.ntmps57
  go_wp2_with fail
  go_ret
  exact ⟨rfl, rfl⟩
set_option maxRecDepth 100000 in
theorem qnew_bad (w : World) (b : Int) (h : b < 0 ∨ 262144 < b ∨ ¬ b % 16 = 0) : Calls Tryz.prog 25 #[.int .i64 b] w fun r w' => r = .returned (.pointer none) ∧ w = w' := by
  by_cases h0 : b < 0
  · clear h
    go_enter Tryz.func25, Tryz.ntmps25
    go_wp2_with fail
    go_ret
    exact ⟨rfl, rfl⟩
  · have h0' : 0 ≤ b := by omega
    by_cases h1 : 262144 < b
    · clear h
      go_enter Tryz.func25, Tryz.ntmps25
      go_wp2_with fail
      go_ret
      exact ⟨rfl, rfl⟩
    · have h2 : (b % 16 != 0) = true := by simp; omega
      clear h
      go_enter Tryz.func25, Tryz.ntmps25
      go_wp2_with fail
      go_ret
      exact ⟨rfl, rfl⟩
set_option maxRecDepth 100000 in
theorem qnew_any (w : World) (n : Nat) (hn : n ≤ 16384) : Calls Tryz.prog 25 #[.int .i64 (16 * n : Nat)] w fun r w' => ∃ s : YS, r = .returned (.pointer (some ⟨s.y, 0, none⟩)) ∧ Yd w' s ∧ s.n = n ∧ s.ep = 0 ∧ s.un = false ∧ s.lw = [] ∧ s.lb = [] ∧ s.wv = .slice none 0 0 ∧ s.bv = .slice none 0 0 ∧ (w.heap.size ≤ s.y ∧ w.heap.size ≤ s.c ∧ w.heap.size ≤ s.c') ∧ Fr [] w w' := by
  have C := Lib.hid fun W => fresh_any n W hn
  obtain ⟨m, hm⟩ : ∃ m, 16 * n = m := ⟨_, rfl⟩
  have HM := Lib.hid hm
  rw [hm] at C ⊢
  have h1 : ((m : Int) % 16 != 0) = false := by simp; omega
  have h2 : ¬ ((262144 : Int) < (m : Int)) := by omega
  clear hm
  go_enter Tryz.func25, Tryz.ntmps25
  go_wp2_with fail
  refine (C.out _).mono ?_
  rintro e w2 ⟨a, b, c, rfl, h2', ha, hb, hc, hf2⟩
  have L2 := Lib.hid h2'
  have F2 := Lib.hid hf2
  clear h2' hf2
  go_wp2_with fail
  refine (C.out _).mono ?_
  rintro e w3 ⟨a', b', c', rfl, h3, ha', hb', hc', hf3⟩
  have L2' := Lib.hid (L2.out.fr0 hf3)
  have L3 := Lib.hid h3
  have F3 := Lib.hid (F2.out.trans0 hf3)
  have hs2 := F2.out.size
  have hs3 := hf3.size
  obtain ⟨-, -, ⟨_, hcc⟩⟩ := Pt.blocks L2.out.pt
  have hcl := hcc.lt
  clear h3 hf3 hcc
  go_wp2_with fail
  go_ret
  have hga : Fr [] w3 (w3.alloc (.cells #[.int .u64 0, .bool false, .int .i64 (m : Int), .slice none 0 0, .pointer (some ⟨a, 0, none⟩), .slice none 0 0, .pointer (some ⟨a', 0, none⟩)] 119)) := (by repeat (first | exact Fr.refl _ _ | assumption | refine Fr.trans0 ?_ (by assumption) | refine Fr.drewN ?_ _ | refine Fr.alloc ?_ _ | refine Fr.drew ?_))
  refine ⟨⟨w3.heap.size, n, 0, false, .slice none 0 0, a, b, c, [], .slice none 0 0, a', b', c', []⟩, rfl, ⟨?_, L2'.out.fr0 hga, L3.out.fr0 hga, by dsimp only; omega, (fun g hg => by simp [Value.ownBlock] at hg), (fun h => by cases h), by dsimp only; omega⟩, rfl, rfl, rfl, rfl, rfl, rfl, rfl, ⟨by dsimp only; omega, by dsimp only; omega, by dsimp only; omega⟩, F3.out.trans0 hga⟩
  unfold YS.cells
  dsimp only
  rw [HM.out]
  exact At.new w3 _ _
end Go.Proofs.YthjbnbimfpbccaaGreatDoor
/-
  What Yard.Free does. Condition: numbers in their types' ranges. (Its drawn regions are printed by genfree.py.)
-/



set_option linter.unusedVariables false
namespace Go.Proofs.YthjbnbimfpbccaaGreatDoor
open Go.ChangeShapes Go.WideShapes Go.ChangeAt Go.RowKit
set_option maxHeartbeats 2000000 in
set_option maxRecDepth 100000 in
theorem qfree_no (w : World) (s : YS) (h : Yd w s) (ra rs : Nat) (hra : ra < 4294967296) (hrs : rs < 4294967296) (hbad : ¬ (ra % 16 = 0 ∧ rs % 16 = 0 ∧ 0 < rs ∧ ra + rs ≤ 16 * s.n)) :
    Calls Tryz.prog 17 #[.pointer (some ⟨s.y, 0, none⟩), .agg #[.int .u32 ra, .int .u32 rs]] w fun r w' => r = .returned (.bool false) ∧ Fr [] w w' := by
  have hup := h.up
  have HN := Lib.hid fun (W : World) (hW : Fr [] w W) => qnone_any (h.fr0 hW)
  have hn2 := h.wt.pt.2.2.2.2
  have H := Lib.hid h
  obtain ⟨y, n, ep, un, wv, a, b, c, lw, bv, a', b', c', lb⟩ := s
  dsimp only at *
  have Y0 := Lib.hid (h.at_.old (.cells #[.int .u32 (ra : Int), .int .u32 (rs : Int)] 45))
  have A0 := Lib.hid (At.new w 45 #[.int .u32 (ra : Int), .int .u32 (rs : Int)])
  have F0 := Lib.hid (show Fr [] w (w.alloc (.cells #[.int .u32 (ra : Int), .int .u32 (rs : Int)] 45)) from (by repeat (first | exact Fr.refl _ _ | assumption | refine Fr.trans0 ?_ (by assumption) | refine Fr.drewN ?_ _ | refine Fr.alloc ?_ _ | refine Fr.drew ?_)))
  unfold YS.cells at Y0
  dsimp only at Y0
  have v1 : IntKind.u64.wrap (ra : Int) = ra := by simp [IntKind.wrap, IntKind.signed, IntKind.bits]; omega
  have v2 : IntKind.u64.wrap (rs : Int) = rs := by simp [IntKind.wrap, IntKind.signed, IntKind.bits]; omega
  have v3 : IntKind.u64.wrap ((ra : Int) + (rs : Int)) = (ra : Int) + rs := by simp [IntKind.wrap, IntKind.signed, IntKind.bits]; omega
  have m1 : (ra : Int).tmod 16 = (ra : Int) % 16 := Int.tmod_eq_emod_of_nonneg (by omega)
  have m2 : (rs : Int).tmod 16 = (rs : Int) % 16 := Int.tmod_eq_emod_of_nonneg (by omega)
  obtain ⟨N, hNN⟩ : ∃ N, 16 * n = N := ⟨_, rfl⟩
  have v4 : IntKind.u64.wrap (N : Int) = (N : Int) := by simp [IntKind.wrap, IntKind.signed, IntKind.bits]; omega
  rw [hNN] at Y0
  have HNN := Lib.hid hNN
  clear h hup
  by_cases k1 : ra % 16 = 0
  · have d1 : ((ra : Int) % 16 != 0) = false := by simp; omega
    by_cases k2 : rs % 16 = 0
    · have d2 : ((rs : Int) % 16 != 0) = false := by simp; omega
      by_cases k3 : rs = 0
      · have d3 : ((rs : Int) == 0) = true := by simp; omega
        clear k1 k2 k3 hbad
        go_enter Tryz.func17, Tryz.ntmps17
        go_wp2_with fail
        refine wp_region_L (fun W => Fr [] w W ∧ At W w.heap.size 45 #[.int .u32 (ra : Int), .int .u32 (rs : Int)] ∧ At W y 119 #[.int .u64 (ep : Int), .bool un, .int .i64 (N : Int), wv, .pointer (some ⟨a, 0, none⟩), bv, .pointer (some ⟨a', 0, none⟩)]) [] (by kernel_rfl) ⟨F0.out.drew, A0.out.hp rfl, Y0.out.hp rfl⟩ (fun hHeld => ?_)
        refine wpAnyL_take (i := 0) (v := ?_) rfl (by kernel_rfl) (fun _ _ _ h => h) (Or.inl ⟨by rfl, ?_⟩) (by assumption) ?_; rotate_left; (focus (intro w hSw; skip; go_simp; (try with_reducible rfl))); (try (refine wpAnyL_norm (by simp only [Act.put, List.setIfInBounds_toArray, List.set_cons_zero, List.set_cons_succ]; rfl) ?_))
        refine wpAnyL_ready (rs := [1]) (by kernel_rfl) (by simp) ?_; refine AllReadyL.cons rfl (fun K hK => ?_) AllReadyL.nil
        go_simp
        refine (HN.out _ hHeld.1).mono ?_
        rintro e w' ⟨rfl, rfl⟩
        refine hK.out _ _ (fun _ => hHeld) (fun hHeld' => ?_); have hHeld := hHeld' (by decide); clear hHeld' hK K; (try (refine wpAnyL_norm (by simp only [Act.put, List.setIfInBounds_toArray, List.set_cons_zero, List.set_cons_succ]; rfl) ?_))
        refine wpAnyL_take (i := 2) (v := ?_) rfl (by kernel_rfl) (fun _ _ _ h => h) (Or.inl ⟨by rfl, ?_⟩) (by assumption) ?_; rotate_left; (focus (intro w hSw; skip; go_simp; (try with_reducible rfl))); (try (refine wpAnyL_norm (by simp only [Act.put, List.setIfInBounds_toArray, List.set_cons_zero, List.set_cons_succ]; rfl) ?_))
        refine wpAnyL_take (i := 3) (v := ?_) rfl (by kernel_rfl) (fun _ _ _ h => h) (Or.inl ⟨by rfl, ?_⟩) (by assumption) ?_; rotate_left; (focus (intro w hSw; skip; go_simp; (try with_reducible rfl))); (try (refine wpAnyL_norm (by simp only [Act.put, List.setIfInBounds_toArray, List.set_cons_zero, List.set_cons_succ]; rfl) ?_))
        refine wpAnyL_take (i := 4) (v := ?_) rfl (by kernel_rfl) (fun _ _ _ h => h) (Or.inl ⟨by rfl, ?_⟩) (by assumption) ?_; rotate_left; (focus (intro w hSw; (have cc := hSw.2.1.cell 0); (simp only [List.getElem?_toArray, List.getElem?_cons_zero, List.getElem?_cons_succ] at cc); go_simp; (try with_reducible rfl))); (try (refine wpAnyL_norm (by simp only [Act.put, List.setIfInBounds_toArray, List.set_cons_zero, List.set_cons_succ]; rfl) ?_))
        refine wpAnyL_take (i := 5) (v := ?_) rfl (by kernel_rfl) (fun _ _ _ h => h) (Or.inl ⟨by rfl, ?_⟩) (by assumption) ?_; rotate_left; (focus (intro w hSw; skip; go_simp; (try with_reducible rfl))); (try (refine wpAnyL_norm (by simp only [Act.put, List.setIfInBounds_toArray, List.set_cons_zero, List.set_cons_succ]; rfl) ?_))
        refine wpAnyL_take (i := 6) (v := ?_) rfl (by kernel_rfl) (fun _ _ _ h => h) (Or.inl ⟨by rfl, ?_⟩) (by assumption) ?_; rotate_left; (focus (intro w hSw; skip; go_simp; (try with_reducible rfl))); (try (refine wpAnyL_norm (by simp only [Act.put, List.setIfInBounds_toArray, List.set_cons_zero, List.set_cons_succ]; rfl) ?_))
        refine wpAnyL_take (i := 7) (v := ?_) rfl (by kernel_rfl) (fun _ _ _ h => h) (Or.inl ⟨by rfl, ?_⟩) (by assumption) ?_; rotate_left; (focus (intro w hSw; skip; go_simp; (try with_reducible rfl))); (try (refine wpAnyL_norm (by simp only [Act.put, List.setIfInBounds_toArray, List.set_cons_zero, List.set_cons_succ]; rfl) ?_))
        refine wpAnyL_take (i := 8) (v := ?_) rfl (by kernel_rfl) (fun _ _ _ h => h) (Or.inl ⟨by rfl, ?_⟩) (by assumption) ?_; rotate_left; (focus (intro w hSw; skip; go_simp; (try with_reducible rfl))); (try (refine wpAnyL_norm (by simp only [Act.put, List.setIfInBounds_toArray, List.set_cons_zero, List.set_cons_succ]; rfl) ?_))
        refine wpAnyL_take (i := 9) (v := ?_) rfl (by kernel_rfl) (fun _ _ _ h => h) (Or.inl ⟨by rfl, ?_⟩) (by assumption) ?_; rotate_left; (focus (intro w hSw; skip; go_simp; (try with_reducible rfl))); (try (refine wpAnyL_norm (by simp only [Act.put, List.setIfInBounds_toArray, List.set_cons_zero, List.set_cons_succ]; rfl) ?_))
        refine wpAnyL_take (i := 10) (v := ?_) rfl (by kernel_rfl) (fun _ _ _ h => h) (Or.inl ⟨by rfl, ?_⟩) (by assumption) ?_; rotate_left; (focus (intro w hSw; (have cc := hSw.2.1.cell 1); (simp only [List.getElem?_toArray, List.getElem?_cons_zero, List.getElem?_cons_succ] at cc); go_simp; (try with_reducible rfl))); (try (refine wpAnyL_norm (by simp only [Act.put, List.setIfInBounds_toArray, List.set_cons_zero, List.set_cons_succ]; rfl) ?_))
        refine wpAnyL_take (i := 11) (v := ?_) rfl (by kernel_rfl) (fun _ _ _ h => h) (Or.inl ⟨by rfl, ?_⟩) (by assumption) ?_; rotate_left; (focus (intro w hSw; skip; go_simp; (try with_reducible rfl))); (try (refine wpAnyL_norm (by simp only [Act.put, List.setIfInBounds_toArray, List.set_cons_zero, List.set_cons_succ]; rfl) ?_))
        refine wpAnyL_take (i := 12) (v := ?_) rfl (by kernel_rfl) (fun _ _ _ h => h) (Or.inl ⟨by rfl, ?_⟩) (by assumption) ?_; rotate_left; (focus (intro w hSw; skip; go_simp; (try with_reducible rfl))); (try (refine wpAnyL_norm (by simp only [Act.put, List.setIfInBounds_toArray, List.set_cons_zero, List.set_cons_succ]; rfl) ?_))
        refine wpAnyL_take (i := 13) (v := ?_) rfl (by kernel_rfl) (fun _ _ _ h => h) (Or.inl ⟨by rfl, ?_⟩) (by assumption) ?_; rotate_left; (focus (intro w hSw; skip; go_simp; (try with_reducible rfl))); (try (refine wpAnyL_norm (by simp only [Act.put, List.setIfInBounds_toArray, List.set_cons_zero, List.set_cons_succ]; rfl) ?_))
        refine wpAnyL_take (i := 14) (v := ?_) rfl (by kernel_rfl) (fun _ _ _ h => h) (Or.inl ⟨by rfl, ?_⟩) (by assumption) ?_; rotate_left; (focus (intro w hSw; skip; go_simp; (try with_reducible rfl))); (try (refine wpAnyL_norm (by simp only [Act.put, List.setIfInBounds_toArray, List.set_cons_zero, List.set_cons_succ]; rfl) ?_))
        refine wpAnyL_take (i := 15) (v := ?_) rfl (by kernel_rfl) (fun _ _ _ h => h) (Or.inl ⟨by rfl, ?_⟩) (by assumption) ?_; rotate_left; (focus (intro w hSw; skip; go_simp; (try with_reducible rfl))); (try (refine wpAnyL_norm (by simp only [Act.put, List.setIfInBounds_toArray, List.set_cons_zero, List.set_cons_succ]; rfl) ?_))
        refine wpAnyL_take (i := 16) (v := ?_) rfl (by kernel_rfl) (fun _ _ _ h => h) (Or.inl ⟨by rfl, ?_⟩) (by assumption) ?_; rotate_left; (focus (intro w hSw; (have cc := hSw.2.1.cell 1); (simp only [List.getElem?_toArray, List.getElem?_cons_zero, List.getElem?_cons_succ] at cc); go_simp; (try with_reducible rfl))); (try (refine wpAnyL_norm (by simp only [Act.put, List.setIfInBounds_toArray, List.set_cons_zero, List.set_cons_succ]; rfl) ?_))
        refine wpAnyL_take (i := 17) (v := ?_) rfl (by kernel_rfl) (fun _ _ _ h => h) (Or.inl ⟨by rfl, ?_⟩) (by assumption) ?_; rotate_left; (focus (intro w hSw; skip; go_simp; (try with_reducible rfl))); (try (refine wpAnyL_norm (by simp only [Act.put, List.setIfInBounds_toArray, List.set_cons_zero, List.set_cons_succ]; rfl) ?_))
        refine wpAnyL_take (i := 18) (v := ?_) rfl (by kernel_rfl) (fun _ _ _ h => h) (Or.inl ⟨by rfl, ?_⟩) (by assumption) ?_; rotate_left; (focus (intro w hSw; skip; go_simp; (try with_reducible rfl))); (try (refine wpAnyL_norm (by simp only [Act.put, List.setIfInBounds_toArray, List.set_cons_zero, List.set_cons_succ]; rfl) ?_))
        refine wpAnyL_take (i := 19) (v := ?_) rfl (by kernel_rfl) (fun _ _ _ h => h) (Or.inl ⟨by rfl, ?_⟩) (by assumption) ?_; rotate_left; (focus (intro w hSw; skip; go_simp; (try with_reducible rfl))); (try (refine wpAnyL_norm (by simp only [Act.put, List.setIfInBounds_toArray, List.set_cons_zero, List.set_cons_succ]; rfl) ?_))
        refine wpAnyL_take (i := 20) (v := undef) rfl (by kernel_rfl) (fun _ _ _ h => h) (Or.inr ⟨by rfl, rfl⟩) (by assumption) ?_; (try (refine wpAnyL_norm (by simp only [Act.put, List.setIfInBounds_toArray, List.set_cons_zero, List.set_cons_succ]; rfl) ?_))
        refine wpAnyL_take (i := 21) (v := undef) rfl (by kernel_rfl) (fun _ _ _ h => h) (Or.inr ⟨by rfl, rfl⟩) (by assumption) ?_; (try (refine wpAnyL_norm (by simp only [Act.put, List.setIfInBounds_toArray, List.set_cons_zero, List.set_cons_succ]; rfl) ?_))
        refine wpAnyL_take (i := 22) (v := undef) rfl (by kernel_rfl) (fun _ _ _ h => h) (Or.inr ⟨by rfl, rfl⟩) (by assumption) ?_; (try (refine wpAnyL_norm (by simp only [Act.put, List.setIfInBounds_toArray, List.set_cons_zero, List.set_cons_succ]; rfl) ?_))
        refine wpAnyL_take (i := 23) (v := undef) rfl (by kernel_rfl) (fun _ _ _ h => h) (Or.inr ⟨by rfl, rfl⟩) (by assumption) ?_; (try (refine wpAnyL_norm (by simp only [Act.put, List.setIfInBounds_toArray, List.set_cons_zero, List.set_cons_succ]; rfl) ?_))
        refine wpAnyL_take (i := 24) (v := undef) rfl (by kernel_rfl) (fun _ _ _ h => h) (Or.inr ⟨by rfl, rfl⟩) (by assumption) ?_; (try (refine wpAnyL_norm (by simp only [Act.put, List.setIfInBounds_toArray, List.set_cons_zero, List.set_cons_succ]; rfl) ?_))
        refine wpAnyL_take (i := 25) (v := undef) rfl (by kernel_rfl) (fun _ _ _ h => h) (Or.inr ⟨by rfl, rfl⟩) (by assumption) ?_; (try (refine wpAnyL_norm (by simp only [Act.put, List.setIfInBounds_toArray, List.set_cons_zero, List.set_cons_succ]; rfl) ?_))
        refine wpAnyL_take (i := 26) (v := undef) rfl (by kernel_rfl) (fun _ _ _ h => h) (Or.inr ⟨by rfl, rfl⟩) (by assumption) ?_; (try (refine wpAnyL_norm (by simp only [Act.put, List.setIfInBounds_toArray, List.set_cons_zero, List.set_cons_succ]; rfl) ?_))
        refine wpAnyL_take (i := 27) (v := undef) rfl (by kernel_rfl) (fun _ _ _ h => h) (Or.inr ⟨by rfl, rfl⟩) (by assumption) ?_; (try (refine wpAnyL_norm (by simp only [Act.put, List.setIfInBounds_toArray, List.set_cons_zero, List.set_cons_succ]; rfl) ?_))
        refine wpAnyL_take (i := 28) (v := undef) rfl (by kernel_rfl) (fun _ _ _ h => h) (Or.inr ⟨by rfl, rfl⟩) (by assumption) ?_; (try (refine wpAnyL_norm (by simp only [Act.put, List.setIfInBounds_toArray, List.set_cons_zero, List.set_cons_succ]; rfl) ?_))
        refine wpAnyL_take (i := 29) (v := undef) rfl (by kernel_rfl) (fun _ _ _ h => h) (Or.inr ⟨by rfl, rfl⟩) (by assumption) ?_; (try (refine wpAnyL_norm (by simp only [Act.put, List.setIfInBounds_toArray, List.set_cons_zero, List.set_cons_succ]; rfl) ?_))
        refine wpAnyL_take (i := 30) (v := undef) rfl (by kernel_rfl) (fun _ _ _ h => h) (Or.inr ⟨by rfl, rfl⟩) (by assumption) ?_; (try (refine wpAnyL_norm (by simp only [Act.put, List.setIfInBounds_toArray, List.set_cons_zero, List.set_cons_succ]; rfl) ?_))
        refine wpAnyL_take (i := 31) (v := undef) rfl (by kernel_rfl) (fun _ _ _ h => h) (Or.inr ⟨by rfl, rfl⟩) (by assumption) ?_; (try (refine wpAnyL_norm (by simp only [Act.put, List.setIfInBounds_toArray, List.set_cons_zero, List.set_cons_succ]; rfl) ?_))
        refine wpAnyL_take (i := 32) (v := undef) rfl (by kernel_rfl) (fun _ _ _ h => h) (Or.inr ⟨by rfl, rfl⟩) (by assumption) ?_; (try (refine wpAnyL_norm (by simp only [Act.put, List.setIfInBounds_toArray, List.set_cons_zero, List.set_cons_succ]; rfl) ?_))
        refine wpAnyL_take (i := 33) (v := ?_) rfl (by kernel_rfl) (fun _ _ _ h => h) (Or.inl ⟨by rfl, ?_⟩) (by assumption) ?_; rotate_left; (focus (intro w hSw; skip; go_simp; (try with_reducible rfl))); (try (refine wpAnyL_norm (by simp only [Act.put, List.setIfInBounds_toArray, List.set_cons_zero, List.set_cons_succ]; rfl) ?_))
        refine wpAnyL_done (by kernel_rfl) ?_ _
        go_wp2_with fail
        go_ret
        exact ⟨rfl, hHeld.1⟩
      · have d3 : ((rs : Int) == 0) = false := by simp; omega
        have d4 : ((N : Int) < (ra : Int) + (rs : Int)) := by omega
        have d5 : decide ((N : Int) < (ra : Int) + (rs : Int)) = true := by simp; omega
        clear k1 k2 k3 hbad
        go_enter Tryz.func17, Tryz.ntmps17
        go_wp2_with fail
        refine wp_region_L (fun W => Fr [] w W ∧ At W w.heap.size 45 #[.int .u32 (ra : Int), .int .u32 (rs : Int)] ∧ At W y 119 #[.int .u64 (ep : Int), .bool un, .int .i64 (N : Int), wv, .pointer (some ⟨a, 0, none⟩), bv, .pointer (some ⟨a', 0, none⟩)]) [] (by kernel_rfl) ⟨F0.out.drew, A0.out.hp rfl, Y0.out.hp rfl⟩ (fun hHeld => ?_)
        refine wpAnyL_take (i := 0) (v := ?_) rfl (by kernel_rfl) (fun _ _ _ h => h) (Or.inl ⟨by rfl, ?_⟩) (by assumption) ?_; rotate_left; (focus (intro w hSw; skip; go_simp; (try with_reducible rfl))); (try (refine wpAnyL_norm (by simp only [Act.put, List.setIfInBounds_toArray, List.set_cons_zero, List.set_cons_succ]; rfl) ?_))
        refine wpAnyL_ready (rs := [1]) (by kernel_rfl) (by simp) ?_; refine AllReadyL.cons rfl (fun K hK => ?_) AllReadyL.nil
        go_simp
        refine (HN.out _ hHeld.1).mono ?_
        rintro e w' ⟨rfl, rfl⟩
        refine hK.out _ _ (fun _ => hHeld) (fun hHeld' => ?_); have hHeld := hHeld' (by decide); clear hHeld' hK K; (try (refine wpAnyL_norm (by simp only [Act.put, List.setIfInBounds_toArray, List.set_cons_zero, List.set_cons_succ]; rfl) ?_))
        refine wpAnyL_take (i := 2) (v := ?_) rfl (by kernel_rfl) (fun _ _ _ h => h) (Or.inl ⟨by rfl, ?_⟩) (by assumption) ?_; rotate_left; (focus (intro w hSw; skip; go_simp; (try with_reducible rfl))); (try (refine wpAnyL_norm (by simp only [Act.put, List.setIfInBounds_toArray, List.set_cons_zero, List.set_cons_succ]; rfl) ?_))
        refine wpAnyL_take (i := 3) (v := ?_) rfl (by kernel_rfl) (fun _ _ _ h => h) (Or.inl ⟨by rfl, ?_⟩) (by assumption) ?_; rotate_left; (focus (intro w hSw; skip; go_simp; (try with_reducible rfl))); (try (refine wpAnyL_norm (by simp only [Act.put, List.setIfInBounds_toArray, List.set_cons_zero, List.set_cons_succ]; rfl) ?_))
        refine wpAnyL_take (i := 4) (v := ?_) rfl (by kernel_rfl) (fun _ _ _ h => h) (Or.inl ⟨by rfl, ?_⟩) (by assumption) ?_; rotate_left; (focus (intro w hSw; (have cc := hSw.2.1.cell 0); (simp only [List.getElem?_toArray, List.getElem?_cons_zero, List.getElem?_cons_succ] at cc); go_simp; (try with_reducible rfl))); (try (refine wpAnyL_norm (by simp only [Act.put, List.setIfInBounds_toArray, List.set_cons_zero, List.set_cons_succ]; rfl) ?_))
        refine wpAnyL_take (i := 5) (v := ?_) rfl (by kernel_rfl) (fun _ _ _ h => h) (Or.inl ⟨by rfl, ?_⟩) (by assumption) ?_; rotate_left; (focus (intro w hSw; skip; go_simp; (try with_reducible rfl))); (try (refine wpAnyL_norm (by simp only [Act.put, List.setIfInBounds_toArray, List.set_cons_zero, List.set_cons_succ]; rfl) ?_))
        refine wpAnyL_take (i := 6) (v := ?_) rfl (by kernel_rfl) (fun _ _ _ h => h) (Or.inl ⟨by rfl, ?_⟩) (by assumption) ?_; rotate_left; (focus (intro w hSw; skip; go_simp; (try with_reducible rfl))); (try (refine wpAnyL_norm (by simp only [Act.put, List.setIfInBounds_toArray, List.set_cons_zero, List.set_cons_succ]; rfl) ?_))
        refine wpAnyL_take (i := 7) (v := ?_) rfl (by kernel_rfl) (fun _ _ _ h => h) (Or.inl ⟨by rfl, ?_⟩) (by assumption) ?_; rotate_left; (focus (intro w hSw; skip; go_simp; (try with_reducible rfl))); (try (refine wpAnyL_norm (by simp only [Act.put, List.setIfInBounds_toArray, List.set_cons_zero, List.set_cons_succ]; rfl) ?_))
        refine wpAnyL_take (i := 8) (v := ?_) rfl (by kernel_rfl) (fun _ _ _ h => h) (Or.inl ⟨by rfl, ?_⟩) (by assumption) ?_; rotate_left; (focus (intro w hSw; skip; go_simp; (try with_reducible rfl))); (try (refine wpAnyL_norm (by simp only [Act.put, List.setIfInBounds_toArray, List.set_cons_zero, List.set_cons_succ]; rfl) ?_))
        refine wpAnyL_take (i := 9) (v := ?_) rfl (by kernel_rfl) (fun _ _ _ h => h) (Or.inl ⟨by rfl, ?_⟩) (by assumption) ?_; rotate_left; (focus (intro w hSw; skip; go_simp; (try with_reducible rfl))); (try (refine wpAnyL_norm (by simp only [Act.put, List.setIfInBounds_toArray, List.set_cons_zero, List.set_cons_succ]; rfl) ?_))
        refine wpAnyL_take (i := 10) (v := ?_) rfl (by kernel_rfl) (fun _ _ _ h => h) (Or.inl ⟨by rfl, ?_⟩) (by assumption) ?_; rotate_left; (focus (intro w hSw; (have cc := hSw.2.1.cell 1); (simp only [List.getElem?_toArray, List.getElem?_cons_zero, List.getElem?_cons_succ] at cc); go_simp; (try with_reducible rfl))); (try (refine wpAnyL_norm (by simp only [Act.put, List.setIfInBounds_toArray, List.set_cons_zero, List.set_cons_succ]; rfl) ?_))
        refine wpAnyL_take (i := 11) (v := ?_) rfl (by kernel_rfl) (fun _ _ _ h => h) (Or.inl ⟨by rfl, ?_⟩) (by assumption) ?_; rotate_left; (focus (intro w hSw; skip; go_simp; (try with_reducible rfl))); (try (refine wpAnyL_norm (by simp only [Act.put, List.setIfInBounds_toArray, List.set_cons_zero, List.set_cons_succ]; rfl) ?_))
        refine wpAnyL_take (i := 12) (v := ?_) rfl (by kernel_rfl) (fun _ _ _ h => h) (Or.inl ⟨by rfl, ?_⟩) (by assumption) ?_; rotate_left; (focus (intro w hSw; skip; go_simp; (try with_reducible rfl))); (try (refine wpAnyL_norm (by simp only [Act.put, List.setIfInBounds_toArray, List.set_cons_zero, List.set_cons_succ]; rfl) ?_))
        refine wpAnyL_take (i := 13) (v := ?_) rfl (by kernel_rfl) (fun _ _ _ h => h) (Or.inl ⟨by rfl, ?_⟩) (by assumption) ?_; rotate_left; (focus (intro w hSw; skip; go_simp; (try with_reducible rfl))); (try (refine wpAnyL_norm (by simp only [Act.put, List.setIfInBounds_toArray, List.set_cons_zero, List.set_cons_succ]; rfl) ?_))
        refine wpAnyL_take (i := 14) (v := ?_) rfl (by kernel_rfl) (fun _ _ _ h => h) (Or.inl ⟨by rfl, ?_⟩) (by assumption) ?_; rotate_left; (focus (intro w hSw; skip; go_simp; (try with_reducible rfl))); (try (refine wpAnyL_norm (by simp only [Act.put, List.setIfInBounds_toArray, List.set_cons_zero, List.set_cons_succ]; rfl) ?_))
        refine wpAnyL_take (i := 15) (v := ?_) rfl (by kernel_rfl) (fun _ _ _ h => h) (Or.inl ⟨by rfl, ?_⟩) (by assumption) ?_; rotate_left; (focus (intro w hSw; skip; go_simp; (try with_reducible rfl))); (try (refine wpAnyL_norm (by simp only [Act.put, List.setIfInBounds_toArray, List.set_cons_zero, List.set_cons_succ]; rfl) ?_))
        refine wpAnyL_take (i := 16) (v := ?_) rfl (by kernel_rfl) (fun _ _ _ h => h) (Or.inl ⟨by rfl, ?_⟩) (by assumption) ?_; rotate_left; (focus (intro w hSw; (have cc := hSw.2.1.cell 1); (simp only [List.getElem?_toArray, List.getElem?_cons_zero, List.getElem?_cons_succ] at cc); go_simp; (try with_reducible rfl))); (try (refine wpAnyL_norm (by simp only [Act.put, List.setIfInBounds_toArray, List.set_cons_zero, List.set_cons_succ]; rfl) ?_))
        refine wpAnyL_take (i := 17) (v := ?_) rfl (by kernel_rfl) (fun _ _ _ h => h) (Or.inl ⟨by rfl, ?_⟩) (by assumption) ?_; rotate_left; (focus (intro w hSw; skip; go_simp; (try with_reducible rfl))); (try (refine wpAnyL_norm (by simp only [Act.put, List.setIfInBounds_toArray, List.set_cons_zero, List.set_cons_succ]; rfl) ?_))
        refine wpAnyL_take (i := 18) (v := ?_) rfl (by kernel_rfl) (fun _ _ _ h => h) (Or.inl ⟨by rfl, ?_⟩) (by assumption) ?_; rotate_left; (focus (intro w hSw; skip; go_simp; (try with_reducible rfl))); (try (refine wpAnyL_norm (by simp only [Act.put, List.setIfInBounds_toArray, List.set_cons_zero, List.set_cons_succ]; rfl) ?_))
        refine wpAnyL_take (i := 19) (v := ?_) rfl (by kernel_rfl) (fun _ _ _ h => h) (Or.inl ⟨by rfl, ?_⟩) (by assumption) ?_; rotate_left; (focus (intro w hSw; skip; go_simp; (try with_reducible rfl))); (try (refine wpAnyL_norm (by simp only [Act.put, List.setIfInBounds_toArray, List.set_cons_zero, List.set_cons_succ]; rfl) ?_))
        refine wpAnyL_take (i := 20) (v := ?_) rfl (by kernel_rfl) (fun _ _ _ h => h) (Or.inl ⟨by rfl, ?_⟩) (by assumption) ?_; rotate_left; (focus (intro w hSw; skip; go_simp; (try with_reducible rfl))); (try (refine wpAnyL_norm (by simp only [Act.put, List.setIfInBounds_toArray, List.set_cons_zero, List.set_cons_succ]; rfl) ?_))
        refine wpAnyL_take (i := 21) (v := ?_) rfl (by kernel_rfl) (fun _ _ _ h => h) (Or.inl ⟨by rfl, ?_⟩) (by assumption) ?_; rotate_left; (focus (intro w hSw; (have cc := hSw.2.1.cell 0); (simp only [List.getElem?_toArray, List.getElem?_cons_zero, List.getElem?_cons_succ] at cc); go_simp; (try with_reducible rfl))); (try (refine wpAnyL_norm (by simp only [Act.put, List.setIfInBounds_toArray, List.set_cons_zero, List.set_cons_succ]; rfl) ?_))
        refine wpAnyL_take (i := 22) (v := ?_) rfl (by kernel_rfl) (fun _ _ _ h => h) (Or.inl ⟨by rfl, ?_⟩) (by assumption) ?_; rotate_left; (focus (intro w hSw; skip; go_simp; (try with_reducible rfl))); (try (refine wpAnyL_norm (by simp only [Act.put, List.setIfInBounds_toArray, List.set_cons_zero, List.set_cons_succ]; rfl) ?_))
        refine wpAnyL_take (i := 23) (v := ?_) rfl (by kernel_rfl) (fun _ _ _ h => h) (Or.inl ⟨by rfl, ?_⟩) (by assumption) ?_; rotate_left; (focus (intro w hSw; skip; go_simp; (try with_reducible rfl))); (try (refine wpAnyL_norm (by simp only [Act.put, List.setIfInBounds_toArray, List.set_cons_zero, List.set_cons_succ]; rfl) ?_))
        refine wpAnyL_take (i := 24) (v := ?_) rfl (by kernel_rfl) (fun _ _ _ h => h) (Or.inl ⟨by rfl, ?_⟩) (by assumption) ?_; rotate_left; (focus (intro w hSw; (have cc := hSw.2.1.cell 1); (simp only [List.getElem?_toArray, List.getElem?_cons_zero, List.getElem?_cons_succ] at cc); go_simp; (try with_reducible rfl))); (try (refine wpAnyL_norm (by simp only [Act.put, List.setIfInBounds_toArray, List.set_cons_zero, List.set_cons_succ]; rfl) ?_))
        refine wpAnyL_take (i := 25) (v := ?_) rfl (by kernel_rfl) (fun _ _ _ h => h) (Or.inl ⟨by rfl, ?_⟩) (by assumption) ?_; rotate_left; (focus (intro w hSw; skip; go_simp; (try with_reducible rfl))); (try (refine wpAnyL_norm (by simp only [Act.put, List.setIfInBounds_toArray, List.set_cons_zero, List.set_cons_succ]; rfl) ?_))
        refine wpAnyL_take (i := 26) (v := ?_) rfl (by kernel_rfl) (fun _ _ _ h => h) (Or.inl ⟨by rfl, ?_⟩) (by assumption) ?_; rotate_left; (focus (intro w hSw; skip; go_simp; (try with_reducible rfl))); (try (refine wpAnyL_norm (by simp only [Act.put, List.setIfInBounds_toArray, List.set_cons_zero, List.set_cons_succ]; rfl) ?_))
        refine wpAnyL_take (i := 27) (v := ?_) rfl (by kernel_rfl) (fun _ _ _ h => h) (Or.inl ⟨by rfl, ?_⟩) (by assumption) ?_; rotate_left; (focus (intro w hSw; skip; go_simp; (try with_reducible rfl))); (try (refine wpAnyL_norm (by simp only [Act.put, List.setIfInBounds_toArray, List.set_cons_zero, List.set_cons_succ]; rfl) ?_))
        refine wpAnyL_take (i := 28) (v := ?_) rfl (by kernel_rfl) (fun _ _ _ h => h) (Or.inl ⟨by rfl, ?_⟩) (by assumption) ?_; rotate_left; (focus (intro w hSw; skip; go_simp; (try with_reducible rfl))); (try (refine wpAnyL_norm (by simp only [Act.put, List.setIfInBounds_toArray, List.set_cons_zero, List.set_cons_succ]; rfl) ?_))
        refine wpAnyL_take (i := 29) (v := ?_) rfl (by kernel_rfl) (fun _ _ _ h => h) (Or.inl ⟨by rfl, ?_⟩) (by assumption) ?_; rotate_left; (focus (intro w hSw; skip; go_simp; (try with_reducible rfl))); (try (refine wpAnyL_norm (by simp only [Act.put, List.setIfInBounds_toArray, List.set_cons_zero, List.set_cons_succ]; rfl) ?_))
        refine wpAnyL_take (i := 30) (v := ?_) rfl (by kernel_rfl) (fun _ _ _ h => h) (Or.inl ⟨by rfl, ?_⟩) (by assumption) ?_; rotate_left; (focus (intro w hSw; (have cc := hSw.2.2.cell 2); (simp only [List.getElem?_toArray, List.getElem?_cons_zero, List.getElem?_cons_succ] at cc); go_simp; (try with_reducible rfl))); (try (refine wpAnyL_norm (by simp only [Act.put, List.setIfInBounds_toArray, List.set_cons_zero, List.set_cons_succ]; rfl) ?_))
        refine wpAnyL_take (i := 31) (v := ?_) rfl (by kernel_rfl) (fun _ _ _ h => h) (Or.inl ⟨by rfl, ?_⟩) (by assumption) ?_; rotate_left; (focus (intro w hSw; skip; go_simp; (try with_reducible rfl))); (try (refine wpAnyL_norm (by simp only [Act.put, List.setIfInBounds_toArray, List.set_cons_zero, List.set_cons_succ]; rfl) ?_))
        refine wpAnyL_take (i := 32) (v := ?_) rfl (by kernel_rfl) (fun _ _ _ h => h) (Or.inl ⟨by rfl, ?_⟩) (by assumption) ?_; rotate_left; (focus (intro w hSw; skip; go_simp; (try with_reducible rfl))); (try (refine wpAnyL_norm (by simp only [Act.put, List.setIfInBounds_toArray, List.set_cons_zero, List.set_cons_succ]; rfl) ?_))
        refine wpAnyL_take (i := 33) (v := ?_) rfl (by kernel_rfl) (fun _ _ _ h => h) (Or.inl ⟨by rfl, ?_⟩) (by assumption) ?_; rotate_left; (focus (intro w hSw; skip; go_simp; (try with_reducible rfl))); (try (refine wpAnyL_norm (by simp only [Act.put, List.setIfInBounds_toArray, List.set_cons_zero, List.set_cons_succ]; rfl) ?_))
        refine wpAnyL_done (by kernel_rfl) ?_ _
        go_wp2_with fail
        go_ret
        exact ⟨rfl, hHeld.1⟩
    · have d2 : ((rs : Int) % 16 != 0) = true := by simp; omega
      clear k1 k2 hbad
      go_enter Tryz.func17, Tryz.ntmps17
      go_wp2_with fail
      refine wp_region_L (fun W => Fr [] w W ∧ At W w.heap.size 45 #[.int .u32 (ra : Int), .int .u32 (rs : Int)] ∧ At W y 119 #[.int .u64 (ep : Int), .bool un, .int .i64 (N : Int), wv, .pointer (some ⟨a, 0, none⟩), bv, .pointer (some ⟨a', 0, none⟩)]) [] (by kernel_rfl) ⟨F0.out.drew, A0.out.hp rfl, Y0.out.hp rfl⟩ (fun hHeld => ?_)
      refine wpAnyL_take (i := 0) (v := ?_) rfl (by kernel_rfl) (fun _ _ _ h => h) (Or.inl ⟨by rfl, ?_⟩) (by assumption) ?_; rotate_left; (focus (intro w hSw; skip; go_simp; (try with_reducible rfl))); (try (refine wpAnyL_norm (by simp only [Act.put, List.setIfInBounds_toArray, List.set_cons_zero, List.set_cons_succ]; rfl) ?_))
      refine wpAnyL_ready (rs := [1]) (by kernel_rfl) (by simp) ?_; refine AllReadyL.cons rfl (fun K hK => ?_) AllReadyL.nil
      go_simp
      refine (HN.out _ hHeld.1).mono ?_
      rintro e w' ⟨rfl, rfl⟩
      refine hK.out _ _ (fun _ => hHeld) (fun hHeld' => ?_); have hHeld := hHeld' (by decide); clear hHeld' hK K; (try (refine wpAnyL_norm (by simp only [Act.put, List.setIfInBounds_toArray, List.set_cons_zero, List.set_cons_succ]; rfl) ?_))
      refine wpAnyL_take (i := 2) (v := ?_) rfl (by kernel_rfl) (fun _ _ _ h => h) (Or.inl ⟨by rfl, ?_⟩) (by assumption) ?_; rotate_left; (focus (intro w hSw; skip; go_simp; (try with_reducible rfl))); (try (refine wpAnyL_norm (by simp only [Act.put, List.setIfInBounds_toArray, List.set_cons_zero, List.set_cons_succ]; rfl) ?_))
      refine wpAnyL_take (i := 3) (v := ?_) rfl (by kernel_rfl) (fun _ _ _ h => h) (Or.inl ⟨by rfl, ?_⟩) (by assumption) ?_; rotate_left; (focus (intro w hSw; skip; go_simp; (try with_reducible rfl))); (try (refine wpAnyL_norm (by simp only [Act.put, List.setIfInBounds_toArray, List.set_cons_zero, List.set_cons_succ]; rfl) ?_))
      refine wpAnyL_take (i := 4) (v := ?_) rfl (by kernel_rfl) (fun _ _ _ h => h) (Or.inl ⟨by rfl, ?_⟩) (by assumption) ?_; rotate_left; (focus (intro w hSw; (have cc := hSw.2.1.cell 0); (simp only [List.getElem?_toArray, List.getElem?_cons_zero, List.getElem?_cons_succ] at cc); go_simp; (try with_reducible rfl))); (try (refine wpAnyL_norm (by simp only [Act.put, List.setIfInBounds_toArray, List.set_cons_zero, List.set_cons_succ]; rfl) ?_))
      refine wpAnyL_take (i := 5) (v := ?_) rfl (by kernel_rfl) (fun _ _ _ h => h) (Or.inl ⟨by rfl, ?_⟩) (by assumption) ?_; rotate_left; (focus (intro w hSw; skip; go_simp; (try with_reducible rfl))); (try (refine wpAnyL_norm (by simp only [Act.put, List.setIfInBounds_toArray, List.set_cons_zero, List.set_cons_succ]; rfl) ?_))
      refine wpAnyL_take (i := 6) (v := ?_) rfl (by kernel_rfl) (fun _ _ _ h => h) (Or.inl ⟨by rfl, ?_⟩) (by assumption) ?_; rotate_left; (focus (intro w hSw; skip; go_simp; (try with_reducible rfl))); (try (refine wpAnyL_norm (by simp only [Act.put, List.setIfInBounds_toArray, List.set_cons_zero, List.set_cons_succ]; rfl) ?_))
      refine wpAnyL_take (i := 7) (v := ?_) rfl (by kernel_rfl) (fun _ _ _ h => h) (Or.inl ⟨by rfl, ?_⟩) (by assumption) ?_; rotate_left; (focus (intro w hSw; skip; go_simp; (try with_reducible rfl))); (try (refine wpAnyL_norm (by simp only [Act.put, List.setIfInBounds_toArray, List.set_cons_zero, List.set_cons_succ]; rfl) ?_))
      refine wpAnyL_take (i := 8) (v := ?_) rfl (by kernel_rfl) (fun _ _ _ h => h) (Or.inl ⟨by rfl, ?_⟩) (by assumption) ?_; rotate_left; (focus (intro w hSw; skip; go_simp; (try with_reducible rfl))); (try (refine wpAnyL_norm (by simp only [Act.put, List.setIfInBounds_toArray, List.set_cons_zero, List.set_cons_succ]; rfl) ?_))
      refine wpAnyL_take (i := 9) (v := ?_) rfl (by kernel_rfl) (fun _ _ _ h => h) (Or.inl ⟨by rfl, ?_⟩) (by assumption) ?_; rotate_left; (focus (intro w hSw; skip; go_simp; (try with_reducible rfl))); (try (refine wpAnyL_norm (by simp only [Act.put, List.setIfInBounds_toArray, List.set_cons_zero, List.set_cons_succ]; rfl) ?_))
      refine wpAnyL_take (i := 10) (v := ?_) rfl (by kernel_rfl) (fun _ _ _ h => h) (Or.inl ⟨by rfl, ?_⟩) (by assumption) ?_; rotate_left; (focus (intro w hSw; (have cc := hSw.2.1.cell 1); (simp only [List.getElem?_toArray, List.getElem?_cons_zero, List.getElem?_cons_succ] at cc); go_simp; (try with_reducible rfl))); (try (refine wpAnyL_norm (by simp only [Act.put, List.setIfInBounds_toArray, List.set_cons_zero, List.set_cons_succ]; rfl) ?_))
      refine wpAnyL_take (i := 11) (v := ?_) rfl (by kernel_rfl) (fun _ _ _ h => h) (Or.inl ⟨by rfl, ?_⟩) (by assumption) ?_; rotate_left; (focus (intro w hSw; skip; go_simp; (try with_reducible rfl))); (try (refine wpAnyL_norm (by simp only [Act.put, List.setIfInBounds_toArray, List.set_cons_zero, List.set_cons_succ]; rfl) ?_))
      refine wpAnyL_take (i := 12) (v := ?_) rfl (by kernel_rfl) (fun _ _ _ h => h) (Or.inl ⟨by rfl, ?_⟩) (by assumption) ?_; rotate_left; (focus (intro w hSw; skip; go_simp; (try with_reducible rfl))); (try (refine wpAnyL_norm (by simp only [Act.put, List.setIfInBounds_toArray, List.set_cons_zero, List.set_cons_succ]; rfl) ?_))
      refine wpAnyL_take (i := 13) (v := ?_) rfl (by kernel_rfl) (fun _ _ _ h => h) (Or.inl ⟨by rfl, ?_⟩) (by assumption) ?_; rotate_left; (focus (intro w hSw; skip; go_simp; (try with_reducible rfl))); (try (refine wpAnyL_norm (by simp only [Act.put, List.setIfInBounds_toArray, List.set_cons_zero, List.set_cons_succ]; rfl) ?_))
      refine wpAnyL_take (i := 14) (v := ?_) rfl (by kernel_rfl) (fun _ _ _ h => h) (Or.inl ⟨by rfl, ?_⟩) (by assumption) ?_; rotate_left; (focus (intro w hSw; skip; go_simp; (try with_reducible rfl))); (try (refine wpAnyL_norm (by simp only [Act.put, List.setIfInBounds_toArray, List.set_cons_zero, List.set_cons_succ]; rfl) ?_))
      refine wpAnyL_take (i := 15) (v := undef) rfl (by kernel_rfl) (fun _ _ _ h => h) (Or.inr ⟨by rfl, rfl⟩) (by assumption) ?_; (try (refine wpAnyL_norm (by simp only [Act.put, List.setIfInBounds_toArray, List.set_cons_zero, List.set_cons_succ]; rfl) ?_))
      refine wpAnyL_take (i := 16) (v := undef) rfl (by kernel_rfl) (fun _ _ _ h => h) (Or.inr ⟨by rfl, rfl⟩) (by assumption) ?_; (try (refine wpAnyL_norm (by simp only [Act.put, List.setIfInBounds_toArray, List.set_cons_zero, List.set_cons_succ]; rfl) ?_))
      refine wpAnyL_take (i := 17) (v := undef) rfl (by kernel_rfl) (fun _ _ _ h => h) (Or.inr ⟨by rfl, rfl⟩) (by assumption) ?_; (try (refine wpAnyL_norm (by simp only [Act.put, List.setIfInBounds_toArray, List.set_cons_zero, List.set_cons_succ]; rfl) ?_))
      refine wpAnyL_take (i := 18) (v := ?_) rfl (by kernel_rfl) (fun _ _ _ h => h) (Or.inl ⟨by rfl, ?_⟩) (by assumption) ?_; rotate_left; (focus (intro w hSw; skip; go_simp; (try with_reducible rfl))); (try (refine wpAnyL_norm (by simp only [Act.put, List.setIfInBounds_toArray, List.set_cons_zero, List.set_cons_succ]; rfl) ?_))
      refine wpAnyL_take (i := 19) (v := ?_) rfl (by kernel_rfl) (fun _ _ _ h => h) (Or.inl ⟨by rfl, ?_⟩) (by assumption) ?_; rotate_left; (focus (intro w hSw; skip; go_simp; (try with_reducible rfl))); (try (refine wpAnyL_norm (by simp only [Act.put, List.setIfInBounds_toArray, List.set_cons_zero, List.set_cons_succ]; rfl) ?_))
      refine wpAnyL_take (i := 20) (v := undef) rfl (by kernel_rfl) (fun _ _ _ h => h) (Or.inr ⟨by rfl, rfl⟩) (by assumption) ?_; (try (refine wpAnyL_norm (by simp only [Act.put, List.setIfInBounds_toArray, List.set_cons_zero, List.set_cons_succ]; rfl) ?_))
      refine wpAnyL_take (i := 21) (v := undef) rfl (by kernel_rfl) (fun _ _ _ h => h) (Or.inr ⟨by rfl, rfl⟩) (by assumption) ?_; (try (refine wpAnyL_norm (by simp only [Act.put, List.setIfInBounds_toArray, List.set_cons_zero, List.set_cons_succ]; rfl) ?_))
      refine wpAnyL_take (i := 22) (v := undef) rfl (by kernel_rfl) (fun _ _ _ h => h) (Or.inr ⟨by rfl, rfl⟩) (by assumption) ?_; (try (refine wpAnyL_norm (by simp only [Act.put, List.setIfInBounds_toArray, List.set_cons_zero, List.set_cons_succ]; rfl) ?_))
      refine wpAnyL_take (i := 23) (v := undef) rfl (by kernel_rfl) (fun _ _ _ h => h) (Or.inr ⟨by rfl, rfl⟩) (by assumption) ?_; (try (refine wpAnyL_norm (by simp only [Act.put, List.setIfInBounds_toArray, List.set_cons_zero, List.set_cons_succ]; rfl) ?_))
      refine wpAnyL_take (i := 24) (v := undef) rfl (by kernel_rfl) (fun _ _ _ h => h) (Or.inr ⟨by rfl, rfl⟩) (by assumption) ?_; (try (refine wpAnyL_norm (by simp only [Act.put, List.setIfInBounds_toArray, List.set_cons_zero, List.set_cons_succ]; rfl) ?_))
      refine wpAnyL_take (i := 25) (v := undef) rfl (by kernel_rfl) (fun _ _ _ h => h) (Or.inr ⟨by rfl, rfl⟩) (by assumption) ?_; (try (refine wpAnyL_norm (by simp only [Act.put, List.setIfInBounds_toArray, List.set_cons_zero, List.set_cons_succ]; rfl) ?_))
      refine wpAnyL_take (i := 26) (v := undef) rfl (by kernel_rfl) (fun _ _ _ h => h) (Or.inr ⟨by rfl, rfl⟩) (by assumption) ?_; (try (refine wpAnyL_norm (by simp only [Act.put, List.setIfInBounds_toArray, List.set_cons_zero, List.set_cons_succ]; rfl) ?_))
      refine wpAnyL_take (i := 27) (v := undef) rfl (by kernel_rfl) (fun _ _ _ h => h) (Or.inr ⟨by rfl, rfl⟩) (by assumption) ?_; (try (refine wpAnyL_norm (by simp only [Act.put, List.setIfInBounds_toArray, List.set_cons_zero, List.set_cons_succ]; rfl) ?_))
      refine wpAnyL_take (i := 28) (v := undef) rfl (by kernel_rfl) (fun _ _ _ h => h) (Or.inr ⟨by rfl, rfl⟩) (by assumption) ?_; (try (refine wpAnyL_norm (by simp only [Act.put, List.setIfInBounds_toArray, List.set_cons_zero, List.set_cons_succ]; rfl) ?_))
      refine wpAnyL_take (i := 29) (v := undef) rfl (by kernel_rfl) (fun _ _ _ h => h) (Or.inr ⟨by rfl, rfl⟩) (by assumption) ?_; (try (refine wpAnyL_norm (by simp only [Act.put, List.setIfInBounds_toArray, List.set_cons_zero, List.set_cons_succ]; rfl) ?_))
      refine wpAnyL_take (i := 30) (v := undef) rfl (by kernel_rfl) (fun _ _ _ h => h) (Or.inr ⟨by rfl, rfl⟩) (by assumption) ?_; (try (refine wpAnyL_norm (by simp only [Act.put, List.setIfInBounds_toArray, List.set_cons_zero, List.set_cons_succ]; rfl) ?_))
      refine wpAnyL_take (i := 31) (v := undef) rfl (by kernel_rfl) (fun _ _ _ h => h) (Or.inr ⟨by rfl, rfl⟩) (by assumption) ?_; (try (refine wpAnyL_norm (by simp only [Act.put, List.setIfInBounds_toArray, List.set_cons_zero, List.set_cons_succ]; rfl) ?_))
      refine wpAnyL_take (i := 32) (v := undef) rfl (by kernel_rfl) (fun _ _ _ h => h) (Or.inr ⟨by rfl, rfl⟩) (by assumption) ?_; (try (refine wpAnyL_norm (by simp only [Act.put, List.setIfInBounds_toArray, List.set_cons_zero, List.set_cons_succ]; rfl) ?_))
      refine wpAnyL_take (i := 33) (v := ?_) rfl (by kernel_rfl) (fun _ _ _ h => h) (Or.inl ⟨by rfl, ?_⟩) (by assumption) ?_; rotate_left; (focus (intro w hSw; skip; go_simp; (try with_reducible rfl))); (try (refine wpAnyL_norm (by simp only [Act.put, List.setIfInBounds_toArray, List.set_cons_zero, List.set_cons_succ]; rfl) ?_))
      refine wpAnyL_done (by kernel_rfl) ?_ _
      go_wp2_with fail
      go_ret
      exact ⟨rfl, hHeld.1⟩
  · have d1 : ((ra : Int) % 16 != 0) = true := by simp; omega
    clear k1 hbad
    go_enter Tryz.func17, Tryz.ntmps17
    go_wp2_with fail
    refine wp_region_L (fun W => Fr [] w W ∧ At W w.heap.size 45 #[.int .u32 (ra : Int), .int .u32 (rs : Int)] ∧ At W y 119 #[.int .u64 (ep : Int), .bool un, .int .i64 (N : Int), wv, .pointer (some ⟨a, 0, none⟩), bv, .pointer (some ⟨a', 0, none⟩)]) [] (by kernel_rfl) ⟨F0.out.drew, A0.out.hp rfl, Y0.out.hp rfl⟩ (fun hHeld => ?_)
    refine wpAnyL_take (i := 0) (v := ?_) rfl (by kernel_rfl) (fun _ _ _ h => h) (Or.inl ⟨by rfl, ?_⟩) (by assumption) ?_; rotate_left; (focus (intro w hSw; skip; go_simp; (try with_reducible rfl))); (try (refine wpAnyL_norm (by simp only [Act.put, List.setIfInBounds_toArray, List.set_cons_zero, List.set_cons_succ]; rfl) ?_))
    refine wpAnyL_ready (rs := [1]) (by kernel_rfl) (by simp) ?_; refine AllReadyL.cons rfl (fun K hK => ?_) AllReadyL.nil
    go_simp
    refine (HN.out _ hHeld.1).mono ?_
    rintro e w' ⟨rfl, rfl⟩
    refine hK.out _ _ (fun _ => hHeld) (fun hHeld' => ?_); have hHeld := hHeld' (by decide); clear hHeld' hK K; (try (refine wpAnyL_norm (by simp only [Act.put, List.setIfInBounds_toArray, List.set_cons_zero, List.set_cons_succ]; rfl) ?_))
    refine wpAnyL_take (i := 2) (v := ?_) rfl (by kernel_rfl) (fun _ _ _ h => h) (Or.inl ⟨by rfl, ?_⟩) (by assumption) ?_; rotate_left; (focus (intro w hSw; skip; go_simp; (try with_reducible rfl))); (try (refine wpAnyL_norm (by simp only [Act.put, List.setIfInBounds_toArray, List.set_cons_zero, List.set_cons_succ]; rfl) ?_))
    refine wpAnyL_take (i := 3) (v := ?_) rfl (by kernel_rfl) (fun _ _ _ h => h) (Or.inl ⟨by rfl, ?_⟩) (by assumption) ?_; rotate_left; (focus (intro w hSw; skip; go_simp; (try with_reducible rfl))); (try (refine wpAnyL_norm (by simp only [Act.put, List.setIfInBounds_toArray, List.set_cons_zero, List.set_cons_succ]; rfl) ?_))
    refine wpAnyL_take (i := 4) (v := ?_) rfl (by kernel_rfl) (fun _ _ _ h => h) (Or.inl ⟨by rfl, ?_⟩) (by assumption) ?_; rotate_left; (focus (intro w hSw; (have cc := hSw.2.1.cell 0); (simp only [List.getElem?_toArray, List.getElem?_cons_zero, List.getElem?_cons_succ] at cc); go_simp; (try with_reducible rfl))); (try (refine wpAnyL_norm (by simp only [Act.put, List.setIfInBounds_toArray, List.set_cons_zero, List.set_cons_succ]; rfl) ?_))
    refine wpAnyL_take (i := 5) (v := ?_) rfl (by kernel_rfl) (fun _ _ _ h => h) (Or.inl ⟨by rfl, ?_⟩) (by assumption) ?_; rotate_left; (focus (intro w hSw; skip; go_simp; (try with_reducible rfl))); (try (refine wpAnyL_norm (by simp only [Act.put, List.setIfInBounds_toArray, List.set_cons_zero, List.set_cons_succ]; rfl) ?_))
    refine wpAnyL_take (i := 6) (v := ?_) rfl (by kernel_rfl) (fun _ _ _ h => h) (Or.inl ⟨by rfl, ?_⟩) (by assumption) ?_; rotate_left; (focus (intro w hSw; skip; go_simp; (try with_reducible rfl))); (try (refine wpAnyL_norm (by simp only [Act.put, List.setIfInBounds_toArray, List.set_cons_zero, List.set_cons_succ]; rfl) ?_))
    refine wpAnyL_take (i := 7) (v := ?_) rfl (by kernel_rfl) (fun _ _ _ h => h) (Or.inl ⟨by rfl, ?_⟩) (by assumption) ?_; rotate_left; (focus (intro w hSw; skip; go_simp; (try with_reducible rfl))); (try (refine wpAnyL_norm (by simp only [Act.put, List.setIfInBounds_toArray, List.set_cons_zero, List.set_cons_succ]; rfl) ?_))
    refine wpAnyL_take (i := 8) (v := ?_) rfl (by kernel_rfl) (fun _ _ _ h => h) (Or.inl ⟨by rfl, ?_⟩) (by assumption) ?_; rotate_left; (focus (intro w hSw; skip; go_simp; (try with_reducible rfl))); (try (refine wpAnyL_norm (by simp only [Act.put, List.setIfInBounds_toArray, List.set_cons_zero, List.set_cons_succ]; rfl) ?_))
    refine wpAnyL_take (i := 9) (v := undef) rfl (by kernel_rfl) (fun _ _ _ h => h) (Or.inr ⟨by rfl, rfl⟩) (by assumption) ?_; (try (refine wpAnyL_norm (by simp only [Act.put, List.setIfInBounds_toArray, List.set_cons_zero, List.set_cons_succ]; rfl) ?_))
    refine wpAnyL_take (i := 10) (v := undef) rfl (by kernel_rfl) (fun _ _ _ h => h) (Or.inr ⟨by rfl, rfl⟩) (by assumption) ?_; (try (refine wpAnyL_norm (by simp only [Act.put, List.setIfInBounds_toArray, List.set_cons_zero, List.set_cons_succ]; rfl) ?_))
    refine wpAnyL_take (i := 11) (v := undef) rfl (by kernel_rfl) (fun _ _ _ h => h) (Or.inr ⟨by rfl, rfl⟩) (by assumption) ?_; (try (refine wpAnyL_norm (by simp only [Act.put, List.setIfInBounds_toArray, List.set_cons_zero, List.set_cons_succ]; rfl) ?_))
    refine wpAnyL_take (i := 12) (v := undef) rfl (by kernel_rfl) (fun _ _ _ h => h) (Or.inr ⟨by rfl, rfl⟩) (by assumption) ?_; (try (refine wpAnyL_norm (by simp only [Act.put, List.setIfInBounds_toArray, List.set_cons_zero, List.set_cons_succ]; rfl) ?_))
    refine wpAnyL_take (i := 13) (v := ?_) rfl (by kernel_rfl) (fun _ _ _ h => h) (Or.inl ⟨by rfl, ?_⟩) (by assumption) ?_; rotate_left; (focus (intro w hSw; skip; go_simp; (try with_reducible rfl))); (try (refine wpAnyL_norm (by simp only [Act.put, List.setIfInBounds_toArray, List.set_cons_zero, List.set_cons_succ]; rfl) ?_))
    refine wpAnyL_take (i := 14) (v := ?_) rfl (by kernel_rfl) (fun _ _ _ h => h) (Or.inl ⟨by rfl, ?_⟩) (by assumption) ?_; rotate_left; (focus (intro w hSw; skip; go_simp; (try with_reducible rfl))); (try (refine wpAnyL_norm (by simp only [Act.put, List.setIfInBounds_toArray, List.set_cons_zero, List.set_cons_succ]; rfl) ?_))
    refine wpAnyL_take (i := 15) (v := undef) rfl (by kernel_rfl) (fun _ _ _ h => h) (Or.inr ⟨by rfl, rfl⟩) (by assumption) ?_; (try (refine wpAnyL_norm (by simp only [Act.put, List.setIfInBounds_toArray, List.set_cons_zero, List.set_cons_succ]; rfl) ?_))
    refine wpAnyL_take (i := 16) (v := undef) rfl (by kernel_rfl) (fun _ _ _ h => h) (Or.inr ⟨by rfl, rfl⟩) (by assumption) ?_; (try (refine wpAnyL_norm (by simp only [Act.put, List.setIfInBounds_toArray, List.set_cons_zero, List.set_cons_succ]; rfl) ?_))
    refine wpAnyL_take (i := 17) (v := undef) rfl (by kernel_rfl) (fun _ _ _ h => h) (Or.inr ⟨by rfl, rfl⟩) (by assumption) ?_; (try (refine wpAnyL_norm (by simp only [Act.put, List.setIfInBounds_toArray, List.set_cons_zero, List.set_cons_succ]; rfl) ?_))
    refine wpAnyL_take (i := 18) (v := ?_) rfl (by kernel_rfl) (fun _ _ _ h => h) (Or.inl ⟨by rfl, ?_⟩) (by assumption) ?_; rotate_left; (focus (intro w hSw; skip; go_simp; (try with_reducible rfl))); (try (refine wpAnyL_norm (by simp only [Act.put, List.setIfInBounds_toArray, List.set_cons_zero, List.set_cons_succ]; rfl) ?_))
    refine wpAnyL_take (i := 19) (v := ?_) rfl (by kernel_rfl) (fun _ _ _ h => h) (Or.inl ⟨by rfl, ?_⟩) (by assumption) ?_; rotate_left; (focus (intro w hSw; skip; go_simp; (try with_reducible rfl))); (try (refine wpAnyL_norm (by simp only [Act.put, List.setIfInBounds_toArray, List.set_cons_zero, List.set_cons_succ]; rfl) ?_))
    refine wpAnyL_take (i := 20) (v := undef) rfl (by kernel_rfl) (fun _ _ _ h => h) (Or.inr ⟨by rfl, rfl⟩) (by assumption) ?_; (try (refine wpAnyL_norm (by simp only [Act.put, List.setIfInBounds_toArray, List.set_cons_zero, List.set_cons_succ]; rfl) ?_))
    refine wpAnyL_take (i := 21) (v := undef) rfl (by kernel_rfl) (fun _ _ _ h => h) (Or.inr ⟨by rfl, rfl⟩) (by assumption) ?_; (try (refine wpAnyL_norm (by simp only [Act.put, List.setIfInBounds_toArray, List.set_cons_zero, List.set_cons_succ]; rfl) ?_))
    refine wpAnyL_take (i := 22) (v := undef) rfl (by kernel_rfl) (fun _ _ _ h => h) (Or.inr ⟨by rfl, rfl⟩) (by assumption) ?_; (try (refine wpAnyL_norm (by simp only [Act.put, List.setIfInBounds_toArray, List.set_cons_zero, List.set_cons_succ]; rfl) ?_))
    refine wpAnyL_take (i := 23) (v := undef) rfl (by kernel_rfl) (fun _ _ _ h => h) (Or.inr ⟨by rfl, rfl⟩) (by assumption) ?_; (try (refine wpAnyL_norm (by simp only [Act.put, List.setIfInBounds_toArray, List.set_cons_zero, List.set_cons_succ]; rfl) ?_))
    refine wpAnyL_take (i := 24) (v := undef) rfl (by kernel_rfl) (fun _ _ _ h => h) (Or.inr ⟨by rfl, rfl⟩) (by assumption) ?_; (try (refine wpAnyL_norm (by simp only [Act.put, List.setIfInBounds_toArray, List.set_cons_zero, List.set_cons_succ]; rfl) ?_))
    refine wpAnyL_take (i := 25) (v := undef) rfl (by kernel_rfl) (fun _ _ _ h => h) (Or.inr ⟨by rfl, rfl⟩) (by assumption) ?_; (try (refine wpAnyL_norm (by simp only [Act.put, List.setIfInBounds_toArray, List.set_cons_zero, List.set_cons_succ]; rfl) ?_))
    refine wpAnyL_take (i := 26) (v := undef) rfl (by kernel_rfl) (fun _ _ _ h => h) (Or.inr ⟨by rfl, rfl⟩) (by assumption) ?_; (try (refine wpAnyL_norm (by simp only [Act.put, List.setIfInBounds_toArray, List.set_cons_zero, List.set_cons_succ]; rfl) ?_))
    refine wpAnyL_take (i := 27) (v := undef) rfl (by kernel_rfl) (fun _ _ _ h => h) (Or.inr ⟨by rfl, rfl⟩) (by assumption) ?_; (try (refine wpAnyL_norm (by simp only [Act.put, List.setIfInBounds_toArray, List.set_cons_zero, List.set_cons_succ]; rfl) ?_))
    refine wpAnyL_take (i := 28) (v := undef) rfl (by kernel_rfl) (fun _ _ _ h => h) (Or.inr ⟨by rfl, rfl⟩) (by assumption) ?_; (try (refine wpAnyL_norm (by simp only [Act.put, List.setIfInBounds_toArray, List.set_cons_zero, List.set_cons_succ]; rfl) ?_))
    refine wpAnyL_take (i := 29) (v := undef) rfl (by kernel_rfl) (fun _ _ _ h => h) (Or.inr ⟨by rfl, rfl⟩) (by assumption) ?_; (try (refine wpAnyL_norm (by simp only [Act.put, List.setIfInBounds_toArray, List.set_cons_zero, List.set_cons_succ]; rfl) ?_))
    refine wpAnyL_take (i := 30) (v := undef) rfl (by kernel_rfl) (fun _ _ _ h => h) (Or.inr ⟨by rfl, rfl⟩) (by assumption) ?_; (try (refine wpAnyL_norm (by simp only [Act.put, List.setIfInBounds_toArray, List.set_cons_zero, List.set_cons_succ]; rfl) ?_))
    refine wpAnyL_take (i := 31) (v := undef) rfl (by kernel_rfl) (fun _ _ _ h => h) (Or.inr ⟨by rfl, rfl⟩) (by assumption) ?_; (try (refine wpAnyL_norm (by simp only [Act.put, List.setIfInBounds_toArray, List.set_cons_zero, List.set_cons_succ]; rfl) ?_))
    refine wpAnyL_take (i := 32) (v := undef) rfl (by kernel_rfl) (fun _ _ _ h => h) (Or.inr ⟨by rfl, rfl⟩) (by assumption) ?_; (try (refine wpAnyL_norm (by simp only [Act.put, List.setIfInBounds_toArray, List.set_cons_zero, List.set_cons_succ]; rfl) ?_))
    refine wpAnyL_take (i := 33) (v := ?_) rfl (by kernel_rfl) (fun _ _ _ h => h) (Or.inl ⟨by rfl, ?_⟩) (by assumption) ?_; rotate_left; (focus (intro w hSw; skip; go_simp; (try with_reducible rfl))); (try (refine wpAnyL_norm (by simp only [Act.put, List.setIfInBounds_toArray, List.set_cons_zero, List.set_cons_succ]; rfl) ?_))
    refine wpAnyL_done (by kernel_rfl) ?_ _
    go_wp2_with fail
    go_ret
    exact ⟨rfl, hHeld.1⟩
theorem two_at {W : World} {g : Nat} {t : TypeId} {cs : Array Value} (h : At W g t cs) (k : Nat) (a b : Value) (h0 : cs[k]? = some a) (h1 : cs[k + 1]? = some b) : ∀ j v, [a, b][j]? = some v → W.cell? ((⟨g, k, none⟩ : Addr).add j) = some v := fun j v hv => by
  rw [Go.WideShapes.add_plain, h.cell]
  match j, hv with
  | 0, hv => rw [Nat.add_zero, h0]; exact hv
  | 1, hv => rw [h1]; exact hv
set_option maxHeartbeats 2000000 in
set_option maxRecDepth 100000 in
theorem qfree_hit (w : World) (s : YS) (h : Yd w s) (A R : Nat) (hR : 1 ≤ R) (hn : A + R ≤ s.n) (ht : (tch (cov s.lw) A R || tch (cov s.lb) A R) = true) :
    Calls Tryz.prog 17 #[.pointer (some ⟨s.y, 0, none⟩), .agg #[.int .u32 (16 * A : Nat), .int .u32 (16 * R : Nat)]] w fun r w' => r = .returned (.bool false) ∧ Fr [] w w' := by
  have HLI := Lib.hid (show (Tryz.prog.info? 117).map (·.size) = some 2 by kernel_rfl)
  have HT1 := Lib.hid fun (W : World) (hW : Fr [] w W) => touched_any W s.wv s.a s.b s.c s.n s.lw (h.wt.fr0 hW) A R hn
  have HT2 := Lib.hid fun (W : World) (hW : Fr [] w W) => touched_any W s.bv s.a' s.b' s.c' s.n s.lb (h.bt.fr0 hW) A R hn
  obtain ⟨T1, hT1⟩ : ∃ T, tch (cov s.lw) A R = T := ⟨_, rfl⟩
  obtain ⟨T2, hT2⟩ : ∃ T, tch (cov s.lb) A R = T := ⟨_, rfl⟩
  rw [hT1] at HT1 ht
  rw [hT2] at HT2 ht
  have HTE1 := Lib.hid hT1
  clear hT1 hT2
  obtain ⟨ra, hra⟩ : ∃ x, 16 * A = x := ⟨_, rfl⟩
  obtain ⟨rs, hrs⟩ : ∃ x, 16 * R = x := ⟨_, rfl⟩
  rw [hra, hrs] at HT1 HT2 ⊢
  have hr1 := h.wt.pt.2.2.2.2
  have HRA := Lib.hid hra
  have HRS := Lib.hid hrs
  have hrb : ra % 16 = 0 ∧ rs % 16 = 0 ∧ 0 < rs ∧ ra + rs ≤ 16 * s.n := by omega
  obtain ⟨g1, g2, g3, g4⟩ := hrb
  have d1 : ((ra : Int) % 16 != 0) = false := by simp; omega
  have d2 : ((rs : Int) % 16 != 0) = false := by simp; omega
  have d3 : ((rs : Int) == 0) = false := by simp; omega
  clear hra hrs
  have hup := h.up
  have HN := Lib.hid fun (W : World) (hW : Fr [] w W) => qnone_any (h.fr0 hW)
  have hn2 := h.wt.pt.2.2.2.2
  have H := Lib.hid h
  obtain ⟨y, n, ep, un, wv, a, b, c, lw, bv, a', b', c', lb⟩ := s
  dsimp only at *
  have Y0 := Lib.hid (h.at_.old (.cells #[.int .u32 (ra : Int), .int .u32 (rs : Int)] 45))
  have A0 := Lib.hid (At.new w 45 #[.int .u32 (ra : Int), .int .u32 (rs : Int)])
  have F0 := Lib.hid (show Fr [] w (w.alloc (.cells #[.int .u32 (ra : Int), .int .u32 (rs : Int)] 45)) from (by repeat (first | exact Fr.refl _ _ | assumption | refine Fr.trans0 ?_ (by assumption) | refine Fr.drewN ?_ _ | refine Fr.alloc ?_ _ | refine Fr.drew ?_)))
  unfold YS.cells at Y0
  dsimp only at Y0
  have v1 : IntKind.u64.wrap (ra : Int) = ra := by simp [IntKind.wrap, IntKind.signed, IntKind.bits]; omega
  have v2 : IntKind.u64.wrap (rs : Int) = rs := by simp [IntKind.wrap, IntKind.signed, IntKind.bits]; omega
  have v3 : IntKind.u64.wrap ((ra : Int) + (rs : Int)) = (ra : Int) + rs := by simp [IntKind.wrap, IntKind.signed, IntKind.bits]; omega
  have m1 : (ra : Int).tmod 16 = (ra : Int) % 16 := Int.tmod_eq_emod_of_nonneg (by omega)
  have m2 : (rs : Int).tmod 16 = (rs : Int) % 16 := Int.tmod_eq_emod_of_nonneg (by omega)
  obtain ⟨N, hNN⟩ : ∃ N, 16 * n = N := ⟨_, rfl⟩
  have v4 : IntKind.u64.wrap (N : Int) = (N : Int) := by simp [IntKind.wrap, IntKind.signed, IntKind.bits]; omega
  rw [hNN] at Y0
  have HNN := Lib.hid hNN
  clear h hup
  have d4 : ¬ ((N : Int) < (ra : Int) + (rs : Int)) := by omega
  have d5 : decide ((N : Int) < (ra : Int) + (rs : Int)) = false := by simp; omega
  go_enter Tryz.func17, Tryz.ntmps17
  go_wp2_with fail
  refine wp_region_L (fun W => Fr [] w W ∧ At W w.heap.size 45 #[.int .u32 (ra : Int), .int .u32 (rs : Int)] ∧ At W y 119 #[.int .u64 (ep : Int), .bool un, .int .i64 (N : Int), wv, .pointer (some ⟨a, 0, none⟩), bv, .pointer (some ⟨a', 0, none⟩)]) [] (by kernel_rfl) ⟨F0.out.drew, A0.out.hp rfl, Y0.out.hp rfl⟩ (fun hHeld => ?_)
  refine wpAnyL_take (i := 0) (v := ?_) rfl (by kernel_rfl) (fun _ _ _ h => h) (Or.inl ⟨by rfl, ?_⟩) (by assumption) ?_; rotate_left; (focus (intro w hSw; skip; go_simp; (try with_reducible rfl))); (try (refine wpAnyL_norm (by simp only [Act.put, List.setIfInBounds_toArray, List.set_cons_zero, List.set_cons_succ]; rfl) ?_))
  refine wpAnyL_ready (rs := [1]) (by kernel_rfl) (by simp) ?_; refine AllReadyL.cons rfl (fun K hK => ?_) AllReadyL.nil
  go_simp
  refine (HN.out _ hHeld.1).mono ?_
  rintro e w' ⟨rfl, rfl⟩
  refine hK.out _ _ (fun _ => hHeld) (fun hHeld' => ?_); have hHeld := hHeld' (by decide); clear hHeld' hK K; (try (refine wpAnyL_norm (by simp only [Act.put, List.setIfInBounds_toArray, List.set_cons_zero, List.set_cons_succ]; rfl) ?_))
  refine wpAnyL_take (i := 2) (v := ?_) rfl (by kernel_rfl) (fun _ _ _ h => h) (Or.inl ⟨by rfl, ?_⟩) (by assumption) ?_; rotate_left; (focus (intro w hSw; skip; go_simp; (try with_reducible rfl))); (try (refine wpAnyL_norm (by simp only [Act.put, List.setIfInBounds_toArray, List.set_cons_zero, List.set_cons_succ]; rfl) ?_))
  refine wpAnyL_take (i := 3) (v := ?_) rfl (by kernel_rfl) (fun _ _ _ h => h) (Or.inl ⟨by rfl, ?_⟩) (by assumption) ?_; rotate_left; (focus (intro w hSw; skip; go_simp; (try with_reducible rfl))); (try (refine wpAnyL_norm (by simp only [Act.put, List.setIfInBounds_toArray, List.set_cons_zero, List.set_cons_succ]; rfl) ?_))
  refine wpAnyL_take (i := 4) (v := ?_) rfl (by kernel_rfl) (fun _ _ _ h => h) (Or.inl ⟨by rfl, ?_⟩) (by assumption) ?_; rotate_left; (focus (intro w hSw; (have cc := hSw.2.1.cell 0); (simp only [List.getElem?_toArray, List.getElem?_cons_zero, List.getElem?_cons_succ] at cc); go_simp; (try with_reducible rfl))); (try (refine wpAnyL_norm (by simp only [Act.put, List.setIfInBounds_toArray, List.set_cons_zero, List.set_cons_succ]; rfl) ?_))
  refine wpAnyL_take (i := 5) (v := ?_) rfl (by kernel_rfl) (fun _ _ _ h => h) (Or.inl ⟨by rfl, ?_⟩) (by assumption) ?_; rotate_left; (focus (intro w hSw; skip; go_simp; (try with_reducible rfl))); (try (refine wpAnyL_norm (by simp only [Act.put, List.setIfInBounds_toArray, List.set_cons_zero, List.set_cons_succ]; rfl) ?_))
  refine wpAnyL_take (i := 6) (v := ?_) rfl (by kernel_rfl) (fun _ _ _ h => h) (Or.inl ⟨by rfl, ?_⟩) (by assumption) ?_; rotate_left; (focus (intro w hSw; skip; go_simp; (try with_reducible rfl))); (try (refine wpAnyL_norm (by simp only [Act.put, List.setIfInBounds_toArray, List.set_cons_zero, List.set_cons_succ]; rfl) ?_))
  refine wpAnyL_take (i := 7) (v := ?_) rfl (by kernel_rfl) (fun _ _ _ h => h) (Or.inl ⟨by rfl, ?_⟩) (by assumption) ?_; rotate_left; (focus (intro w hSw; skip; go_simp; (try with_reducible rfl))); (try (refine wpAnyL_norm (by simp only [Act.put, List.setIfInBounds_toArray, List.set_cons_zero, List.set_cons_succ]; rfl) ?_))
  refine wpAnyL_take (i := 8) (v := ?_) rfl (by kernel_rfl) (fun _ _ _ h => h) (Or.inl ⟨by rfl, ?_⟩) (by assumption) ?_; rotate_left; (focus (intro w hSw; skip; go_simp; (try with_reducible rfl))); (try (refine wpAnyL_norm (by simp only [Act.put, List.setIfInBounds_toArray, List.set_cons_zero, List.set_cons_succ]; rfl) ?_))
  refine wpAnyL_take (i := 9) (v := ?_) rfl (by kernel_rfl) (fun _ _ _ h => h) (Or.inl ⟨by rfl, ?_⟩) (by assumption) ?_; rotate_left; (focus (intro w hSw; skip; go_simp; (try with_reducible rfl))); (try (refine wpAnyL_norm (by simp only [Act.put, List.setIfInBounds_toArray, List.set_cons_zero, List.set_cons_succ]; rfl) ?_))
  refine wpAnyL_take (i := 10) (v := ?_) rfl (by kernel_rfl) (fun _ _ _ h => h) (Or.inl ⟨by rfl, ?_⟩) (by assumption) ?_; rotate_left; (focus (intro w hSw; (have cc := hSw.2.1.cell 1); (simp only [List.getElem?_toArray, List.getElem?_cons_zero, List.getElem?_cons_succ] at cc); go_simp; (try with_reducible rfl))); (try (refine wpAnyL_norm (by simp only [Act.put, List.setIfInBounds_toArray, List.set_cons_zero, List.set_cons_succ]; rfl) ?_))
  refine wpAnyL_take (i := 11) (v := ?_) rfl (by kernel_rfl) (fun _ _ _ h => h) (Or.inl ⟨by rfl, ?_⟩) (by assumption) ?_; rotate_left; (focus (intro w hSw; skip; go_simp; (try with_reducible rfl))); (try (refine wpAnyL_norm (by simp only [Act.put, List.setIfInBounds_toArray, List.set_cons_zero, List.set_cons_succ]; rfl) ?_))
  refine wpAnyL_take (i := 12) (v := ?_) rfl (by kernel_rfl) (fun _ _ _ h => h) (Or.inl ⟨by rfl, ?_⟩) (by assumption) ?_; rotate_left; (focus (intro w hSw; skip; go_simp; (try with_reducible rfl))); (try (refine wpAnyL_norm (by simp only [Act.put, List.setIfInBounds_toArray, List.set_cons_zero, List.set_cons_succ]; rfl) ?_))
  refine wpAnyL_take (i := 13) (v := ?_) rfl (by kernel_rfl) (fun _ _ _ h => h) (Or.inl ⟨by rfl, ?_⟩) (by assumption) ?_; rotate_left; (focus (intro w hSw; skip; go_simp; (try with_reducible rfl))); (try (refine wpAnyL_norm (by simp only [Act.put, List.setIfInBounds_toArray, List.set_cons_zero, List.set_cons_succ]; rfl) ?_))
  refine wpAnyL_take (i := 14) (v := ?_) rfl (by kernel_rfl) (fun _ _ _ h => h) (Or.inl ⟨by rfl, ?_⟩) (by assumption) ?_; rotate_left; (focus (intro w hSw; skip; go_simp; (try with_reducible rfl))); (try (refine wpAnyL_norm (by simp only [Act.put, List.setIfInBounds_toArray, List.set_cons_zero, List.set_cons_succ]; rfl) ?_))
  refine wpAnyL_take (i := 15) (v := ?_) rfl (by kernel_rfl) (fun _ _ _ h => h) (Or.inl ⟨by rfl, ?_⟩) (by assumption) ?_; rotate_left; (focus (intro w hSw; skip; go_simp; (try with_reducible rfl))); (try (refine wpAnyL_norm (by simp only [Act.put, List.setIfInBounds_toArray, List.set_cons_zero, List.set_cons_succ]; rfl) ?_))
  refine wpAnyL_take (i := 16) (v := ?_) rfl (by kernel_rfl) (fun _ _ _ h => h) (Or.inl ⟨by rfl, ?_⟩) (by assumption) ?_; rotate_left; (focus (intro w hSw; (have cc := hSw.2.1.cell 1); (simp only [List.getElem?_toArray, List.getElem?_cons_zero, List.getElem?_cons_succ] at cc); go_simp; (try with_reducible rfl))); (try (refine wpAnyL_norm (by simp only [Act.put, List.setIfInBounds_toArray, List.set_cons_zero, List.set_cons_succ]; rfl) ?_))
  refine wpAnyL_take (i := 17) (v := ?_) rfl (by kernel_rfl) (fun _ _ _ h => h) (Or.inl ⟨by rfl, ?_⟩) (by assumption) ?_; rotate_left; (focus (intro w hSw; skip; go_simp; (try with_reducible rfl))); (try (refine wpAnyL_norm (by simp only [Act.put, List.setIfInBounds_toArray, List.set_cons_zero, List.set_cons_succ]; rfl) ?_))
  refine wpAnyL_take (i := 18) (v := ?_) rfl (by kernel_rfl) (fun _ _ _ h => h) (Or.inl ⟨by rfl, ?_⟩) (by assumption) ?_; rotate_left; (focus (intro w hSw; skip; go_simp; (try with_reducible rfl))); (try (refine wpAnyL_norm (by simp only [Act.put, List.setIfInBounds_toArray, List.set_cons_zero, List.set_cons_succ]; rfl) ?_))
  refine wpAnyL_take (i := 19) (v := ?_) rfl (by kernel_rfl) (fun _ _ _ h => h) (Or.inl ⟨by rfl, ?_⟩) (by assumption) ?_; rotate_left; (focus (intro w hSw; skip; go_simp; (try with_reducible rfl))); (try (refine wpAnyL_norm (by simp only [Act.put, List.setIfInBounds_toArray, List.set_cons_zero, List.set_cons_succ]; rfl) ?_))
  refine wpAnyL_take (i := 20) (v := ?_) rfl (by kernel_rfl) (fun _ _ _ h => h) (Or.inl ⟨by rfl, ?_⟩) (by assumption) ?_; rotate_left; (focus (intro w hSw; skip; go_simp; (try with_reducible rfl))); (try (refine wpAnyL_norm (by simp only [Act.put, List.setIfInBounds_toArray, List.set_cons_zero, List.set_cons_succ]; rfl) ?_))
  refine wpAnyL_take (i := 21) (v := ?_) rfl (by kernel_rfl) (fun _ _ _ h => h) (Or.inl ⟨by rfl, ?_⟩) (by assumption) ?_; rotate_left; (focus (intro w hSw; (have cc := hSw.2.1.cell 0); (simp only [List.getElem?_toArray, List.getElem?_cons_zero, List.getElem?_cons_succ] at cc); go_simp; (try with_reducible rfl))); (try (refine wpAnyL_norm (by simp only [Act.put, List.setIfInBounds_toArray, List.set_cons_zero, List.set_cons_succ]; rfl) ?_))
  refine wpAnyL_take (i := 22) (v := ?_) rfl (by kernel_rfl) (fun _ _ _ h => h) (Or.inl ⟨by rfl, ?_⟩) (by assumption) ?_; rotate_left; (focus (intro w hSw; skip; go_simp; (try with_reducible rfl))); (try (refine wpAnyL_norm (by simp only [Act.put, List.setIfInBounds_toArray, List.set_cons_zero, List.set_cons_succ]; rfl) ?_))
  refine wpAnyL_take (i := 23) (v := ?_) rfl (by kernel_rfl) (fun _ _ _ h => h) (Or.inl ⟨by rfl, ?_⟩) (by assumption) ?_; rotate_left; (focus (intro w hSw; skip; go_simp; (try with_reducible rfl))); (try (refine wpAnyL_norm (by simp only [Act.put, List.setIfInBounds_toArray, List.set_cons_zero, List.set_cons_succ]; rfl) ?_))
  refine wpAnyL_take (i := 24) (v := ?_) rfl (by kernel_rfl) (fun _ _ _ h => h) (Or.inl ⟨by rfl, ?_⟩) (by assumption) ?_; rotate_left; (focus (intro w hSw; (have cc := hSw.2.1.cell 1); (simp only [List.getElem?_toArray, List.getElem?_cons_zero, List.getElem?_cons_succ] at cc); go_simp; (try with_reducible rfl))); (try (refine wpAnyL_norm (by simp only [Act.put, List.setIfInBounds_toArray, List.set_cons_zero, List.set_cons_succ]; rfl) ?_))
  refine wpAnyL_take (i := 25) (v := ?_) rfl (by kernel_rfl) (fun _ _ _ h => h) (Or.inl ⟨by rfl, ?_⟩) (by assumption) ?_; rotate_left; (focus (intro w hSw; skip; go_simp; (try with_reducible rfl))); (try (refine wpAnyL_norm (by simp only [Act.put, List.setIfInBounds_toArray, List.set_cons_zero, List.set_cons_succ]; rfl) ?_))
  refine wpAnyL_take (i := 26) (v := ?_) rfl (by kernel_rfl) (fun _ _ _ h => h) (Or.inl ⟨by rfl, ?_⟩) (by assumption) ?_; rotate_left; (focus (intro w hSw; skip; go_simp; (try with_reducible rfl))); (try (refine wpAnyL_norm (by simp only [Act.put, List.setIfInBounds_toArray, List.set_cons_zero, List.set_cons_succ]; rfl) ?_))
  refine wpAnyL_take (i := 27) (v := ?_) rfl (by kernel_rfl) (fun _ _ _ h => h) (Or.inl ⟨by rfl, ?_⟩) (by assumption) ?_; rotate_left; (focus (intro w hSw; skip; go_simp; (try with_reducible rfl))); (try (refine wpAnyL_norm (by simp only [Act.put, List.setIfInBounds_toArray, List.set_cons_zero, List.set_cons_succ]; rfl) ?_))
  refine wpAnyL_take (i := 28) (v := ?_) rfl (by kernel_rfl) (fun _ _ _ h => h) (Or.inl ⟨by rfl, ?_⟩) (by assumption) ?_; rotate_left; (focus (intro w hSw; skip; go_simp; (try with_reducible rfl))); (try (refine wpAnyL_norm (by simp only [Act.put, List.setIfInBounds_toArray, List.set_cons_zero, List.set_cons_succ]; rfl) ?_))
  refine wpAnyL_take (i := 29) (v := ?_) rfl (by kernel_rfl) (fun _ _ _ h => h) (Or.inl ⟨by rfl, ?_⟩) (by assumption) ?_; rotate_left; (focus (intro w hSw; skip; go_simp; (try with_reducible rfl))); (try (refine wpAnyL_norm (by simp only [Act.put, List.setIfInBounds_toArray, List.set_cons_zero, List.set_cons_succ]; rfl) ?_))
  refine wpAnyL_take (i := 30) (v := ?_) rfl (by kernel_rfl) (fun _ _ _ h => h) (Or.inl ⟨by rfl, ?_⟩) (by assumption) ?_; rotate_left; (focus (intro w hSw; (have cc := hSw.2.2.cell 2); (simp only [List.getElem?_toArray, List.getElem?_cons_zero, List.getElem?_cons_succ] at cc); go_simp; (try with_reducible rfl))); (try (refine wpAnyL_norm (by simp only [Act.put, List.setIfInBounds_toArray, List.set_cons_zero, List.set_cons_succ]; rfl) ?_))
  refine wpAnyL_take (i := 31) (v := ?_) rfl (by kernel_rfl) (fun _ _ _ h => h) (Or.inl ⟨by rfl, ?_⟩) (by assumption) ?_; rotate_left; (focus (intro w hSw; skip; go_simp; (try with_reducible rfl))); (try (refine wpAnyL_norm (by simp only [Act.put, List.setIfInBounds_toArray, List.set_cons_zero, List.set_cons_succ]; rfl) ?_))
  refine wpAnyL_take (i := 32) (v := ?_) rfl (by kernel_rfl) (fun _ _ _ h => h) (Or.inl ⟨by rfl, ?_⟩) (by assumption) ?_; rotate_left; (focus (intro w hSw; skip; go_simp; (try with_reducible rfl))); (try (refine wpAnyL_norm (by simp only [Act.put, List.setIfInBounds_toArray, List.set_cons_zero, List.set_cons_succ]; rfl) ?_))
  refine wpAnyL_take (i := 33) (v := ?_) rfl (by kernel_rfl) (fun _ _ _ h => h) (Or.inl ⟨by rfl, ?_⟩) (by assumption) ?_; rotate_left; (focus (intro w hSw; skip; go_simp; (try with_reducible rfl))); (try (refine wpAnyL_norm (by simp only [Act.put, List.setIfInBounds_toArray, List.set_cons_zero, List.set_cons_succ]; rfl) ?_))
  refine wpAnyL_done (by kernel_rfl) ?_ _
  go_wp2_with fail
  refine wp_region_L (fun W => Fr [] w W ∧ At W w.heap.size 45 #[.int .u32 (ra : Int), .int .u32 (rs : Int)] ∧ At W y 119 #[.int .u64 (ep : Int), .bool un, .int .i64 (N : Int), wv, .pointer (some ⟨a, 0, none⟩), bv, .pointer (some ⟨a', 0, none⟩)]) [] (by kernel_rfl) ⟨hHeld.1.drew, hHeld.2.1.hp rfl, hHeld.2.2.hp rfl⟩ (fun hHeld => ?_)
  refine wpAnyL_take (i := 0) (v := ?_) rfl (by kernel_rfl) (fun _ _ _ h => h) (Or.inl ⟨by rfl, ?_⟩) (by assumption) ?_; rotate_left; (focus (intro w hSw; skip; go_simp; (try with_reducible rfl))); (try (refine wpAnyL_norm (by simp only [Act.put, List.setIfInBounds_toArray, List.set_cons_zero, List.set_cons_succ]; rfl) ?_))
  refine wpAnyL_take (i := 1) (v := ?_) rfl (by kernel_rfl) (fun _ _ _ h => h) (Or.inl ⟨by rfl, ?_⟩) (by assumption) ?_; rotate_left; (focus (intro w hSw; skip; go_simp; (try with_reducible rfl))); (try (refine wpAnyL_norm (by simp only [Act.put, List.setIfInBounds_toArray, List.set_cons_zero, List.set_cons_succ]; rfl) ?_))
  refine wpAnyL_take (i := 2) (v := ?_) rfl (by kernel_rfl) (fun _ _ _ h => h) (Or.inl ⟨by rfl, ?_⟩) (by assumption) ?_; rotate_left; (focus (intro w hSw; skip; go_simp; (try with_reducible rfl))); (try (refine wpAnyL_norm (by simp only [Act.put, List.setIfInBounds_toArray, List.set_cons_zero, List.set_cons_succ]; rfl) ?_))
  refine wpAnyL_take (i := 3) rfl (by kernel_rfl) (fun _ _ _ h => h) (yields_load_at 117 (.tmp 41) rfl ⟨y, 3, none⟩ rfl [wv, .pointer (some ⟨a, 0, none⟩)] _ (fun W h => two_at h.2.2 3 _ _ rfl rfl) Tryz.underlying117 rfl HLI.out rfl) (by assumption) ?_; (try (refine wpAnyL_norm (by simp only [Act.put, List.setIfInBounds_toArray, List.set_cons_zero, List.set_cons_succ]; rfl) ?_))
  refine wpAnyL_take (i := 4) rfl (by kernel_rfl) (fun _ _ _ h => h) (yields_load_at 45 (.tmp 3) rfl ⟨w.heap.size, 0, none⟩ rfl [.int .u32 (ra : Int), .int .u32 (rs : Int)] _ (fun W h => two_at h.2.1 0 _ _ rfl rfl) Tryz.underlying45 rfl infoRgS rfl) (by assumption) ?_; (try (refine wpAnyL_norm (by simp only [Act.put, List.setIfInBounds_toArray, List.set_cons_zero, List.set_cons_succ]; rfl) ?_))
  refine wpAnyL_ready (rs := [5]) (by kernel_rfl) (by simp) ?_; refine AllReadyL.cons rfl (fun K hK => ?_) AllReadyL.nil
  go_simp
  refine (HT1.out _ hHeld.1).mono ?_
  rintro e w5 ⟨rfl, hf5⟩
  refine hK.out _ _ (fun _ => ⟨hHeld.1.trans0 hf5, hHeld.2.1.fr hf5 (by simp), hHeld.2.2.fr hf5 (by simp)⟩) (fun hHeld' => ?_); have hHeld := hHeld' (by decide); clear hHeld' hK K; (try (refine wpAnyL_norm (by simp only [Act.put, List.setIfInBounds_toArray, List.set_cons_zero, List.set_cons_succ]; rfl) ?_))
  clear hf5
  refine wpAnyL_take (i := 6) (v := ?_) rfl (by kernel_rfl) (fun _ _ _ h => h) (Or.inl ⟨by rfl, ?_⟩) (by assumption) ?_; rotate_left; (focus (intro w hSw; skip; go_simp; (try with_reducible rfl))); (try (refine wpAnyL_norm (by simp only [Act.put, List.setIfInBounds_toArray, List.set_cons_zero, List.set_cons_succ]; rfl) ?_))
  cases T1
  · rw [Bool.false_or] at ht
    subst ht
    refine wpAnyL_take (i := 7) (v := ?_) rfl (by kernel_rfl) (fun _ _ _ h => h) (Or.inl ⟨by rfl, ?_⟩) (by assumption) ?_; rotate_left; (focus (intro w hSw; skip; go_simp; (try with_reducible rfl))); (try (refine wpAnyL_norm (by simp only [Act.put, List.setIfInBounds_toArray, List.set_cons_zero, List.set_cons_succ]; rfl) ?_))
    refine wpAnyL_take (i := 8) (v := ?_) rfl (by kernel_rfl) (fun _ _ _ h => h) (Or.inl ⟨by rfl, ?_⟩) (by assumption) ?_; rotate_left; (focus (intro w hSw; skip; go_simp; (try with_reducible rfl))); (try (refine wpAnyL_norm (by simp only [Act.put, List.setIfInBounds_toArray, List.set_cons_zero, List.set_cons_succ]; rfl) ?_))
    refine wpAnyL_take (i := 9) (v := ?_) rfl (by kernel_rfl) (fun _ _ _ h => h) (Or.inl ⟨by rfl, ?_⟩) (by assumption) ?_; rotate_left; (focus (intro w hSw; skip; go_simp; (try with_reducible rfl))); (try (refine wpAnyL_norm (by simp only [Act.put, List.setIfInBounds_toArray, List.set_cons_zero, List.set_cons_succ]; rfl) ?_))
    refine wpAnyL_take (i := 10) rfl (by kernel_rfl) (fun _ _ _ h => h) (yields_load_at 117 (.tmp 48) rfl ⟨y, 5, none⟩ rfl [bv, .pointer (some ⟨a', 0, none⟩)] _ (fun W h => two_at h.2.2 5 _ _ rfl rfl) Tryz.underlying117 rfl HLI.out rfl) (by assumption) ?_; (try (refine wpAnyL_norm (by simp only [Act.put, List.setIfInBounds_toArray, List.set_cons_zero, List.set_cons_succ]; rfl) ?_))
    refine wpAnyL_take (i := 11) rfl (by kernel_rfl) (fun _ _ _ h => h) (yields_load_at 45 (.tmp 3) rfl ⟨w.heap.size, 0, none⟩ rfl [.int .u32 (ra : Int), .int .u32 (rs : Int)] _ (fun W h => two_at h.2.1 0 _ _ rfl rfl) Tryz.underlying45 rfl infoRgS rfl) (by assumption) ?_; (try (refine wpAnyL_norm (by simp only [Act.put, List.setIfInBounds_toArray, List.set_cons_zero, List.set_cons_succ]; rfl) ?_))
    refine wpAnyL_ready (rs := [12]) (by kernel_rfl) (by simp) ?_; refine AllReadyL.cons rfl (fun K hK => ?_) AllReadyL.nil
    go_simp
    refine (HT2.out _ hHeld.1).mono ?_
    rintro e w6 ⟨rfl, hf6⟩
    refine hK.out _ _ (fun _ => ⟨hHeld.1.trans0 hf6, hHeld.2.1.fr hf6 (by simp), hHeld.2.2.fr hf6 (by simp)⟩) (fun hHeld' => ?_); have hHeld := hHeld' (by decide); clear hHeld' hK K; (try (refine wpAnyL_norm (by simp only [Act.put, List.setIfInBounds_toArray, List.set_cons_zero, List.set_cons_succ]; rfl) ?_))
    clear hf6
    refine wpAnyL_take (i := 13) (v := ?_) rfl (by kernel_rfl) (fun _ _ _ h => h) (Or.inl ⟨by rfl, ?_⟩) (by assumption) ?_; rotate_left; (focus (intro w hSw; skip; go_simp; (try with_reducible rfl))); (try (refine wpAnyL_norm (by simp only [Act.put, List.setIfInBounds_toArray, List.set_cons_zero, List.set_cons_succ]; rfl) ?_))
    refine wpAnyL_done (by kernel_rfl) ?_ _
    go_wp2_with fail
    go_ret
    exact ⟨rfl, hHeld.1⟩
  · refine wpAnyL_take (i := 7) (v := undef) rfl (by kernel_rfl) (fun _ _ _ h => h) (Or.inr ⟨by rfl, rfl⟩) (by assumption) ?_; (try (refine wpAnyL_norm (by simp only [Act.put, List.setIfInBounds_toArray, List.set_cons_zero, List.set_cons_succ]; rfl) ?_))
    refine wpAnyL_take (i := 8) (v := undef) rfl (by kernel_rfl) (fun _ _ _ h => h) (Or.inr ⟨by rfl, rfl⟩) (by assumption) ?_; (try (refine wpAnyL_norm (by simp only [Act.put, List.setIfInBounds_toArray, List.set_cons_zero, List.set_cons_succ]; rfl) ?_))
    refine wpAnyL_take (i := 9) (v := undef) rfl (by kernel_rfl) (fun _ _ _ h => h) (Or.inr ⟨by rfl, rfl⟩) (by assumption) ?_; (try (refine wpAnyL_norm (by simp only [Act.put, List.setIfInBounds_toArray, List.set_cons_zero, List.set_cons_succ]; rfl) ?_))
    refine wpAnyL_take (i := 10) (v := undef) rfl (by kernel_rfl) (fun _ _ _ h => h) (Or.inr ⟨by rfl, rfl⟩) (by assumption) ?_; (try (refine wpAnyL_norm (by simp only [Act.put, List.setIfInBounds_toArray, List.set_cons_zero, List.set_cons_succ]; rfl) ?_))
    refine wpAnyL_take (i := 11) (v := undef) rfl (by kernel_rfl) (fun _ _ _ h => h) (Or.inr ⟨by rfl, rfl⟩) (by assumption) ?_; (try (refine wpAnyL_norm (by simp only [Act.put, List.setIfInBounds_toArray, List.set_cons_zero, List.set_cons_succ]; rfl) ?_))
    refine wpAnyL_take (i := 12) (v := undef) rfl (by kernel_rfl) (fun _ _ _ h => h) (Or.inr ⟨by rfl, rfl⟩) (by assumption) ?_; (try (refine wpAnyL_norm (by simp only [Act.put, List.setIfInBounds_toArray, List.set_cons_zero, List.set_cons_succ]; rfl) ?_))
    refine wpAnyL_take (i := 13) (v := ?_) rfl (by kernel_rfl) (fun _ _ _ h => h) (Or.inl ⟨by rfl, ?_⟩) (by assumption) ?_; rotate_left; (focus (intro w hSw; skip; go_simp; (try with_reducible rfl))); (try (refine wpAnyL_norm (by simp only [Act.put, List.setIfInBounds_toArray, List.set_cons_zero, List.set_cons_succ]; rfl) ?_))
    refine wpAnyL_done (by kernel_rfl) ?_ _
    go_wp2_with fail
    go_ret
    exact ⟨rfl, hHeld.1⟩
set_option maxHeartbeats 2000000 in
set_option maxRecDepth 100000 in
theorem qfree_yes (w : World) (s : YS) (h : Yd w s) (A R : Nat) (hR : 1 ≤ R) (hn : A + R ≤ s.n) (ht : (tch (cov s.lw) A R || tch (cov s.lb) A R) = false) :
    Calls Tryz.prog 17 #[.pointer (some ⟨s.y, 0, none⟩), .agg #[.int .u32 (16 * A : Nat), .int .u32 (16 * R : Nat)]] w fun r w' => ∃ (k : Nat) (v' : Value), r = .returned (.bool true) ∧ Place s.lw (16 * A) k ∧ Yd w' { s with wv := v', lw := insL s.lw k (16 * A, 16 * R) } ∧ Fr (s.y :: s.c :: s.wv.ownBlock.toList) w w' ∧ ∀ g, v'.ownBlock = some g → s.wv.ownBlock = some g ∨ w.heap.size ≤ g := by
  have HTT := Lib.hid ht
  have HLI := Lib.hid (show (Tryz.prog.info? 117).map (·.size) = some 2 by kernel_rfl)
  have HT1 := Lib.hid fun (W : World) (hW : Fr [] w W) => touched_any W s.wv s.a s.b s.c s.n s.lw (h.wt.fr0 hW) A R hn
  have HT2 := Lib.hid fun (W : World) (hW : Fr [] w W) => touched_any W s.bv s.a' s.b' s.c' s.n s.lb (h.bt.fr0 hW) A R hn
  obtain ⟨T1, hT1⟩ : ∃ T, tch (cov s.lw) A R = T := ⟨_, rfl⟩
  obtain ⟨T2, hT2⟩ : ∃ T, tch (cov s.lb) A R = T := ⟨_, rfl⟩
  rw [hT1] at HT1 ht
  rw [hT2] at HT2 ht
  have HTE1 := Lib.hid hT1
  clear hT1 hT2
  obtain ⟨ra, hra⟩ : ∃ x, 16 * A = x := ⟨_, rfl⟩
  obtain ⟨rs, hrs⟩ : ∃ x, 16 * R = x := ⟨_, rfl⟩
  rw [hra, hrs] at HT1 HT2 ⊢
  have hr1 := h.wt.pt.2.2.2.2
  have HRA := Lib.hid hra
  have HRS := Lib.hid hrs
  have hrb : ra % 16 = 0 ∧ rs % 16 = 0 ∧ 0 < rs ∧ ra + rs ≤ 16 * s.n := by omega
  obtain ⟨g1, g2, g3, g4⟩ := hrb
  have d1 : ((ra : Int) % 16 != 0) = false := by simp; omega
  have d2 : ((rs : Int) % 16 != 0) = false := by simp; omega
  have d3 : ((rs : Int) == 0) = false := by simp; omega
  clear hra hrs
  have hup := h.up
  have HN := Lib.hid fun (W : World) (hW : Fr [] w W) => qnone_any (h.fr0 hW)
  have hn2 := h.wt.pt.2.2.2.2
  have H := Lib.hid h
  obtain ⟨y, n, ep, un, wv, a, b, c, lw, bv, a', b', c', lb⟩ := s
  dsimp only at *
  have Y0 := Lib.hid (h.at_.old (.cells #[.int .u32 (ra : Int), .int .u32 (rs : Int)] 45))
  have A0 := Lib.hid (At.new w 45 #[.int .u32 (ra : Int), .int .u32 (rs : Int)])
  have F0 := Lib.hid (show Fr [] w (w.alloc (.cells #[.int .u32 (ra : Int), .int .u32 (rs : Int)] 45)) from (by repeat (first | exact Fr.refl _ _ | assumption | refine Fr.trans0 ?_ (by assumption) | refine Fr.drewN ?_ _ | refine Fr.alloc ?_ _ | refine Fr.drew ?_)))
  unfold YS.cells at Y0
  dsimp only at Y0
  have v1 : IntKind.u64.wrap (ra : Int) = ra := by simp [IntKind.wrap, IntKind.signed, IntKind.bits]; omega
  have v2 : IntKind.u64.wrap (rs : Int) = rs := by simp [IntKind.wrap, IntKind.signed, IntKind.bits]; omega
  have v3 : IntKind.u64.wrap ((ra : Int) + (rs : Int)) = (ra : Int) + rs := by simp [IntKind.wrap, IntKind.signed, IntKind.bits]; omega
  have m1 : (ra : Int).tmod 16 = (ra : Int) % 16 := Int.tmod_eq_emod_of_nonneg (by omega)
  have m2 : (rs : Int).tmod 16 = (rs : Int) % 16 := Int.tmod_eq_emod_of_nonneg (by omega)
  obtain ⟨N, hNN⟩ : ∃ N, 16 * n = N := ⟨_, rfl⟩
  have v4 : IntKind.u64.wrap (N : Int) = (N : Int) := by simp [IntKind.wrap, IntKind.signed, IntKind.bits]; omega
  rw [hNN] at Y0
  have HNN := Lib.hid hNN
  clear h hup
  have d4 : ¬ ((N : Int) < (ra : Int) + (rs : Int)) := by omega
  have d5 : decide ((N : Int) < (ra : Int) + (rs : Int)) = false := by simp; omega
  go_enter Tryz.func17, Tryz.ntmps17
  go_wp2_with fail
  refine wp_region_L (fun W => Fr [] w W ∧ At W w.heap.size 45 #[.int .u32 (ra : Int), .int .u32 (rs : Int)] ∧ At W y 119 #[.int .u64 (ep : Int), .bool un, .int .i64 (N : Int), wv, .pointer (some ⟨a, 0, none⟩), bv, .pointer (some ⟨a', 0, none⟩)]) [] (by kernel_rfl) ⟨F0.out.drew, A0.out.hp rfl, Y0.out.hp rfl⟩ (fun hHeld => ?_)
  refine wpAnyL_take (i := 0) (v := ?_) rfl (by kernel_rfl) (fun _ _ _ h => h) (Or.inl ⟨by rfl, ?_⟩) (by assumption) ?_; rotate_left; (focus (intro w hSw; skip; go_simp; (try with_reducible rfl))); (try (refine wpAnyL_norm (by simp only [Act.put, List.setIfInBounds_toArray, List.set_cons_zero, List.set_cons_succ]; rfl) ?_))
  refine wpAnyL_ready (rs := [1]) (by kernel_rfl) (by simp) ?_; refine AllReadyL.cons rfl (fun K hK => ?_) AllReadyL.nil
  go_simp
  refine (HN.out _ hHeld.1).mono ?_
  rintro e w' ⟨rfl, rfl⟩
  refine hK.out _ _ (fun _ => hHeld) (fun hHeld' => ?_); have hHeld := hHeld' (by decide); clear hHeld' hK K; (try (refine wpAnyL_norm (by simp only [Act.put, List.setIfInBounds_toArray, List.set_cons_zero, List.set_cons_succ]; rfl) ?_))
  refine wpAnyL_take (i := 2) (v := ?_) rfl (by kernel_rfl) (fun _ _ _ h => h) (Or.inl ⟨by rfl, ?_⟩) (by assumption) ?_; rotate_left; (focus (intro w hSw; skip; go_simp; (try with_reducible rfl))); (try (refine wpAnyL_norm (by simp only [Act.put, List.setIfInBounds_toArray, List.set_cons_zero, List.set_cons_succ]; rfl) ?_))
  refine wpAnyL_take (i := 3) (v := ?_) rfl (by kernel_rfl) (fun _ _ _ h => h) (Or.inl ⟨by rfl, ?_⟩) (by assumption) ?_; rotate_left; (focus (intro w hSw; skip; go_simp; (try with_reducible rfl))); (try (refine wpAnyL_norm (by simp only [Act.put, List.setIfInBounds_toArray, List.set_cons_zero, List.set_cons_succ]; rfl) ?_))
  refine wpAnyL_take (i := 4) (v := ?_) rfl (by kernel_rfl) (fun _ _ _ h => h) (Or.inl ⟨by rfl, ?_⟩) (by assumption) ?_; rotate_left; (focus (intro w hSw; (have cc := hSw.2.1.cell 0); (simp only [List.getElem?_toArray, List.getElem?_cons_zero, List.getElem?_cons_succ] at cc); go_simp; (try with_reducible rfl))); (try (refine wpAnyL_norm (by simp only [Act.put, List.setIfInBounds_toArray, List.set_cons_zero, List.set_cons_succ]; rfl) ?_))
  refine wpAnyL_take (i := 5) (v := ?_) rfl (by kernel_rfl) (fun _ _ _ h => h) (Or.inl ⟨by rfl, ?_⟩) (by assumption) ?_; rotate_left; (focus (intro w hSw; skip; go_simp; (try with_reducible rfl))); (try (refine wpAnyL_norm (by simp only [Act.put, List.setIfInBounds_toArray, List.set_cons_zero, List.set_cons_succ]; rfl) ?_))
  refine wpAnyL_take (i := 6) (v := ?_) rfl (by kernel_rfl) (fun _ _ _ h => h) (Or.inl ⟨by rfl, ?_⟩) (by assumption) ?_; rotate_left; (focus (intro w hSw; skip; go_simp; (try with_reducible rfl))); (try (refine wpAnyL_norm (by simp only [Act.put, List.setIfInBounds_toArray, List.set_cons_zero, List.set_cons_succ]; rfl) ?_))
  refine wpAnyL_take (i := 7) (v := ?_) rfl (by kernel_rfl) (fun _ _ _ h => h) (Or.inl ⟨by rfl, ?_⟩) (by assumption) ?_; rotate_left; (focus (intro w hSw; skip; go_simp; (try with_reducible rfl))); (try (refine wpAnyL_norm (by simp only [Act.put, List.setIfInBounds_toArray, List.set_cons_zero, List.set_cons_succ]; rfl) ?_))
  refine wpAnyL_take (i := 8) (v := ?_) rfl (by kernel_rfl) (fun _ _ _ h => h) (Or.inl ⟨by rfl, ?_⟩) (by assumption) ?_; rotate_left; (focus (intro w hSw; skip; go_simp; (try with_reducible rfl))); (try (refine wpAnyL_norm (by simp only [Act.put, List.setIfInBounds_toArray, List.set_cons_zero, List.set_cons_succ]; rfl) ?_))
  refine wpAnyL_take (i := 9) (v := ?_) rfl (by kernel_rfl) (fun _ _ _ h => h) (Or.inl ⟨by rfl, ?_⟩) (by assumption) ?_; rotate_left; (focus (intro w hSw; skip; go_simp; (try with_reducible rfl))); (try (refine wpAnyL_norm (by simp only [Act.put, List.setIfInBounds_toArray, List.set_cons_zero, List.set_cons_succ]; rfl) ?_))
  refine wpAnyL_take (i := 10) (v := ?_) rfl (by kernel_rfl) (fun _ _ _ h => h) (Or.inl ⟨by rfl, ?_⟩) (by assumption) ?_; rotate_left; (focus (intro w hSw; (have cc := hSw.2.1.cell 1); (simp only [List.getElem?_toArray, List.getElem?_cons_zero, List.getElem?_cons_succ] at cc); go_simp; (try with_reducible rfl))); (try (refine wpAnyL_norm (by simp only [Act.put, List.setIfInBounds_toArray, List.set_cons_zero, List.set_cons_succ]; rfl) ?_))
  refine wpAnyL_take (i := 11) (v := ?_) rfl (by kernel_rfl) (fun _ _ _ h => h) (Or.inl ⟨by rfl, ?_⟩) (by assumption) ?_; rotate_left; (focus (intro w hSw; skip; go_simp; (try with_reducible rfl))); (try (refine wpAnyL_norm (by simp only [Act.put, List.setIfInBounds_toArray, List.set_cons_zero, List.set_cons_succ]; rfl) ?_))
  refine wpAnyL_take (i := 12) (v := ?_) rfl (by kernel_rfl) (fun _ _ _ h => h) (Or.inl ⟨by rfl, ?_⟩) (by assumption) ?_; rotate_left; (focus (intro w hSw; skip; go_simp; (try with_reducible rfl))); (try (refine wpAnyL_norm (by simp only [Act.put, List.setIfInBounds_toArray, List.set_cons_zero, List.set_cons_succ]; rfl) ?_))
  refine wpAnyL_take (i := 13) (v := ?_) rfl (by kernel_rfl) (fun _ _ _ h => h) (Or.inl ⟨by rfl, ?_⟩) (by assumption) ?_; rotate_left; (focus (intro w hSw; skip; go_simp; (try with_reducible rfl))); (try (refine wpAnyL_norm (by simp only [Act.put, List.setIfInBounds_toArray, List.set_cons_zero, List.set_cons_succ]; rfl) ?_))
  refine wpAnyL_take (i := 14) (v := ?_) rfl (by kernel_rfl) (fun _ _ _ h => h) (Or.inl ⟨by rfl, ?_⟩) (by assumption) ?_; rotate_left; (focus (intro w hSw; skip; go_simp; (try with_reducible rfl))); (try (refine wpAnyL_norm (by simp only [Act.put, List.setIfInBounds_toArray, List.set_cons_zero, List.set_cons_succ]; rfl) ?_))
  refine wpAnyL_take (i := 15) (v := ?_) rfl (by kernel_rfl) (fun _ _ _ h => h) (Or.inl ⟨by rfl, ?_⟩) (by assumption) ?_; rotate_left; (focus (intro w hSw; skip; go_simp; (try with_reducible rfl))); (try (refine wpAnyL_norm (by simp only [Act.put, List.setIfInBounds_toArray, List.set_cons_zero, List.set_cons_succ]; rfl) ?_))
  refine wpAnyL_take (i := 16) (v := ?_) rfl (by kernel_rfl) (fun _ _ _ h => h) (Or.inl ⟨by rfl, ?_⟩) (by assumption) ?_; rotate_left; (focus (intro w hSw; (have cc := hSw.2.1.cell 1); (simp only [List.getElem?_toArray, List.getElem?_cons_zero, List.getElem?_cons_succ] at cc); go_simp; (try with_reducible rfl))); (try (refine wpAnyL_norm (by simp only [Act.put, List.setIfInBounds_toArray, List.set_cons_zero, List.set_cons_succ]; rfl) ?_))
  refine wpAnyL_take (i := 17) (v := ?_) rfl (by kernel_rfl) (fun _ _ _ h => h) (Or.inl ⟨by rfl, ?_⟩) (by assumption) ?_; rotate_left; (focus (intro w hSw; skip; go_simp; (try with_reducible rfl))); (try (refine wpAnyL_norm (by simp only [Act.put, List.setIfInBounds_toArray, List.set_cons_zero, List.set_cons_succ]; rfl) ?_))
  refine wpAnyL_take (i := 18) (v := ?_) rfl (by kernel_rfl) (fun _ _ _ h => h) (Or.inl ⟨by rfl, ?_⟩) (by assumption) ?_; rotate_left; (focus (intro w hSw; skip; go_simp; (try with_reducible rfl))); (try (refine wpAnyL_norm (by simp only [Act.put, List.setIfInBounds_toArray, List.set_cons_zero, List.set_cons_succ]; rfl) ?_))
  refine wpAnyL_take (i := 19) (v := ?_) rfl (by kernel_rfl) (fun _ _ _ h => h) (Or.inl ⟨by rfl, ?_⟩) (by assumption) ?_; rotate_left; (focus (intro w hSw; skip; go_simp; (try with_reducible rfl))); (try (refine wpAnyL_norm (by simp only [Act.put, List.setIfInBounds_toArray, List.set_cons_zero, List.set_cons_succ]; rfl) ?_))
  refine wpAnyL_take (i := 20) (v := ?_) rfl (by kernel_rfl) (fun _ _ _ h => h) (Or.inl ⟨by rfl, ?_⟩) (by assumption) ?_; rotate_left; (focus (intro w hSw; skip; go_simp; (try with_reducible rfl))); (try (refine wpAnyL_norm (by simp only [Act.put, List.setIfInBounds_toArray, List.set_cons_zero, List.set_cons_succ]; rfl) ?_))
  refine wpAnyL_take (i := 21) (v := ?_) rfl (by kernel_rfl) (fun _ _ _ h => h) (Or.inl ⟨by rfl, ?_⟩) (by assumption) ?_; rotate_left; (focus (intro w hSw; (have cc := hSw.2.1.cell 0); (simp only [List.getElem?_toArray, List.getElem?_cons_zero, List.getElem?_cons_succ] at cc); go_simp; (try with_reducible rfl))); (try (refine wpAnyL_norm (by simp only [Act.put, List.setIfInBounds_toArray, List.set_cons_zero, List.set_cons_succ]; rfl) ?_))
  refine wpAnyL_take (i := 22) (v := ?_) rfl (by kernel_rfl) (fun _ _ _ h => h) (Or.inl ⟨by rfl, ?_⟩) (by assumption) ?_; rotate_left; (focus (intro w hSw; skip; go_simp; (try with_reducible rfl))); (try (refine wpAnyL_norm (by simp only [Act.put, List.setIfInBounds_toArray, List.set_cons_zero, List.set_cons_succ]; rfl) ?_))
  refine wpAnyL_take (i := 23) (v := ?_) rfl (by kernel_rfl) (fun _ _ _ h => h) (Or.inl ⟨by rfl, ?_⟩) (by assumption) ?_; rotate_left; (focus (intro w hSw; skip; go_simp; (try with_reducible rfl))); (try (refine wpAnyL_norm (by simp only [Act.put, List.setIfInBounds_toArray, List.set_cons_zero, List.set_cons_succ]; rfl) ?_))
  refine wpAnyL_take (i := 24) (v := ?_) rfl (by kernel_rfl) (fun _ _ _ h => h) (Or.inl ⟨by rfl, ?_⟩) (by assumption) ?_; rotate_left; (focus (intro w hSw; (have cc := hSw.2.1.cell 1); (simp only [List.getElem?_toArray, List.getElem?_cons_zero, List.getElem?_cons_succ] at cc); go_simp; (try with_reducible rfl))); (try (refine wpAnyL_norm (by simp only [Act.put, List.setIfInBounds_toArray, List.set_cons_zero, List.set_cons_succ]; rfl) ?_))
  refine wpAnyL_take (i := 25) (v := ?_) rfl (by kernel_rfl) (fun _ _ _ h => h) (Or.inl ⟨by rfl, ?_⟩) (by assumption) ?_; rotate_left; (focus (intro w hSw; skip; go_simp; (try with_reducible rfl))); (try (refine wpAnyL_norm (by simp only [Act.put, List.setIfInBounds_toArray, List.set_cons_zero, List.set_cons_succ]; rfl) ?_))
  refine wpAnyL_take (i := 26) (v := ?_) rfl (by kernel_rfl) (fun _ _ _ h => h) (Or.inl ⟨by rfl, ?_⟩) (by assumption) ?_; rotate_left; (focus (intro w hSw; skip; go_simp; (try with_reducible rfl))); (try (refine wpAnyL_norm (by simp only [Act.put, List.setIfInBounds_toArray, List.set_cons_zero, List.set_cons_succ]; rfl) ?_))
  refine wpAnyL_take (i := 27) (v := ?_) rfl (by kernel_rfl) (fun _ _ _ h => h) (Or.inl ⟨by rfl, ?_⟩) (by assumption) ?_; rotate_left; (focus (intro w hSw; skip; go_simp; (try with_reducible rfl))); (try (refine wpAnyL_norm (by simp only [Act.put, List.setIfInBounds_toArray, List.set_cons_zero, List.set_cons_succ]; rfl) ?_))
  refine wpAnyL_take (i := 28) (v := ?_) rfl (by kernel_rfl) (fun _ _ _ h => h) (Or.inl ⟨by rfl, ?_⟩) (by assumption) ?_; rotate_left; (focus (intro w hSw; skip; go_simp; (try with_reducible rfl))); (try (refine wpAnyL_norm (by simp only [Act.put, List.setIfInBounds_toArray, List.set_cons_zero, List.set_cons_succ]; rfl) ?_))
  refine wpAnyL_take (i := 29) (v := ?_) rfl (by kernel_rfl) (fun _ _ _ h => h) (Or.inl ⟨by rfl, ?_⟩) (by assumption) ?_; rotate_left; (focus (intro w hSw; skip; go_simp; (try with_reducible rfl))); (try (refine wpAnyL_norm (by simp only [Act.put, List.setIfInBounds_toArray, List.set_cons_zero, List.set_cons_succ]; rfl) ?_))
  refine wpAnyL_take (i := 30) (v := ?_) rfl (by kernel_rfl) (fun _ _ _ h => h) (Or.inl ⟨by rfl, ?_⟩) (by assumption) ?_; rotate_left; (focus (intro w hSw; (have cc := hSw.2.2.cell 2); (simp only [List.getElem?_toArray, List.getElem?_cons_zero, List.getElem?_cons_succ] at cc); go_simp; (try with_reducible rfl))); (try (refine wpAnyL_norm (by simp only [Act.put, List.setIfInBounds_toArray, List.set_cons_zero, List.set_cons_succ]; rfl) ?_))
  refine wpAnyL_take (i := 31) (v := ?_) rfl (by kernel_rfl) (fun _ _ _ h => h) (Or.inl ⟨by rfl, ?_⟩) (by assumption) ?_; rotate_left; (focus (intro w hSw; skip; go_simp; (try with_reducible rfl))); (try (refine wpAnyL_norm (by simp only [Act.put, List.setIfInBounds_toArray, List.set_cons_zero, List.set_cons_succ]; rfl) ?_))
  refine wpAnyL_take (i := 32) (v := ?_) rfl (by kernel_rfl) (fun _ _ _ h => h) (Or.inl ⟨by rfl, ?_⟩) (by assumption) ?_; rotate_left; (focus (intro w hSw; skip; go_simp; (try with_reducible rfl))); (try (refine wpAnyL_norm (by simp only [Act.put, List.setIfInBounds_toArray, List.set_cons_zero, List.set_cons_succ]; rfl) ?_))
  refine wpAnyL_take (i := 33) (v := ?_) rfl (by kernel_rfl) (fun _ _ _ h => h) (Or.inl ⟨by rfl, ?_⟩) (by assumption) ?_; rotate_left; (focus (intro w hSw; skip; go_simp; (try with_reducible rfl))); (try (refine wpAnyL_norm (by simp only [Act.put, List.setIfInBounds_toArray, List.set_cons_zero, List.set_cons_succ]; rfl) ?_))
  refine wpAnyL_done (by kernel_rfl) ?_ _
  go_wp2_with fail
  refine wp_region_L (fun W => Fr [] w W ∧ At W w.heap.size 45 #[.int .u32 (ra : Int), .int .u32 (rs : Int)] ∧ At W y 119 #[.int .u64 (ep : Int), .bool un, .int .i64 (N : Int), wv, .pointer (some ⟨a, 0, none⟩), bv, .pointer (some ⟨a', 0, none⟩)]) [] (by kernel_rfl) ⟨hHeld.1.drew, hHeld.2.1.hp rfl, hHeld.2.2.hp rfl⟩ (fun hHeld => ?_)
  refine wpAnyL_take (i := 0) (v := ?_) rfl (by kernel_rfl) (fun _ _ _ h => h) (Or.inl ⟨by rfl, ?_⟩) (by assumption) ?_; rotate_left; (focus (intro w hSw; skip; go_simp; (try with_reducible rfl))); (try (refine wpAnyL_norm (by simp only [Act.put, List.setIfInBounds_toArray, List.set_cons_zero, List.set_cons_succ]; rfl) ?_))
  refine wpAnyL_take (i := 1) (v := ?_) rfl (by kernel_rfl) (fun _ _ _ h => h) (Or.inl ⟨by rfl, ?_⟩) (by assumption) ?_; rotate_left; (focus (intro w hSw; skip; go_simp; (try with_reducible rfl))); (try (refine wpAnyL_norm (by simp only [Act.put, List.setIfInBounds_toArray, List.set_cons_zero, List.set_cons_succ]; rfl) ?_))
  refine wpAnyL_take (i := 2) (v := ?_) rfl (by kernel_rfl) (fun _ _ _ h => h) (Or.inl ⟨by rfl, ?_⟩) (by assumption) ?_; rotate_left; (focus (intro w hSw; skip; go_simp; (try with_reducible rfl))); (try (refine wpAnyL_norm (by simp only [Act.put, List.setIfInBounds_toArray, List.set_cons_zero, List.set_cons_succ]; rfl) ?_))
  refine wpAnyL_take (i := 3) rfl (by kernel_rfl) (fun _ _ _ h => h) (yields_load_at 117 (.tmp 41) rfl ⟨y, 3, none⟩ rfl [wv, .pointer (some ⟨a, 0, none⟩)] _ (fun W h => two_at h.2.2 3 _ _ rfl rfl) Tryz.underlying117 rfl HLI.out rfl) (by assumption) ?_; (try (refine wpAnyL_norm (by simp only [Act.put, List.setIfInBounds_toArray, List.set_cons_zero, List.set_cons_succ]; rfl) ?_))
  refine wpAnyL_take (i := 4) rfl (by kernel_rfl) (fun _ _ _ h => h) (yields_load_at 45 (.tmp 3) rfl ⟨w.heap.size, 0, none⟩ rfl [.int .u32 (ra : Int), .int .u32 (rs : Int)] _ (fun W h => two_at h.2.1 0 _ _ rfl rfl) Tryz.underlying45 rfl infoRgS rfl) (by assumption) ?_; (try (refine wpAnyL_norm (by simp only [Act.put, List.setIfInBounds_toArray, List.set_cons_zero, List.set_cons_succ]; rfl) ?_))
  refine wpAnyL_ready (rs := [5]) (by kernel_rfl) (by simp) ?_; refine AllReadyL.cons rfl (fun K hK => ?_) AllReadyL.nil
  go_simp
  refine (HT1.out _ hHeld.1).mono ?_
  rintro e w5 ⟨rfl, hf5⟩
  refine hK.out _ _ (fun _ => ⟨hHeld.1.trans0 hf5, hHeld.2.1.fr hf5 (by simp), hHeld.2.2.fr hf5 (by simp)⟩) (fun hHeld' => ?_); have hHeld := hHeld' (by decide); clear hHeld' hK K; (try (refine wpAnyL_norm (by simp only [Act.put, List.setIfInBounds_toArray, List.set_cons_zero, List.set_cons_succ]; rfl) ?_))
  clear hf5
  refine wpAnyL_take (i := 6) (v := ?_) rfl (by kernel_rfl) (fun _ _ _ h => h) (Or.inl ⟨by rfl, ?_⟩) (by assumption) ?_; rotate_left; (focus (intro w hSw; skip; go_simp; (try with_reducible rfl))); (try (refine wpAnyL_norm (by simp only [Act.put, List.setIfInBounds_toArray, List.set_cons_zero, List.set_cons_succ]; rfl) ?_))
  rw [Bool.or_eq_false_iff] at ht
  obtain ⟨rfl, rfl⟩ := ht
  refine wpAnyL_take (i := 7) (v := ?_) rfl (by kernel_rfl) (fun _ _ _ h => h) (Or.inl ⟨by rfl, ?_⟩) (by assumption) ?_; rotate_left; (focus (intro w hSw; skip; go_simp; (try with_reducible rfl))); (try (refine wpAnyL_norm (by simp only [Act.put, List.setIfInBounds_toArray, List.set_cons_zero, List.set_cons_succ]; rfl) ?_))
  refine wpAnyL_take (i := 8) (v := ?_) rfl (by kernel_rfl) (fun _ _ _ h => h) (Or.inl ⟨by rfl, ?_⟩) (by assumption) ?_; rotate_left; (focus (intro w hSw; skip; go_simp; (try with_reducible rfl))); (try (refine wpAnyL_norm (by simp only [Act.put, List.setIfInBounds_toArray, List.set_cons_zero, List.set_cons_succ]; rfl) ?_))
  refine wpAnyL_take (i := 9) (v := ?_) rfl (by kernel_rfl) (fun _ _ _ h => h) (Or.inl ⟨by rfl, ?_⟩) (by assumption) ?_; rotate_left; (focus (intro w hSw; skip; go_simp; (try with_reducible rfl))); (try (refine wpAnyL_norm (by simp only [Act.put, List.setIfInBounds_toArray, List.set_cons_zero, List.set_cons_succ]; rfl) ?_))
  refine wpAnyL_take (i := 10) rfl (by kernel_rfl) (fun _ _ _ h => h) (yields_load_at 117 (.tmp 48) rfl ⟨y, 5, none⟩ rfl [bv, .pointer (some ⟨a', 0, none⟩)] _ (fun W h => two_at h.2.2 5 _ _ rfl rfl) Tryz.underlying117 rfl HLI.out rfl) (by assumption) ?_; (try (refine wpAnyL_norm (by simp only [Act.put, List.setIfInBounds_toArray, List.set_cons_zero, List.set_cons_succ]; rfl) ?_))
  refine wpAnyL_take (i := 11) rfl (by kernel_rfl) (fun _ _ _ h => h) (yields_load_at 45 (.tmp 3) rfl ⟨w.heap.size, 0, none⟩ rfl [.int .u32 (ra : Int), .int .u32 (rs : Int)] _ (fun W h => two_at h.2.1 0 _ _ rfl rfl) Tryz.underlying45 rfl infoRgS rfl) (by assumption) ?_; (try (refine wpAnyL_norm (by simp only [Act.put, List.setIfInBounds_toArray, List.set_cons_zero, List.set_cons_succ]; rfl) ?_))
  refine wpAnyL_ready (rs := [12]) (by kernel_rfl) (by simp) ?_; refine AllReadyL.cons rfl (fun K hK => ?_) AllReadyL.nil
  go_simp
  refine (HT2.out _ hHeld.1).mono ?_
  rintro e w6 ⟨rfl, hf6⟩
  refine hK.out _ _ (fun _ => ⟨hHeld.1.trans0 hf6, hHeld.2.1.fr hf6 (by simp), hHeld.2.2.fr hf6 (by simp)⟩) (fun hHeld' => ?_); have hHeld := hHeld' (by decide); clear hHeld' hK K; (try (refine wpAnyL_norm (by simp only [Act.put, List.setIfInBounds_toArray, List.set_cons_zero, List.set_cons_succ]; rfl) ?_))
  clear hf6
  refine wpAnyL_take (i := 13) (v := ?_) rfl (by kernel_rfl) (fun _ _ _ h => h) (Or.inl ⟨by rfl, ?_⟩) (by assumption) ?_; rotate_left; (focus (intro w hSw; skip; go_simp; (try with_reducible rfl))); (try (refine wpAnyL_norm (by simp only [Act.put, List.setIfInBounds_toArray, List.set_cons_zero, List.set_cons_succ]; rfl) ?_))
  refine wpAnyL_done (by kernel_rfl) ?_ _
  go_wp2_with fail
  have CL := fun (W : World) (hW : Fr [] w W) hy => ladd_any W y 3 #[.int .u64 (ep : Int), .bool un, .int .i64 (N : Int), wv, .pointer (some ⟨a, 0, none⟩), bv, .pointer (some ⟨a', 0, none⟩)] wv a b c n lw hy rfl rfl (H.out.wt.fr0 hW) A R hR hn HTE1.out
  rw [HRA.out, HRS.out] at CL
  have CL := Lib.hid CL
  refine wp_region_L (fun W => Fr [] w W ∧ At W w.heap.size 45 #[.int .u32 (ra : Int), .int .u32 (rs : Int)] ∧ At W y 119 #[.int .u64 (ep : Int), .bool un, .int .i64 (N : Int), wv, .pointer (some ⟨a, 0, none⟩), bv, .pointer (some ⟨a', 0, none⟩)]) [4] (by kernel_rfl) ⟨hHeld.1.drew, hHeld.2.1.hp rfl, hHeld.2.2.hp rfl⟩ (fun hHeld => ?_)
  refine wpAnyL_take (i := 0) (v := ?_) rfl (by kernel_rfl) (fun _ _ _ h => h) (Or.inl ⟨by rfl, ?_⟩) (by assumption) ?_; rotate_left; (focus (intro w hSw; skip; go_simp; (try with_reducible rfl))); (try (refine wpAnyL_norm (by simp only [Act.put, List.setIfInBounds_toArray, List.set_cons_zero, List.set_cons_succ]; rfl) ?_))
  refine wpAnyL_take (i := 1) (v := ?_) rfl (by kernel_rfl) (fun _ _ _ h => h) (Or.inl ⟨by rfl, ?_⟩) (by assumption) ?_; rotate_left; (focus (intro w hSw; skip; go_simp; (try with_reducible rfl))); (try (refine wpAnyL_norm (by simp only [Act.put, List.setIfInBounds_toArray, List.set_cons_zero, List.set_cons_succ]; rfl) ?_))
  refine wpAnyL_take (i := 2) (v := ?_) rfl (by kernel_rfl) (fun _ _ _ h => h) (Or.inl ⟨by rfl, ?_⟩) (by assumption) ?_; rotate_left; (focus (intro w hSw; skip; go_simp; (try with_reducible rfl))); (try (refine wpAnyL_norm (by simp only [Act.put, List.setIfInBounds_toArray, List.set_cons_zero, List.set_cons_succ]; rfl) ?_))
  refine wpAnyL_take (i := 3) rfl (by kernel_rfl) (fun _ _ _ h => h) (yields_load_at 45 (.tmp 3) rfl ⟨w.heap.size, 0, none⟩ rfl [.int .u32 (ra : Int), .int .u32 (rs : Int)] _ (fun W h => two_at h.2.1 0 _ _ rfl rfl) Tryz.underlying45 rfl infoRgS rfl) (by assumption) ?_; (try (refine wpAnyL_norm (by simp only [Act.put, List.setIfInBounds_toArray, List.set_cons_zero, List.set_cons_succ]; rfl) ?_))
  refine wpAnyL_ready (rs := [4]) (by kernel_rfl) (by simp) ?_; refine AllReadyL.cons rfl (fun K hK => ?_) AllReadyL.nil
  go_simp
  refine (CL.out _ hHeld.1 hHeld.2.2).mono ?_
  rintro e w8 ⟨⟨x, rfl⟩, v', k, hpl, hy8, hlt8, hf8, hv8⟩
  refine hK.out _ _ (fun h => (h (by decide)).elim) (fun _ => ?_); clear hK K; (try (refine wpAnyL_norm (by simp only [Act.put, List.setIfInBounds_toArray, List.set_cons_zero, List.set_cons_succ]; rfl) ?_))
  refine wpAnyL_done (by kernel_rfl) ?_ _
  have HPL := Lib.hid hpl
  have HY8 := Lib.hid hy8
  have HLT8 := Lib.hid hlt8
  have HF8 := Lib.hid hf8
  have HV8 := Lib.hid hv8
  have HW := Lib.hid hHeld.1
  clear hpl hy8 hlt8 hf8 hv8 hHeld CL
  go_wp2_with fail
  go_ret
  have hra := HRA.out
  have hrs := HRS.out
  subst hra hrs
  obtain ⟨⟨_, p1⟩, ⟨_, p2⟩, ⟨_, p3⟩⟩ := Pt.blocks H.out.bt.pt
  obtain ⟨-, -, ⟨_, q3⟩⟩ := Pt.blocks H.out.wt.pt
  have hwo := H.out.wt.own
  have hbo := H.out.bt.own
  have hya := H.out.at_
  have no1 : ∀ (t : TypeId) (q : Nat) (cs : Array Value), At w q t cs → t ≠ 119 → t ≠ 45 → q ≠ c → q ∉ y :: c :: wv.ownBlock.toList := fun t q cs hq h1 h2 h3 hm => by
    rcases List.mem_cons.1 hm with rfl | hm
    · exact h1 (hq.inj hya).1
    · rcases List.mem_cons.1 hm with rfl | hm
      · exact h3 rfl
      · exact own_toList hwo hq h2 hm
  have hb1 : a' ≠ c := by rintro rfl; exact absurd (p1.inj q3).1 (by decide)
  have hb2 : b' ≠ c := by rintro rfl; exact absurd (p2.inj q3).1 (by decide)
  refine ⟨k, v', rfl, HPL.out, ⟨?_, HLT8.out, ?_, H.out.ne, fun g hg hb => ?_, H.out.up, H.out.few⟩, ?_, fun g hg => ?_⟩
  · have := HY8.out
    unfold YS.cells
    dsimp only
    rw [HNN.out]
    exact this
  · refine (H.out.bt.fr0 HW.out).fr HF8.out (no1 _ _ _ p1 (by decide) (by decide) hb1) (no1 _ _ _ p2 (by decide) (by decide) hb2) (no1 _ _ _ p3 (by decide) (by decide) (fun h => H.out.ne h.symm)) (fun g hg hm => ?_)
    rcases List.mem_cons.1 hm with rfl | hm
    · exact own_ne hbo hya (by decide) g hg rfl
    · rcases List.mem_cons.1 hm with rfl | hm
      · exact own_ne hbo q3 (by decide) g hg rfl
      · cases hv : wv.ownBlock with
        | none => rw [hv] at hm; simp at hm
        | some r => rw [hv] at hm; simp at hm; subst hm; exact H.out.apart g hv hg
  · rcases HV8.out g hg with h1 | h1
    · exact H.out.apart g h1 hb
    · have := (hbo.lt g hb).2
      have := HW.out.size
      omega
  · exact (HW.out.more (by simp)).trans HF8.out (fun k hk => .inl hk)
  · rcases HV8.out g hg with h1 | h1
    · exact .inl h1
    · exact .inr (by have := HW.out.size; omega)
end Go.Proofs.YthjbnbimfpbccaaGreatDoor
