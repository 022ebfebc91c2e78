/-
  What the functions of a lot compute. Condition: numbers in their types' ranges.
-/



import Derived.Test.YtflhpgfnffmimaaPlain
import Derived.Test.YtflhpgfnffmimaaCopy
import Derived.Deep.CutBlock
import Derived.Deep.DeepCutAuto
set_option linter.unusedVariables false
namespace Go.Proofs.Ytflhpgfnffmimaa
open Go.ChangeShapes Go.WideShapes Go.ChangeAt Go.RowKit
theorem res_rowL {P : Program} {fn : Func} {p : Tmp} {ty : TypeId} (h : fn.results = #[.cell p ty]) (tmps : Array Value) (w : World) (g : Nat) (t : TypeId) (cs : Array Value) (d : TypeDesc)
    (hp : tmps.getD p undef = .pointer (some ⟨g, 0, none⟩)) (hg : At w g t cs)
    (hu : P.underlying ty = some d) (hd : (match d with | .struct _ | .array _ _ => true | _ => false) = true) (hi : (P.info? ty).map (·.size) = some cs.size) :
    (results fn tmps).run P w = .ok (.agg cs) w := results_cell_row h tmps w g t cs (0, 0) d hp hg hu hd hi
theorem At.newq {w : World} {g : Nat} {t : TypeId} {cs : Array Value} (h : g = w.heap.size) : At (w.alloc (.cells cs t)) g t cs := by subst h; exact At.new w t cs
/-- A list and its paint. -/
structure Lt (w : World) (v : Value) (a b c n : Nat) (l : List (Nat × Nat)) : Prop where
  own : w.ownsRow 0 30 2 v l.length (rgv l)
  pt : Pt w a b c n (cov l)
  good : Good n l
theorem Lt.fr {w w' : World} {v : Value} {a b c n : Nat} {l : List (Nat × Nat)} {S : List Nat} (h : Lt w v a b c n l) (f : Fr S w w') (h1 : a ∉ S) (h2 : b ∉ S) (h3 : c ∉ S) (h4 : ∀ g, v.ownBlock = some g → g ∉ S) : Lt w' v a b c n l := ⟨own_fr h.own f h4, h.pt.fr f h1 h2 h3, h.good⟩
theorem Lt.fr0 {w w' : World} {v : Value} {a b c n : Nat} {l : List (Nat × Nat)} (h : Lt w v a b c n l) (f : Fr [] w w') : Lt w' v a b c n l := h.fr f (by simp) (by simp) (by simp) (by simp)
set_option maxRecDepth 100000 in
theorem fresh_any (n : Nat) (w : World) (hn : n ≤ 16384) :
    Calls Try.prog 33 #[.int .i64 (16 * n : Nat)] w fun r w' => ∃ a b c, r = .returned (.agg #[.slice none 0 0, .pointer (some ⟨a, 0, none⟩)]) ∧ Lt w' (.slice none 0 0) a b c n [] ∧ w.heap.size ≤ a ∧ w.heap.size ≤ b ∧ w.heap.size ≤ c ∧ Fr [] w w' := by
  obtain ⟨m, hm⟩ : ∃ m, 16 * n = m := ⟨_, rfl⟩
  have C := Lib.hid fun W => ptnew_any n W hn
  rw [hm] at C ⊢
  have HI := Lib.hid (show (Try.prog.info? 66).map (·.size) = some 2 by kernel_rfl)
  clear hm
  go_enter Try.func33, Try.ntmps33
  go_wp2_with fail
  refine (C.out _).mono ?_
  rintro e w2 ⟨a, b, c, rfl, h2, ha, hb, hc, hf2⟩
  have hga : Fr [] w (w.alloc (.cells #[.slice none 0 0, .pointer none] 66)) := (by repeat (first | exact Fr.refl _ _ | assumption | refine Fr.trans0 ?_ (by assumption) | refine Fr.drewN ?_ _ | refine Fr.alloc ?_ _ | refine Fr.drew ?_))
  rw [World.size_alloc] at ha hb hc
  have A2 := (At.new w 66 #[.slice none 0 0, .pointer none]).fr hf2 (by simp)
  have P2 := Lib.hid h2
  have F2 := Lib.hid (hga.trans0 hf2)
  have HA2 := Lib.hid A2
  have c0 := A2.cell 0
  have c1 := A2.cell 1
  have z0 := A2.froz 0
  have z1 := A2.froz 1
  simp only [List.getElem?_toArray, List.getElem?_cons_zero, List.getElem?_cons_succ] at c0 c1
  clear h2 hf2 hga A2
  go_wp2_with fail
  have hs := F2.out.size
  have A3 := (HA2.out.set 0 (.slice none 0 0)).set 1 (.pointer (some ⟨a, 0, none⟩))
  have F3 : Fr [w.heap.size] w2 ((w2.setCell ⟨w.heap.size, 0, none⟩ (.slice none 0 0)).setCell ⟨w.heap.size, 1, none⟩ (.pointer (some ⟨a, 0, none⟩))) := ((Fr.refl _ _).set (.inl (by simp)) _).set (.inl (by simp)) _
  refine bodyPost_ret (res_rowL rfl _ _ w.heap.size 66 _ _ rfl A3 Try.underlying66 rfl HI.out) rfl ⟨a, b, c, rfl, ⟨World.ownsRow_nil _ _ _ _, ?_, good_nil n⟩, by omega, by omega, by omega, F2.out.trans F3 (by simp)⟩
  exact P2.out.fr F3 (by simp; omega) (by simp; omega) (by simp; omega)
set_option maxHeartbeats 1000000 in
set_option maxRecDepth 100000 in
theorem touched_any (w : World) (v : Value) (a b c n : Nat) (l : List (Nat × Nat)) (h : Lt w v a b c n l) (A R : Nat) (hn : A + R ≤ n) :
    Calls Try.prog 35 #[.agg #[v, .pointer (some ⟨a, 0, none⟩)], .agg #[.int .u32 (16 * A : Nat), .int .u32 (16 * R : Nat)]] w fun r w' => r = .returned (.bool (tch (cov l) A R)) ∧ Fr [] w w' := by
  have hn2 := h.pt.2.2.2.2
  have C := Lib.hid fun (W : World) (hW : Fr [] w W) (x : Nat) (hx : x < n) => pthas_any W a b c n (cov l) (h.pt.fr hW (by simp) (by simp) (by simp)) ((16 * x : Nat) : Int) (by omega) (by omega)
  have CH := Lib.hid fun (x : Nat) (hx : x < n) => show hasP n (cov l) ((16 * x : Nat) : Int) = cov l x by
    unfold hasP
    rw [show (((16 * x : Nat) : Int) / 16) = (x : Int) by omega, inR_nat x n hx, Int.toNat_natCast, Bool.true_and]
  have hT0 : Hid (tch (cov l) A R = (List.range R).any fun k => cov l (A + k)) := Lib.hid rfl
  obtain ⟨T, hT⟩ : ∃ T, tch (cov l) A R = T := ⟨_, rfl⟩
  rw [hT] at hT0 ⊢
  obtain ⟨sa, hsa⟩ : ∃ s, 16 * A = s := ⟨_, rfl⟩
  obtain ⟨sr, hsr⟩ : ∃ s, 16 * R = s := ⟨_, rfl⟩
  obtain ⟨va, vc, rfl, -⟩ := own_slice h.own
  have HSA := Lib.hid hsa
  have HSR := Lib.hid hsr
  have hb1 : sa + sr ≤ 262144 := by omega
  rw [hsa, hsr]
  obtain ⟨L, hL⟩ : ∃ L, l.length = L := ⟨_, rfl⟩
  rw [hL]
  have w1 : IntKind.u64.wrap (sa : Int) = sa := by simp [IntKind.wrap, IntKind.signed, IntKind.bits]; omega
  have A0 := Lib.hid ((At.new w 66 #[.slice va L vc, .pointer (some ⟨a, 0, none⟩)]).old (.cells #[.int .u32 (sa : Int), .int .u32 (sr : Int)] 30))
  have A1 := Lib.hid (At.newq (w := w.alloc (.cells #[.slice va L vc, .pointer (some ⟨a, 0, none⟩)] 66)) (g := w.heap.size + 1) (t := 30) (cs := #[.int .u32 (sa : Int), .int .u32 (sr : Int)]) (by simp only [World.size_alloc]))
  have F0 := Lib.hid (show Fr [] w ((w.alloc (.cells #[.slice va L vc, .pointer (some ⟨a, 0, none⟩)] 66)).alloc (.cells #[.int .u32 (sa : Int), .int .u32 (sr : Int)] 30)) from (by repeat (first | exact Fr.refl _ _ | assumption | refine Fr.trans0 ?_ (by assumption) | refine Fr.drewN ?_ _ | refine Fr.alloc ?_ _ | refine Fr.drew ?_)))
  clear h hT hsa hsr hL
  go_enter Try.func35, Try.ntmps35
  go_wp2_with fail
  go_loopw [5] (fun s wr => ∃ k : Nat, k ≤ R ∧ s = .int .u64 ((sa + 16 * k : Nat) : Int) ∧ ((List.range k).any fun k => cov l (A + k)) = false ∧ At wr w.heap.size 66 #[.slice va L vc, .pointer (some ⟨a, 0, none⟩)] ∧ At wr (w.heap.size + 1) 30 #[.int .u32 (sa : Int), .int .u32 (sr : Int)] ∧ Fr [] w wr) (fun s _ => sa + sr - (intOf s).toNat)
  case atStart => exact ⟨0, by omega, rfl, rfl, A0.out, A1.out, F0.out⟩
  case round =>
    clear A0 A1 F0
    obtain ⟨k, hk, rfl, hno, h0, h1, hf⟩ := hrel
    have c0 := h0.cell 1
    have d0 := h1.cell 0
    have d1 := h1.cell 1
    simp only [List.getElem?_toArray, List.getElem?_cons_zero, List.getElem?_cons_succ] at c0 d0 d1
    have H0 := Lib.hid h0
    have H1 := Lib.hid h1
    have HF := Lib.hid hf
    have HNO := Lib.hid hno
    have hR := HSR.out
    have hA := HSA.out
    have hra : sr = R * 16 := by omega
    have w2 : IntKind.u64.wrap (sr : Int) = sr := by simp [IntKind.wrap, IntKind.signed, IntKind.bits]; omega
    have w3 : IntKind.u64.wrap ((sa : Int) + (sr : Int)) = (sa : Int) + sr := by simp [IntKind.wrap, IntKind.signed, IntKind.bits]; omega
    clear h0 h1 hf hno
    obtain ⟨p, hp⟩ : ∃ p, sa + 16 * k = p := ⟨_, rfl⟩
    have hp16 : p = 16 * (A + k) := by omega
    have w4 : IntKind.u32.wrap (p : Int) = (p : Int) := by simp [IntKind.wrap, IntKind.signed, IntKind.bits]; omega
    have w5 : IntKind.u64.wrap ((p : Int) + 16) = (p : Int) + 16 := by simp [IntKind.wrap, IntKind.signed, IntKind.bits]; omega
    rw [hp]
    by_cases hkr : k < R
    · have hlt : (p : Int) < (sa : Int) + (sr : Int) := by omega
      have CX := C.out wr HF.out (A + k) (by omega)
      rw [CH.out (A + k) (by omega), ← hp16] at CX
      obtain ⟨B, hB⟩ : ∃ B, cov l (A + k) = B := ⟨_, rfl⟩
      rw [hB] at CX
      have HCX := Lib.hid CX
      have HB := Lib.hid hB
      have HPE := Lib.hid hp
      clear CX hB hR hA hra hp16 hp
      cases B
      · go_wp2_with fail
        refine (HCX.out).mono ?_
        rintro e w' ⟨rfl, rfl⟩
        go_wp2_with fail
        go_roundw
        case rel => exact ⟨k + 1, by omega, by rw [show sa + 16 * (k + 1) = p + 16 by have := HPE.out; omega]; go_num, by rw [List.range_succ, List.any_append, HNO.out]; simp [HB.out], H0.out, H1.out, HF.out⟩
        case measure => simp [intOf]; omega
      · go_wp2_with fail
        refine (HCX.out).mono ?_
        rintro e w' ⟨rfl, rfl⟩
        go_wp2_with fail
        go_ret
        refine ⟨ret_bool ?_, HF.out⟩
        rw [hT0.out]
        symm
        rw [List.any_eq_true]
        exact ⟨k, List.mem_range.2 hkr, HB.out⟩
    · obtain rfl : k = R := by omega
      have hlt : ¬ ((p : Int) < (sa : Int) + (sr : Int)) := by omega
      clear hR hA hra hp16 hp
      go_wp2_with fail
      go_ret
      exact ⟨ret_bool (by rw [hT0.out]; exact HNO.out.symm), HF.out⟩
set_option maxRecDepth 100000 in
/-- slices.Clone of regions: a new list over new memory. -/
theorem qclone_any {w : World} {v : Value} {l : List (Nat × Nat)} (h : w.ownsRow 0 30 2 v l.length (rgv l)) (hl : l.length ≤ 100000) :
    Calls Try.prog 37 #[v] w fun r w' => ∃ v', r = .returned v' ∧ w'.ownsRow w.heap.size 30 2 v' l.length (rgv l) ∧ Fr [] w w' := by
  obtain ⟨i0, hi, hz0, hz1, hz2⟩ := info_parts infoRg
  obtain ⟨n, hn⟩ : ∃ n, l.length = n := ⟨_, rfl⟩
  have hc := rgv_len l
  rw [hn] at h hc hl ⊢
  rcases h.2 with ⟨rfl, h0⟩ | ⟨g, cap, cur, rfl, hb, hg, h1, h2, h3, h4⟩
  · subst h0
    have e : rgv l = [] := List.eq_nil_of_length_eq_zero (by omega)
    rw [e]
    have heq := fun W : World => Lib.run_eql_slice_nil (P := Try.prog) W 35 30 none 0 0 0 0 Try.underlying35
    clear h
    go_enter Try.func37, Try.ntmps37
    go_wp2_with fail
    go_ret
    exact ⟨_, rfl, World.ownsRow_nil _ _ _ _, Fr.refl _ _⟩
  · have hcell := Lib.hid fun (W : World) (f : Fr [] w W) j u (hu : (rgv l)[j]? = some u) => show W.cell? ((⟨g, 0, none⟩ : Addr).add j) = some u by
      rw [Go.WideShapes.add_plain, Nat.zero_add, (At.fr (show At w g 30 cur from hg) f (by simp)).cell j]
      rw [← h4, List.getElem?_take] at hu
      split at hu
      · simpa using hu
      · cases hu
    have hone := Lib.hid (rgv_one l)
    have hl1 := Lib.hid hc
    have heq := fun W : World => Lib.run_eql_slice_nil (P := Try.prog) W 35 30 (some ⟨g, 0, none⟩) n cap 0 0 Try.underlying35
    simp only [Option.isNone_some] at heq
    clear h hg h4 hc
    go_enter Try.func37, Try.ntmps37
    have hown0 : Hid ((w.alloc (.cells #[] 30)).ownsRow w.heap.size 30 2 (.slice (some ⟨w.heap.size, 0, none⟩) 0 0) 0 []) := Lib.hid ⟨rfl, .inr ⟨w.heap.size, 0, #[], rfl, Nat.le_refl _, heap_alloc_new w _, Nat.le_refl _, by unfold maxLen; omega, rfl, rfl⟩⟩
    have hnews := Lib.hid (hcell.out (w.alloc (.cells #[] 30)) ((Fr.refl _ _).alloc _))
    go_wp2_with (at_builtin; refine wpList_append_own_at _ rfl (.tmp 5) (.tmp 6) 35 rfl w.heap.size 30 i0 (.agg #[.int .u32 0, .int .u32 0]) 2 8 Try.underlying35 hi hz0 hz1 hz2 rfl (by omega) (.slice (some ⟨w.heap.size, 0, none⟩) 0 0) 0 [] rfl hown0.out ⟨g, 0, none⟩ n cap (rgv l) rfl hl1.out hnews.out hone.out (by unfold maxLen; omega) (by omega) (by simp) ?_; intro v1 w1 hown1 hg1 hnil hat1)
    go_ret
    rw [Nat.zero_add, List.nil_append] at hown1
    exact ⟨v1, rfl, hown1, ((Fr.refl [] w).alloc _).trans (Fr.grown hg1) (by simp [Value.ownBlock])⟩
end Go.Proofs.Ytflhpgfnffmimaa
