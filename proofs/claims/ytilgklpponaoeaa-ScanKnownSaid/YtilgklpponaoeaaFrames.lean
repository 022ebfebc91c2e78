/-
  What scan.Frame does to a frame. Conditions: numbers in their types' ranges; the frame has seventeen capabilities.
-/




import Derived.Test.YtilgklpponaoeaaList
import Derived.Test.YtilgklpponaoeaaFrameEq
import Derived.Test.YtilgklpponaoeaaFrameH
import Derived.Deep.RegionHeld3
import Derived.Laws.EntriesVeiled
set_option linter.unusedVariables false
namespace Go.Proofs.Ytilgklpponaoeaa
open Go.ChangeShapes Go.WideShapes Go.ChangeAt Go.RowKit
set_option maxHeartbeats 1000000 in
theorem fclean1_any {B : Nat} {w : World} {pv : Option Addr} {hs : Int → Bool} (h : Hs B w pv hs) (hB : B ≤ w.heap.size) (g q1 q2 : Nat) (T : TypeId) (l : List Cp) (i : Nat) (c : Cp) (k : Nat)
    (hg : At w g T (cat l).toArray) (hi : l[i]? = some c) (hc : c.cur < 4294967296) (h1 : At w q1 94 #[.func (.func 60) #[.agg #[.pointer pv]] #[]]) (h2 : At w q2 3 #[.int .i64 k]) (hk : k ≤ 1000000) (hgq : g ≠ q2) (hgB : B ≤ g) (hqB : B ≤ q2) :
    Calls Try.prog 91 #[.pointer (some ⟨g, i * 8, none⟩), .pointer (some ⟨q1, 0, none⟩), .pointer (some ⟨q2, 0, none⟩)] w fun r w' => (∃ v, r = .returned v) ∧ At w' g T (cat (l.set i (cln hs c))).toArray ∧ At w' q2 3 #[.int .i64 (k + sOne hs c : Nat)] ∧ Fr [g, q2] w w' := by
  have C := Lib.hid fun (W : World) (hW : W.heap = w.heap) => stale_any (h.hp (w' := W) hW) (by rw [hW]; exact hB) c hc
  obtain ⟨d0, d1, d2, d3, d4, d5, d6, d7⟩ := cat_cell hg i c hi
  have cq := h1.cell 0
  simp only [List.getElem?_toArray, List.getElem?_cons_zero] at cq
  have HG := Lib.hid hg
  have HI := Lib.hid hi
  have H2 := Lib.hid h2
  unfold Cp.cells at C
  have hl1 := hg.lt
  have hl2 := h1.lt
  unfold cln sOne
  by_cases hb : stB hs c = true
  · rw [hb] at C
    rw [if_pos hb, if_pos hb]
    clear h hg hi h1 h2 hb
    go_enter Try.func91, Try.ntmps91
    go_wp2_with fail
    go_region_held3 (fun w' => w'.cell? ⟨q1, 0, none⟩ = some (.func (.func 60) #[.agg #[.pointer pv]] #[]) ∧ w'.cell? ⟨g, i * 8, none⟩ = some (.int .u32 c.cur) ∧ w'.cell? ⟨g, i * 8 + 1, none⟩ = some (.int .u8 c.e) ∧ w'.cell? ⟨g, i * 8 + 2, none⟩ = some (.int .u16 c.b) ∧ w'.cell? ⟨g, i * 8 + 3, none⟩ = some (.int .u16 c.t) ∧ w'.cell? ⟨g, i * 8 + 4, none⟩ = some (.int .u16 c.pm) ∧ w'.cell? ⟨g, i * 8 + 5, none⟩ = some (.int .u16 c.ty) ∧ w'.cell? ⟨g, i * 8 + 6, none⟩ = some (.int .u32 c.rs) ∧ w'.cell? ⟨g, i * 8 + 7, none⟩ = some (.bool c.v)) (first | exact ⟨cq, d0, d1, d2, d3, d4, d5, d6, d7⟩ | exact dd | go_keep) ((go_at_call 60; refine (C.out _ (by rfl)).mono ?_; rintro e w5 ⟨rfl, hf5⟩; have keep : ∀ (a : Addr) (v : Value), w.cell? a = some v → w5.cell? a = some v := fun a v hv => (hf5.cell (a := a) (by exact lt_of_cell hv) (by simp)).trans hv; have dd := And.intro (keep _ _ cq) (And.intro (keep _ _ d0) (And.intro (keep _ _ d1) (And.intro (keep _ _ d2) (And.intro (keep _ _ d3) (And.intro (keep _ _ d4) (And.intro (keep _ _ d5) (And.intro (keep _ _ d6) (keep _ _ d7))))))))))
    all_goals
      have hf6 : Fr [] w w5 := hf5.hd rfl rfl rfl rfl
      have G5 := Lib.hid (HG.out.fr hf6 (by simp))
      have Q5 := Lib.hid (H2.out.fr hf6 (by simp))
      have F6 := Lib.hid hf6
      have e7 := dd.2.2.2.2.2.2.2.2
      have f7 := G5.out.froz (i * 8 + 7)
      have eq := Q5.out.cell 0
      have fq := Q5.out.froz 0
      simp only [List.getElem?_toArray, List.getElem?_cons_zero] at eq
      clear hf5 hf6 dd d0 d1 d2 d3 d4 d5 d6 d7 cq C
      go_wp2_with fail
      go_end0
    refine ⟨⟨_, rfl⟩, ?_, ?_, ((F6.out.more (T := [g, q2]) (by simp)).set (.inl (by simp)) _).set (.inl (by simp)) _⟩
    · have := (G5.out.set (i * 8 + 7) (.bool false)).far (show g ≠ q2 from hgq) (a := ⟨q2, 0, none⟩) (.int .i64 (k + 1))
      rw [List.setIfInBounds_toArray, cat_off l i c HI.out] at this
      exact this
    · exact (Q5.out.far (show q2 ≠ g from fun e => hgq e.symm) (a := ⟨g, i * 8 + 7, none⟩) (.bool false)).set 0 _
  · rw [Bool.not_eq_true] at hb
    rw [hb] at C ⊢
    simp only [Bool.false_eq_true, if_false, Nat.add_zero]
    clear h hg hi h1 h2 hb
    go_enter Try.func91, Try.ntmps91
    go_wp2_with fail
    go_region_held3 (fun w' => w'.cell? ⟨q1, 0, none⟩ = some (.func (.func 60) #[.agg #[.pointer pv]] #[]) ∧ w'.cell? ⟨g, i * 8, none⟩ = some (.int .u32 c.cur) ∧ w'.cell? ⟨g, i * 8 + 1, none⟩ = some (.int .u8 c.e) ∧ w'.cell? ⟨g, i * 8 + 2, none⟩ = some (.int .u16 c.b) ∧ w'.cell? ⟨g, i * 8 + 3, none⟩ = some (.int .u16 c.t) ∧ w'.cell? ⟨g, i * 8 + 4, none⟩ = some (.int .u16 c.pm) ∧ w'.cell? ⟨g, i * 8 + 5, none⟩ = some (.int .u16 c.ty) ∧ w'.cell? ⟨g, i * 8 + 6, none⟩ = some (.int .u32 c.rs) ∧ w'.cell? ⟨g, i * 8 + 7, none⟩ = some (.bool c.v)) (first | exact ⟨cq, d0, d1, d2, d3, d4, d5, d6, d7⟩ | exact dd | go_keep) ((go_at_call 60; refine (C.out _ (by rfl)).mono ?_; rintro e w5 ⟨rfl, hf5⟩; have keep : ∀ (a : Addr) (v : Value), w.cell? a = some v → w5.cell? a = some v := fun a v hv => (hf5.cell (a := a) (by exact lt_of_cell hv) (by simp)).trans hv; have dd := And.intro (keep _ _ cq) (And.intro (keep _ _ d0) (And.intro (keep _ _ d1) (And.intro (keep _ _ d2) (And.intro (keep _ _ d3) (And.intro (keep _ _ d4) (And.intro (keep _ _ d5) (And.intro (keep _ _ d6) (keep _ _ d7))))))))))
    all_goals
      have hf6 : Fr [] w w5 := hf5.hd rfl rfl rfl rfl
      have G5 := Lib.hid (HG.out.fr hf6 (by simp))
      have Q5 := Lib.hid (H2.out.fr hf6 (by simp))
      have F6 := Lib.hid hf6
      have e7 := dd.2.2.2.2.2.2.2.2
      have f7 := G5.out.froz (i * 8 + 7)
      have eq := Q5.out.cell 0
      have fq := Q5.out.froz 0
      simp only [List.getElem?_toArray, List.getElem?_cons_zero] at eq
      clear hf5 hf6 dd d0 d1 d2 d3 d4 d5 d6 d7 cq C
      go_wp2_with fail
      go_end0
    refine ⟨⟨_, rfl⟩, ?_, Q5.out, F6.out.more (by simp)⟩
    have hset : l.set i c = l := by
      obtain ⟨hlt, he⟩ := List.getElem?_eq_some_iff.1 HI.out
      rw [← he]; exact List.set_getElem_self hlt
    rw [hset]
    exact G5.out
theorem fscan1_any {B : Nat} {w : World} {pv : Option Addr} {hs : Int → Bool} (h : Hs B w pv hs) (hB : B ≤ w.heap.size) (g q1 q2 : Nat) (T : TypeId) (l : List Cp)
    (hg : At w g T (cat l).toArray) (hc : ∀ c ∈ l, c.cur < 4294967296) (h1 : At w q1 94 #[.func (.func 60) #[.agg #[.pointer pv]] #[]]) (h2 : At w q2 3 #[.int .i64 0]) (hl : l.length = 17) (hgq : g ≠ q2) (hgB : B ≤ g) (hqB : B ≤ q2) (hq1 : q1 ≠ g) (hq2 : q1 ≠ q2) :
    Calls Try.prog 67 #[.pointer (some ⟨g, 0, none⟩), .func (.func 91) #[] #[.pointer (some ⟨q1, 0, none⟩), .pointer (some ⟨q2, 0, none⟩)]] w fun r w' => (∃ v, r = .returned v) ∧ At w' g T (cat (l.map (cln hs))).toArray ∧ At w' q2 3 #[.int .i64 (sums hs l : Nat)] ∧ Fr [g, q2] w w' := by
  have HH := Lib.hid h
  have HC := Lib.hid hc
  have H1 := Lib.hid h1
  have HG := Lib.hid hg
  have H2 := Lib.hid h2
  have HN := Lib.hid hl
  clear h hc h1 hg h2 hl
  go_enter Try.func67, Try.ntmps67
  go_wp2
  go_loopw [5] (fun v wr => ∃ j : Nat, j ≤ 16 ∧ v = .int .i64 j ∧ At wr g T (cat (upto hs l j)).toArray ∧ At wr q2 3 #[.int .i64 (sums hs (l.take j) : Nat)] ∧ Fr [g, q2] w wr) (fun v _ => 16 - (intOf v).toNat)
  case atStart => exact ⟨0, by omega, rfl, by rw [upto_zero]; exact HG.out, H2.out, Fr.refl _ _⟩
  case round =>
    clear HG H2
    obtain ⟨j, hj, rfl, hg, h2, hf⟩ := hrel
    have HG := Lib.hid hg
    have H2 := Lib.hid h2
    have HF := Lib.hid hf
    clear hg h2 hf
    obtain ⟨c, hcj⟩ : ∃ c, l[j]? = some c := ⟨_, List.getElem?_eq_getElem (by rw [HN.out]; omega)⟩
    have hle := sums_le hs (l.take j)
    have hlj : (l.take j).length ≤ j := List.length_take_le _ _
    have C := Lib.hid (fclean1_any (HH.out.fr HF.out (by simp; exact ⟨hgB, hqB⟩)) (Nat.le_trans hB HF.out.size) g q1 q2 T _ j c _ HG.out (upto_get hs l j c hcj) (HC.out c (List.mem_of_getElem? hcj)) (H1.out.fr HF.out (by simp; exact ⟨hq1, hq2⟩)) H2.out (by omega) hgq hgB hqB)
    rw [upto_set hs l j c hcj, ← sums_succ hs l j c hcj] at C
    clear hcj hle hlj
    by_cases hlt : j < 16
    · go_wp2_with fail
      refine (C.out).mono ?_
      rintro e w5 ⟨⟨v, rfl⟩, g5, q5, f5⟩
      have G5 := Lib.hid g5
      have Q5 := Lib.hid q5
      have F5 := Lib.hid (HF.out.trans f5 (by simp))
      clear g5 q5 f5 C
      go_wp2_with fail
      go_roundw
      case rel => exact ⟨j + 1, by omega, by go_num, G5.out, Q5.out, F5.out⟩
      case measure => simp [intOf]; omega
    · obtain rfl : j = 16 := by omega
      have HU := Lib.hid (show upto hs l (16 + 1) = l.map (cln hs) by have := upto_all hs l; rw [HN.out] at this; exact this)
      have HT := Lib.hid (show l.take (16 + 1) = l by rw [show 16 + 1 = l.length from HN.out.symm, List.take_length])
      go_wp2_with fail
      refine (C.out).mono ?_
      rintro e w5 ⟨⟨v, rfl⟩, g5, q5, f5⟩
      rw [HU.out] at g5
      rw [HT.out] at q5
      have G5 := Lib.hid g5
      have Q5 := Lib.hid q5
      have F5 := Lib.hid (HF.out.trans f5 (by simp))
      clear g5 q5 f5 C
      go_wp2_with fail
      go_end0
      exact ⟨⟨_, rfl⟩, G5.out, Q5.out, F5.out⟩
theorem fclean_any {B : Nat} {w : World} {pv : Option Addr} {hs : Int → Bool} (h : Hs B w pv hs) (g : Nat) (T : TypeId) (l : List Cp)
    (hg : At w g T (cat l).toArray) (hc : ∀ c ∈ l, c.cur < 4294967296) (hl : l.length = 17) (hgB : B ≤ g) :
    Calls Try.prog 66 #[.pointer (some ⟨g, 0, none⟩), .pointer pv, .func (.func 67) #[] #[]] w fun r w' => r = .returned (.int .i64 (sums hs l : Nat)) ∧ At w' g T (cat (l.map (cln hs))).toArray ∧ Fr [g] w w' := by
  have hlt := hg.lt
  have F0 : Fr [] w ((w.alloc (.cells #[.func (.func 60) #[.agg #[.pointer pv]] #[]] 94)).alloc (.cells #[.int .i64 0] 3)) := (by repeat (first | exact Fr.refl _ _ | assumption | refine Fr.trans0 ?_ (by assumption) | refine Fr.drewN ?_ _ | refine Fr.alloc ?_ _ | refine Fr.drew ?_))
  have A1 := (At.new w 94 #[.func (.func 60) #[.agg #[.pointer pv]] #[]]).old (.cells #[.int .i64 0] 3)
  have A2 := At.new (w.alloc (.cells #[.func (.func 60) #[.agg #[.pointer pv]] #[]] 94)) 3 #[.int .i64 0]
  rw [World.size_alloc] at A2
  have C := Lib.hid (fscan1_any (h.fr F0 (by simp)) (by have := F0.size; omega) g w.heap.size (w.heap.size + 1) T l (hg.fr F0 (by simp)) hc A1 A2 hl (by omega) hgB (by omega) (by omega) (by omega))
  have HF0 := Lib.hid F0
  obtain ⟨s, hs1⟩ : ∃ s, sums hs l = s := ⟨_, rfl⟩
  rw [hs1] at C ⊢
  clear h hg hc hl F0 A1 A2 hs1
  go_enter Try.func66, Try.ntmps66
  go_wp2_with fail
  refine (C.out).mono ?_
  rintro e w5 ⟨⟨v, rfl⟩, g5, q5, f5⟩
  have c := q5.cell 0
  simp only [List.getElem?_toArray, List.getElem?_cons_zero] at c
  have G5 := Lib.hid g5
  have F5 := Lib.hid ((HF0.out.more (T := [g]) (by simp)).trans f5 (by simp))
  clear g5 q5 f5
  go_wp2_with fail
  go_ret
  exact ⟨rfl, G5.out, F5.out⟩
set_option maxHeartbeats 1000000 in
set_option maxRecDepth 100000 in
theorem sframe_any {B : Nat} {w : World} {pv : Option Addr} {hs : Int → Bool} (h : Hs B w pv hs) (hB : B ≤ w.heap.size) (fr : List Cp) (hl : fr.length = 17) (hc : ∀ c ∈ fr, c.cur < 4294967296) :
    Calls Try.prog 29 #[.agg (cat fr).toArray, .pointer pv] w fun r w' => r = .returned (.tuple #[.agg (cat (fr.map (cln hs))).toArray, .int .i64 (sums hs fr : Nat)]) ∧ Fr [] w w' := by
  have hz := fun w => zeroFrame w
  have ZI := Lib.hid (show (Try.prog.info? 78).map (·.size) = some (cat zf).toArray.size by rw [infoFrame, cat_size (n := 17) rfl])
  have hZ : (cat zf).toArray.size = 17 * 8 := cat_size rfl
  obtain ⟨Z, hZe⟩ : ∃ Z, (cat zf).toArray = Z := ⟨_, rfl⟩
  rw [hZe] at hz ZI hZ
  have hml : (fr.map (cln hs)).length = 17 := by rw [List.length_map]; exact hl
  have HI := Lib.hid (show (Try.prog.info? 78).map (·.size) = some (cat (fr.map (cln hs))).toArray.size by rw [infoFrame, cat_size hml])
  have HQ := Lib.hid (show Z.size = (cat (fr.map (cln hs))).toArray.size by rw [hZ, cat_size hml])
  have HAll := Lib.hid (cat_all (fr.map (cln hs)))
  have A0 : At ((w.alloc (.cells (cat fr).toArray 78)).alloc (.cells Z 78)) w.heap.size 78 (cat fr).toArray := (At.new w 78 _).old _
  have F0 : Fr [] w ((w.alloc (.cells (cat fr).toArray 78)).alloc (.cells Z 78)) := (by repeat (first | exact Fr.refl _ _ | assumption | refine Fr.trans0 ?_ (by assumption) | refine Fr.drewN ?_ _ | refine Fr.alloc ?_ _ | refine Fr.drew ?_))
  have A1 : At ((w.alloc (.cells (cat fr).toArray 78)).alloc (.cells Z 78)) (w.heap.size + 1) 78 Z := by
    have := At.new (w.alloc (.cells (cat fr).toArray 78)) 78 Z
    rw [World.size_alloc] at this
    exact this
  have C := Lib.hid (fclean_any (h.fr F0 (by simp)) w.heap.size 78 fr A0 hc hl hB)
  obtain ⟨s, hs1⟩ : ∃ s, sums hs fr = s := ⟨_, rfl⟩
  obtain ⟨D, hD⟩ : ∃ D, (cat (fr.map (cln hs))).toArray = D := ⟨_, rfl⟩
  obtain ⟨A, hA⟩ : ∃ A, (cat fr).toArray = A := ⟨_, rfl⟩
  rw [hs1, hD, hA] at C
  rw [hD] at HI HQ HAll
  rw [hA] at A0 A1 F0
  rw [hs1, hD, hA]
  have HF0 := Lib.hid F0
  have HA1 := Lib.hid A1
  clear h hc hl hs1 hD hA hZe hZ hml A0 A1 F0
  go_enter Try.func29, Try.ntmps29
  go_wp2_with fail
  refine (C.out).mono ?_
  rintro e w5 ⟨rfl, g5, f5⟩
  have G5 := Lib.hid g5
  have Z5 := Lib.hid (HA1.out.fr f5 (by simp))
  have F5 := Lib.hid (HF0.out.trans f5 (by simp))
  clear g5 f5 C
  go_wp2_with (first | (refine wpList_load_all rfl 78 (.tmp 2) rfl w.heap.size rfl 78 D _ G5.out Try.underlying78 rfl HI.out ?_) | (refine wpList_store_all rfl 78 (.tmp 4) (.tmp 9) rfl (w.heap.size + 1) D rfl rfl 78 Z Z5.out HI.out HQ.out HAll.out ?_; intro w6 hA6 hF6))
  exact bodyPost_ret (res_row_tmp rfl _ _ _ 78 _ _ rfl hA6 Try.underlying78 rfl HI.out) rfl ⟨rfl, F5.out.trans hF6 (by simp <;> omega)⟩
end Go.Proofs.Ytilgklpponaoeaa
