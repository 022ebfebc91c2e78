/-
  ScanLists: of any capabilities those that are stale are told, and made not valid, as the reference says; for any regions painted, twenty at most, any capabilities, forty at most. No condition.
-/




import Derived.Test.YtibjdcllnjfnoaaPainted
import Derived.Deep.CutBlock
import Derived.Deep.DeepCutAuto
set_option linter.unusedVariables false
namespace Go.Proofs.Ytibjdcllnjfnoaa
open Go.ChangeShapes Go.WideShapes Go.ChangeAt Go.RowKit
namespace scanLists
theorem cat_take (l : List Cp) (m : Nat) : (cat l).take (m * 8) = cat (l.take m) := by
  induction m generalizing l with
  | zero => simp [cat]
  | succ m ih =>
    cases l with
    | nil => simp [cat]
    | cons c l =>
      have := ih l
      unfold cat at this ⊢
      rw [List.take_succ_cons, List.flatMap_cons, List.flatMap_cons, ← this, show (m + 1) * 8 = c.l.length + m * 8 by rw [Cp.l_len]; omega, List.take_length_add_append]
theorem yields_load_off {ops : Array Oper} {o : Oper} {a : Act} {S : World → Prop} (x : Operand) (ho : o.op = .load 36 x) (g off i : Nat) (hx : a.eval x = .pointer (some ⟨g, off + i * 8, none⟩)) (l : List Cp) (hg : ∀ W, S W → ∀ m v, (cat l)[m]? = some v → W.cell? ⟨g, off + m, none⟩ = some v) (c : Cp) (hi : l[i]? = some c)
    (hw : Region.wanted o (yielded ops a.tmps) = true) : YieldsIf Try.prog ops S o (.agg c.cells) a :=
  yields_load_at 36 x ho ⟨g, off + i * 8, none⟩ hx c.l _ (fun W hW j v hv => by
    have hj : j < 8 := by have := (List.getElem?_eq_some_iff.1 hv).1; rw [Cp.l_len] at this; exact this
    rw [Go.WideShapes.add_plain, Nat.add_assoc]
    exact hg W hW _ _ (by rw [cat_get l i j c hi hj, hv])) Try.underlying36 rfl infoCapS hw
theorem own_in {w : World} {b : Nat} {a : Option Addr} {c n : Nat} {l : List Cp} (hn : l.length = n) (h : w.ownsRow b 36 8 (.slice a n c) n (cat l)) : CapsIn w a l := by
  rcases own_caps hn h with ⟨_, h0⟩ | ⟨g, c', e, _, _, _, hc⟩
  · exact .inl (List.eq_nil_of_length_eq_zero (by omega))
  · injection e with e1 e2 e3
    exact .inr ⟨⟨g, 0, none⟩, e1, fun j v hv => by rw [Go.WideShapes.add_plain, Nat.zero_add]; exact hc [] w (Fr.refl _ _) (by simp) j v hv⟩
theorem nohs_st (c : Cp) : stB nohs c = false := by unfold stB nohs; exact Bool.and_false _
set_option maxHeartbeats 4000000 in
set_option maxRecDepth 100000 in
theorem walk (a0 : Option Addr) (len0 cap0 : Nat) (a1 : Option Addr) (len1 cap1 : Nat) (w : World) (w0 : Elems w a0 len0 [.i .u32, .i .u32]) (w1 : Elems w a1 len1 [.i .u32, .i .u8, .i .u16, .i .u16, .i .u16, .i .u16, .i .u32, .b] ∧ len1 ≤ cap1 ∧ cap1 ≤ maxLen ∧ (a1 = none → len1 = 0 ∧ cap1 = 0)) :
    Calls Try.prog 3 #[.slice a0 len0 cap0, .slice a1 len1 cap1] w fun e w' => e = .returned (.bool true) ∧ Fr [] w w' := by
  obtain ⟨i0, hi, hz0, hz1, hz2⟩ := info_parts infoCap8
  obtain ⟨w1, hlc, hcm, hnn⟩ := w1
  have HNN := Lib.hid hnn
  obtain ⟨l, hll, hok, hat⟩ := caps_of w1
  have HL := Lib.hid hll
  have HOK := Lib.hid hok
  have HAT := Lib.hid hat
  have CP := Lib.hid (painted_any w a0 len0 cap0 w0)
  unfold maxLen at hcm
  have CAP : ∀ (a b : Cp) (w : World), (Op.equalIn 10000 36 (.agg a.cells) (.agg b.cells)).run Try.prog w = .ok (eqC a b) w := cap_eq
  have CSE : ∀ a, eqC a a = true := eqC_self
  obtain ⟨m, hm⟩ : ∃ m, min len1 40 = m := ⟨_, rfl⟩
  have hm1 : m ≤ len1 ∧ m ≤ 40 := by omega
  have hmi : min (len1 : Int) 40 = (m : Int) := by omega
  have HM := Lib.hid hm
  obtain ⟨hml, hm40⟩ := hm1
  clear w0 w1 hll hok hat hm hnn
  go_enter Try.func3, Try.ntmps3
  go_wp2_with fail
  refine (CP.out).mono ?_
  rintro e w2 ⟨f, pp, p, g, v, rfl, hP, hB, hf2⟩
  obtain ⟨av, cv, rfl, hcv⟩ := own_slice hB
  have hfa : Fr [] w2 (w2.alloc (.cells #[.slice av 256 cv] 27)) := (by repeat (first | exact Fr.refl _ _ | assumption | refine Fr.trans0 ?_ (by assumption) | refine Fr.drewN ?_ _ | refine Fr.alloc ?_ _ | refine Fr.drew ?_))
  have P3 := Lib.hid (hP.fr hfa (by simp) (by simp) (by simp))
  have B3 := Lib.hid (own_fr0 hB hfa)
  have A3 := Lib.hid (At.new w2 27 #[.slice av 256 cv])
  have F3 := Lib.hid (hf2.trans0 hfa)
  clear hP hB hf2 hfa CP
  go_upto_region 5 with (fail)
  obtain ⟨w3, hw3⟩ : ∃ W, w2.alloc (.cells #[.slice av 256 cv] 27) = W := ⟨_, rfl⟩
  rw [hw3] at P3 B3 A3 F3 ⊢
  obtain ⟨q, hq⟩ : ∃ q, w2.heap.size = q := ⟨_, rfl⟩
  rw [hq] at A3 ⊢
  clear hw3 hq
  go_cut [7] (fun s7 wx => ∃ v : Value, s7 = v ∧ wx.ownsRow w3.heap.size 36 8 v m (cat (l.take m)) ∧ Fr [] w3 wx)
  case first =>
    have hcc : (cat (l.take m)).length = m * 8 := by rw [cat_len, List.length_take, HL.out]; omega
    have HCC := Lib.hid hcc
    have HC1 := Lib.hid (cat_one' (l.take m))
    clear hcc
    cases a1 with
    | none =>
      obtain ⟨rfl, rfl⟩ := HNN.out rfl
      obtain rfl : m = 0 := by omega
      go_wp2_with fail
      go_meet
      exact ⟨_, rfl, World.ownsRow_nil _ _ _ _, Fr.refl _ _⟩
    | some ad =>
      have hcell : ∀ j u, (cat (l.take m))[j]? = some u → w3.cell? (ad.add j) = some u := fun j u hu => by
        rcases HAT.out with h | ⟨b, off, e, hb, hc⟩
        · rw [h] at hu; simp [cat] at hu
        · injection e with e
          subst e
          rw [Go.WideShapes.add_plain]
          rw [← cat_take, List.getElem?_take] at hu
          split at hu
          · exact (F3.out.cell (a := ⟨b, off + j, none⟩) hb (by simp)).trans (hc j u hu)
          · cases hu
      have HCE := Lib.hid hcell
      clear hcell
      rcases Nat.lt_or_ge 40 len1 with h40 | h40
      · obtain rfl : m = 40 := by omega
        go_wp2_with (at_builtin; refine wpList_append_own_at _ rfl (.tmp 20) (.tmp 25) 23 rfl w3.heap.size 36 i0 (.agg noC.cells) 8 24 Try.underlying23 hi hz0 hz1 hz2 rfl (by omega) (.slice none 0 0) 0 [] rfl (World.ownsRow_nil _ _ _ _) ad 40 cap1 (cat (l.take 40)) rfl HCC.out HCE.out HC1.out (by unfold maxLen; omega) (by omega) (by simp) ?_; intro v1 w4 hown1 hg1 hnil hat1)
        go_meet
        rw [Nat.zero_add, List.nil_append] at hown1
        exact ⟨v1, rfl, hown1, Fr.grown hg1⟩
      · obtain rfl : m = len1 := by omega
        go_wp2_with (at_builtin; refine wpList_append_own_at _ rfl (.tmp 20) (.tmp 25) 23 rfl w3.heap.size 36 i0 (.agg noC.cells) 8 24 Try.underlying23 hi hz0 hz1 hz2 rfl (by omega) (.slice none 0 0) 0 [] rfl (World.ownsRow_nil _ _ _ _) ad m cap1 (cat (l.take m)) rfl HCC.out HCE.out HC1.out (by unfold maxLen; omega) (by omega) (by simp) ?_; intro v1 w4 hown1 hg1 hnil hat1)
        go_meet
        rw [Nat.zero_add, List.nil_append] at hown1
        exact ⟨v1, rfl, hown1, Fr.grown hg1⟩
  case rest =>
    obtain ⟨v7, h7, ho, hf⟩ := hcut
    obtain ⟨va, vc, rfl, hvc⟩ := own_slice ho
    subst h7
    rename World => wx
    obtain ⟨L, hLL⟩ : ∃ L, l.take m = L := ⟨_, rfl⟩
    have hlm : L.length = m := by rw [← hLL, List.length_take, HL.out]; omega
    have hLk : ∀ k, k < m → L[k]? = l[k]? := fun k hk => by rw [← hLL, List.getElem?_take_of_lt hk]
    have hcur : ∀ c ∈ L, c.cur < 4294967296 := fun c hc => (HOK.out c (by rw [← hLL] at hc; exact List.mem_of_mem_take hc)).cur
    rw [hLL] at ho
    have hown : wx.ownsRow 0 36 8 (.slice va m vc) m (cat L) := own_base ho (Nat.zero_le _)
    have hfw := F3.out.trans0 hf
    have P4 := Lib.hid (P3.out.fr hf (by simp) (by simp) (by simp))
    have B4 := Lib.hid (own_fr0 B3.out hf)
    have A4 := Lib.hid (A3.out.fr hf (by simp))
    have F4 := Lib.hid hfw
    have CS := Lib.hid (scaps_any (Hs.of P4.out) (Nat.le_refl _) va vc L (own_in hlm hown) hcur (by omega))
    have HLK := Lib.hid hLk
    have HCU := Lib.hid hcur
    have HOW := Lib.hid hown
    have HLM := Lib.hid hlm
    rw [hlm] at CS
    have CR := Lib.hid fun (W : World) (hW : Fr [] wx W) => (show Calls Try.prog 11 #[.slice va m vc, .agg #[.slice av 256 cv]] W _ from r17caps_any W 0 _ 256 f (own_fr0 B4.out hW) (by omega) (.slice va m vc) L (by rw [HLM.out]; exact own_fr0 hown hW) hcur (by omega))
    rw [hlm] at CR
    obtain ⟨hs, hhs⟩ : ∃ hs, hasP 256 f = hs := ⟨_, rfl⟩
    rw [hhs] at CS CR
    have HHS := Lib.hid hhs
    have hsl := sums_le hs L
    obtain ⟨sm, hsm⟩ : ∃ sm, sums hs L = sm := ⟨_, rfl⟩
    rw [hsm] at CS CR hsl
    rw [hlm] at hsl
    clear ho hf hfw hcur hown hLk hlm hsm hhs hLL P3 B3 A3 F3 hmi
    have ca := A4.out.cell 0
    have ql := A4.out.lt
    simp only [List.getElem?_toArray, List.getElem?_cons_zero] at ca
    go_wp2_with fail
    refine (CS.out).mono ?_
    rintro e w5 ⟨ga, rfl, hA5, hga, hf5⟩
    have ca5 := (hf5.cell (a := ⟨q, 0, none⟩) ql (by simp)).trans ca
    have HA5 := Lib.hid hA5
    have HF5 := Lib.hid hf5
    clear hA5 hf5
    go_wp2_with fail
    refine (CR.out _ HF5.out).mono ?_
    rintro e w6 ⟨u', rfl, hu6, hf6⟩
    have HU := Lib.hid hu6
    obtain ⟨ua, uc, rfl, huc⟩ := own_slice hu6
    have HA6 := Lib.hid (HA5.out.fr hf6 (by simp))
    have HF6 := Lib.hid (HF5.out.trans0 hf6)
    have ca6 := (hf6.cell (a := ⟨q, 0, none⟩) (Nat.lt_of_lt_of_le ql HF5.out.size) (by simp)).trans ca5
    clear hu6 hf6 HA5 HF5 CS CR ca ca5
    go_wp2_with fail
    go_loopw [12] (fun i wr => ∃ k : Nat, k ≤ m ∧ i = .int .i64 k ∧ Fr [] w6 wr) (fun i _ => m - (intOf i).toNat)
    case atStart => exact ⟨0, by omega, rfl, Fr.refl _ _⟩
    case round =>
      obtain ⟨k, hk, rfl, hf⟩ := hrel
      have HF := Lib.hid hf
      clear hf
      by_cases hkm : k < m
      · obtain ⟨c, hc⟩ : ∃ c, L[k]? = some c := ⟨_, List.getElem?_eq_getElem (by rw [HLM.out]; exact hkm)⟩
        have hcl : l[k]? = some c := by rw [← HLK.out k hkm]; exact hc
        have hcu := HCU.out c (List.mem_of_getElem? hc)
        have hcm : (L.map (cln hs))[k]? = some (cln hs c) := by rw [List.getElem?_map, hc]; rfl
        obtain ⟨d, hd⟩ : ∃ d, cln hs c = d := ⟨_, rfl⟩
        rw [hd] at hcm
        obtain ⟨g1, c1, e1, -, -, hg1, hx1⟩ := (own_caps HLM.out HOW.out).resolve_left (by rintro ⟨-, h⟩; omega)
        injection e1 with e1 e2 e3
        subst e1 e3
        obtain ⟨g2, c2, e1, -, -, hg2, hx2⟩ := (own_caps (by rw [List.length_map, HLM.out]) HU.out).resolve_left (by rintro ⟨-, h⟩; omega)
        injection e1 with e1 e2 e3
        subst e1 e3
        rcases HAT.out with h | ⟨b, off, rfl, hb, hc3⟩
        · rw [h] at hcl; simp at hcl
        have X1 := Lib.hid fun W (hW : Fr [] wr W) => hx1 [] W (HF6.out.trans0 (HF.out.trans0 hW)) (by simp)
        have X2 := Lib.hid fun W (hW : Fr [] wr W) => hx2 [] W (HF.out.trans0 hW) (by simp)
        have X3 := Lib.hid fun W (hW : Fr [] wr W) => (fun n v h => ((F4.out.trans0 (HF6.out.trans0 (HF.out.trans0 hW))).cell (a := ⟨b, off + n, none⟩) hb (by simp)).trans (hc3 n v h) : ∀ n v, (cat l)[n]? = some v → W.cell? ⟨b, off + n, none⟩ = some v)
        have X4 := Lib.hid fun W (hW : Fr [] wr W) => (fun n v h => by have := (HA6.out.fr (HF.out.trans0 hW) (by simp)).cell n; rw [this]; simpa using h : ∀ n v, (cat (L.map (cln hs)))[n]? = some v → W.cell? ⟨ga, n, none⟩ = some v)
        have C1 := Lib.hid fun W (hW : Fr [] wr W) => (show Calls Try.prog 12 #[.agg c.cells, .pointer (some ⟨pp, 0, none⟩)] W _ from sstale_any ((Hs.of P4.out).fr (HF6.out.trans0 (HF.out.trans0 hW)) (by simp)) (HF6.out.trans0 (HF.out.trans0 hW)).size c hcu)
        have C2 := Lib.hid fun W (hW : Fr [] wr W) => r17stale_any W 0 _ 256 f (own_fr0 B4.out (HF6.out.trans0 (HF.out.trans0 hW))) (by omega) c hcu
        have C3 := Lib.hid fun W (hW : Fr [] wr W) => (show Calls Try.prog 12 #[.agg c.cells, .pointer none] W _ from sstale_any (Hs.nil W.heap.size W) (Nat.le_refl _) c hcu)
        rw [HHS.out] at C1 C2
        rw [nohs_st] at C3
        obtain ⟨x, hx⟩ : ∃ x, stB hs c = x := ⟨_, rfl⟩
        rw [hx] at C1 C2
        have q6 : q < w6.heap.size := Nat.lt_of_lt_of_le ql HF6.out.size
        have car := (HF.out.cell (a := ⟨q, 0, none⟩) q6 (by simp)).trans ca6
        have qr : q < wr.heap.size := Nat.lt_of_lt_of_le q6 HF.out.size
        have hkl : k < len1 := by omega
        have HC := Lib.hid hc
        have HCM := Lib.hid hcm
        have HCL := Lib.hid hcl
        clear hx1 hx2 hc3 hx hcm hcl hc hcu hd
        go_upto_region 13 with (fail)
        refine wp_region_L (fun W => Fr [] wr W) [] (by kernel_rfl) (Fr.refl _ _).drew (fun hHeld => ?_)
        refine wpAnyL_take (i := 0) (v := ?_) rfl (by kernel_rfl) (fun _ _ _ h => h) (Or.inl ⟨by rfl, ?_⟩) (by assumption) ?_; rotate_left; (focus (intro w hSw; skip; go_simp; (try with_reducible rfl))); (try (refine wpAnyL_norm (by simp only [Act.put, List.setIfInBounds_toArray, List.set_cons_zero, List.set_cons_succ]; rfl) ?_))
        refine wpAnyL_take (i := 1) (v := ?_) rfl (by kernel_rfl) (fun _ _ _ h => h) (Or.inl ⟨by rfl, ?_⟩) (by assumption) ?_; rotate_left; (focus (intro w hSw; skip; go_simp; (try with_reducible rfl))); (try (refine wpAnyL_norm (by simp only [Act.put, List.setIfInBounds_toArray, List.set_cons_zero, List.set_cons_succ]; rfl) ?_))
        refine wpAnyL_take (i := 2) (v := ?_) rfl (by kernel_rfl) (fun _ _ _ h => h) (Or.inl ⟨by rfl, ?_⟩) (by assumption) ?_; rotate_left; (focus (intro w hSw; skip; go_simp; (try with_reducible rfl))); (try (refine wpAnyL_norm (by simp only [Act.put, List.setIfInBounds_toArray, List.set_cons_zero, List.set_cons_succ]; rfl) ?_))
        refine wpAnyL_take (i := 3) rfl (by kernel_rfl) (fun _ _ _ h => h) (yields_load_own (.tmp 57) rfl ga (k * 8) rfl (L.map (cln hs)) X4.out k rfl d HCM.out rfl) (by assumption) ?_; (try (refine wpAnyL_norm (by simp only [Act.put, List.setIfInBounds_toArray, List.set_cons_zero, List.set_cons_succ]; rfl) ?_))
        refine wpAnyL_take (i := 4) (v := ?_) rfl (by kernel_rfl) (fun _ _ _ h => h) (Or.inl ⟨by rfl, ?_⟩) (by assumption) ?_; rotate_left; (focus (intro w hSw; skip; go_simp; (try with_reducible rfl))); (try (refine wpAnyL_norm (by simp only [Act.put, List.setIfInBounds_toArray, List.set_cons_zero, List.set_cons_succ]; rfl) ?_))
        refine wpAnyL_take (i := 5) (v := ?_) rfl (by kernel_rfl) (fun _ _ _ h => h) (Or.inl ⟨by rfl, ?_⟩) (by assumption) ?_; rotate_left; (focus (intro w hSw; skip; go_simp; (try with_reducible rfl))); (try (refine wpAnyL_norm (by simp only [Act.put, List.setIfInBounds_toArray, List.set_cons_zero, List.set_cons_succ]; rfl) ?_))
        refine wpAnyL_take (i := 6) (v := ?_) rfl (by kernel_rfl) (fun _ _ _ h => h) (Or.inl ⟨by rfl, ?_⟩) (by assumption) ?_; rotate_left; (focus (intro w hSw; skip; go_simp; (try with_reducible rfl))); (try (refine wpAnyL_norm (by simp only [Act.put, List.setIfInBounds_toArray, List.set_cons_zero, List.set_cons_succ]; rfl) ?_))
        refine wpAnyL_take (i := 7) rfl (by kernel_rfl) (fun _ _ _ h => h) (yields_load_own (.tmp 61) rfl g2 (k * 8) rfl (L.map (cln hs)) X2.out k rfl d HCM.out rfl) (by assumption) ?_; (try (refine wpAnyL_norm (by simp only [Act.put, List.setIfInBounds_toArray, List.set_cons_zero, List.set_cons_succ]; rfl) ?_))
        refine wpAnyL_take (i := 8) (v := ?_) rfl (by kernel_rfl) (fun _ _ _ h => h) (Or.inl ⟨by rfl, ?_⟩) (by assumption) ?_; rotate_left; (focus (intro w hSw; skip; go_simp; (try with_reducible rfl))); (try (refine wpAnyL_norm (by simp only [Act.put, List.setIfInBounds_toArray, List.set_cons_zero, List.set_cons_succ]; rfl) ?_))
        refine wpAnyL_take (i := 9) (v := ?_) rfl (by kernel_rfl) (fun _ _ _ h => h) (Or.inl ⟨by rfl, ?_⟩) (by assumption) ?_; rotate_left; (focus (intro w hSw; skip; go_simp; (try with_reducible rfl))); (try (refine wpAnyL_norm (by simp only [Act.put, List.setIfInBounds_toArray, List.set_cons_zero, List.set_cons_succ]; rfl) ?_))
        refine wpAnyL_take (i := 10) (v := ?_) rfl (by kernel_rfl) (fun _ _ _ h => h) (Or.inl ⟨by rfl, ?_⟩) (by assumption) ?_; rotate_left; (focus (intro w hSw; skip; go_simp; (try with_reducible rfl))); (try (refine wpAnyL_norm (by simp only [Act.put, List.setIfInBounds_toArray, List.set_cons_zero, List.set_cons_succ]; rfl) ?_))
        refine wpAnyL_take (i := 11) (v := ?_) rfl (by kernel_rfl) (fun _ _ _ h => h) (Or.inl ⟨by rfl, ?_⟩) (by assumption) ?_; rotate_left; (focus (intro w hSw; skip; go_simp; (try with_reducible rfl))); (try (refine wpAnyL_norm (by simp only [Act.put, List.setIfInBounds_toArray, List.set_cons_zero, List.set_cons_succ]; rfl) ?_))
        refine wpAnyL_take (i := 12) (v := ?_) rfl (by kernel_rfl) (fun _ _ _ h => h) (Or.inl ⟨by rfl, ?_⟩) (by assumption) ?_; rotate_left; (focus (intro w hSw; skip; go_simp; (try with_reducible rfl))); (try (refine wpAnyL_norm (by simp only [Act.put, List.setIfInBounds_toArray, List.set_cons_zero, List.set_cons_succ]; rfl) ?_))
        refine wpAnyL_take (i := 13) rfl (by kernel_rfl) (fun _ _ _ h => h) (yields_load_own (.tmp 67) rfl g1 (k * 8) rfl L X1.out k rfl c HC.out rfl) (by assumption) ?_; (try (refine wpAnyL_norm (by simp only [Act.put, List.setIfInBounds_toArray, List.set_cons_zero, List.set_cons_succ]; rfl) ?_))
        refine wpAnyL_take (i := 14) (v := ?_) rfl (by kernel_rfl) (fun _ _ _ h => h) (Or.inl ⟨by rfl, ?_⟩) (by assumption) ?_; rotate_left; (focus (intro w hSw; skip; go_simp; (try with_reducible rfl))); (try (refine wpAnyL_norm (by simp only [Act.put, List.setIfInBounds_toArray, List.set_cons_zero, List.set_cons_succ]; rfl) ?_))
        refine wpAnyL_take (i := 15) (v := ?_) rfl (by kernel_rfl) (fun _ _ _ h => h) (Or.inl ⟨by rfl, ?_⟩) (by assumption) ?_; rotate_left; (focus (intro w hSw; skip; go_simp; (try with_reducible rfl))); (try (refine wpAnyL_norm (by simp only [Act.put, List.setIfInBounds_toArray, List.set_cons_zero, List.set_cons_succ]; rfl) ?_))
        refine wpAnyL_take (i := 16) (v := ?_) rfl (by kernel_rfl) (fun _ _ _ h => h) (Or.inl ⟨by rfl, ?_⟩) (by assumption) ?_; rotate_left; (focus (intro w hSw; skip; go_simp; (try with_reducible rfl))); (try (refine wpAnyL_norm (by simp only [Act.put, List.setIfInBounds_toArray, List.set_cons_zero, List.set_cons_succ]; rfl) ?_))
        refine wpAnyL_take (i := 17) rfl (by kernel_rfl) (fun _ _ _ h => h) (yields_load_off (.tmp 71) rfl b off k rfl l X3.out c HCL.out rfl) (by assumption) ?_; (try (refine wpAnyL_norm (by simp only [Act.put, List.setIfInBounds_toArray, List.set_cons_zero, List.set_cons_succ]; rfl) ?_))
        refine wpAnyL_take (i := 18) (v := ?_) rfl (by kernel_rfl) (fun _ _ _ h => h) (Or.inl ⟨by rfl, ?_⟩) (by assumption) ?_; rotate_left; (focus (intro w hSw; skip; go_simp; (try with_reducible rfl))); (try (refine wpAnyL_norm (by simp only [Act.put, List.setIfInBounds_toArray, List.set_cons_zero, List.set_cons_succ]; rfl) ?_))
        refine wpAnyL_take (i := 19) (v := ?_) rfl (by kernel_rfl) (fun _ _ _ h => h) (Or.inl ⟨by rfl, ?_⟩) (by assumption) ?_; rotate_left; (focus (intro w hSw; skip; go_simp; (try with_reducible rfl))); (try (refine wpAnyL_norm (by simp only [Act.put, List.setIfInBounds_toArray, List.set_cons_zero, List.set_cons_succ]; rfl) ?_))
        refine wpAnyL_take (i := 20) (v := ?_) rfl (by kernel_rfl) (fun _ _ _ h => h) (Or.inl ⟨by rfl, ?_⟩) (by assumption) ?_; rotate_left; (focus (intro w hSw; skip; go_simp; (try with_reducible rfl))); (try (refine wpAnyL_norm (by simp only [Act.put, List.setIfInBounds_toArray, List.set_cons_zero, List.set_cons_succ]; rfl) ?_))
        refine wpAnyL_take (i := 21) (v := ?_) rfl (by kernel_rfl) (fun _ _ _ h => h) (Or.inl ⟨by rfl, ?_⟩) (by assumption) ?_; rotate_left; (focus (intro w hSw; skip; go_simp; (try with_reducible rfl))); (try (refine wpAnyL_norm (by simp only [Act.put, List.setIfInBounds_toArray, List.set_cons_zero, List.set_cons_succ]; rfl) ?_))
        refine wpAnyL_take (i := 22) (v := ?_) rfl (by kernel_rfl) (fun _ _ _ h => h) (Or.inl ⟨by rfl, ?_⟩) (by assumption) ?_; rotate_left; (focus (intro w hSw; skip; go_simp; (try with_reducible rfl))); (try (refine wpAnyL_norm (by simp only [Act.put, List.setIfInBounds_toArray, List.set_cons_zero, List.set_cons_succ]; rfl) ?_))
        refine wpAnyL_take (i := 23) (v := ?_) rfl (by kernel_rfl) (fun _ _ _ h => h) (Or.inl ⟨by rfl, ?_⟩) (by assumption) ?_; rotate_left; (focus (intro w hSw; skip; go_simp; (try with_reducible rfl))); (try (refine wpAnyL_norm (by simp only [Act.put, List.setIfInBounds_toArray, List.set_cons_zero, List.set_cons_succ]; rfl) ?_))
        refine wpAnyL_take (i := 24) rfl (by kernel_rfl) (fun _ _ _ h => h) (yields_load_own (.tmp 78) rfl g1 (k * 8) rfl L X1.out k rfl c HC.out rfl) (by assumption) ?_; (try (refine wpAnyL_norm (by simp only [Act.put, List.setIfInBounds_toArray, List.set_cons_zero, List.set_cons_succ]; rfl) ?_))
        refine wpAnyL_take (i := 25) (v := ?_) rfl (by kernel_rfl) (fun _ _ _ h => h) (Or.inl ⟨by rfl, ?_⟩) (by assumption) ?_; rotate_left; (focus (intro w hSw; skip; go_simp; (try with_reducible rfl))); (try (refine wpAnyL_norm (by simp only [Act.put, List.setIfInBounds_toArray, List.set_cons_zero, List.set_cons_succ]; rfl) ?_))
        refine wpAnyL_take (i := 27) (v := ?_) rfl (by kernel_rfl) (fun _ _ _ h => h) (Or.inl ⟨by rfl, ?_⟩) (by assumption) ?_; rotate_left; (focus (intro w hSw; skip; go_simp; (try with_reducible rfl))); (try (refine wpAnyL_norm (by simp only [Act.put, List.setIfInBounds_toArray, List.set_cons_zero, List.set_cons_succ]; rfl) ?_))
        refine wpAnyL_take (i := 28) (v := ?_) rfl (by kernel_rfl) (fun _ _ _ h => h) (Or.inl ⟨by rfl, ?_⟩) (by assumption) ?_; rotate_left; (focus (intro w hSw; skip; go_simp; (try with_reducible rfl))); (try (refine wpAnyL_norm (by simp only [Act.put, List.setIfInBounds_toArray, List.set_cons_zero, List.set_cons_succ]; rfl) ?_))
        refine wpAnyL_take (i := 29) (v := ?_) rfl (by kernel_rfl) (fun _ _ _ h => h) (Or.inl ⟨by rfl, ?_⟩) (by assumption) ?_; rotate_left; (focus (intro w hSw; skip; go_simp; (try with_reducible rfl))); (try (refine wpAnyL_norm (by simp only [Act.put, List.setIfInBounds_toArray, List.set_cons_zero, List.set_cons_succ]; rfl) ?_))
        refine wpAnyL_take (i := 30) rfl (by kernel_rfl) (fun _ _ _ h => h) (yields_load_own (.tmp 84) rfl g1 (k * 8) rfl L X1.out k rfl c HC.out rfl) (by assumption) ?_; (try (refine wpAnyL_norm (by simp only [Act.put, List.setIfInBounds_toArray, List.set_cons_zero, List.set_cons_succ]; rfl) ?_))
        refine wpAnyL_take (i := 31) (v := ?_) rfl (by kernel_rfl) (fun _ _ _ h => h) (Or.inl ⟨by rfl, ?_⟩) (by assumption) ?_; rotate_left; (focus (intro w hSw; (have hcl := (hSw.cell (a := ⟨q, 0, none⟩) qr (by simp)).trans car); go_simp; (try with_reducible rfl))); (try (refine wpAnyL_norm (by simp only [Act.put, List.setIfInBounds_toArray, List.set_cons_zero, List.set_cons_succ]; rfl) ?_))
        refine wpAnyL_ready (rs := [26]) (by kernel_rfl) (by simp) ?_; refine AllReadyL.cons rfl (fun K hK => ?_) AllReadyL.nil
        go_simp
        refine (C1.out _ hHeld).mono ?_
        rintro e w7 ⟨rfl, hf7⟩
        refine hK.out _ _ (fun _ => hHeld.trans0 hf7) (fun hHeld' => ?_); have hHeld := hHeld' (by decide); clear hHeld' hK K; (try (refine wpAnyL_norm (by simp only [Act.put, List.setIfInBounds_toArray, List.set_cons_zero, List.set_cons_succ]; rfl) ?_))
        refine wpAnyL_ready (rs := [32]) (by kernel_rfl) (by simp) ?_; refine AllReadyL.cons rfl (fun K hK => ?_) AllReadyL.nil
        go_simp
        refine (C2.out _ hHeld).mono ?_
        rintro e w8 ⟨rfl, hf8⟩
        refine hK.out _ _ (fun _ => hHeld.trans0 hf8) (fun hHeld' => ?_); have hHeld := hHeld' (by decide); clear hHeld' hK K; (try (refine wpAnyL_norm (by simp only [Act.put, List.setIfInBounds_toArray, List.set_cons_zero, List.set_cons_succ]; rfl) ?_))
        refine wpAnyL_take (i := 33) (v := ?_) rfl (by kernel_rfl) (fun _ _ _ h => h) (Or.inl ⟨by rfl, ?_⟩) (by assumption) ?_; rotate_left; (focus (intro w hSw; skip; go_simp; (try with_reducible rfl))); (try (refine wpAnyL_norm (by simp only [Act.put, List.setIfInBounds_toArray, List.set_cons_zero, List.set_cons_succ]; rfl) ?_))
        refine wpAnyL_take (i := 34) (v := ?_) rfl (by kernel_rfl) (fun _ _ _ h => h) (Or.inl ⟨by rfl, ?_⟩) (by assumption) ?_; rotate_left; (focus (intro w hSw; skip; go_simp; (try with_reducible rfl))); (try (refine wpAnyL_norm (by simp only [Act.put, List.setIfInBounds_toArray, List.set_cons_zero, List.set_cons_succ]; rfl) ?_))
        refine wpAnyL_take (i := 35) (v := ?_) rfl (by kernel_rfl) (fun _ _ _ h => h) (Or.inl ⟨by rfl, ?_⟩) (by assumption) ?_; rotate_left; (focus (intro w hSw; skip; go_simp; (try with_reducible rfl))); (try (refine wpAnyL_norm (by simp only [Act.put, List.setIfInBounds_toArray, List.set_cons_zero, List.set_cons_succ]; rfl) ?_))
        refine wpAnyL_take (i := 36) (v := ?_) rfl (by kernel_rfl) (fun _ _ _ h => h) (Or.inl ⟨by rfl, ?_⟩) (by assumption) ?_; rotate_left; (focus (intro w hSw; skip; go_simp; (try with_reducible rfl))); (try (refine wpAnyL_norm (by simp only [Act.put, List.setIfInBounds_toArray, List.set_cons_zero, List.set_cons_succ]; rfl) ?_))
        refine wpAnyL_take (i := 37) (v := ?_) rfl (by kernel_rfl) (fun _ _ _ h => h) (Or.inl ⟨by rfl, ?_⟩) (by assumption) ?_; rotate_left; (focus (intro w hSw; skip; go_simp; (try with_reducible rfl))); (try (refine wpAnyL_norm (by simp only [Act.put, List.setIfInBounds_toArray, List.set_cons_zero, List.set_cons_succ]; rfl) ?_))
        refine wpAnyL_take (i := 38) (v := ?_) rfl (by kernel_rfl) (fun _ _ _ h => h) (Or.inl ⟨by rfl, ?_⟩) (by assumption) ?_; rotate_left; (focus (intro w hSw; skip; go_simp; (try with_reducible rfl))); (try (refine wpAnyL_norm (by simp only [Act.put, List.setIfInBounds_toArray, List.set_cons_zero, List.set_cons_succ]; rfl) ?_))
        refine wpAnyL_take (i := 39) rfl (by kernel_rfl) (fun _ _ _ h => h) (yields_load_own (.tmp 93) rfl g1 (k * 8) rfl L X1.out k rfl c HC.out rfl) (by assumption) ?_; (try (refine wpAnyL_norm (by simp only [Act.put, List.setIfInBounds_toArray, List.set_cons_zero, List.set_cons_succ]; rfl) ?_))
        refine wpAnyL_ready (rs := [40]) (by kernel_rfl) (by simp) ?_; refine AllReadyL.cons rfl (fun K hK => ?_) AllReadyL.nil
        go_simp
        refine (C3.out _ hHeld).mono ?_
        rintro e w9 ⟨rfl, hf9⟩
        refine hK.out _ _ (fun _ => hHeld.trans0 hf9) (fun hHeld' => ?_); have hHeld := hHeld' (by decide); clear hHeld' hK K; (try (refine wpAnyL_norm (by simp only [Act.put, List.setIfInBounds_toArray, List.set_cons_zero, List.set_cons_succ]; rfl) ?_))
        refine wpAnyL_take (i := 41) (v := ?_) rfl (by kernel_rfl) (fun _ _ _ h => h) (Or.inl ⟨by rfl, ?_⟩) (by assumption) ?_; rotate_left; (focus (intro w hSw; skip; go_simp; (try with_reducible rfl))); (try (refine wpAnyL_norm (by simp only [Act.put, List.setIfInBounds_toArray, List.set_cons_zero, List.set_cons_succ]; rfl) ?_))
        refine wpAnyL_done (by kernel_rfl) ?_ _
        go_wp2_with fail
        go_roundw
        case rel => exact ⟨k + 1, by omega, by go_num, HF.out.trans0 hHeld⟩
        case measure => simp [intOf]; omega
      · obtain rfl : k = m := by omega
        go_wp2_with fail
        refine (works_any _).mono ?_
        rintro e w7 ⟨rfl, hf7⟩
        go_wp2_with fail
        go_ret
        exact ⟨rfl, (F4.out.trans0 (HF6.out.trans0 HF.out)).trans0 hf7⟩
theorem laidOut : laidOutB Try.prog = true := by kernel_rfl
set_option maxRecDepth 100000 in
theorem lifted (os : Os) (started : os.Started) (H : Type) (enc : TypeId × Value → H) :
    ReturnsInHanded {} Try.checked os 3 .any (Rows.scanListsSpec.pre6 enc Try.prog Try.f3 Rows.scanListsRow.domain false) (Rows.scanListsSpec.post enc Try.prog Try.f3 false true false false) := by
  refine returnsInHanded_of_change (C := Try.checked) own started (by kernel_rfl) Try.func3
    (ChangeSpec.witness6 (enc := enc) (C := Try.checked) false ⟨#[], #[.slice none 0 0, .slice none 0 0], []⟩ 8 (by kernel_rfl) (by kernel_rfl) (by kernel_rfl) (by kernel_rfl)) ?_
  intro W base args ds gs before hval0 hW hcnd _
  have hval : ∀ (j : Nat) t v, Try.f3.params[j]? = some t → args[j]? = some v → Value.okWide Try.prog W .any base t v := hval0
  have hW' := hW
  obtain ⟨p, q, hA0, hV, rfl, hfz, hnd⟩ := hW
  have hA : DataW.TrodAll enc Try.prog W 0 (fun _ => true) true Try.f3.params.toList args.toList ds p := hA0
  rw [Try.params3] at hA hval
  obtain ⟨v0, vs0, d0, ds0, p0, q0, hargs, rfl, rfl, h0, r0⟩ := trodAll_cons hA
  obtain ⟨v1, vs1, d1, ds1, p1, q1, rfl, rfl, rfl, h1, r1⟩ := trodAll_cons r0
  obtain ⟨rfl, rfl, rfl⟩ := trodAll_nil r1
  obtain rfl : args = #[v0, v1] := by cases args; simp_all
  obtain ⟨rfl, rfl⟩ := trodVars_none hV
  obtain ⟨a0, len0, cap0, rfl⟩ := okWide_slice Try.underlying22 (hval 0 22 v0 rfl rfl)
  have k0 := h0
  have lt0 : ∀ x ∈ p0, x.block < W.heap.size := by obtain ⟨m, hm⟩ := k0; exact DataW.trod_lt m _ _ _ hm
  have w0 : Elems W a0 len0 [.i .u32, .i .u32] := by
    obtain ⟨fuel, hf⟩ := h0
    exact open_elems (n := 20) Try.underlying22 (by kernel_rfl : flat Try.prog 20 43 = some [.i .u32, .i .u32]) (by kernel_rfl) (by decide) hf
  obtain ⟨a1, len1, cap1, rfl⟩ := okWide_slice Try.underlying23 (hval 1 23 v1 rfl rfl)
  have k1 := h1
  have lt1 : ∀ x ∈ p1, x.block < W.heap.size := by obtain ⟨m, hm⟩ := k1; exact DataW.trod_lt m _ _ _ hm
  have w1 : Elems W a1 len1 [.i .u32, .i .u8, .i .u16, .i .u16, .i .u16, .i .u16, .i .u32, .b] ∧ len1 ≤ cap1 ∧ cap1 ≤ maxLen ∧ (a1 = none → len1 = 0 ∧ cap1 = 0) := by
    obtain ⟨fuel, hf⟩ := h1
    exact open_elemsc (n := 20) Try.underlying23 (by kernel_rfl : flat Try.prog 20 36 = some [.i .u32, .i .u8, .i .u16, .i .u16, .i .u16, .i .u16, .i .u32, .b]) (by kernel_rfl) (by decide) hf
  clear hA0 hval0
  refine (walk a0 len0 cap0 a1 len1 cap1 W w0 w1).mono fun e W' ⟨he, hg⟩ => ?_
  subst he
  have bel := hg.below
  exact ⟨_, rfl, _, _, _, [], _, [], hW', trodAll_mk1 (shut_bool Try.underlying4 _), (trodAll_cons_mk (Below.trod laidOut (by kernel_rfl) (of_decide_eq_true (by kernel_rfl)) k0 bel lt0) (trodAll_cons_mk (Below.trod laidOut (by kernel_rfl) (of_decide_eq_true (by kernel_rfl)) k1 bel lt1) trodAll_mk0)), rfl, bel.frame _, fun h => by cases h⟩
theorem over : Rows.scanListsRow.holds Try.pinned (OpenSpec.ofChange Rows.scanListsSpec) :=
  OpenClaim.holds_of_wide 3 Try.f3 rfl rfl rfl rfl rfl rfl rfl ⟨rfl, rfl, rfl, rfl, rfl⟩ rfl rfl rfl rfl rfl (by kernel_rfl) Try.func3 (by kernel_rfl)
    (of_decide_eq_true (by kernel_rfl)) (by unfold Func.isWrapper; first | (rw [if_pos (by decide +kernel)]; kernel_rfl) | (rw [if_neg (by decide +kernel)]; exact ⟨rfl, rfl⟩))
    (fun os started H enc _ => lifted os started H enc)
/-- The statement, proved. -/
theorem proved : Rows.ScanListsSaid :=
  over
end scanLists
end Go.Proofs.Ytibjdcllnjfnoaa
