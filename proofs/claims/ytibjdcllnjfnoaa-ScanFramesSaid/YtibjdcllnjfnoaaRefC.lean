/-
  What the reference of layer 17 does with one capability and with a list of them. Condition: cursors in their type's range; at most a thousand capabilities.
-/




import Derived.Test.YtibjdcllnjfnoaaWorks
import Derived.Test.YtibjdcllnjfnoaaRefDec
import Derived.Test.YtibjdcllnjfnoaaRefAdd
import Derived.Test.YtibjdcllnjfnoaaFrameH
set_option linter.unusedVariables false
namespace Go.Proofs.Ytibjdcllnjfnoaa
open Go.ChangeShapes Go.WideShapes Go.ChangeAt Go.RowKit
theorem r04range_any (w : World) (c : Cp) (hc : c.cur < 4294967296) :
    Calls Try.prog 36 #[.agg c.cells] w fun r w' => r = .returned (.tuple #[.int .u32 c.base, .int .u64 c.top]) ∧ Fr [] w w' := by
  unfold Cp.base Cp.top Cp.cells
  have C := Lib.hid fun W => r03dec_any W c.e c.b c.t c.cur hc
  generalize dBase c.e c.b c.t c.cur = X at *
  generalize dTop c.e c.b c.t c.cur = Y at *
  go_enter Try.func36, Try.ntmps36
  go_wp2_with fail
  refine (C.out _).mono ?_
  rintro e w2 ⟨rfl, rfl⟩
  go_wp2_with fail
  go_ret2
  exact ⟨rfl, (by repeat (first | exact Fr.refl _ _ | assumption | refine Fr.trans0 ?_ (by assumption) | refine Fr.drewN ?_ _ | refine Fr.alloc ?_ _ | refine Fr.drew ?_))⟩
theorem r17stale_any (w : World) (b : Nat) (v : Value) (n : Nat) (f : Nat → Bool) (h : Bs b w v n f) (hn : n ≤ 16384) (c : Cp) (hc : c.cur < 4294967296) :
    Calls Try.prog 13 #[.agg c.cells, .agg #[v]] w fun r w' => r = .returned (.bool (stB (hasP n f) c)) ∧ Fr [] w w' := by
  have hbd := dec_bd c.e c.b c.t c.cur
  obtain ⟨av, cv, rfl, hcv⟩ := own_slice h
  have F0 := Lib.hid (show Fr [] w ((w.alloc (.cells c.cells 36)).alloc (.cells #[.slice av n cv] 27)) from (by repeat (first | exact Fr.refl _ _ | assumption | refine Fr.trans0 ?_ (by assumption) | refine Fr.drewN ?_ _ | refine Fr.alloc ?_ _ | refine Fr.drew ?_)))
  have A0 := Lib.hid ((At.new w 36 c.cells).old (.cells #[.slice av n cv] 27))
  have A1 := At.new (w.alloc (.cells c.cells 36)) 27 #[.slice av n cv]
  rw [World.size_alloc] at A1
  have A1 := Lib.hid A1
  have C1 := Lib.hid fun W => r04range_any W c hc
  have C2 := Lib.hid fun (W : World) (hW : Fr [] w W) => r15has_any W b _ n f (own_fr0 h hW) hn c.base hbd.1 (by have := hbd.2.1; unfold Cp.base; omega)
  unfold stB
  generalize c.base = X at *
  generalize c.top = Y at *
  generalize hasP n f X = bb at *
  obtain ⟨cur, e, cb, ct, pm, ty, rs, v⟩ := c
  unfold Cp.cells at *
  dsimp only at *
  clear hbd h
  cases v
  all_goals
    go_enter Try.func13, Try.ntmps13
    go_wp2_with fail
    refine (C1.out _).mono ?_
    rintro e w2 ⟨rfl, hf2⟩
    have c7 := (A0.out.fr hf2 (by simp)).cell 7
    have c0 := (A1.out.fr hf2 (by simp)).cell 0
    simp only [List.getElem?_toArray, List.getElem?_cons_zero, List.getElem?_cons_succ] at c7 c0
    have F2 := Lib.hid (F0.out.trans0 hf2)
    clear hf2
    go_wp2_with fail
    first
      | (go_ret; exact ⟨rfl, F2.out⟩)
      | (refine (C2.out _ F2.out).mono ?_
         rintro e w3 ⟨rfl, hf3⟩
         go_wp2_with fail
         go_ret
         exact ⟨rfl, F2.out.trans0 hf3⟩)
theorem infoCap8 : (Try.prog.info? 36).map (fun i => (i.zero, i.size, i.bytes)) = some (some (.agg noC.cells), 8, 24) := by kernel_rfl
theorem own_caps {w : World} {b : Nat} {u : Value} {l : List Cp} {n : Nat} (hn : l.length = n) (h : w.ownsRow b 36 8 u n (cat l)) : (u = .slice none 0 0 ∧ n = 0) ∨ ∃ g c, u = .slice (some ⟨g, 0, none⟩) n c ∧ n ≤ c ∧ b ≤ g ∧ g < w.heap.size ∧ ∀ (S : List Nat) (W : World), Fr S w W → g ∉ S → ∀ m v, (cat l)[m]? = some v → W.cell? ⟨g, m, none⟩ = some v := by
  rcases h.2 with ⟨rfl, h0⟩ | ⟨g, cap, cur, rfl, hb, hg, h1, h2, h3, h4⟩
  · exact .inl ⟨rfl, h0⟩
  · have hA : At w g 36 cur := hg
    refine .inr ⟨g, cap, rfl, h1, hb, hA.lt, fun S W f hS m v hm => ?_⟩
    rw [(hA.fr f hS).cell m]
    rw [← h4, List.getElem?_take] at hm
    split at hm
    · simpa using hm
    · cases hm
theorem built1 (w : World) (c : Cp) : (Instr.buildSlice 23 1 #[(0, .agg c.cells)]).run Try.prog w = .ok (.slice (some ⟨w.heap.size, 0, none⟩) 1 1) (w.alloc (.cells (cat [c]).toArray 36)) := by kernel_rfl
section
variable {ops : Array Oper} {rest : List Oper} {o : Oper} {a : Act} {w : World} {Q : Exit → Act → World → Prop} {S : World → Prop}
theorem wpList_load_own (hgd : Region.wanted o (yielded ops a.tmps) = true) (x : Operand) (ho : o.op = .load 36 x) (g k : Nat) (hx : a.eval x = .pointer (some ⟨g, k, none⟩)) (l : List Cp) (hg : ∀ m v, (cat l)[m]? = some v → w.cell? ⟨g, m, none⟩ = some v) (i : Nat) (hk : k = i * 8) (c : Cp) (hi : l[i]? = some c)
    (h : wpList Try.prog ops Q rest (a.put o.dst (.agg c.cells)) w) : wpList Try.prog ops Q (o :: rest) a w :=
  wpList_load_at hgd 36 x ho ⟨g, k, none⟩ hx c.l _ (fun j v hv => by
    have hj : j < 8 := by have := (List.getElem?_eq_some_iff.1 hv).1; rw [Cp.l_len] at this; exact this
    rw [Go.WideShapes.add_plain]
    exact hg _ _ (by rw [hk, cat_get l i j c hi hj, hv])) Try.underlying36 rfl infoCapS h
theorem yields_load_own (x : Operand) (ho : o.op = .load 36 x) (g k : Nat) (hx : a.eval x = .pointer (some ⟨g, k, none⟩)) (l : List Cp) (hg : ∀ W, S W → ∀ m v, (cat l)[m]? = some v → W.cell? ⟨g, m, none⟩ = some v) (i : Nat) (hk : k = i * 8) (c : Cp) (hi : l[i]? = some c)
    (hw : Region.wanted o (yielded ops a.tmps) = true) : YieldsIf Try.prog ops S o (.agg c.cells) a :=
  yields_load_at 36 x ho ⟨g, k, none⟩ hx c.l _ (fun W hW j v hv => by
    have hj : j < 8 := by have := (List.getElem?_eq_some_iff.1 hv).1; rw [Cp.l_len] at this; exact this
    rw [Go.WideShapes.add_plain]
    exact hg W hW _ _ (by rw [hk, cat_get l i j c hi hj, hv])) Try.underlying36 rfl infoCapS hw
end
theorem sums_take (hs : Int → Bool) (l : List Cp) : sums hs (l.take l.length) = sums hs l := by rw [List.take_length]
set_option maxHeartbeats 1000000 in
set_option maxRecDepth 100000 in
theorem r17caps_any (w : World) (b : Nat) (v : Value) (n : Nat) (f : Nat → Bool) (h : Bs b w v n f) (hn : n ≤ 16384) (u : Value) (l : List Cp) (hu : w.ownsRow 0 36 8 u l.length (cat l)) (hok : ∀ c ∈ l, c.cur < 4294967296) (hl : l.length ≤ 1000) :
    Calls Try.prog 11 #[u, .agg #[v]] w fun r w' => ∃ u', r = .returned (.tuple #[u', .int .i64 (sums (hasP n f) l : Nat)]) ∧ w'.ownsRow w.heap.size 36 8 u' l.length (cat (l.map (cln (hasP n f)))) ∧ Fr [] w w' := by
  obtain ⟨i0, hi, hz0, hz1, hz2⟩ := info_parts infoCap8
  obtain ⟨m, hm⟩ : ∃ m, l.length = m := ⟨_, rfl⟩
  have hc1 := own_caps hm (by rw [hm] at hu; exact hu)
  obtain ⟨ua, uc, rfl, huc⟩ := own_slice hu
  obtain ⟨av, cv, rfl, hcv⟩ := own_slice h
  have C := Lib.hid fun (W : World) (hW : Fr [] w W) c hc => r17stale_any W b _ n f (own_fr0 h hW) hn c hc
  generalize hasP n f = hs at *
  have HC1 := Lib.hid hc1
  have HOK := Lib.hid hok
  have HM := Lib.hid hm
  have HSL := Lib.hid (sums_take hs l)
  have HSU := Lib.hid fun j c h => sums_succ hs l j c h
  have HSE := Lib.hid fun j => sums_le hs (l.take j)
  have A0 := Lib.hid (At.new w 27 #[.slice av n cv])
  have F0 := Lib.hid (show Fr [] w (w.alloc (.cells #[.slice av n cv] 27)) from (by repeat (first | exact Fr.refl _ _ | assumption | refine Fr.trans0 ?_ (by assumption) | refine Fr.drewN ?_ _ | refine Fr.alloc ?_ _ | refine Fr.drew ?_)))
  rw [hm] at hl huc HSL ⊢
  clear h hu hc1 hok hm
  go_enter Try.func11, Try.ntmps11
  go_wp2_with fail
  go_loopw [6, 7, 8] (fun o s i wr => ∃ k : Nat, k ≤ m ∧ i = .int .i64 k ∧ s = .int .i64 (sums hs (l.take k) : Nat) ∧ wr.ownsRow w.heap.size 36 8 o k (cat ((l.take k).map (cln hs))) ∧ At wr w.heap.size 27 #[.slice av n cv] ∧ Fr [] w wr) (fun _ _ i _ => m - (intOf i).toNat)
  case atStart => exact ⟨0, by omega, rfl, by simp [sums], World.ownsRow_nil _ _ _ _, A0.out, F0.out⟩
  case round =>
    clear A0 F0
    obtain ⟨k, hk, rfl, rfl, ho, ha, hf⟩ := hrel
    have HO := Lib.hid ho
    have HA := Lib.hid ha
    have HF := Lib.hid hf
    have c0 := ha.cell 0
    have hwl := ha.lt
    simp only [List.getElem?_toArray, List.getElem?_cons_zero] at c0
    obtain ⟨oa, oc, rfl, hoc⟩ := own_slice ho
    have hse := HSE.out k
    rw [List.length_take, HM.out] at hse
    clear ho ha hf
    by_cases hkm : k < m
    · obtain ⟨g, c', e, -, -, hgw, hcl⟩ := HC1.out.resolve_left (by rintro ⟨-, h0⟩; omega)
      injection e with e1 e2 e3
      subst e1 e3
      obtain ⟨c, hcc⟩ : ∃ c, l[k]? = some c := ⟨_, List.getElem?_eq_getElem (by rw [HM.out]; exact hkm)⟩
      have hcur : c.cur < 4294967296 := HOK.out c (List.mem_of_getElem? hcc)
      have HCL := Lib.hid (hcl [] wr HF.out (by simp))
      have HCC := Lib.hid hcc
      have CC := Lib.hid fun (W : World) (hW : Fr [] w W) => C.out W hW c hcur
      have hsu := HSU.out k c hcc
      have hone : sOne hs c ≤ 1 := by unfold sOne; split <;> omega
      have HT : Hid ((l.take (k + 1)).map (cln hs) = (l.take k).map (cln hs) ++ [cln hs c]) := Lib.hid (by rw [List.take_add_one, hcc]; simp)
      have AN := Lib.hid ((At.new wr 36 c.cells))
      have FN := Lib.hid (show Fr [] wr (wr.alloc (.cells c.cells 36)) from (by repeat (first | exact Fr.refl _ _ | assumption | refine Fr.trans0 ?_ (by assumption) | refine Fr.drewN ?_ _ | refine Fr.alloc ?_ _ | refine Fr.drew ?_)))
      have HQ := Lib.hid (show (wr.alloc (.cells c.cells 36)) = wr.alloc (.cells #[.int .u32 c.cur, .int .u8 c.e, .int .u16 c.b, .int .u16 c.t, .int .u16 c.pm, .int .u16 c.ty, .int .u32 c.rs, .bool c.v] 36) from rfl)
      clear hcl hcc HSU C
      go_wp2_with (refine wpList_load_own rfl (.tmp 18) rfl g (k * 8) rfl l HCL.out k rfl c HCC.out ?_; unfold Cp.cells)
      rw [← HQ.out]
      refine (CC.out _ (HF.out.trans0 FN.out)).mono ?_
      rintro e w2 ⟨rfl, hf2⟩
      have A2 := Lib.hid (AN.out.fr hf2 (by simp))
      have F2 := Lib.hid (FN.out.trans0 hf2)
      have HO2 := Lib.hid (own_fr0 HO.out (FN.out.trans0 hf2))
      have hpl : ∀ g, (Value.slice oa k oc).ownBlock = some g → w.heap.size ≤ g ∧ g < wr.heap.size := fun g hg => HO.out.lt g hg
      have HPL := Lib.hid hpl
      have HA2 := Lib.hid (HA.out.fr (FN.out.trans0 hf2) (by simp))
      obtain ⟨q, hq⟩ : ∃ q, wr.heap.size = q := ⟨_, rfl⟩
      rw [hq] at A2 HPL hwl ⊢
      have hql := A2.out.lt
      obtain ⟨x, hx⟩ : ∃ x, stB hs c = x := ⟨_, rfl⟩
      have HX := Lib.hid hx
      rw [hx]
      clear hf2 AN FN HQ HO CC hq hpl hx HA
      cases x
      · have hcl : cln hs c = c := by unfold cln; rw [HX.out]; simp
        have hso : sOne hs c = 0 := by unfold sOne; rw [HX.out]; simp
        rw [hcl] at HT
        rw [hso] at hsu
        have HSU := Lib.hid hsu
        clear hsu hcl hso
        have hnb := Lib.hid (At.new w2 36 (cat [c]).toArray)
        have FB := Lib.hid (show Fr [] w2 (w2.alloc (.cells (cat [c]).toArray 36)) from (by repeat (first | exact Fr.refl _ _ | assumption | refine Fr.trans0 ?_ (by assumption) | refine Fr.drewN ?_ _ | refine Fr.alloc ?_ _ | refine Fr.drew ?_)))
        have HO3 := Lib.hid (own_fr0 HO2.out FB.out)
        go_wp2_with (first | (refine wpList_load_all rfl 36 (.tmp 9) rfl q rfl 36 c.cells _ A2.out Try.underlying36 rfl infoCapS ?_) | (refine wpList_buildSlice rfl 23 1 _ _ _ _ (built1 _ c) rfl (by simp [go_sem]) ?_) | (at_builtin; refine wpList_append_own_at _ rfl (.tmp 26) (.tmp 28) 23 rfl w.heap.size 36 i0 (.agg noC.cells) 8 24 Try.underlying23 hi hz0 hz1 hz2 rfl (by omega) (.slice oa k oc) k _ rfl HO3.out ⟨w2.heap.size, 0, none⟩ 1 1 (cat [c]) rfl (by rw [cat_len]; rfl) (fun j u hu => by rw [Go.WideShapes.add_plain, Nat.zero_add, hnb.out.cell]; simpa using hu) (cat_one' _) (by unfold maxLen; omega) (by omega) (by simp <;> omega) ?_; intro v1 w4 hown1 hg1 hnil hat1))
        go_roundw
        case rel =>
          have f4 := Fr.grown hg1
          refine ⟨k + 1, by omega, by go_num, by rw [HSU.out]; go_num, ?_, ?_, ?_⟩
          · rw [HT.out, cat_append]; exact hown1
          · exact (HA2.out.fr FB.out (by simp)).fr f4 (own_toList HO3.out (HA2.out.fr FB.out (by simp)) (by decide))
          · exact ((HF.out.trans0 F2.out).trans0 FB.out).trans f4 (fun x hx => .inr (HPL.out x (by simpa using hx)).1)
        case measure => simp [intOf]; omega
      · have hcl : cln hs c = c.off := by unfold cln; rw [HX.out]; simp
        have hso : sOne hs c = 1 := by unfold sOne; rw [HX.out]; simp
        rw [hcl] at HT
        rw [hso] at hsu
        have HSU := Lib.hid hsu
        have c7 := A2.out.cell 7
        have z7 := A2.out.froz 7
        unfold Cp.cells at c7
        simp only [List.getElem?_toArray, List.getElem?_cons_zero, List.getElem?_cons_succ] at c7
        have A3 := Lib.hid (show At (w2.setCell ⟨q, 7, none⟩ (.bool false)) q 36 c.off.cells from A2.out.set 7 (.bool false))
        have F3 := Lib.hid (show Fr [q] w2 (w2.setCell ⟨q, 7, none⟩ (.bool false)) from (Fr.refl _ _).set (.inl (by simp)) _)
        have HO3 := Lib.hid (own_fr HO2.out F3.out (fun g hg => by have := HPL.out g hg; simp; omega))
        have HA3 := Lib.hid (HA2.out.fr F3.out (by simp; omega))
        obtain ⟨d, hd⟩ : ∃ d, c.off = d := ⟨_, rfl⟩
        rw [hd] at HT A3
        clear hsu hcl hso hd
        have hnb := Lib.hid (At.new (w2.setCell ⟨q, 7, none⟩ (.bool false)) 36 (cat [d]).toArray)
        have FB := Lib.hid (show Fr [] (w2.setCell ⟨q, 7, none⟩ (.bool false)) ((w2.setCell ⟨q, 7, none⟩ (.bool false)).alloc (.cells (cat [d]).toArray 36)) from (by repeat (first | exact Fr.refl _ _ | assumption | refine Fr.trans0 ?_ (by assumption) | refine Fr.drewN ?_ _ | refine Fr.alloc ?_ _ | refine Fr.drew ?_)))
        have HO4 := Lib.hid (own_fr0 HO3.out FB.out)
        go_wp2_with (first | (refine wpList_load_all rfl 36 (.tmp 9) rfl q rfl 36 d.cells _ A3.out Try.underlying36 rfl infoCapS ?_) | (refine wpList_buildSlice rfl 23 1 _ _ _ _ (built1 _ d) rfl (by simp [go_sem]) ?_) | (at_builtin; refine wpList_append_own_at _ rfl (.tmp 26) (.tmp 28) 23 rfl w.heap.size 36 i0 (.agg noC.cells) 8 24 Try.underlying23 hi hz0 hz1 hz2 rfl (by omega) (.slice oa k oc) k _ rfl HO4.out ⟨(w2.setCell ⟨q, 7, none⟩ (.bool false)).heap.size, 0, none⟩ 1 1 (cat [d]) rfl (by rw [cat_len]; rfl) (fun j u hu => by rw [Go.WideShapes.add_plain, Nat.zero_add, hnb.out.cell]; simpa using hu) (cat_one' _) (by unfold maxLen; omega) (by omega) (by simp <;> omega) ?_; intro v1 w4 hown1 hg1 hnil hat1))
        go_roundw
        case rel =>
          have f4 := Fr.grown hg1
          refine ⟨k + 1, by omega, by go_num, by rw [HSU.out]; go_num, ?_, ?_, ?_⟩
          · rw [HT.out, cat_append]; exact hown1
          · exact (HA3.out.fr FB.out (by simp)).fr f4 (own_toList HO4.out (HA3.out.fr FB.out (by simp)) (by decide))
          · exact (((HF.out.trans0 F2.out).trans F3.out (by simp; omega)).trans0 FB.out).trans f4 (fun x hx => .inr (HPL.out x (by simpa using hx)).1)
        case measure => simp [intOf]; omega
    · obtain rfl : k = m := by omega
      go_wp2_with fail
      have hO := HO.out
      rw [List.take_of_length_le (by rw [HM.out]; omega)] at hO
      exact bodyPost_ret (v := .tuple #[.slice oa k oc, .int .i64 (sums hs (l.take k) : Nat)]) (by simp [results, Try.results11, go_sem]) rfl ⟨.slice oa k oc, by rw [HSL.out], hO, HF.out⟩
end Go.Proofs.Ytibjdcllnjfnoaa
