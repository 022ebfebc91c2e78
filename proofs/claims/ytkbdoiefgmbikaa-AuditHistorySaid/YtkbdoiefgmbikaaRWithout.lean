/-
  The reference's without: a hart that waits no more. Condition: lists of a thousand at most.
-/



import Derived.Test.YtkbdoiefgmbikaaRMem
import Derived.Deep.CutBlock
import Derived.Deep.DeepCutAuto
import Derived.BigRegion
set_option linter.unusedVariables false
namespace Go.Proofs.Ytkbdoiefgmbikaa
open Go.ChangeShapes Go.WideShapes Go.ChangeAt Go.RowKit
theorem infoEvZ : (Try.prog.info? 41).map (fun i => (i.zero, i.size, i.bytes)) = some (some (.agg #[.int .i64 0, .int .i64 0, .int .u32 0, .int .u64 0, .int .u32 0, .int .u32 0]), 6, 40) := by kernel_rfl
theorem infoIntZ : (Try.prog.info? 3).map (fun i => (i.zero, i.size, i.bytes)) = some (some (.int .i64 0), 1, 8) := by kernel_rfl
theorem Rst.setK {w w1 : World} {B p : Nat} {y : Rx} {gv ev av tv : Value} (h : Rst w B p y gv ev av tv) (f : Fr [] w w1) {v u : Value} {L : List (Ev × Nat)} (o1 : w1.ownsRow w.heap.size 41 6 v L.length (evC (L.map (·.1)))) (o2 : w1.ownsRow w.heap.size 3 1 u L.length (nts (L.map (·.2)))) :
    Rst ((w1.setCell ⟨p, 5, none⟩ v).setCell ⟨p, 6, none⟩ u) B p { y with ks := L } gv ev v u ∧ Fr (sB p gv ev av tv) w ((w1.setCell ⟨p, 5, none⟩ v).setCell ⟨p, 6, none⟩ u) := by
  have h1 := h.fr0 f
  have G := ((Fr.refl [p] w1).set (a := ⟨p, 5, none⟩) (.inl (by simp)) v).set (a := ⟨p, 6, none⟩) (.inl (by simp)) u
  refine ⟨⟨(h1.at_.set 5 v).set 6 u, h.pb, own_fr h1.g G (fun g hg => by simpa using own_ne h1.g h1.at_ (by decide) g hg), own_fr h1.e G (fun g hg => by simpa using own_ne h1.e h1.at_ (by decide) g hg), own_fr (own_base o1 h.lo) G (fun g hg => by simpa using own_ne o1 h1.at_ (by decide) g hg), own_fr (own_base o2 h.lo) G (fun g hg => by simpa using own_ne o2 h1.at_ (by decide) g hg), ?_⟩, ?_⟩
  · intro g hg hg'
    have a := (h.e.lt g hg).2
    have b := (o2.lt g hg').1
    omega
  · exact ((f.wid (S := sB p gv ev av tv)).set (a := ⟨p, 5, none⟩) (.inl sB_p) v).set (a := ⟨p, 6, none⟩) (.inl sB_p) u
theorem erase_next {α : Type} (l : List α) (k i : Nat) (g : α) (hg : l[i]? = some g) : (l.take (i + 1)).eraseIdx k = (l.take i).eraseIdx k ++ (if i = k then [] else [g]) := by
  have hil := (List.getElem?_eq_some_iff.1 hg).1
  have hlen : (l.take i).length = i := by rw [List.length_take]; omega
  rw [List.take_add_one, hg, Option.toList_some]
  by_cases h : k < i
  · rw [List.eraseIdx_append_of_lt_length (by omega), if_neg (by omega)]
  · rw [List.eraseIdx_append_of_length_le (by omega), hlen, List.eraseIdx_of_length_le (l := l.take i) (by omega)]
    by_cases e : i = k
    · subst e; rw [Nat.sub_self, if_pos rfl]; rfl
    · rw [if_neg e, List.eraseIdx_of_length_le (by simp; omega)]
set_option maxHeartbeats 4000000 in
set_option maxRecDepth 100000 in
theorem rwithout_any (w : World) (B p : Nat) (y : Rx) (gv ev av tv : Value) (hh : Rst w B p y gv ev av tv) (k : Nat) (hk : k < y.ks.length) (hkn : y.ks.length ≤ 1000) :
    Calls Try.prog 58 #[.pointer (some ⟨p, 0, none⟩), .int .i64 k] w fun r w' => (∃ v, r = .returned v) ∧ (∃ gv' ev' av' tv', Rst w' B p { y with ks := y.ks.eraseIdx k } gv' ev' av' tv') ∧ Fr (sB p gv ev av tv) w w' := by
  obtain ⟨i0, hi, hz0, hz1, hz2⟩ := info_parts infoEvZ
  obtain ⟨j0, hj, hy0, hy1, hy2⟩ := info_parts infoIntZ
  have HH := Lib.hid hh
  obtain ⟨aa, ac, rfl, har⟩ := hh.ar
  obtain ⟨ta, tc, rfl, htr⟩ := hh.tr
  have HP := Lib.hid hh.at_
  have HA := Lib.hid har
  have HT := Lib.hid htr
  have hpl := hh.at_.lt
  obtain ⟨l, hl⟩ : ∃ l, y.ks = l := ⟨_, rfl⟩
  obtain ⟨n, hnn⟩ : ∃ n, l.length = n := ⟨_, rfl⟩
  have HN := Lib.hid hnn
  rw [hl] at HP HA HT hk hkn
  rw [hnn] at HP hk hkn
  have HLL := Lib.hid hl
  rw [hl]
  clear hh har htr hl hnn
  go_enter Try.func58, Try.ntmps58
  go_wp2_with fail
  go_loopw [4, 5, 6] (fun s t i wr => ∃ (j : Nat) (L : List (Ev × Nat)), j ≤ n ∧ i = .int .i64 j ∧ L = (l.take j).eraseIdx k ∧ wr.ownsRow w.heap.size 41 6 s L.length (evC (L.map (·.1))) ∧ wr.ownsRow w.heap.size 3 1 t L.length (nts (L.map (·.2))) ∧ Fr [] w wr) (fun _ _ i _ => n - (intOf i).toNat)
  case atStart => exact ⟨0, [], by omega, rfl, by simp, World.ownsRow_nil _ _ _ _, World.ownsRow_nil _ _ _ _, Fr.refl _ _⟩
  case round =>
    obtain ⟨j, L, hjn, rfl, hLL, hos, hot, hf⟩ := hrel
    have FR := Lib.hid hf
    have hsz := hf.size
    have HL := Lib.hid hLL
    have HOS := Lib.hid hos
    have HOT := Lib.hid hot
    have hLlen : L.length ≤ j := by rw [hLL]; exact Nat.le_trans (List.length_eraseIdx_le _ _) (List.length_take_le _ _)
    have c5 := (HP.out.fr hf (by simp)).cell 5
    have c6 := (HP.out.fr hf (by simp)).cell 6
    simp only [List.getElem?_toArray, List.getElem?_cons_zero, List.getElem?_cons_succ] at c5 c6
    clear hf hLL hos hot
    by_cases hlt : j < n
    · obtain ⟨g, hgk⟩ : ∃ g, l[j]? = some g := ⟨_, List.getElem?_eq_getElem (by rw [HN.out]; exact hlt)⟩
      have hnx := erase_next l k j g hgk
      have hjI : (j : Int) < (n : Int) := by omega
      by_cases hjk : j = k
      · rw [if_pos hjk, List.append_nil] at hnx
        have HNX := Lib.hid hnx
        have t1 : ((j : Int) != (k : Int)) = false := by simp; omega
        have t2 : (j != k) = false := by simp; omega
        have HJK := Lib.hid hjk
        clear hgk hnx hjk
        go_wp2_with fail
        go_roundw
        case rel => exact ⟨j + 1, L, by omega, by go_num, by rw [HNX.out]; exact HL.out, HOS.out, HOT.out, FR.out⟩
        case measure => simp [intOf]; omega
      · rw [if_neg hjk] at hnx
        have HNX := Lib.hid hnx
        have t1 : ((j : Int) != (k : Int)) = true := by simp; omega
        have t2 : (j != k) = true := by simp; omega
        rcases HA.out.fr0 FR.out with h0 | ⟨b, off, rfl, hb, hc⟩
        · have : l = [] := by simpa using h0
          rw [this] at hgk; cases hgk
        rcases HT.out with h0 | ⟨b2, off2, rfl, hb2, hc2⟩
        · have : l = [] := by simpa using h0
          rw [this] at hgk; cases hgk
        have hce := hc j (evl g.1) (by rw [List.getElem?_map, List.getElem?_map, hgk]; rfl)
        unfold evl at hce
        have HCE := Lib.hid hce
        have ct := RowsAt.cell hc2 (k := j) (by rw [List.getElem?_map, List.getElem?_map, hgk]; rfl) 0 rfl
        rw [Nat.mul_one, Nat.add_zero] at ct
        have HCT := Lib.hid ct
        have hpw : p < wr.heap.size := Nat.lt_of_lt_of_le hpl hsz
        have hEV : ([.int .i64 g.1.kind, .int .i64 g.1.hart, .int .u32 g.1.val, .int .u64 g.1.num, .int .u32 g.1.a, .int .u32 g.1.s] : List Value) = evl g.1 := rfl
        have HEV := Lib.hid hEV
        have HA1 := Lib.hid ((FR.out.alloc (.cells [.int .i64 g.1.kind, .int .i64 g.1.hart, .int .u32 g.1.val, .int .u64 g.1.num, .int .u32 g.1.a, .int .u32 g.1.s].toArray 41)))
        have HB1 := Lib.hid (HOS.out.alloc (.cells [.int .i64 g.1.kind, .int .i64 g.1.hart, .int .u32 g.1.val, .int .u64 g.1.num, .int .u32 g.1.a, .int .u32 g.1.s].toArray 41))
        have HC1 := Lib.hid (HOT.out.alloc (.cells [.int .i64 g.1.kind, .int .i64 g.1.hart, .int .u32 g.1.val, .int .u64 g.1.num, .int .u32 g.1.a, .int .u32 g.1.s].toArray 41))
        clear hgk hnx hc hc2 ct hce hEV
        go_wp2_with (first | (refine wpList_load_at rfl 41 (.tmp 25) rfl ⟨b, off + j * 6, none⟩ rfl [.int .i64 g.1.kind, .int .i64 g.1.hart, .int .u32 g.1.val, .int .u64 g.1.num, .int .u32 g.1.a, .int .u32 g.1.s] _ HCE.out Try.underlying41 rfl infoEv ?_) | (at_builtin; refine wpList_append_own_at _ rfl (.tmp 19) (.tmp 27) 36 rfl w.heap.size 41 i0 (.agg #[.int .i64 0, .int .i64 0, .int .u32 0, .int .u64 0, .int .u32 0, .int .u32 0]) 6 40 Try.underlying36 hi hz0 hz1 hz2 rfl (by omega) u4 L.length (evC (L.map (·.1))) rfl HB1.out ⟨wr.heap.size, 0, none⟩ 1 1 [.int .i64 g.1.kind, .int .i64 g.1.hart, .int .u32 g.1.val, .int .u64 g.1.num, .int .u32 g.1.a, .int .u32 g.1.s] rfl rfl ((At.new wr 41 [.int .i64 g.1.kind, .int .i64 g.1.hart, .int .u32 g.1.val, .int .u64 g.1.num, .int .u32 g.1.a, .int .u32 g.1.s].toArray).all _ rfl) (by simp [Value.oneCell']) (by unfold maxLen; omega) (by omega) (by simp; omega) ?_; intro v1 w7 hown7 hg7 hnil7 hat7; have F7 := Lib.hid (HA1.out.app hg7 HB1.out (by omega)); have O7 := Lib.hid hown7; have T7 := Lib.hid (own_fr HC1.out (Fr.grown hg7) (toL (own_sep HC1.out HB1.out (by decide)))); have q6 := (HP.out.fr F7.out (by simp)).cell 6; simp only [List.getElem?_toArray, List.getElem?_cons_zero, List.getElem?_cons_succ] at q6; have q7 := (F7.out.cell (a := ⟨b2, off2 + j, none⟩) hb2 (by simp)).trans HCT.out; have hs7 := F7.out.size; clear hg7 hown7 hnil7 hat7) | (at_builtin; refine wpList_append_own_at _ rfl (.tmp 29) (.tmp 37) 31 rfl w.heap.size 3 j0 (.int .i64 0) 1 8 Try.underlying31 hj hy0 hy1 hy2 rfl (by omega) u5 L.length (nts (L.map (·.2))) rfl (T7.out.alloc _) ⟨w7.heap.size, 0, none⟩ 1 1 [.int .i64 g.2] rfl rfl (cell_one_new _ _ _) (by simp [Value.oneCell']) (by unfold maxLen; omega) (by omega) (by simp; omega) ?_; intro v2 w8 hown8 hg8 hnil8 hat8))
        have F8 := Lib.hid ((F7.out.alloc (.cells #[.int .i64 g.2] 3)).app hg8 (T7.out.alloc (.cells #[.int .i64 g.2] 3)) (by omega))
        have O8 := Lib.hid (own_fr (O7.out.alloc (.cells #[.int .i64 g.2] 3)) (Fr.grown hg8) (toL (own_sep (O7.out.alloc (.cells #[.int .i64 g.2] 3)) (T7.out.alloc (.cells #[.int .i64 g.2] 3)) (by decide))))
        have T8 := Lib.hid hown8
        clear hg8 hown8 hnil8 hat8
        go_roundw
        case rel =>
          refine ⟨j + 1, L ++ [g], by omega, by go_num, by rw [HNX.out, HL.out], ?_, ?_, F8.out⟩
          · have := O8.out
            rw [HEV.out] at this
            rw [List.length_append]
            unfold evC at this ⊢
            rw [List.map_append, List.flatMap_append]
            simpa using this
          · have := T8.out
            rw [List.length_append]
            unfold nts at this ⊢
            rw [List.map_append, List.map_append]
            exact this
        case measure => simp [intOf]; omega
    · obtain rfl : j = n := by omega
      have e1 : L = l.eraseIdx k := by rw [HL.out, ← HN.out, List.take_length]
      have z5 := (HP.out.fr FR.out (by simp)).froz 5
      have z6 := (HP.out.fr FR.out (by simp)).froz 6
      have hpw : p < wr.heap.size := Nat.lt_of_lt_of_le hpl hsz
      have HE1 := Lib.hid e1
      clear e1
      obtain ⟨sa, sc, rfl, _⟩ := own_slice HOS.out
      obtain ⟨ua, uc, rfl, _⟩ := own_slice HOT.out
      go_wp2_with fail
      go_end0
      have := HH.out.setK FR.out HOS.out HOT.out
      have h2 := this.2
      rw [HLL.out] at h2
      rw [← HE1.out]
      exact ⟨⟨_, rfl⟩, ⟨_, _, _, _, this.1⟩, h2⟩
end Go.Proofs.Ytkbdoiefgmbikaa
