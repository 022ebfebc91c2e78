/-
  Outside of audit. Conditions: numbers in their types' ranges; a thousand entries at most.
-/



import Derived.Test.YtkbdoiefgmbikaaOutside
import Derived.Deep.CutBlock
import Derived.Deep.DeepCutAuto
import Derived.BigRegion
import Derived.Laws.EntriesVeiled
set_option linter.unusedVariables false
namespace Go.Proofs.Ytkbdoiefgmbikaa
open Go.ChangeShapes Go.WideShapes Go.ChangeAt Go.RowKit
theorem infoCapA : (Try.prog.info? 51).map (fun i => (i.zero, i.size, i.bytes)) = some (some (.agg noC.cells), 8, 24) := by kernel_rfl
set_option maxRecDepth 100000 in
theorem cclone_any (w : World) (a : Option Addr) (cap : Nat) (l : List Cp) (hl : RowsAt w a 8 (l.map Cp.l)) (hnil : a = none → cap = 0) (hn : l.length ≤ 1000) :
    Calls Try.prog 27 #[.slice a l.length cap] w fun r w' => ∃ v, r = .returned v ∧ w'.ownsRow w.heap.size 51 8 v l.length (catC l) ∧ Fr [] w w' := by
  obtain ⟨i0, hi, hz0, hz1, hz2⟩ := info_parts infoCapA
  cases a with
  | none =>
    have hl0 : l = [] := by
      rcases hl with h | ⟨b, off, h, _⟩
      · simpa using h
      · cases h
    subst hl0
    obtain rfl := hnil rfl
    have heq := fun W : World => Lib.run_eql_slice_nil (P := Try.prog) W 23 51 none 0 0 0 0 Try.underlying23
    simp only [Option.isNone_none] at heq
    go_enter Try.func27, Try.ntmps27
    go_wp2_with fail
    go_ret
    exact ⟨_, rfl, World.ownsRow_nil _ _ _ _, Fr.refl _ _⟩
  | some ad =>
    have hown0 : (w.alloc (.cells #[] 51)).ownsRow w.heap.size 51 8 (.slice (some ⟨w.heap.size, 0, none⟩) 0 0) 0 [] :=
      ⟨by simp, .inr ⟨w.heap.size, 0, #[], rfl, Nat.le_refl _, (At.new w 51 #[] : At _ _ _ _), Nat.le_refl _, by simp, by simp, by simp⟩⟩
    have H0 := Lib.hid hown0
    have F0 := Lib.hid (show Fr [] w (w.alloc (.cells #[] 51)) from (by repeat (first | exact Fr.refl _ _ | assumption | refine Fr.trans0 ?_ (by assumption) | refine Fr.drewN ?_ _ | refine Fr.alloc ?_ _ | refine Fr.drew ?_)))
    have hnw : ∀ j u, (catC l)[j]? = some u → (w.alloc (.cells #[] 51)).cell? (ad.add j) = some u := by
      intro j u hj
      rcases hl with h | ⟨b, off, h, hb, hc⟩
      · have : l = [] := by simpa using h
        rw [this] at hj; cases hj
      · injection h with h
        subst h
        have hjl := (List.getElem?_eq_some_iff.1 hj).1
        rw [catC_len] at hjl
        obtain ⟨c, hck⟩ : ∃ c, l[j / 8]? = some c := ⟨_, List.getElem?_eq_getElem (by omega)⟩
        have h1 := catC_get l (j / 8) c (j % 8) hck (Nat.mod_lt _ (by omega))
        rw [show j / 8 * 8 + j % 8 = j by omega, hj] at h1
        have h2 := hc (j / 8) c.l (by rw [List.getElem?_map, hck]; rfl) (j % 8) u h1.symm
        rw [Go.WideShapes.add_plain] at h2 ⊢
        rw [F0.out.cell hb (by simp), show off + j = off + j / 8 * 8 + j % 8 by omega]
        exact h2
    have HW := Lib.hid hnw
    clear hown0 hnw hl
    have heq := fun W : World => Lib.run_eql_slice_nil (P := Try.prog) W 23 51 (some ad) l.length cap 0 0 Try.underlying23
    simp only [Option.isNone_some] at heq
    go_enter Try.func27, Try.ntmps27
    go_wp2_with (at_builtin; refine wpList_append_own_at _ rfl (.tmp 5) (.tmp 6) 23 rfl w.heap.size 51 i0 (.agg noC.cells) 8 24 Try.underlying23 hi hz0 hz1 hz2 rfl (by omega) (.slice (some ⟨w.heap.size, 0, none⟩) 0 0) 0 [] rfl H0.out ad l.length cap (catC l) rfl (by rw [catC_len]) HW.out (catC_one l) (by unfold maxLen; omega) (by omega) (by simp) ?_; intro v1 w1 hown1 hg1 hnil1 hat1)
    go_ret
    rw [Nat.zero_add, List.nil_append] at hown1
    exact ⟨_, rfl, hown1, F0.out.app hg1 H0.out (by omega)⟩
/-- The capabilities of grants. -/
def gcs (l : List (Nat × Nat)) : List Cp := l.flatMap fun r => if mkB r.1 r.2 27 = true then [mkC r.1 r.2 27] else []
theorem gcs_snoc (l : List (Nat × Nat)) (r : Nat × Nat) : gcs (l ++ [r]) = gcs l ++ (if mkB r.1 r.2 27 = true then [mkC r.1 r.2 27] else []) := by
  unfold gcs
  rw [List.flatMap_append]
  simp
theorem gcs_len (l : List (Nat × Nat)) : (gcs l).length ≤ l.length := by
  unfold gcs
  induction l with
  | nil => simp
  | cons a l ih => rw [List.flatMap_cons, List.length_append, List.length_cons]; split <;> simp only [List.length_cons, List.length_nil] <;> omega
def rgl (r : Nat × Nat) : List Value := [.int .u32 r.1, .int .u32 r.2]
set_option maxHeartbeats 4000000 in
set_option maxRecDepth 100000 in
theorem outside_any (w : World) (a : Option Addr) (cap : Nat) (l : List Hd) (ba : Option Addr) (bcap : Nat) (bl : List Cp) (ra : Option Addr) (rcap : Nat) (rl : List (Nat × Nat))
    (hl : RowsAt w a 11 (l.map Hd.l)) (hcs : ∀ h ∈ l, h.c.cur < 4294967296) (hn : l.length ≤ 1000) (hb : RowsAt w ba 8 (bl.map Cp.l)) (hnil : ba = none → bcap = 0) (hbc : ∀ b ∈ bl, b.cur < 4294967296) (hbn : bl.length ≤ 1000)
    (hr : RowsAt w ra 2 (rl.map rgl)) (hrb : ∀ r ∈ rl, r.1 < 4294967296 ∧ r.2 < 4294967296) (hrn : rl.length ≤ 1000) :
    Calls Try.prog 11 #[.slice a l.length cap, .slice ba bl.length bcap, .slice ra rl.length rcap] w fun r w' => ∃ v, r = .returned v ∧ w'.ownsRow w.heap.size 3 1 v (plc (fun c => !((bl ++ gcs rl).any (withinB c))) l 0).length (nts (plc (fun c => !((bl ++ gcs rl).any (withinB c))) l 0)) ∧ Fr [] w w' := by
  obtain ⟨i0, hi, hz0, hz1, hz2⟩ := info_parts infoCapA
  have HIR := Lib.hid (show (Try.prog.info? 27).map (·.size) = some 2 by kernel_rfl)
  have CL := Lib.hid (cclone_any w ba bcap bl hb hnil hbn)
  have HL := Lib.hid hl
  have HS := Lib.hid hcs
  have HR := Lib.hid hr
  have HRB := Lib.hid hrb
  have HBC := Lib.hid hbc
  obtain ⟨m, hm⟩ : ∃ m, rl.length = m := ⟨_, rfl⟩
  have HMl := Lib.hid hm
  rw [hm] at hrn ⊢
  clear hl hcs hr hrb hb hbc hm
  go_enter Try.func11, Try.ntmps11
  go_wp2_with fail
  refine (CL.out).mono ?_
  rintro e w1 ⟨v, rfl, ho, hf1⟩
  obtain ⟨va, vc, rfl, hvc⟩ := own_slice ho
  have F1 := Lib.hid (hf1.alloc (.cells #[.slice va bl.length vc] 23))
  have Q1 := Lib.hid (At.new w1 23 #[.slice va bl.length vc])
  have O1 := Lib.hid (ho.alloc (.cells #[.slice va bl.length vc] 23))
  have hs1 := hf1.size
  clear ho hf1 CL
  go_wp2_with fail
  obtain ⟨w2, hw2⟩ : ∃ W, w1.alloc (.cells #[.slice va bl.length vc] 23) = W := ⟨_, rfl⟩
  have F1 := F1.out
  have Q1 := Q1.out
  have O1 := O1.out
  have hs2 : w2.heap.size = w1.heap.size + 1 := by rw [← hw2]; simp
  rw [hw2] at F1 Q1 O1 ⊢
  clear hw2
  obtain ⟨Q, hQ⟩ : ∃ q, w1.heap.size = q := ⟨_, rfl⟩
  rw [hQ] at Q1 hs1 hs2 ⊢
  have F1 := Lib.hid F1
  have Q1 := Lib.hid Q1
  have O1 := Lib.hid O1
  clear hQ
  go_loopw [16] (fun i wr => ∃ (k : Nat) (va : Option Addr) (L : List Cp) (vc : Nat), k ≤ m ∧ i = .int .i64 k ∧ L = bl ++ gcs (rl.take k) ∧ At wr Q 23 #[.slice va L.length vc] ∧ wr.ownsRow w.heap.size 51 8 (.slice va L.length vc) L.length (catC L) ∧ Fr [] w wr) (fun i _ => m - (intOf i).toNat)
  case atStart => exact ⟨0, va, bl, vc, by omega, rfl, by simp [gcs], Q1.out, O1.out, F1.out⟩
  case round =>
    clear F1 Q1 O1
    obtain ⟨k, va, L, vc, hk, rfl, hLL, hq, ho, hf⟩ := hrel
    have FR := Lib.hid hf
    have hsz := hf.size
    have hql := hq.lt
    have HLL := Lib.hid hLL
    have HQ := Lib.hid hq
    have HO := Lib.hid ho
    clear hf hLL hq ho
    by_cases hlt : k < m
    · obtain ⟨r, hrk⟩ : ∃ r, rl[k]? = some r := ⟨_, List.getElem?_eq_getElem (by rw [HMl.out]; exact hlt)⟩
      obtain ⟨hr1, hr2⟩ := HRB.out r (List.mem_of_getElem? hrk)
      rcases HR.out.fr0 FR.out with h0 | ⟨g, off, rfl, hg, hcell⟩
      · have : rl = [] := by simpa using h0
        rw [this] at hrk; cases hrk
      have HC := Lib.hid (hcell k (rgl r) (by rw [List.getElem?_map, hrk]; rfl))
      have hsn := gcs_snoc (rl.take k) r
      rw [show rl.take k ++ [r] = rl.take (k + 1) by rw [List.take_add_one, hrk]; rfl] at hsn
      have hgl := gcs_len (rl.take k)
      have htl : (rl.take k).length ≤ k := List.length_take_le _ _
      have hLn : L.length ≤ 1000 + k := by rw [HLL.out, List.length_append]; omega
      have HSN := Lib.hid hsn
      have hkI : (k : Int) < (m : Int) := by omega
      have F2 := Lib.hid (FR.out.alloc (.cells (rgl r).toArray 27))
      have CM := Lib.hid (make_any (wr.alloc (.cells (rgl r).toArray 27)) r.1 r.2 27 hr1 hr2)
      obtain ⟨B, hB⟩ : ∃ B, mkB r.1 r.2 27 = B := ⟨_, rfl⟩
      obtain ⟨X, hX⟩ : ∃ X, (if mkB r.1 r.2 27 = true then mkC r.1 r.2 27 else noC) = X := ⟨_, rfl⟩
      rw [hX, hB] at CM
      have HB := Lib.hid hB
      have HX := Lib.hid hX
      unfold Cp.cells rgl at CM
      unfold rgl at F2
      clear hcell hrk hsn hB hX
      go_wp2_with (refine wpList_load_at rfl 27 (.tmp 18) rfl ⟨g, off + k * 2, none⟩ rfl [.int .u32 r.1, .int .u32 r.2] _ HC.out Try.underlying27 rfl HIR.out ?_)
      refine (CM.out).mono ?_
      rintro e w3 ⟨rfl, hf3⟩
      have F3 := Lib.hid (F2.out.trans0 hf3)
      have Q3 := Lib.hid (((HQ.out.old (.cells #[.int .u32 r.1, .int .u32 r.2] 27)).fr hf3 (by simp)))
      have O3 := Lib.hid (own_fr0 (HO.out.alloc (.cells #[.int .u32 r.1, .int .u32 r.2] 27)) hf3)
      have F4 := Lib.hid (F3.out.alloc (.cells X.cells 51))
      have Q4 := Lib.hid (Q3.out.old (.cells X.cells 51))
      have O4 := Lib.hid (O3.out.alloc (.cells X.cells 51))
      unfold Cp.cells at F4 Q4 O4
      have hs3 := hf3.size
      rw [World.size_alloc] at hs3
      clear hf3
      cases B
      · go_wp2_with fail
        go_roundw
        case rel =>
          refine ⟨k + 1, va, L, vc, by omega, by go_num, ?_, Q4.out, O4.out, F4.out⟩
          rw [HSN.out, HB.out, if_neg (by simp), List.append_nil]
          exact HLL.out
        case measure => simp [intOf]; omega
      · have c4 : (w3.alloc (.cells #[.int .u32 X.cur, .int .u8 X.e, .int .u16 X.b, .int .u16 X.t, .int .u16 X.pm, .int .u16 X.ty, .int .u32 X.rs, .bool X.v] 51)).cell? ⟨Q, 0, none⟩ = some (.slice va L.length vc) := Q4.out.cell 0
        have hq3 : Q < w3.heap.size := Q3.out.lt
        have hs4 : (w3.alloc (.cells #[.int .u32 X.cur, .int .u8 X.e, .int .u16 X.b, .int .u16 X.t, .int .u16 X.pm, .int .u16 X.ty, .int .u32 X.rs, .bool X.v] 51)).heap.size = w3.heap.size + 1 := by simp
        have A5 := At.new (w3.alloc (.cells #[.int .u32 X.cur, .int .u8 X.e, .int .u16 X.b, .int .u16 X.t, .int .u16 X.pm, .int .u16 X.ty, .int .u32 X.rs, .bool X.v] 51)) 51 #[.int .u32 X.cur, .int .u8 X.e, .int .u16 X.b, .int .u16 X.t, .int .u16 X.pm, .int .u16 X.ty, .int .u32 X.rs, .bool X.v]
        rw [World.size_alloc] at A5
        have HNW := Lib.hid (A5.all X.l rfl)
        have O5 := Lib.hid (O4.out.alloc (.cells #[.int .u32 X.cur, .int .u8 X.e, .int .u16 X.b, .int .u16 X.t, .int .u16 X.pm, .int .u16 X.ty, .int .u32 X.rs, .bool X.v] 51))
        have Q5 := Lib.hid (Q4.out.old (.cells #[.int .u32 X.cur, .int .u8 X.e, .int .u16 X.b, .int .u16 X.t, .int .u16 X.pm, .int .u16 X.ty, .int .u32 X.rs, .bool X.v] 51))
        have F5 := Lib.hid (F4.out.alloc (.cells #[.int .u32 X.cur, .int .u8 X.e, .int .u16 X.b, .int .u16 X.t, .int .u16 X.pm, .int .u16 X.ty, .int .u32 X.rs, .bool X.v] 51))
        clear A5
        go_wp2_with (at_builtin; refine wpList_append_own_at _ rfl (.tmp 26) (.tmp 28) 23 rfl w.heap.size 51 i0 (.agg noC.cells) 8 24 Try.underlying23 hi hz0 hz1 hz2 rfl (by omega) (.slice va L.length vc) L.length (catC L) rfl O5.out ⟨w3.heap.size + 1, 0, none⟩ 1 1 X.l rfl rfl HNW.out (by simp [Cp.l, Value.oneCell']) (by unfold maxLen; omega) (by omega) (by simp; omega) ?_; intro v1 w7 hown7 hg7 hnil7 hat7; obtain ⟨av, cv, rfl, hcv⟩ := own_slice hown7; have Q7 := Q5.out.fr (Fr.grown hg7) (own_toList O5.out Q5.out (by decide)); have q0 := Q7.cell 0; have qz := Q7.froz 0)
        have hg := hg7.size
        have O7 := own_fr (S := [Q]) hown7 ((Fr.refl [Q] _).set (a := ⟨Q, 0, none⟩) (.inl (by simp)) (.slice av (L.length + 1) cv)) (fun g hg hm => by
          simp at hm
          subst hm
          exact own_ne hown7 Q7 (by decide) g hg rfl)
        have F7 := (F5.out.app hg7 O5.out (by omega)).set (a := ⟨Q, 0, none⟩) (.inr (by omega)) (.slice av (L.length + 1) cv)
        have Q8 : At _ Q 23 #[.slice av (L.length + 1) cv] := Q7.set 0 (.slice av (L.length + 1) cv)
        go_roundw
        case rel =>
          refine ⟨k + 1, av, L ++ [X], cv, by omega, by go_num, ?_, ?_, ?_, F7⟩
          · rw [HSN.out, HB.out, if_pos rfl, ← List.append_assoc, ← HLL.out]
            have := HX.out
            rw [HB.out, if_pos rfl] at this
            rw [this]
          · rw [List.length_append]; exact Q8
          · rw [List.length_append, catC_app, show catC [X] = X.l by simp [catC]]; exact O7
        case measure => simp [intOf]; omega
    · obtain rfl : k = m := by omega
      have e1 : rl.take k = rl := by rw [← HMl.out, List.take_length]
      have hL : L = bl ++ gcs rl := by rw [HLL.out, e1]
      have hcur : ∀ b ∈ L, b.cur < 4294967296 := fun b hb => by
        rw [hL] at hb
        rcases List.mem_append.1 hb with hb | hb
        · exact HBC.out b hb
        · unfold gcs at hb
          obtain ⟨r, hr, hb⟩ := List.mem_flatMap.1 hb
          split at hb
          · simp at hb; subst hb; exact (HRB.out r hr).1
          · cases hb
      have hLn : L.length ≤ 1000000 := by
        have := gcs_len rl
        have := HMl.out
        rw [hL, List.length_append]
        omega
      obtain ⟨a2, c2, e2, hrow⟩ := own_caps HO.out
      injection e2 with e2 _ e3
      subst e2 e3
      have C := Lib.hid (places_out wr Q (fun c => !(L.any (withinB c))) (fun W c hW hc => out1_any W Q va vc c L (HQ.out.fr hW (by simp)) (hrow.fr0 hW) hcur hc hLn) a cap l (HL.out.fr0 FR.out) HS.out hn)
      rw [hL] at C
      clear hcur hrow hL e1
      go_wp2_with fail
      refine (C.out).mono ?_
      rintro e w3 ⟨v, rfl, ho, hf3⟩
      go_wp2_with fail
      go_ret
      exact ⟨v, rfl, own_base ho (by omega), FR.out.trans0 hf3⟩
end Go.Proofs.Ytkbdoiefgmbikaa
