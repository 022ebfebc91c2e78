/-
  What the reference of layer 32 answers: Outside, Meeting. Conditions: numbers in their types' ranges; a thousand entries at most.
-/



import Derived.Test.YtkbdoiefgmbikaaRefInside
import Derived.Deep.CutBlock
import Derived.Deep.DeepCutAuto
import Derived.BigRegion
import Derived.Laws.EntriesVeiled
set_option linter.unusedVariables false
namespace Go.Proofs.Ytkbdoiefgmbikaa
open Go.ChangeShapes Go.WideShapes Go.ChangeAt Go.RowKit
--- a round's facts: of list l, entry k (h), with verdict S
--- a round that adds nothing, over frame fact $1 and own fact $2
--- a round that adds a place: frame $1, own $2 of world $3; slots of the list $4 and of what is added $5
set_option maxHeartbeats 4000000 in
set_option maxRecDepth 100000 in
theorem routside_any (w : World) (a : Option Addr) (cap : Nat) (l : List Hd) (ba : Option Addr) (bcap : Nat) (bl : List Cp) (ra : Option Addr) (rcap : Nat) (rl : List (Nat × Nat))
    (hl : RowsAt w a 11 (l.map Hd.l)) (hcs : ∀ h ∈ l, h.c.cur < 4294967296 ∧ h.c.pm < 65536) (hn : l.length ≤ 1000)
    (hb : RowsAt w ba 8 (bl.map Cp.l)) (hbc : ∀ b ∈ bl, b.cur < 4294967296 ∧ b.pm < 65536) (hbn : bl.length ≤ 1000)
    (hr : RowsAt w ra 2 (rl.map rgl)) (hrb : ∀ r ∈ rl, r.1 < 4294967296 ∧ r.2 < 4294967296) (hrn : rl.length ≤ 1000) :
    Calls Try.prog 12 #[.slice a l.length cap, .slice ba bl.length bcap, .slice ra rl.length rcap] w fun r w' => ∃ v, r = .returned v ∧ w'.ownsRow w.heap.size 3 1 v (plc (fun c => !((bl ++ gcs rl).any (withinB c))) l 0).length (nts (plc (fun c => !((bl ++ gcs rl).any (withinB c))) l 0)) ∧ Fr [] w w' := by
  obtain ⟨i0, hi, hz0, hz1, hz2⟩ := info_parts infoInt
  have C := Lib.hid fun W (hW : Fr [] w W) c hc hcp => rinside_any W c ba bcap bl ra rcap rl hc hcp (hb.fr0 hW) hbc hbn (hr.fr0 hW) hrb hrn
  obtain ⟨S0, hS0⟩ : ∃ S0 : Cp → Bool, (fun c => (bl ++ gcs rl).any (withinB c)) = S0 := ⟨_, rfl⟩
  have e0 : ∀ c, (bl ++ gcs rl).any (withinB c) = S0 c := fun c => by rw [← hS0]
  simp only [e0] at C ⊢
  obtain ⟨S, hS⟩ : ∃ S : Cp → Bool, (fun c => !S0 c) = S := ⟨_, rfl⟩
  have e1 : ∀ c, S0 c = !S c := fun c => by rw [← hS]; simp
  rw [hS]
  simp only [e1] at C
  clear hS0 e0 hS e1 hb hbc hr hrb
  have HL := Lib.hid hl
  have HS := Lib.hid hcs
  obtain ⟨n, hnn⟩ : ∃ n, l.length = n := ⟨_, rfl⟩
  have HN := Lib.hid hnn
  rw [hnn] at hn ⊢
  clear hl hcs hnn
  generalize bl.length = bn at *
  generalize rl.length = rn at *
  go_enter Try.func12, Try.ntmps12
  go_wp2_with fail
  go_loopw [7, 8] (fun s i wr => ∃ k : Nat, k ≤ n ∧ i = .int .i64 k ∧ wr.ownsRow w.heap.size 3 1 s (plc S (l.take k) 0).length (nts (plc S (l.take k) 0)) ∧ Fr [] w wr) (fun _ i _ => n - (intOf i).toNat)
  case atStart => exact ⟨0, by omega, rfl, World.ownsRow_nil _ _ _ _, Fr.refl _ _⟩
  case round =>
    obtain ⟨k, hk, rfl, hown, hf⟩ := hrel
    have FR := Lib.hid hf
    have hsz := hf.size
    by_cases hlt : k < n
    · skip
      obtain ⟨h, hhk⟩ : ∃ h, l[k]? = some h := ⟨_, List.getElem?_eq_getElem (by rw [HN.out]; exact hlt)⟩
      obtain ⟨hcur, hpm⟩ := HS.out h (List.mem_of_getElem? hhk)
      rcases HL.out.fr0 FR.out with h0 | ⟨g, off, rfl, hg, hcell⟩
      · have : l = [] := by simpa using h0
        rw [this] at hhk; cases hhk
      have hcc := hcell k h.l (by rw [List.getElem?_map, hhk]; rfl)
      have hcv : wr.cell? ⟨g, off + k * 11 + 3 + 7, none⟩ = some (.bool h.c.v) := by have := hcc 10 _ rfl; rwa [Go.WideShapes.add_plain] at this
      have HC := Lib.hid (show ∀ j v, h.c.l[j]? = some v → wr.cell? ((⟨g, off + k * 11 + 3, none⟩ : Addr).add j) = some v from fun j v hv => by
        have h1 : h.l[3 + j]? = some v := by
          unfold Hd.l
          rw [show [Value.int .i64 h.hart, .int .i64 h.reg, .int .u32 h.at_, .int .u32 h.c.cur, .int .u8 h.c.e, .int .u16 h.c.b, .int .u16 h.c.t, .int .u16 h.c.pm, .int .u16 h.c.ty, .int .u32 h.c.rs, .bool h.c.v] = [Value.int .i64 h.hart, .int .i64 h.reg, .int .u32 h.at_] ++ h.c.l from rfl, List.getElem?_append_right (by simp)]
          simpa using hv
        have := hcc (3 + j) v h1
        rw [Go.WideShapes.add_plain] at this ⊢
        rw [show off + k * 11 + 3 + j = off + k * 11 + (3 + j) by omega]
        exact this)
      have htk : l.take k ++ [h] = l.take (k + 1) := by rw [List.take_add_one, hhk]; rfl
      have hlk : (l.take k).length = k := by rw [List.length_take]; have := HN.out; omega
      have hsn := plc_snoc S h (l.take k) 0
      rw [htk, hlk, Nat.zero_add] at hsn
      have hpl := plc_len S (l.take k) 0
      rw [hlk] at hpl
      obtain ⟨p, hp⟩ : ∃ p, plc S (l.take k) 0 = p := ⟨_, rfl⟩
      rw [hp] at hsn hpl hown
      have HO := Lib.hid hown
      have hkI : (k : Int) < (n : Int) := by omega
      obtain ⟨V, hV⟩ : ∃ V, h.c.v = V := ⟨_, rfl⟩
      obtain ⟨M, hM⟩ : ∃ M, S h.c = M := ⟨_, rfl⟩
      rw [hV] at hcv
      rw [hV, hM] at hsn
      have HSN := Lib.hid hsn
      have CH := Lib.hid (C.out wr FR.out h.c hcur hpm)
      rw [hM] at CH
      unfold Cp.cells at CH
      clear hown hf hcell hcc hhk htk hlk hsn hp hV hM
      cases V
      · go_wp2_with fail
        go_roundw
        case rel =>
          refine ⟨k + 1, by omega, by go_num, ?_, FR.out⟩
          rw [HSN.out, if_neg (by simp), List.append_nil]
          exact HO.out
        case measure => simp [intOf]; omega
      · go_wp2_with (refine wpList_load_at rfl 51 (.tmp 25) rfl ⟨g, off + k * 11 + 3, none⟩ rfl h.c.l _ HC.out Try.underlying51 rfl (infoC8 h.c) ?_)
        refine (CH.out).mono ?_
        rintro e w2 ⟨rfl, hf2⟩
        have F2 := Lib.hid (FR.out.trans0 hf2)
        have HO2 := Lib.hid (own_fr0 HO.out hf2)
        have hs2 := hf2.size
        clear hf2
        cases M
        · go_wp2_with fail
          go_roundw
          case rel =>
            refine ⟨k + 1, by omega, by go_num, ?_, F2.out⟩
            rw [HSN.out, if_neg (by simp), List.append_nil]
            exact HO2.out
          case measure => simp [intOf]; omega
        · skip
          go_wp2_with (at_builtin; refine wpList_append_own_at _ rfl (.tmp 32) (.tmp 34) 31 rfl w.heap.size 3 i0 (.int .i64 0) 1 8 Try.underlying31 hi hz0 hz1 hz2 rfl (by omega) u7 p.length (nts p) rfl ((HO2.out).alloc _) ⟨(w2).heap.size, 0, none⟩ 1 1 [.int .i64 k] rfl rfl (cell_one_new _ _ _) (by simp [Value.oneCell']) (by unfold maxLen; omega) (by omega) (by simp; omega) ?_; intro v1 w7 hown7 hg7 hnil7 hat7)
          have F7 := Lib.hid (((F2.out).alloc (.cells #[.int .i64 k] 3)).app hg7 ((HO2.out).alloc (.cells #[.int .i64 k] 3)) (by omega))
          have O7 := Lib.hid hown7
          go_roundw
          case rel =>
            refine ⟨k + 1, by omega, by go_num, ?_, F7.out⟩
            rw [HSN.out, if_pos (by simp), List.length_append]
            unfold nts
            rw [List.map_append]
            exact O7.out
          case measure => simp [intOf]; omega
    · obtain rfl : k = n := by omega
      go_wp2_with fail
      go_ret
      have e1 : l.take k = l := by rw [← HN.out, List.take_length]
      rw [e1] at hown
      exact ⟨_, rfl, hown, FR.out⟩
set_option maxHeartbeats 4000000 in
set_option maxRecDepth 100000 in
theorem rmeeting_any (w : World) (a : Option Addr) (cap : Nat) (l : List Hd) (ra rs : Nat)
    (hl : RowsAt w a 11 (l.map Hd.l)) (hcs : ∀ h ∈ l, h.c.cur < 4294967296 ∧ h.c.pm < 65536) (hn : l.length ≤ 1000) (h1 : ra < 4294967296) (h2 : rs < 4294967296) :
    Calls Try.prog 14 #[.slice a l.length cap, .agg #[.int .u32 ra, .int .u32 rs]] w fun r w' => ∃ v, r = .returned v ∧ w'.ownsRow w.heap.size 3 1 v (plc (fun c => meetsB c ra rs) l 0).length (nts (plc (fun c => meetsB c ra rs) l 0)) ∧ Fr [] w w' := by
  obtain ⟨i0, hi, hz0, hz1, hz2⟩ := info_parts infoInt
  have HIR := Lib.hid (show (Try.prog.info? 27).map (·.size) = some 2 by kernel_rfl)
  have C := Lib.hid fun W c hc => r04meets_any W c ra rs hc h1 h2
  obtain ⟨S, hS⟩ : ∃ S : Cp → Bool, (fun c => meetsB c ra rs) = S := ⟨_, rfl⟩
  have e0 : ∀ c, meetsB c ra rs = S c := fun c => by rw [← hS]
  rw [hS]
  simp only [e0] at C
  clear hS e0
  have A0 := Lib.hid (At.new w 27 #[.int .u32 ra, .int .u32 rs])
  have F0 := Lib.hid (show Fr [] w (w.alloc (.cells #[.int .u32 ra, .int .u32 rs] 27)) from (by repeat (first | exact Fr.refl _ _ | assumption | refine Fr.trans0 ?_ (by assumption) | refine Fr.drewN ?_ _ | refine Fr.alloc ?_ _ | refine Fr.drew ?_)))
  have HL := Lib.hid hl
  have HS := Lib.hid hcs
  obtain ⟨n, hnn⟩ : ∃ n, l.length = n := ⟨_, rfl⟩
  have HN := Lib.hid hnn
  rw [hnn] at hn ⊢
  clear hl hcs hnn
  go_enter Try.func14, Try.ntmps14
  go_wp2_with fail
  obtain ⟨w1, hw1⟩ : ∃ W, w.alloc (.cells #[.int .u32 ra, .int .u32 rs] 27) = W := ⟨_, rfl⟩
  have A0 := A0.out
  have F0 := F0.out
  have HL := HL.out
  have HL := HL.fr0 F0
  rw [hw1] at A0 F0 HL ⊢
  clear hw1
  have hzw := F0.size
  obtain ⟨q, hq⟩ : ∃ q, w.heap.size = q := ⟨_, rfl⟩
  rw [hq] at A0 ⊢
  rw [hq] at hzw
  have HQ := Lib.hid hq
  clear hq
  have A0 := Lib.hid A0
  have F0 := Lib.hid F0
  have HL := Lib.hid HL
  go_loopw [5, 6] (fun s i wr => ∃ k : Nat, k ≤ n ∧ i = .int .i64 k ∧ wr.ownsRow w1.heap.size 3 1 s (plc S (l.take k) 0).length (nts (plc S (l.take k) 0)) ∧ Fr [] w1 wr) (fun _ i _ => n - (intOf i).toNat)
  case atStart => exact ⟨0, by omega, rfl, World.ownsRow_nil _ _ _ _, Fr.refl _ _⟩
  case round =>
    obtain ⟨k, hk, rfl, hown, hf⟩ := hrel
    have FR := Lib.hid hf
    have hsz := hf.size
    by_cases hlt : k < n
    · skip
      obtain ⟨h, hhk⟩ : ∃ h, l[k]? = some h := ⟨_, List.getElem?_eq_getElem (by rw [HN.out]; exact hlt)⟩
      obtain ⟨hcur, hpm⟩ := HS.out h (List.mem_of_getElem? hhk)
      rcases HL.out.fr0 FR.out with h0 | ⟨g, off, rfl, hg, hcell⟩
      · have : l = [] := by simpa using h0
        rw [this] at hhk; cases hhk
      have hcc := hcell k h.l (by rw [List.getElem?_map, hhk]; rfl)
      have hcv : wr.cell? ⟨g, off + k * 11 + 3 + 7, none⟩ = some (.bool h.c.v) := by have := hcc 10 _ rfl; rwa [Go.WideShapes.add_plain] at this
      have HC := Lib.hid (show ∀ j v, h.c.l[j]? = some v → wr.cell? ((⟨g, off + k * 11 + 3, none⟩ : Addr).add j) = some v from fun j v hv => by
        have h1 : h.l[3 + j]? = some v := by
          unfold Hd.l
          rw [show [Value.int .i64 h.hart, .int .i64 h.reg, .int .u32 h.at_, .int .u32 h.c.cur, .int .u8 h.c.e, .int .u16 h.c.b, .int .u16 h.c.t, .int .u16 h.c.pm, .int .u16 h.c.ty, .int .u32 h.c.rs, .bool h.c.v] = [Value.int .i64 h.hart, .int .i64 h.reg, .int .u32 h.at_] ++ h.c.l from rfl, List.getElem?_append_right (by simp)]
          simpa using hv
        have := hcc (3 + j) v h1
        rw [Go.WideShapes.add_plain] at this ⊢
        rw [show off + k * 11 + 3 + j = off + k * 11 + (3 + j) by omega]
        exact this)
      have htk : l.take k ++ [h] = l.take (k + 1) := by rw [List.take_add_one, hhk]; rfl
      have hlk : (l.take k).length = k := by rw [List.length_take]; have := HN.out; omega
      have hsn := plc_snoc S h (l.take k) 0
      rw [htk, hlk, Nat.zero_add] at hsn
      have hpl := plc_len S (l.take k) 0
      rw [hlk] at hpl
      obtain ⟨p, hp⟩ : ∃ p, plc S (l.take k) 0 = p := ⟨_, rfl⟩
      rw [hp] at hsn hpl hown
      have HO := Lib.hid hown
      have hkI : (k : Int) < (n : Int) := by omega
      obtain ⟨V, hV⟩ : ∃ V, h.c.v = V := ⟨_, rfl⟩
      obtain ⟨M, hM⟩ : ∃ M, S h.c = M := ⟨_, rfl⟩
      rw [hV] at hcv
      rw [hV, hM] at hsn
      have HSN := Lib.hid hsn
      have CH := Lib.hid (fun W => C.out W h.c hcur)
      rw [hM] at CH
      have HCV := Lib.hid hcv
      have hoff : off + k * 11 + 3 + 7 = off + k * 11 + 3 + 7 := rfl
      clear hown hf hcell hcc hhk htk hlk hsn hp hV hM hcv
      go_wp2_with fail
      cases V
      · refine wp_region_L (fun W => Fr [] wr W) [] (by kernel_rfl) (Fr.refl _ _).drew (fun hHeld => ?_)
        refine wpAnyL_take (i := 0) (v := ?_) rfl (by kernel_rfl) (fun _ _ _ h => h) (Or.inl ⟨by rfl, ?_⟩) (by assumption) ?_; rotate_left; (focus (intro w hSw; skip; go_simp; (try with_reducible rfl))); (try (refine wpAnyL_norm (by simp only [Act.put, List.setIfInBounds_toArray, List.set_cons_zero, List.set_cons_succ]; rfl) ?_))
        refine wpAnyL_take (i := 1) (v := ?_) rfl (by kernel_rfl) (fun _ _ _ h => h) (Or.inl ⟨by rfl, ?_⟩) (by assumption) ?_; rotate_left; (focus (intro w hSw; skip; go_simp; (try with_reducible rfl))); (try (refine wpAnyL_norm (by simp only [Act.put, List.setIfInBounds_toArray, List.set_cons_zero, List.set_cons_succ]; rfl) ?_))
        refine wpAnyL_take (i := 2) (v := ?_) rfl (by kernel_rfl) (fun _ _ _ h => h) (Or.inl ⟨by rfl, ?_⟩) (by assumption) ?_; rotate_left; (focus (intro w hSw; skip; go_simp; (try with_reducible rfl))); (try (refine wpAnyL_norm (by simp only [Act.put, List.setIfInBounds_toArray, List.set_cons_zero, List.set_cons_succ]; rfl) ?_))
        refine wpAnyL_take (i := 3) (v := ?_) rfl (by kernel_rfl) (fun _ _ _ h => h) (Or.inl ⟨by rfl, ?_⟩) (by assumption) ?_; rotate_left; (focus (intro w hSw; skip; go_simp; (try with_reducible rfl))); (try (refine wpAnyL_norm (by simp only [Act.put, List.setIfInBounds_toArray, List.set_cons_zero, List.set_cons_succ]; rfl) ?_))
        refine wpAnyL_take (i := 4) (v := ?_) rfl (by kernel_rfl) (fun _ _ _ h => h) (Or.inl ⟨by rfl, ?_⟩) (by assumption) ?_; rotate_left; (focus (intro w hSw; skip; go_simp; (try with_reducible rfl))); (try (refine wpAnyL_norm (by simp only [Act.put, List.setIfInBounds_toArray, List.set_cons_zero, List.set_cons_succ]; rfl) ?_))
        refine wpAnyL_take (i := 5) (v := ?_) rfl (by kernel_rfl) (fun _ _ _ h => h) (Or.inl ⟨by rfl, ?_⟩) (by assumption) ?_; rotate_left; (focus (intro w hSw; (have c := (hSw.cell hg (by simp)).trans HCV.out); go_simp; (try with_reducible rfl))); (try (refine wpAnyL_norm (by simp only [Act.put, List.setIfInBounds_toArray, List.set_cons_zero, List.set_cons_succ]; rfl) ?_))
        refine wpAnyL_take (i := 6) (v := ?_) rfl (by kernel_rfl) (fun _ _ _ h => h) (Or.inl ⟨by rfl, ?_⟩) (by assumption) ?_; rotate_left; (focus (intro w hSw; skip; go_simp; (try with_reducible rfl))); (try (refine wpAnyL_norm (by simp only [Act.put, List.setIfInBounds_toArray, List.set_cons_zero, List.set_cons_succ]; rfl) ?_))
        refine wpAnyL_take (i := 7) (v := undef) rfl (by kernel_rfl) (fun _ _ _ h => h) (Or.inr ⟨by rfl, rfl⟩) (by assumption) ?_; (try (refine wpAnyL_norm (by simp only [Act.put, List.setIfInBounds_toArray, List.set_cons_zero, List.set_cons_succ]; rfl) ?_))
        refine wpAnyL_take (i := 8) (v := undef) rfl (by kernel_rfl) (fun _ _ _ h => h) (Or.inr ⟨by rfl, rfl⟩) (by assumption) ?_; (try (refine wpAnyL_norm (by simp only [Act.put, List.setIfInBounds_toArray, List.set_cons_zero, List.set_cons_succ]; rfl) ?_))
        refine wpAnyL_take (i := 9) (v := undef) rfl (by kernel_rfl) (fun _ _ _ h => h) (Or.inr ⟨by rfl, rfl⟩) (by assumption) ?_; (try (refine wpAnyL_norm (by simp only [Act.put, List.setIfInBounds_toArray, List.set_cons_zero, List.set_cons_succ]; rfl) ?_))
        refine wpAnyL_take (i := 10) (v := undef) rfl (by kernel_rfl) (fun _ _ _ h => h) (Or.inr ⟨by rfl, rfl⟩) (by assumption) ?_; (try (refine wpAnyL_norm (by simp only [Act.put, List.setIfInBounds_toArray, List.set_cons_zero, List.set_cons_succ]; rfl) ?_))
        refine wpAnyL_take (i := 11) (v := undef) rfl (by kernel_rfl) (fun _ _ _ h => h) (Or.inr ⟨by rfl, rfl⟩) (by assumption) ?_; (try (refine wpAnyL_norm (by simp only [Act.put, List.setIfInBounds_toArray, List.set_cons_zero, List.set_cons_succ]; rfl) ?_))
        refine wpAnyL_take (i := 12) (v := undef) rfl (by kernel_rfl) (fun _ _ _ h => h) (Or.inr ⟨by rfl, rfl⟩) (by assumption) ?_; (try (refine wpAnyL_norm (by simp only [Act.put, List.setIfInBounds_toArray, List.set_cons_zero, List.set_cons_succ]; rfl) ?_))
        refine wpAnyL_take (i := 13) (v := undef) rfl (by kernel_rfl) (fun _ _ _ h => h) (Or.inr ⟨by rfl, rfl⟩) (by assumption) ?_; (try (refine wpAnyL_norm (by simp only [Act.put, List.setIfInBounds_toArray, List.set_cons_zero, List.set_cons_succ]; rfl) ?_))
        refine wpAnyL_take (i := 14) (v := ?_) rfl (by kernel_rfl) (fun _ _ _ h => h) (Or.inl ⟨by rfl, ?_⟩) (by assumption) ?_; rotate_left; (focus (intro w hSw; skip; go_simp; (try with_reducible rfl))); (try (refine wpAnyL_norm (by simp only [Act.put, List.setIfInBounds_toArray, List.set_cons_zero, List.set_cons_succ]; rfl) ?_))
        refine wpAnyL_done (by kernel_rfl) ?_ _
        have F3 := Lib.hid (FR.out.trans0 hHeld)
        have HO3 := Lib.hid (own_fr0 HO.out hHeld)
        go_wp2_with fail
        go_roundw
        case rel =>
          refine ⟨k + 1, by omega, by go_num, ?_, F3.out⟩
          rw [HSN.out, if_neg (by simp), List.append_nil]
          exact HO3.out
        case measure => simp [intOf]; omega
      · refine wp_region_L (fun W => Fr [] wr W) [] (by kernel_rfl) (Fr.refl _ _).drew (fun hHeld => ?_)
        refine wpAnyL_take (i := 0) (v := ?_) rfl (by kernel_rfl) (fun _ _ _ h => h) (Or.inl ⟨by rfl, ?_⟩) (by assumption) ?_; rotate_left; (focus (intro w hSw; skip; go_simp; (try with_reducible rfl))); (try (refine wpAnyL_norm (by simp only [Act.put, List.setIfInBounds_toArray, List.set_cons_zero, List.set_cons_succ]; rfl) ?_))
        refine wpAnyL_take (i := 1) (v := ?_) rfl (by kernel_rfl) (fun _ _ _ h => h) (Or.inl ⟨by rfl, ?_⟩) (by assumption) ?_; rotate_left; (focus (intro w hSw; skip; go_simp; (try with_reducible rfl))); (try (refine wpAnyL_norm (by simp only [Act.put, List.setIfInBounds_toArray, List.set_cons_zero, List.set_cons_succ]; rfl) ?_))
        refine wpAnyL_take (i := 2) (v := ?_) rfl (by kernel_rfl) (fun _ _ _ h => h) (Or.inl ⟨by rfl, ?_⟩) (by assumption) ?_; rotate_left; (focus (intro w hSw; skip; go_simp; (try with_reducible rfl))); (try (refine wpAnyL_norm (by simp only [Act.put, List.setIfInBounds_toArray, List.set_cons_zero, List.set_cons_succ]; rfl) ?_))
        refine wpAnyL_take (i := 3) (v := ?_) rfl (by kernel_rfl) (fun _ _ _ h => h) (Or.inl ⟨by rfl, ?_⟩) (by assumption) ?_; rotate_left; (focus (intro w hSw; skip; go_simp; (try with_reducible rfl))); (try (refine wpAnyL_norm (by simp only [Act.put, List.setIfInBounds_toArray, List.set_cons_zero, List.set_cons_succ]; rfl) ?_))
        refine wpAnyL_take (i := 4) (v := ?_) rfl (by kernel_rfl) (fun _ _ _ h => h) (Or.inl ⟨by rfl, ?_⟩) (by assumption) ?_; rotate_left; (focus (intro w hSw; skip; go_simp; (try with_reducible rfl))); (try (refine wpAnyL_norm (by simp only [Act.put, List.setIfInBounds_toArray, List.set_cons_zero, List.set_cons_succ]; rfl) ?_))
        refine wpAnyL_take (i := 5) (v := ?_) rfl (by kernel_rfl) (fun _ _ _ h => h) (Or.inl ⟨by rfl, ?_⟩) (by assumption) ?_; rotate_left; (focus (intro w hSw; (have c := (hSw.cell hg (by simp)).trans HCV.out); go_simp; (try with_reducible rfl))); (try (refine wpAnyL_norm (by simp only [Act.put, List.setIfInBounds_toArray, List.set_cons_zero, List.set_cons_succ]; rfl) ?_))
        refine wpAnyL_take (i := 6) (v := ?_) rfl (by kernel_rfl) (fun _ _ _ h => h) (Or.inl ⟨by rfl, ?_⟩) (by assumption) ?_; rotate_left; (focus (intro w hSw; skip; go_simp; (try with_reducible rfl))); (try (refine wpAnyL_norm (by simp only [Act.put, List.setIfInBounds_toArray, List.set_cons_zero, List.set_cons_succ]; rfl) ?_))
        refine wpAnyL_take (i := 7) (v := ?_) rfl (by kernel_rfl) (fun _ _ _ h => h) (Or.inl ⟨by rfl, ?_⟩) (by assumption) ?_; rotate_left; (focus (intro w hSw; skip; go_simp; (try with_reducible rfl))); (try (refine wpAnyL_norm (by simp only [Act.put, List.setIfInBounds_toArray, List.set_cons_zero, List.set_cons_succ]; rfl) ?_))
        refine wpAnyL_take (i := 8) (v := ?_) rfl (by kernel_rfl) (fun _ _ _ h => h) (Or.inl ⟨by rfl, ?_⟩) (by assumption) ?_; rotate_left; (focus (intro w hSw; skip; go_simp; (try with_reducible rfl))); (try (refine wpAnyL_norm (by simp only [Act.put, List.setIfInBounds_toArray, List.set_cons_zero, List.set_cons_succ]; rfl) ?_))
        refine wpAnyL_take (i := 9) (v := ?_) rfl (by kernel_rfl) (fun _ _ _ h => h) (Or.inl ⟨by rfl, ?_⟩) (by assumption) ?_; rotate_left; (focus (intro w hSw; skip; go_simp; (try with_reducible rfl))); (try (refine wpAnyL_norm (by simp only [Act.put, List.setIfInBounds_toArray, List.set_cons_zero, List.set_cons_succ]; rfl) ?_))
        refine wpAnyL_take (i := 10) (v := ?_) rfl (by kernel_rfl) (fun _ _ _ h => h) (Or.inl ⟨by rfl, ?_⟩) (by assumption) ?_; rotate_left; (focus (intro w hSw; skip; go_simp; (try with_reducible rfl))); (try (refine wpAnyL_norm (by simp only [Act.put, List.setIfInBounds_toArray, List.set_cons_zero, List.set_cons_succ]; rfl) ?_))
        refine wpAnyL_take (i := 11) rfl (by kernel_rfl) (fun _ _ _ h => h) (yields_load_at 51 (.tmp 23) rfl ⟨g, off + k * 11 + 3, none⟩ rfl h.c.l _ (fun W hW j v hv => by have := HC.out j v hv; rw [Go.WideShapes.add_plain] at this ⊢; rw [hW.cell hg (by simp)]; exact this) Try.underlying51 rfl (infoC8 h.c) rfl) (by assumption) ?_; (try (refine wpAnyL_norm (by simp only [Act.put, List.setIfInBounds_toArray, List.set_cons_zero, List.set_cons_succ]; rfl) ?_))
        refine wpAnyL_take (i := 12) rfl (by kernel_rfl) (fun _ _ _ h => h) (yields_load_at 27 (.tmp 3) rfl ⟨q, 0, none⟩ rfl [.int .u32 ra, .int .u32 rs] _ (fun W hW => (A0.out.fr (FR.out.trans0 hW) (by simp)).two 0 _ _ rfl rfl) Try.underlying27 rfl HIR.out rfl) (by assumption) ?_; (try (refine wpAnyL_norm (by simp only [Act.put, List.setIfInBounds_toArray, List.set_cons_zero, List.set_cons_succ]; rfl) ?_))
        refine wpAnyL_ready (rs := [13]) (by kernel_rfl) (by simp) ?_; refine AllReadyL.cons rfl (fun K hK => ?_) AllReadyL.nil
        go_simp
        refine (CH.out _).mono ?_
        rintro e1 w3 ⟨rfl, hf3⟩
        refine hK.out _ _ (fun _ => hHeld.trans0 hf3) (fun hHeld' => ?_); have hHeld := hHeld' (by decide); clear hHeld' hK K; (try (refine wpAnyL_norm (by simp only [Act.put, List.setIfInBounds_toArray, List.set_cons_zero, List.set_cons_succ]; rfl) ?_))
        refine wpAnyL_take (i := 14) (v := ?_) rfl (by kernel_rfl) (fun _ _ _ h => h) (Or.inl ⟨by rfl, ?_⟩) (by assumption) ?_; rotate_left; (focus (intro w hSw; skip; go_simp; (try with_reducible rfl))); (try (refine wpAnyL_norm (by simp only [Act.put, List.setIfInBounds_toArray, List.set_cons_zero, List.set_cons_succ]; rfl) ?_))
        refine wpAnyL_done (by kernel_rfl) ?_ _
        have F3 := Lib.hid (FR.out.trans0 hHeld)
        have HO3 := Lib.hid (own_fr0 HO.out hHeld)
        have hs3 := F3.out.size
        cases M
        · go_wp2_with fail
          go_roundw
          case rel =>
            refine ⟨k + 1, by omega, by go_num, ?_, F3.out⟩
            rw [HSN.out, if_neg (by simp), List.append_nil]
            exact HO3.out
          case measure => simp [intOf]; omega
        · skip
          go_wp2_with (at_builtin; refine wpList_append_own_at _ rfl (.tmp 28) (.tmp 30) 31 rfl w1.heap.size 3 i0 (.int .i64 0) 1 8 Try.underlying31 hi hz0 hz1 hz2 rfl (by omega) u5 p.length (nts p) rfl ((HO3.out).alloc _) ⟨(w3).heap.size, 0, none⟩ 1 1 [.int .i64 k] rfl rfl (cell_one_new _ _ _) (by simp [Value.oneCell']) (by unfold maxLen; omega) (by omega) (by simp; omega) ?_; intro v1 w7 hown7 hg7 hnil7 hat7)
          have F7 := Lib.hid (((F3.out).alloc (.cells #[.int .i64 k] 3)).app hg7 ((HO3.out).alloc (.cells #[.int .i64 k] 3)) (by omega))
          have O7 := Lib.hid hown7
          go_roundw
          case rel =>
            refine ⟨k + 1, by omega, by go_num, ?_, F7.out⟩
            rw [HSN.out, if_pos (by simp), List.length_append]
            unfold nts
            rw [List.map_append]
            exact O7.out
          case measure => simp [intOf]; omega
    · obtain rfl : k = n := by omega
      go_wp2_with fail
      go_ret
      have e1 : l.take k = l := by rw [← HN.out, List.take_length]
      rw [e1] at hown
      exact ⟨_, rfl, own_base hown (by have := HQ.out; omega), F0.out.trans0 FR.out⟩
end Go.Proofs.Ytkbdoiefgmbikaa
