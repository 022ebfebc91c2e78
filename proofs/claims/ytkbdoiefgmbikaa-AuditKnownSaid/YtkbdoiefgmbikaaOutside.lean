/-
  The places of what is held and of which something is so; Meeting; Outside. Conditions: numbers in their types' ranges; a thousand entries at most.
-/



import Derived.Test.YtkbdoiefgmbikaaOut
import Derived.Deep.CutBlock
import Derived.Deep.DeepCutAuto
import Derived.BigRegion
import Derived.Laws.EntriesVeiled
set_option linter.unusedVariables false
namespace Go.Proofs.Ytkbdoiefgmbikaa
open Go.ChangeShapes Go.WideShapes Go.ChangeAt Go.RowKit
structure Hd where
  hart : Int
  reg : Int
  at_ : Nat
  c : Cp
def Hd.l (h : Hd) : List Value := [.int .i64 h.hart, .int .i64 h.reg, .int .u32 h.at_, .int .u32 h.c.cur, .int .u8 h.c.e, .int .u16 h.c.b, .int .u16 h.c.t, .int .u16 h.c.pm, .int .u16 h.c.ty, .int .u32 h.c.rs, .bool h.c.v]
theorem infoHd : (Try.prog.info? 55).map (·.size) = some 11 := by kernel_rfl
/-- The places, from i on, of those that are valid and so. -/
def plc (S : Cp → Bool) : List Hd → Nat → List Nat
  | [], _ => []
  | h :: t, i => (if h.c.v = true ∧ S h.c = true then [i] else []) ++ plc S t (i + 1)
theorem plc_snoc (S : Cp → Bool) (h : Hd) : ∀ (l : List Hd) (i : Nat), plc S (l ++ [h]) i = plc S l i ++ (if h.c.v = true ∧ S h.c = true then [i + l.length] else [])
  | [], i => by simp [plc]
  | y :: l, i => by
    simp only [List.cons_append, plc, List.length_cons]
    rw [plc_snoc S h l, show i + 1 + l.length = i + (l.length + 1) by omega, List.append_assoc]
theorem plc_len (S : Cp → Bool) : ∀ (l : List Hd) (i : Nat), (plc S l i).length ≤ l.length
  | [], i => by simp [plc]
  | y :: l, i => by
    have := plc_len S l (i + 1)
    simp only [plc, List.length_append, List.length_cons]
    split <;> simp <;> omega
def nts (l : List Nat) : List Value := l.map fun (n : Nat) => .int .i64 (n : Int)
theorem nts_len (l : List Nat) : (nts l).length = l.length := by simp [nts]
theorem infoInt : (Try.prog.info? 3).map (fun i => (i.zero, i.size, i.bytes)) = some (some (.int .i64 0), 1, 8) := by kernel_rfl
set_option maxHeartbeats 4000000 in
set_option maxRecDepth 100000 in
theorem places_meet (w : World) (Q : Nat) (S : Cp → Bool) (C0 : ∀ W c, Fr [] w W → c.cur < 4294967296 → Calls Try.prog 34 #[.agg c.cells, .pointer (some ⟨Q, 0, none⟩)] W fun r w' => r = .returned (.bool (S c)) ∧ Fr [] W w')
    (a : Option Addr) (cap : Nat) (l : List Hd) (hl : RowsAt w a 11 (l.map Hd.l)) (hcs : ∀ h ∈ l, h.c.cur < 4294967296) (hn : l.length ≤ 1000) :
    Calls Try.prog 28 #[.slice a l.length cap, .func (.func 34) #[] #[.pointer (some ⟨Q, 0, none⟩)]] w fun r w' => ∃ v, r = .returned v ∧ w'.ownsRow w.heap.size 3 1 v (plc S l 0).length (nts (plc S l 0)) ∧ Fr [] w w' := by
  obtain ⟨i0, hi, hz0, hz1, hz2⟩ := info_parts infoInt
  have C := Lib.hid C0
  have HL := Lib.hid hl
  have HS := Lib.hid hcs
  obtain ⟨n, hnn⟩ : ∃ n, l.length = n := ⟨_, rfl⟩
  have HN := Lib.hid hnn
  rw [hnn] at hn ⊢
  clear hl hcs hnn C0
  go_enter Try.func28, Try.ntmps28
  go_wp2_with fail
  go_loopw [5, 10] (fun s i wr => ∃ k : Nat, k ≤ n ∧ i = .int .i64 k ∧ wr.ownsRow w.heap.size 3 1 s (plc S (l.take k) 0).length (nts (plc S (l.take k) 0)) ∧ Fr [] w wr) (fun _ i _ => n - (intOf i).toNat)
  case atStart => exact ⟨0, by omega, rfl, World.ownsRow_nil _ _ _ _, Fr.refl _ _⟩
  case round =>
    obtain ⟨k, hk, rfl, hown, hf⟩ := hrel
    have FR := Lib.hid hf
    have hsz := hf.size
    by_cases hlt : k < n
    · obtain ⟨h, hhk⟩ : ∃ h, l[k]? = some h := ⟨_, List.getElem?_eq_getElem (by rw [HN.out]; exact hlt)⟩
      have hcur := HS.out h (List.mem_of_getElem? hhk)
      rcases HL.out.fr0 FR.out with h0 | ⟨g, off, rfl, hg, hcell⟩
      · have : l = [] := by simpa using h0
        rw [this] at hhk; cases hhk
      have HC := Lib.hid (hcell k h.l (by rw [List.getElem?_map, hhk]; rfl))
      have htk : l.take k ++ [h] = l.take (k + 1) := by rw [List.take_add_one, hhk]; rfl
      have hlk : (l.take k).length = k := by rw [List.length_take]; have := HN.out; omega
      have hsn := plc_snoc S h (l.take k) 0
      rw [htk, hlk, Nat.zero_add] at hsn
      have hpl := plc_len S (l.take k) 0
      rw [hlk] at hpl
      obtain ⟨p, hp⟩ : ∃ p, plc S (l.take k) 0 = p := ⟨_, rfl⟩
      rw [hp] at hsn hpl hown
      have HO := Lib.hid hown
      have hkI : (k : Int) < (n : Int) := by omega
      obtain ⟨V, hV⟩ : ∃ V, h.c.v = V := ⟨_, rfl⟩
      obtain ⟨M, hM⟩ : ∃ M, S h.c = M := ⟨_, rfl⟩
      have CH := Lib.hid (C.out _ h.c (FR.out.alloc (.cells h.l.toArray 55)) hcur)
      rw [hM] at CH
      have HCV : Hid (∀ j v, [.int .i64 h.hart, .int .i64 h.reg, .int .u32 h.at_, .int .u32 h.c.cur, .int .u8 h.c.e, .int .u16 h.c.b, .int .u16 h.c.t, .int .u16 h.c.pm, .int .u16 h.c.ty, .int .u32 h.c.rs, .bool V][j]? = some v → wr.cell? ((⟨g, off + k * 11, none⟩ : Addr).add j) = some v) := Lib.hid (hV ▸ HC.out)
      rw [hV, hM] at hsn
      have HSN := Lib.hid hsn
      have F1 := Lib.hid (FR.out.alloc (.cells h.l.toArray 55))
      have HO1 := Lib.hid (HO.out.alloc (.cells h.l.toArray 55))
      unfold Hd.l at F1 HO1 CH
      unfold Cp.cells at CH
      rw [hV] at F1 HO1 CH
      clear hown hf hcell hhk htk hlk hsn hp hV hM
      cases V
      · go_wp2_with (refine wpList_load_at rfl 55 (.tmp 13) rfl ⟨g, off + k * 11, none⟩ rfl [.int .i64 h.hart, .int .i64 h.reg, .int .u32 h.at_, .int .u32 h.c.cur, .int .u8 h.c.e, .int .u16 h.c.b, .int .u16 h.c.t, .int .u16 h.c.pm, .int .u16 h.c.ty, .int .u32 h.c.rs, .bool false] _ HCV.out Try.underlying55 rfl infoHd ?_)
        go_roundw
        case rel =>
          refine ⟨k + 1, by omega, by go_num, ?_, F1.out⟩
          rw [HSN.out, if_neg (by simp), List.append_nil]
          exact HO1.out
        case measure => simp [intOf]; omega
      · go_wp2_with (refine wpList_load_at rfl 55 (.tmp 13) rfl ⟨g, off + k * 11, none⟩ rfl [.int .i64 h.hart, .int .i64 h.reg, .int .u32 h.at_, .int .u32 h.c.cur, .int .u8 h.c.e, .int .u16 h.c.b, .int .u16 h.c.t, .int .u16 h.c.pm, .int .u16 h.c.ty, .int .u32 h.c.rs, .bool true] _ HCV.out Try.underlying55 rfl infoHd ?_)
        refine (CH.out).mono ?_
        rintro e w2 ⟨rfl, hf2⟩
        have F2 := Lib.hid (F1.out.trans0 hf2)
        have HO2 := Lib.hid (own_fr0 HO1.out hf2)
        have hs2 := hf2.size
        rw [World.size_alloc] at hs2
        clear hf2
        cases M
        · go_wp2_with fail
          go_roundw
          case rel =>
            refine ⟨k + 1, by omega, by go_num, ?_, F2.out⟩
            rw [HSN.out, if_neg (by simp), List.append_nil]
            exact HO2.out
          case measure => simp [intOf]; omega
        · go_wp2_with (at_builtin; refine wpList_append_own_at _ rfl (.tmp 24) (.tmp 26) 31 rfl w.heap.size 3 i0 (.int .i64 0) 1 8 Try.underlying31 hi hz0 hz1 hz2 rfl (by omega) u5 p.length (nts p) rfl (HO2.out.alloc _) ⟨w2.heap.size, 0, none⟩ 1 1 [.int .i64 k] rfl rfl (cell_one_new _ _ _) (by simp [Value.oneCell']) (by unfold maxLen; omega) (by omega) (by simp; omega) ?_; intro v1 w7 hown7 hg7 hnil7 hat7)
          have F7 := Lib.hid ((F2.out.alloc (.cells #[.int .i64 k] 3)).app hg7 (HO2.out.alloc (.cells #[.int .i64 k] 3)) (by omega))
          have O7 := Lib.hid hown7
          go_roundw
          case rel =>
            refine ⟨k + 1, by omega, by go_num, ?_, F7.out⟩
            rw [HSN.out, if_pos (by simp), List.length_append]
            unfold nts
            rw [List.map_append]
            exact O7.out
          case measure => simp [intOf]; omega
    · obtain rfl : k = n := by omega
      go_wp2_with fail
      go_ret
      have e1 : l.take k = l := by rw [← HN.out, List.take_length]
      rw [e1] at hown
      exact ⟨_, rfl, hown, FR.out⟩
set_option maxHeartbeats 4000000 in
set_option maxRecDepth 100000 in
theorem places_out (w : World) (Q : Nat) (S : Cp → Bool) (C0 : ∀ W c, Fr [] w W → c.cur < 4294967296 → Calls Try.prog 29 #[.agg c.cells, .pointer (some ⟨Q, 0, none⟩)] W fun r w' => r = .returned (.bool (S c)) ∧ Fr [] W w')
    (a : Option Addr) (cap : Nat) (l : List Hd) (hl : RowsAt w a 11 (l.map Hd.l)) (hcs : ∀ h ∈ l, h.c.cur < 4294967296) (hn : l.length ≤ 1000) :
    Calls Try.prog 28 #[.slice a l.length cap, .func (.func 29) #[] #[.pointer (some ⟨Q, 0, none⟩)]] w fun r w' => ∃ v, r = .returned v ∧ w'.ownsRow w.heap.size 3 1 v (plc S l 0).length (nts (plc S l 0)) ∧ Fr [] w w' := by
  obtain ⟨i0, hi, hz0, hz1, hz2⟩ := info_parts infoInt
  have C := Lib.hid C0
  have HL := Lib.hid hl
  have HS := Lib.hid hcs
  obtain ⟨n, hnn⟩ : ∃ n, l.length = n := ⟨_, rfl⟩
  have HN := Lib.hid hnn
  rw [hnn] at hn ⊢
  clear hl hcs hnn C0
  go_enter Try.func28, Try.ntmps28
  go_wp2_with fail
  go_loopw [5, 10] (fun s i wr => ∃ k : Nat, k ≤ n ∧ i = .int .i64 k ∧ wr.ownsRow w.heap.size 3 1 s (plc S (l.take k) 0).length (nts (plc S (l.take k) 0)) ∧ Fr [] w wr) (fun _ i _ => n - (intOf i).toNat)
  case atStart => exact ⟨0, by omega, rfl, World.ownsRow_nil _ _ _ _, Fr.refl _ _⟩
  case round =>
    obtain ⟨k, hk, rfl, hown, hf⟩ := hrel
    have FR := Lib.hid hf
    have hsz := hf.size
    by_cases hlt : k < n
    · obtain ⟨h, hhk⟩ : ∃ h, l[k]? = some h := ⟨_, List.getElem?_eq_getElem (by rw [HN.out]; exact hlt)⟩
      have hcur := HS.out h (List.mem_of_getElem? hhk)
      rcases HL.out.fr0 FR.out with h0 | ⟨g, off, rfl, hg, hcell⟩
      · have : l = [] := by simpa using h0
        rw [this] at hhk; cases hhk
      have HC := Lib.hid (hcell k h.l (by rw [List.getElem?_map, hhk]; rfl))
      have htk : l.take k ++ [h] = l.take (k + 1) := by rw [List.take_add_one, hhk]; rfl
      have hlk : (l.take k).length = k := by rw [List.length_take]; have := HN.out; omega
      have hsn := plc_snoc S h (l.take k) 0
      rw [htk, hlk, Nat.zero_add] at hsn
      have hpl := plc_len S (l.take k) 0
      rw [hlk] at hpl
      obtain ⟨p, hp⟩ : ∃ p, plc S (l.take k) 0 = p := ⟨_, rfl⟩
      rw [hp] at hsn hpl hown
      have HO := Lib.hid hown
      have hkI : (k : Int) < (n : Int) := by omega
      obtain ⟨V, hV⟩ : ∃ V, h.c.v = V := ⟨_, rfl⟩
      obtain ⟨M, hM⟩ : ∃ M, S h.c = M := ⟨_, rfl⟩
      have CH := Lib.hid (C.out _ h.c (FR.out.alloc (.cells h.l.toArray 55)) hcur)
      rw [hM] at CH
      have HCV : Hid (∀ j v, [.int .i64 h.hart, .int .i64 h.reg, .int .u32 h.at_, .int .u32 h.c.cur, .int .u8 h.c.e, .int .u16 h.c.b, .int .u16 h.c.t, .int .u16 h.c.pm, .int .u16 h.c.ty, .int .u32 h.c.rs, .bool V][j]? = some v → wr.cell? ((⟨g, off + k * 11, none⟩ : Addr).add j) = some v) := Lib.hid (hV ▸ HC.out)
      rw [hV, hM] at hsn
      have HSN := Lib.hid hsn
      have F1 := Lib.hid (FR.out.alloc (.cells h.l.toArray 55))
      have HO1 := Lib.hid (HO.out.alloc (.cells h.l.toArray 55))
      unfold Hd.l at F1 HO1 CH
      unfold Cp.cells at CH
      rw [hV] at F1 HO1 CH
      clear hown hf hcell hhk htk hlk hsn hp hV hM
      cases V
      · go_wp2_with (refine wpList_load_at rfl 55 (.tmp 13) rfl ⟨g, off + k * 11, none⟩ rfl [.int .i64 h.hart, .int .i64 h.reg, .int .u32 h.at_, .int .u32 h.c.cur, .int .u8 h.c.e, .int .u16 h.c.b, .int .u16 h.c.t, .int .u16 h.c.pm, .int .u16 h.c.ty, .int .u32 h.c.rs, .bool false] _ HCV.out Try.underlying55 rfl infoHd ?_)
        go_roundw
        case rel =>
          refine ⟨k + 1, by omega, by go_num, ?_, F1.out⟩
          rw [HSN.out, if_neg (by simp), List.append_nil]
          exact HO1.out
        case measure => simp [intOf]; omega
      · go_wp2_with (refine wpList_load_at rfl 55 (.tmp 13) rfl ⟨g, off + k * 11, none⟩ rfl [.int .i64 h.hart, .int .i64 h.reg, .int .u32 h.at_, .int .u32 h.c.cur, .int .u8 h.c.e, .int .u16 h.c.b, .int .u16 h.c.t, .int .u16 h.c.pm, .int .u16 h.c.ty, .int .u32 h.c.rs, .bool true] _ HCV.out Try.underlying55 rfl infoHd ?_)
        refine (CH.out).mono ?_
        rintro e w2 ⟨rfl, hf2⟩
        have F2 := Lib.hid (F1.out.trans0 hf2)
        have HO2 := Lib.hid (own_fr0 HO1.out hf2)
        have hs2 := hf2.size
        rw [World.size_alloc] at hs2
        clear hf2
        cases M
        · go_wp2_with fail
          go_roundw
          case rel =>
            refine ⟨k + 1, by omega, by go_num, ?_, F2.out⟩
            rw [HSN.out, if_neg (by simp), List.append_nil]
            exact HO2.out
          case measure => simp [intOf]; omega
        · go_wp2_with (at_builtin; refine wpList_append_own_at _ rfl (.tmp 24) (.tmp 26) 31 rfl w.heap.size 3 i0 (.int .i64 0) 1 8 Try.underlying31 hi hz0 hz1 hz2 rfl (by omega) u5 p.length (nts p) rfl (HO2.out.alloc _) ⟨w2.heap.size, 0, none⟩ 1 1 [.int .i64 k] rfl rfl (cell_one_new _ _ _) (by simp [Value.oneCell']) (by unfold maxLen; omega) (by omega) (by simp; omega) ?_; intro v1 w7 hown7 hg7 hnil7 hat7)
          have F7 := Lib.hid ((F2.out.alloc (.cells #[.int .i64 k] 3)).app hg7 (HO2.out.alloc (.cells #[.int .i64 k] 3)) (by omega))
          have O7 := Lib.hid hown7
          go_roundw
          case rel =>
            refine ⟨k + 1, by omega, by go_num, ?_, F7.out⟩
            rw [HSN.out, if_pos (by simp), List.length_append]
            unfold nts
            rw [List.map_append]
            exact O7.out
          case measure => simp [intOf]; omega
    · obtain rfl : k = n := by omega
      go_wp2_with fail
      go_ret
      have e1 : l.take k = l := by rw [← HN.out, List.take_length]
      rw [e1] at hown
      exact ⟨_, rfl, hown, FR.out⟩
theorem meeting_any (w : World) (a : Option Addr) (cap : Nat) (l : List Hd) (ra rs : Nat) (hl : RowsAt w a 11 (l.map Hd.l)) (hcs : ∀ h ∈ l, h.c.cur < 4294967296) (hn : l.length ≤ 1000) (h1 : ra < 4294967296) (h2 : rs < 4294967296) :
    Calls Try.prog 13 #[.slice a l.length cap, .agg #[.int .u32 ra, .int .u32 rs]] w fun r w' => ∃ v, r = .returned v ∧ w'.ownsRow w.heap.size 3 1 v (plc (fun c => meetsB c ra rs) l 0).length (nts (plc (fun c => meetsB c ra rs) l 0)) ∧ Fr [] w w' := by
  have A0 := At.new w 27 #[.int .u32 ra, .int .u32 rs]
  have F0 := Lib.hid (show Fr [] w (w.alloc (.cells #[.int .u32 ra, .int .u32 rs] 27)) from (by repeat (first | exact Fr.refl _ _ | assumption | refine Fr.trans0 ?_ (by assumption) | refine Fr.drewN ?_ _ | refine Fr.alloc ?_ _ | refine Fr.drew ?_)))
  have C := Lib.hid (places_meet (w.alloc (.cells #[.int .u32 ra, .int .u32 rs] 27)) w.heap.size (fun c => meetsB c ra rs) (fun W c hW hc => mt1_any W w.heap.size ra rs c (A0.fr hW (by simp)) hc h1 h2) a cap l (hl.fr0 F0.out) hcs hn)
  clear A0 hl hcs
  go_enter Try.func13, Try.ntmps13
  go_wp2_with fail
  refine (C.out).mono ?_
  rintro e w2 ⟨v, rfl, ho, hf2⟩
  go_wp2_with fail
  go_ret
  exact ⟨v, rfl, own_base ho (by simp), F0.out.trans0 hf2⟩
end Go.Proofs.Ytkbdoiefgmbikaa
