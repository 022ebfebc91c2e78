/-
  What a hart has told. Condition: a thousand events at most.
-/



import Derived.Test.YtkbdoiefgmbikaaIn
set_option linter.unusedVariables false
namespace Go.Proofs.Ytkbdoiefgmbikaa
open Go.ChangeShapes Go.WideShapes Go.ChangeAt Go.RowKit
def ots (h : Int) : List Ev → List Nat
  | [] => []
  | e :: l => (if e.kind = 1 ∧ e.hart = h then [e.val] else []) ++ ots h l
theorem ots_snoc (h : Int) (e : Ev) : ∀ l : List Ev, ots h (l ++ [e]) = ots h l ++ (if e.kind = 1 ∧ e.hart = h then [e.val] else [])
  | [] => by simp [ots]
  | y :: l => by simp only [List.cons_append, ots]; rw [ots_snoc h e l, List.append_assoc]
theorem ots_len (h : Int) : ∀ l : List Ev, (ots h l).length ≤ l.length
  | [] => by simp [ots]
  | y :: l => by
    have := ots_len h l
    simp only [ots, List.length_append, List.length_cons]
    split <;> simp only [List.length_cons, List.length_nil] <;> omega
def wds (l : List Nat) : List Value := l.map fun (n : Nat) => .int .u32 (n : Int)
theorem infoU32 : (Try.prog.info? 25).map (fun i => (i.zero, i.size, i.bytes)) = some (some (.int .u32 0), 1, 4) := by kernel_rfl
set_option maxHeartbeats 4000000 in
set_option maxRecDepth 100000 in
theorem outs_any (w : World) (a : Option Addr) (cap : Nat) (h : Int) (l : List Ev) (hl : EvIn w a l) (hn : l.length ≤ 1000) :
    Calls Try.prog 20 #[.slice a l.length cap, .int .i64 h] w fun r w' => ∃ v, r = .returned v ∧ w'.ownsRow w.heap.size 25 1 v (ots h l).length (wds (ots h l)) ∧ Fr [] w w' := by
  obtain ⟨i0, hi, hz0, hz1, hz2⟩ := info_parts infoU32
  have HL := Lib.hid hl
  obtain ⟨n, hnn⟩ : ∃ n, l.length = n := ⟨_, rfl⟩
  have HN := Lib.hid hnn
  rw [hnn] at hn ⊢
  clear hl hnn
  go_enter Try.func20, Try.ntmps20
  go_wp2_with fail
  go_loopw [5, 10] (fun s i wr => ∃ k : Nat, k ≤ n ∧ i = .int .i64 k ∧ wr.ownsRow w.heap.size 25 1 s (ots h (l.take k)).length (wds (ots h (l.take k))) ∧ Fr [] w wr) (fun _ i _ => n - (intOf i).toNat)
  case atStart => exact ⟨0, by omega, rfl, World.ownsRow_nil _ _ _ _, Fr.refl _ _⟩
  case round =>
    obtain ⟨k, hk, rfl, hown, hf⟩ := hrel
    have FR := Lib.hid hf
    have hsz := hf.size
    by_cases hlt : k < n
    · obtain ⟨e, hek⟩ : ∃ e, l[k]? = some e := ⟨_, List.getElem?_eq_getElem (by rw [HN.out]; exact hlt)⟩
      rcases HL.out.fr0 FR.out with h0 | ⟨b, off, rfl, hb, hc⟩
      · rw [h0] at hek; cases hek
      have HC := Lib.hid (hc k e hek)
      have hsn := ots_snoc h e (l.take k)
      rw [show l.take k ++ [e] = l.take (k + 1) by rw [List.take_add_one, hek]; rfl] at hsn
      have hpl := ots_len h (l.take k)
      have htl : (l.take k).length ≤ k := List.length_take_le _ _
      obtain ⟨p, hp⟩ : ∃ p, ots h (l.take k) = p := ⟨_, rfl⟩
      rw [hp] at hsn hpl hown
      have HSN := Lib.hid hsn
      have HO := Lib.hid (hown.alloc (.cells (evl e).toArray 41))
      have F1 := Lib.hid (FR.out.alloc (.cells (evl e).toArray 41))
      unfold evl at HO F1
      have hkI : (k : Int) < (n : Int) := by omega
      obtain ⟨B1, hB1⟩ : ∃ B, (e.kind == 1) = B := ⟨_, rfl⟩
      obtain ⟨B2, hB2⟩ : ∃ B, (e.hart == h) = B := ⟨_, rfl⟩
      have hcond : (e.kind = 1 ∧ e.hart = h) ↔ (B1 && B2) = true := by rw [← hB1, ← hB2]; simp
      have HCD := Lib.hid hcond
      clear hown hf hc hek hsn hp hcond
      have fin : ∀ B : Bool, (B1 && B2) = B → ots h (l.take (k + 1)) = p ++ (if B = true then [e.val] else []) := fun B hb => by
        rw [HSN.out]
        congr 1
        by_cases hh : e.kind = 1 ∧ e.hart = h
        · rw [if_pos hh, if_pos (hb ▸ HCD.out.1 hh)]
        · rw [if_neg hh, if_neg (fun hx => hh (HCD.out.2 (hb.trans hx)))]
      have FIN := Lib.hid fin
      clear fin
      cases B1
      · go_wp2_with (refine wpList_load_at rfl 41 (.tmp 12) rfl ⟨b, off + k * 6, none⟩ rfl [.int .i64 e.kind, .int .i64 e.hart, .int .u32 e.val, .int .u64 e.num, .int .u32 e.a, .int .u32 e.s] _ HC.out Try.underlying41 rfl infoEv ?_)
        go_roundw
        case rel =>
          refine ⟨k + 1, by omega, by go_num, ?_, F1.out⟩
          rw [FIN.out false rfl, if_neg (by simp), List.append_nil]
          exact HO.out
        case measure => simp [intOf]; omega
      · cases B2
        · go_wp2_with (refine wpList_load_at rfl 41 (.tmp 12) rfl ⟨b, off + k * 6, none⟩ rfl [.int .i64 e.kind, .int .i64 e.hart, .int .u32 e.val, .int .u64 e.num, .int .u32 e.a, .int .u32 e.s] _ HC.out Try.underlying41 rfl infoEv ?_)
          go_roundw
          case rel =>
            refine ⟨k + 1, by omega, by go_num, ?_, F1.out⟩
            rw [FIN.out false rfl, if_neg (by simp), List.append_nil]
            exact HO.out
          case measure => simp [intOf]; omega
        · go_wp2_with (first | (refine wpList_load_at rfl 41 (.tmp 12) rfl ⟨b, off + k * 6, none⟩ rfl [.int .i64 e.kind, .int .i64 e.hart, .int .u32 e.val, .int .u64 e.num, .int .u32 e.a, .int .u32 e.s] _ HC.out Try.underlying41 rfl infoEv ?_) | (at_builtin; refine wpList_append_own_at _ rfl (.tmp 23) (.tmp 26) 58 rfl w.heap.size 25 i0 (.int .u32 0) 1 4 Try.underlying58 hi hz0 hz1 hz2 rfl (by omega) u5 p.length (wds p) rfl (HO.out.alloc _) ⟨wr.heap.size + 1, 0, none⟩ 1 1 [.int .u32 e.val] rfl rfl (by have := cell_one_new (wr.alloc (.cells (evl e).toArray 41)) (.int .u32 (e.val : Int)) 25; rw [World.size_alloc] at this; exact this) (by simp [Value.oneCell']) (by unfold maxLen; omega) (by omega) (by simp; omega) ?_; intro v1 w7 hown7 hg7 hnil7 hat7))
          have F7 := Lib.hid ((F1.out.alloc (.cells #[.int .u32 e.val] 25)).app hg7 (HO.out.alloc (.cells #[.int .u32 e.val] 25)) (by omega))
          have O7 := Lib.hid hown7
          go_roundw
          case rel =>
            refine ⟨k + 1, by omega, by go_num, ?_, F7.out⟩
            rw [FIN.out true rfl, if_pos rfl, List.length_append]
            unfold wds
            rw [List.map_append]
            exact O7.out
          case measure => simp [intOf]; omega
    · obtain rfl : k = n := by omega
      go_wp2_with fail
      go_ret
      have e1 : l.take k = l := by rw [← HN.out, List.take_length]
      rw [e1] at hown
      exact ⟨_, rfl, hown, FR.out⟩
end Go.Proofs.Ytkbdoiefgmbikaa
