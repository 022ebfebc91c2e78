/-
  The iterator of tags: all that is set, rising. Condition: the table of math/bits is as the library lays it.
-/


import Derived.Test.YtgbffcbkipecnaaDoorCopy
import Derived.Test.YtgbffcbkipecnaaDoorTell
import Derived.Test.YtgbffcbkipecnaaDoorRange
set_option linter.unusedVariables false
namespace Go.Proofs.YtgbffcbkipecnaaDoor
open Go.ChangeShapes Go.WideShapes Go.ChangeAt Go.RowKit
attribute [local go_sem] Oper.semAt_some
/-- The table of math/bits, in its variable. -/
def Tab (w : World) : Prop := ∀ j, j < 64 → w.cell? ⟨0, j, none⟩ = some (.int .u8 (Lib.deBruijn64tab.getD j 0))
section
variable {w w' : World} {S : List Nat}
theorem Tab.fr (h : Tab w) (f : Fr S w w') (hS : 0 ∉ S) : Tab w' := fun j hj => (f.cell (a := ⟨0, j, none⟩) (lt_of_cell (h j hj)) hS).trans (h j hj)
theorem Tab.heap (h : Tab w) (hv : w'.heap = w.heap) : Tab w' := fun j hj => by have := h j hj; unfold World.cell? at *; rw [hv]; exact this
theorem Tab.lt (h : Tab w) : 0 < w.heap.size := lt_of_cell (h 0 (by omega))
end
/-- Some blocks of cells abide. -/
def KpB (bs : List Nat) (W W' : World) : Prop := ∀ b ∈ bs, ∀ cs t r, W.heap[b]? = some (.cells cs t r) → W'.heap[b]? = some (.cells cs t r)
theorem kpB_t {bs : List Nat} {A B C : World} (h : KpB bs A B) (k : KpB bs B C) : KpB bs A C := fun b hb cs t r x => k b hb cs t r (h b hb cs t r x)
theorem kpB_b {bs : List Nat} {w : World} (W : World) (l : Nat) (o o' : Obj) (_ : w.heap.size ≤ l) (h : W.heap[l]? = some o) (hc : o.isCells = false) (_ : o.isWalk = false) : KpB bs W (W.putObj l o') := fun b _ cs t r x => by
  have hne : b ≠ l := by
    rintro rfl
    rw [h] at x
    injection x with x
    subst x
    cases hc
  rw [World.putObj_heap_other hne]; exact x
theorem kpB_fr {bs S : List Nat} {W W' : World} (f : Fr S W W') (h : ∀ b ∈ bs, b ∉ S) : KpB bs W W' := fun b hb _ _ _ x => (f.keep b (Array.getElem?_eq_some_iff.1 x).1 (h b hb)).trans x
theorem KpB.at_ {bs : List Nat} {W W' : World} (h : KpB bs W W') {q : Nat} {t : TypeId} {cs : Array Value} (hq : q ∈ bs) (ha : At W q t cs) : At W' q t cs := h q hq _ _ _ ha
theorem KpB.tg {bs : List Nat} {W W' : World} (h : KpB bs W W') {p g n : Nat} {f : Nat → Bool} (hp : p ∈ bs) (hg : g ∈ bs) (ht : Tg W p g n f) : Tg W' p g n f := by
  obtain ⟨h1, h2, h3, c, cs, h4, h5, h6, h7⟩ := ht
  exact ⟨h1, h2, h3, c, cs, h4, h.at_ hp h5, h.at_ hg h6, h7⟩
theorem KpB.tab {bs : List Nat} {W W' : World} (h : KpB bs W W') (hg : 0 ∈ bs) (ht : Tab W) : Tab W' := fun j hj => by
  have h1 := ht j hj
  obtain ⟨o, ho, hc⟩ := cells_of_cell h1
  cases o with
  | cells cs t r => exact (World.cell?_of_block (a := ⟨0, j, none⟩) ((h 0 hg _ _ _ ho).trans ho.symm)).trans h1
  | _ => cases hc
theorem tz_core (x k idx : Nat) (w : World) (hx0 : ((x : Int) == 0) = false)
    (key : IntKind.u64.wrap (bits BinOp.and IntKind.u64 (x : Int) (IntKind.u64.wrap (-(x : Int))) * 285870213051353865) / 288230376151711744 = (idx : Int))
    (hi : idx < 64) (hk : k < 64) (hcell : w.cell? ⟨0, idx, none⟩ = some (.int .u8 k)) :
    Calls Tryd.prog 16 #[.int .u64 x] w fun e w' => e = .returned (.int .i64 k) ∧ w = w' := by
  go_enter Tryd.func16, Tryd.ntmps16
  go_wp2_with (simp only [key])
  go_ret
  exact ⟨rfl, rfl⟩
theorem tz_any (x : Nat) (h0 : x ≠ 0) (hx : x < 18446744073709551616) (w : World) (hT : Tab w) :
    Calls Tryd.prog 16 #[.int .u64 x] w fun e w' => e = .returned (.int .i64 (Lib.ctz 64 x)) ∧ w = w' := by
  obtain ⟨hlow, hk⟩ := Lib.lowest_bit 64 x h0 hx
  obtain ⟨hi, htab⟩ := Lib.deBruijn64_at _ hk
  have hcell := hT _ hi
  rw [htab] at hcell
  exact tz_core x _ _ w (by simp; omega) (and_low x h0 hx _ hlow) hi hk hcell
theorem told_len (f : Nat → Bool) (s : Nat) : (told f s).length ≤ s := by
  unfold told; exact Nat.le_trans (List.length_filter_le _ _) (by simp)
theorem told_prefix (f : Nat → Bool) (s m : Nat) (h : s ≤ m) : told f s <+: told f m := by
  obtain ⟨d, rfl⟩ : ∃ d, m = s + d := ⟨m - s, by omega⟩
  clear h
  induction d with
  | zero => exact List.prefix_refl _
  | succ d ih =>
    rw [← Nat.add_assoc, told_succ]
    split
    · exact ih.trans (List.prefix_append _ _)
    · exact ih
theorem and_le_pred (V : Nat) (h : V ≠ 0) : V &&& (V - 1) < V := Nat.lt_of_le_of_lt Nat.and_le_right (by omega)
theorem wrap_u64' (n : Int) : IntKind.u64.wrap n = n % 18446744073709551616 := by simp [IntKind.wrap, IntKind.signed, IntKind.bits]
set_option maxHeartbeats 1000000 in
theorem all_stops (m q p g n : Nat) (f : Nat → Bool) (w : World) (hq : At w q 24 #[.pointer (some ⟨p, 0, none⟩)]) (ht : Tg w p g n f) (hT : Tab w) :
    SeqStopsK Fence.wide m Tryd.prog 15 #[.pointer (some ⟨q, 0, none⟩)] (fun x : Nat => #[.int .i64 (x : Nat)]) (KpB [q, p, g, 0]) (fun xs => xs = told f n) (fun pre => pre <+: told f n) n w := fun l J Jx W hb hJ hJx hY h0 => by
  have hfr : Fr [] w W := Fr.of_below hb
  have Hq := Lib.hid (hq.fr hfr (by simp))
  have Ht := Lib.hid (ht.fr hfr (by simp) (by simp))
  have HT := Lib.hid (hT.fr hfr (by simp))
  have cq := Hq.out.cell 0
  obtain ⟨cp, hcp, c1⟩ := Ht.out.c1
  have hn := ht.2.1
  have H0 := Lib.hid ht.2.2.1
  simp only [List.getElem?_toArray, List.getElem?_cons_zero] at cq
  have HY := Lib.hid hY
  clear hq ht hT hb hfr hY
  refine callsIn_of_wp Tryd.func15 rfl trivial ?_ rfl
  simp only [Tryd.ntmps15, List.size_toArray, List.length_cons, List.length_nil, Nat.reduceAdd, Nat.reduceSub, Array.replicate_succ, Array.replicate_zero, List.push_toArray, List.append_toArray, List.nil_append, List.cons_append]
  gi_wp2
  gi_loopw [12] (fun v wr => ∃ k : Nat, k ≤ (n + 63) / 64 ∧ v = .int .i64 k ∧ J (told f (64 * k)) wr ∧ At wr q 24 #[.pointer (some ⟨p, 0, none⟩)] ∧ Tg wr p g n f ∧ Tab wr) (fun v _ => (n + 63) / 64 - (intOf v).toNat)
  case atStart => exact ⟨0, by omega, rfl, h0, Hq.out, Ht.out, HT.out⟩
  case round =>
    clear Hq Ht HT cq c1 hcp
    obtain ⟨k, hk, rfl, hj, hq, ht, hT⟩ := hrel
    have HJ0 := Lib.hid hj
    clear hj
    by_cases hkn : k < (n + 63) / 64
    · have cq := hq.cell 0
      obtain ⟨cp, hcp, c1⟩ := ht.c1
      have ck := ht.ck k hkn
      rw [← from_low] at ck
      simp only [List.getElem?_toArray, List.getElem?_cons_zero] at cq
      have Hq := Lib.hid hq
      have Ht := Lib.hid ht
      have HT := Lib.hid hT
      have Hl := Lib.hid (wrd_lt (from_ f (64 * k)) k)
      obtain ⟨V0, hV0⟩ : ∃ V, wrd (from_ f (64 * k)) k = V := ⟨_, rfl⟩
      rw [hV0] at ck
      have HV0 := Lib.hid hV0
      clear hq ht hT hV0
      obtain ⟨wo, rfl⟩ : ∃ wo : World, wo = wr := ⟨_, rfl⟩
      have hdk : decide ((k : Int) < ((n : Int) + 63) / 64) = true := by simp; omega
      gi_wp2
      gi_loopw [4] (fun v wr => ∃ s V : Nat, 64 * k ≤ s ∧ s ≤ 64 * k + 64 ∧ v = .int .u64 V ∧ wrd (from_ f s) k = V ∧ J (told f s) wr ∧ At wr q 24 #[.pointer (some ⟨p, 0, none⟩)] ∧ Tg wr p g n f ∧ Tab wr) (fun v _ => (intOf v).toNat)
      case atStart => exact ⟨64 * k, V0, by omega, by omega, rfl, HV0.out, HJ0.out, Hq.out, Ht.out, HT.out⟩
      case round =>
        clear Hq Ht HT cq c1 hcp ck HV0 HJ0 Hl
        obtain ⟨s, V, hs1, hs2, rfl, hV, hj, hq, ht, hT⟩ := hrel
        have Hq := Lib.hid hq
        have Ht := Lib.hid ht
        have HT := Lib.hid hT
        have HV := Lib.hid hV
        by_cases hz : V = 0
        · subst hz
          have HJ := Lib.hid hj
          have HW := Lib.hid (word_done f k s hs1 hs2 hV)
          clear hj hq ht hT hV
          gi_wp2
          go_roundw
          case rel => exact ⟨k + 1, by omega, by go_num, by rw [HW.out]; exact HJ.out, Hq.out, Ht.out, HT.out⟩
          case measure => simp [intOf]; omega
        · have hlt := wrd_lt (from_ f s) k
          rw [hV] at hlt
          obtain ⟨p1, p2, p3, p4, p5⟩ := next_place f k s hs1 hs2 (by rw [hV]; exact hz)
          rw [hV] at p1 p2 p3 p4 p5
          have C := Lib.hid fun W (hW : Tab W) => tz_any V hz hlt W hW
          have hle := and_le_pred V hz
          obtain ⟨t, ht'⟩ : ∃ t, Lib.ctz 64 V = t := ⟨_, rfl⟩
          rw [ht'] at p1 p2 p3 p4 p5 C
          have hxn : 64 * k + t < n := by
            rcases Nat.lt_or_ge (64 * k + t) n with h | h
            · exact h
            · rw [H0.out _ h] at p3; cases p3
          have hlen := told_len f s
          obtain ⟨fn, tmps, assign, body, hy, hR⟩ := HY.out (told f s) (64 * k + t) wr hj (by omega)
          rw [← p4] at hR
          rw [show ((64 * k + t : Nat) : Int) = (k : Int) * 64 + t by omega] at hy
          have hsub : ((V - 1 : Nat) : Int) = (V : Int) - 1 := by omega
          have hand := band V (V - 1) hlt (by omega)
          rw [hsub] at hand
          have HR := Lib.hid hR
          have P4 := Lib.hid p5
          obtain ⟨U, hU⟩ : ∃ U, V &&& (V - 1) = U := ⟨_, rfl⟩
          rw [hU] at hand P4 hle
          clear hj hq ht hT hV hR ht' p3 p4 p5 hsub hU
          gi_wp2_with (refine ⟨trivial, fun h => (by cases h), ?_⟩; refine (callsIn_wide.2 (C.out _ HT.out)).mono ?_; rintro e w' ⟨rfl, rfl⟩)
          refine ⟨fun h => (by cases h), HR.out.mono ?_⟩
          rintro e W3 (⟨rfl, hJ3, hk3⟩ | ⟨rfl, hJx3⟩)
          · have hq3 := hk3.at_ (by simp) Hq.out
            have ht3 := hk3.tg (by simp) (by simp) Ht.out
            have hT3 := hk3.tab (by simp) HT.out
            gi_wp2
            go_roundw
            case rel => exact ⟨64 * k + t + 1, U, by omega, by omega, rfl, P4.out.symm, hJ3, hq3, ht3, hT3⟩
            case measure => simp [intOf]; omega
          · have HPr := Lib.hid (told_prefix f (64 * k + t + 1) n (by omega))
            gi_wp2
            refine bodyPost_ret (results_none rfl _ _ _) rfl ?_
            exact ⟨⟨_, rfl⟩, .inr ⟨_, HPr.out, hJx3⟩⟩
    · obtain rfl : k = (n + 63) / 64 := by omega
      have HW := Lib.hid (told_out f n (64 * ((n + 63) / 64)) H0.out (by omega))
      clear hq ht hT
      gi_wp2
      go_end0
      refine ⟨⟨_, rfl⟩, .inl ⟨_, rfl, ?_⟩⟩
      rw [← HW.out]
      exact HJ0.out
/-- All of a map that is there: a copy of it is captured. -/
theorem all_any (w : World) (p g n : Nat) (f : Nat → Bool) (h : Tg w p g n f) :
    Calls Tryd.prog 7 #[.pointer (some ⟨p, 0, none⟩)] w fun r w' => ∃ q p' g', r = .returned (.func (.func 15) #[] #[.pointer (some ⟨q, 0, none⟩)]) ∧ At w' q 24 #[.pointer (some ⟨p', 0, none⟩)] ∧ Tg w' p' g' n f ∧ w.heap.size ≤ q ∧ w.heap.size ≤ p' ∧ w.heap.size ≤ g' ∧ q ≠ p' ∧ q ≠ g' ∧ Fr [] w w' := by
  have C := Lib.hid (copy_any w p g n f h)
  clear h
  go_enter Tryd.func7, Tryd.ntmps7
  go_wp2_with (go_at_call 8; refine (C.out).mono ?_; rintro e w2 ⟨p', g', rfl, h2, hp, hg, hf2⟩)
  go_ret
  have hl := h2.lt
  have hs := hf2.size
  exact ⟨w2.heap.size, p', g', rfl, At.new _ _ _, h2.fr (S := []) ((Fr.refl _ _).alloc _) (by simp) (by simp), hs, hp, hg, by omega, by omega, hf2.alloc _⟩
end Go.Proofs.YtgbffcbkipecnaaDoor
