/-
  A slot of a class: one of a page that is there, or the first of a free page, or none. Condition: the table of math/bits is as the library lays it.
-/



import Derived.Test.YtdbpmojblgmhdaaDoorHeap
set_option linter.unusedVariables false
namespace Go.Proofs.YtdbpmojblgmhdaaDoor
open Go.ChangeShapes Go.WideShapes Go.ChangeAt Go.RowKit
theorem slotV_sz {c : Nat} (hc : c < 5) : slotV (c : Int) = (sz c : Int) := by
  rcases five hc with rfl | rfl | rfl | rfl | rfl <;> rfl
section
variable {w : World} {I : HId} {own : Rg} {A : List Rg} {c : Nat}
theorem hslot_old (h : Hb w I own A) (hT : Tab32 w) (hc : c < 5) {n s : Nat} (hn : n < 1024) (hs : s < per c) (h1 : fcl A c n s = true) (h2 : ∀ x, x < n → ∀ t, fcl A c x t = false) (h3 : ∀ t, t < s → fcl A c n t = false) :
    Calls Tryd.prog 30 #[.pointer (some ⟨I.hp, 0, none⟩), .int .i64 c] w fun e w' => e = .returned (.tuple #[.int .u32 (256 * n + s * sz c : Nat), .bool true]) ∧
      Book w' (I.bk c) (per c) (upp (fcl A c) n (upd (fcl A c n) s false)) (tcl A c) ∧ Fr [I.bk c] w w' := by
  have hb := h.b c hc
  have hp := per_bd hc
  have hz := sz_bd hc
  have hpos := tot_pos (fcl A c) n s (by omega) h1 1024 hn
  have hle := tot_le (fcl A c) 1024
  obtain ⟨_, _, _, _, _⟩ := h.cs
  have cb := h.bc hc
  have C1 := Lib.hid (bfree_any hb)
  have C2 := Lib.hid (btake_is hb hT (book_tab hb hT) n s h1 h2 h3)
  have C3 := Lib.hid fun W => slot_any (c : Int) W
  rw [slotV_sz hc] at C3
  obtain ⟨N, hN⟩ : ∃ N, tot (fcl A c) 1024 = N := ⟨_, rfl⟩
  rw [hN] at hpos hle C1
  have hB : ((N : Int) == 0) = false := by simp; omega
  have hs16 : s < 16 := by omega
  obtain ⟨Z, hZ⟩ : ∃ Z, sz c = Z := ⟨_, rfl⟩
  rw [hZ] at C3 hz ⊢
  have hsz : s * Z ≤ 16 * 256 := Nat.mul_le_mul (by omega) hz.2
  clear h hb hT h1 h2 h3 hN hp hs hZ
  go_enter Tryd.func30, Tryd.ntmps30
  go_wp2_with fail
  refine (C1.out).mono ?_
  rintro e w' ⟨rfl, rfl⟩
  go_wp2_with fail
  refine (C2.out).mono ?_
  rintro e w' ⟨rfl, hbk, hfr⟩
  have HB := Lib.hid hbk
  have HF := Lib.hid hfr
  clear hbk hfr
  go_wp2_with (go_at_call 25; refine (C3.out _).mono ?_; rintro e w2 ⟨rfl, rfl⟩)
  go_ret2
  refine ⟨?_, HB.out, HF.out⟩
  rw [show ((256 * n + s * Z : Nat) : Int) = (n : Int) * 256 + (s : Int) * (Z : Int) by rw [Int.natCast_add, Int.natCast_mul, Int.natCast_mul]; omega]
  rfl
theorem hslot_no (h : Hb w I own A) (hc : c < 5) (h1 : ∀ n s, fcl A c n s = false) (h2 : findI (frP own A) 1024 1 1 = -1) :
    Calls Tryd.prog 30 #[.pointer (some ⟨I.hp, 0, none⟩), .int .i64 c] w fun e w' => e = .returned (.tuple #[.int .u32 0, .bool false]) ∧ w' = w := by
  have hb := h.b c hc
  obtain ⟨_, _, _, _, _⟩ := h.cs
  have cb := h.bc hc
  have C1 := Lib.hid (bfree_any hb)
  rw [tot_zero _ h1] at C1
  have C2 := Lib.hid (take_no w I.pp I.pt I.pg 1024 _ h.p 1 1 (by omega) h2)
  clear h hb h1 h2
  go_enter Tryd.func30, Tryd.ntmps30
  go_wp2_with fail
  refine (C1.out).mono ?_
  rintro e w' ⟨rfl, rfl⟩
  go_wp2_with fail
  refine (C2.out).mono ?_
  rintro e w' ⟨rfl, rfl⟩
  go_wp2
  go_ret2
  exact ⟨rfl, rfl⟩
theorem hslot_new (h : Hb w I own A) (hT : Tab32 w) (hc : c < 5) {a : Nat} (h1 : ∀ n s, fcl A c n s = false) (h2 : findI (frP own A) 1024 1 1 = a) (ha : a < 1024) (hf : tou A a = false) :
    Calls Tryd.prog 30 #[.pointer (some ⟨I.hp, 0, none⟩), .int .i64 c] w fun e w' => e = .returned (.tuple #[.int .u32 (256 * a : Nat), .bool true]) ∧
      Book w' (I.bk c) (per c) (upp (upp (fcl A c) a (ful (per c))) a (upd (upp (fcl A c) a (ful (per c)) a) 0 false)) (upd (tcl A c) a true) ∧ Pl w' I.pp I.pt I.pg 1024 (clr (frP own A) a (a + 1)) ∧ Fr [I.pg, I.bk c] w w' := by
  have hb := h.b c hc
  have hp := per_bd hc
  have hz := sz_bd hc
  obtain ⟨_, _, _, _, _⟩ := h.cs
  have cb := h.bc hc
  have nd := h.nd
  have hq : I.bk c ≠ I.pg ∧ I.bk c ≠ I.pt ∧ I.bk c ≠ I.pp := by
    simp [HId.foot] at nd
    rcases five hc with rfl | rfl | rfl | rfl | rfl <;> refine ⟨fun e => ?_, fun e => ?_, fun e => ?_⟩ <;> simp_all
  have C1 := Lib.hid (bfree_any hb)
  rw [tot_zero _ h1] at C1
  have C2 := Lib.hid (take_yes w I.pp I.pt I.pg 1024 _ h.p 1 a 1 (by omega) h2 (by omega))
  have hTa := h.g.untouched hc hf
  have CB := Lib.hid fun W (hW : Fr [I.pg] w W) => badd_yes (hb.fr hW (by simp; exact hq.1)) a ha hTa
  have CT := Lib.hid fun W (hW : Book W (I.bk c) (per c) (upp (fcl A c) a (ful (per c))) (upd (tcl A c) a true)) (hWT : Tab32 W) => btake_is hW hWT (book_tab hW hWT) a 0 (by unfold upp ful; rw [if_pos rfl]; simp; omega) (fun x hx t => by unfold upp; rw [if_neg (by omega)]; exact h1 x t) (fun t ht => by omega)
  have C3 := Lib.hid fun W => slot_any (c : Int) W
  rw [slotV_sz hc] at C3
  obtain ⟨Z, hZ⟩ : ∃ Z, sz c = Z := ⟨_, rfl⟩
  rw [hZ] at C3 hz
  have HT := Lib.hid hT
  have hpt := hb.lt
  have hgt : I.pg ≠ 0 := by
    rintro e
    have h1 := hT 0 (by omega)
    obtain ⟨_, _, _, cc, cs, _, _, h6, h7⟩ := h.p.2.1
    have h8 := h6.cell 0
    rw [e, h1, h7 0 (by omega)] at h8
    simp at h8
  have hbt := book_tab hb hT
  clear h hb hT h1 h2 hp hZ hTa nd
  go_enter Tryd.func30, Tryd.ntmps30
  go_wp2_with fail
  refine (C1.out).mono ?_
  rintro e w' ⟨rfl, rfl⟩
  go_wp2_with fail
  refine (C2.out).mono ?_
  rintro e w1 ⟨rfl, hpl, hf1⟩
  have HP := Lib.hid hpl
  have HF1 := Lib.hid hf1
  have CB1 := Lib.hid (CB.out w1 hf1)
  have HT1 := Lib.hid (HT.out.fr hf1 (by simp; exact fun e => hgt e.symm))
  clear hpl hf1
  go_wp2_with fail
  refine (CB1.out).mono ?_
  rintro e w2 ⟨rfl, hbk2, hf2⟩
  have HF2 := Lib.hid hf2
  have HT2 := HT1.out.fr hf2 (by simp; exact fun e => hbt e.symm)
  have CT2 := Lib.hid (CT.out w2 hbk2 HT2)
  clear hbk2 hf2 HT2
  go_wp2_with fail
  refine (CT2.out).mono ?_
  rintro e w3 ⟨rfl, hbk3, hf3⟩
  have HB3 := Lib.hid hbk3
  have HF3 := Lib.hid hf3
  clear hbk3 hf3
  go_wp2_with (go_at_call 25; refine (C3.out _).mono ?_; rintro e w2 ⟨rfl, rfl⟩)
  go_ret2
  have hf23 := HF2.out.trans HF3.out (fun k hk => .inl hk)
  refine ⟨?_, HB3.out, HP.out.fr hf23 (by simp; exact fun e => hq.2.2 e.symm) (by simp; exact fun e => hq.2.1 e.symm) (by simp; exact fun e => hq.1 e.symm), ?_⟩
  · rw [show ((256 * a : Nat) : Int) = (a : Int) * 256 by omega]
    rfl
  · exact (HF1.out.more (by simp)).trans hf23 (fun k hk => .inl (by simp at hk ⊢; exact .inr hk))
end
end Go.Proofs.YtdbpmojblgmhdaaDoor
