/-
  What stores into an arena that is none: put, Write, Store. Condition: numbers in their types' ranges.
-/





import Derived.Test.YtfgmcoepldekaaaEmpty
set_option linter.unusedVariables false
namespace Go.Proofs.Ytfgmcoepldekaaa
open Go.ChangeShapes Go.WideShapes Go.ChangeAt Go.RowKit
section
variable (w : World) (x : Value) (CN : ∀ W : World, Fr [] w W → Calls Try.prog 39 #[x] W fun r w' => r = .returned (.bool true) ∧ W = w')
include CN
theorem aput_none (a n : Nat) (la : Option Addr) (lc : Nat) (W : World) (hW : Fr [] w W) : Calls Try.prog 33 #[x, .int .u32 a, .slice la n lc] W fun r w' => r = .returned (.bool false) ∧ W = w' := by
  have C := Lib.hid (athere_none w x CN a n W hW)
  clear CN
  go_enter Try.func33, Try.ntmps33
  go_wp2_with fail
  refine (C.out).mono ?_
  rintro e w' ⟨rfl, rfl⟩
  go_wp2_with fail
  go_ret
  exact ⟨rfl, rfl⟩
theorem awrite_none (a : Nat) (l : List Nat) (hn : l.length ≤ 1000000) (hb : Byt l) : Calls Try.prog 17 #[x, .int .u32 a, strV l] w fun r w' => r = .returned (.bool false) ∧ Fr [] w w' := by
  have C := Lib.hid fun W hW la lc => aput_none w x CN a l.length la lc W hW
  have HB := Lib.hid hb
  have HL := Lib.hid hn
  obtain ⟨s, hs⟩ : ∃ s, strV l = s := ⟨_, rfl⟩
  have HS := Lib.hid hs
  rw [hs]
  clear hb hn hs CN
  go_enter Try.func17, Try.ntmps17
  go_wp2_with (refine wpList_bytes rfl Try.underlying9 ⟨5, Try.underlying50, Try.underlying5⟩ (.tmp 9) rfl l HB.out HL.out HS.out.symm ?_; intro w2 gl lc hgl hlc hlm hc hf hgw)
  refine (C.out _ hf _ _).mono ?_
  rintro e w3 ⟨rfl, rfl⟩
  go_wp2_with fail
  go_ret
  exact ⟨rfl, hf⟩
set_option maxRecDepth 100000 in
theorem astore_none (a k v : Nat) (hk : k = 1 ∨ k = 2 ∨ k = 4) (hv : v < 4294967296) : Calls Try.prog 12 #[x, .int .u32 a, .int .i64 k, .int .u32 v] w fun r w' => r = .returned (.bool false) ∧ Fr [] w w' := by
  have C1 := Lib.hid fun W => (show Calls Try.prog 32 #[.string ⟨#[]⟩, .int .i64 k, .int .u32 v] W fun r w' => r = .returned (strV (le k v)) ∧ Fr [] W w' from oput_any W [] (fun _ h => by cases h) (by simp) k v hk hv)
  have C := Lib.hid fun W hW la lc => aput_none w x CN a k la lc W hW
  have HB := Lib.hid (le_byt k v)
  have HL := Lib.hid (show (le k v).length ≤ 1000000 by rw [le_len]; omega)
  have HK := Lib.hid (le_len k v)
  have hne : (BS (le k v)).size ≠ 0 := by rw [BS_size, le_len]; omega
  obtain ⟨s, hs⟩ : ∃ s, strV (le k v) = s := ⟨_, rfl⟩
  have HS := Lib.hid hs
  rw [hs] at C1
  obtain ⟨S, hS⟩ : ∃ S, BS (le k v) = S := ⟨_, rfl⟩
  have hsS : s = .string S := by rw [← hs, ← hS]; rfl
  rw [hS] at hne
  subst hsS
  have hemp := str_ne S hne
  clear hs hS hk hv CN
  go_enter Try.func12, Try.ntmps12
  go_wp2_with fail
  refine (C1.out _).mono ?_
  rintro e w1 ⟨rfl, hf1⟩
  have F1 := Lib.hid hf1
  clear hf1
  go_wp2_with (refine wpList_bytes rfl Try.underlying9 ⟨5, Try.underlying50, Try.underlying5⟩ (.tmp 17) rfl (le k v) HB.out HL.out HS.out.symm ?_; intro w2 gl lc hgl hlc hlm hc hf hgw)
  have F2 := Lib.hid (F1.out.trans0 hf)
  have C2 := C.out w2 F2.out (some ⟨gl, 0, none⟩) lc
  rw [HK.out]
  clear hc hf
  refine C2.mono ?_
  rintro e w3 ⟨rfl, rfl⟩
  go_wp2_with fail
  go_ret
  exact ⟨rfl, F2.out⟩
end
end Go.Proofs.Ytfgmcoepldekaaa
