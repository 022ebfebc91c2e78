/-
  What the functions of slots compute: a book at block bp: pages, each with its free slots. Conditions: numbers in their types' ranges; the table of math/bits is as the library lays it.
-/


import Derived.Test.YtdbpmojblgmhdaaDoorBits
import Derived.Test.YtdbpmojblgmhdaaDoorArr
import Derived.Deep.RegionHeld3
import Derived.Deep.DeepCutAuto
set_option linter.unusedVariables false
namespace Go.Proofs.YtdbpmojblgmhdaaDoor
open Go.ChangeShapes Go.WideShapes Go.ChangeAt Go.RowKit
/-- The free slots of a page, as its word has them. -/
def wd (F : Nat → Nat → Bool) (n : Nat) : Nat := bitsN (F n) 16
theorem wd_lt (F : Nat → Nat → Bool) (n : Nat) : wd F n < 65536 := bitsN_lt _ 16
def tot (F : Nat → Nat → Bool) : Nat → Nat
  | 0 => 0
  | m + 1 => tot F m + cnt (F m) 16
/-- One cell of a book. -/
def bc (per : Nat) (F : Nat → Nat → Bool) (T : Nat → Bool) (fr : Int) (i : Nat) : Value :=
  if i = 0 then .int .i64 per else if i = 2049 then .int .i64 fr else if i % 2 = 1 then .int .u32 (wd F ((i - 1) / 2)) else .bool (T ((i - 2) / 2))
def ba (per : Nat) (F : Nat → Nat → Bool) (T : Nat → Bool) (fr : Int) : Array Value := arr 2050 (bc per F T fr)
section
variable (per : Nat) (F : Nat → Nat → Bool) (T : Nat → Bool) (fr : Int)
theorem ba_per : (ba per F T fr)[0]? = some (.int .i64 per) := arr_get _ _ _ (by omega)
theorem ba_fr : (ba per F T fr)[2049]? = some (.int .i64 fr) := arr_get _ _ _ (by omega)
theorem ba_word (n : Nat) (h : n < 1024) : (ba per F T fr)[1 + n * 2]? = some (.int .u32 (wd F n)) := by
  unfold ba; rw [arr_get _ _ _ (by omega)]; unfold bc
  rw [if_neg (by omega), if_neg (by omega), if_pos (by omega), show (1 + n * 2 - 1) / 2 = n by omega]
theorem ba_there (n : Nat) (h : n < 1024) : (ba per F T fr)[1 + n * 2 + 1]? = some (.bool (T n)) := by
  unfold ba; rw [arr_get _ _ _ (by omega)]; unfold bc
  rw [if_neg (by omega), if_neg (by omega), if_neg (by omega), show (1 + n * 2 + 1 - 2) / 2 = n by omega]
theorem ba_setfr (x : Int) : (ba per F T fr).setIfInBounds 2049 (.int .i64 x) = ba per F T x := by
  unfold ba; rw [arr_set]
  refine arr_congr _ _ _ fun i _ => ?_
  unfold bc
  by_cases h : i = 2049
  · subst h; rfl
  · simp [h]
def upp (F : Nat → Nat → Bool) (n : Nat) (g : Nat → Bool) : Nat → Nat → Bool := fun m => if m = n then g else F m
theorem ba_setword (n x : Nat) (g : Nat → Bool) (h : n < 1024) (hx : x = bitsN g 16) : (ba per F T fr).setIfInBounds (1 + n * 2) (.int .u32 x) = ba per (upp F n g) T fr := by
  unfold ba; rw [arr_set]
  refine arr_congr _ _ _ fun i _ => ?_
  unfold bc wd upp
  subst hx
  by_cases h : i = 1 + n * 2
  · subst h
    rw [if_pos rfl, if_neg (by omega), if_neg (by omega), if_pos (by omega), if_pos (by omega)]
  · rw [if_neg h]
    by_cases h2 : i % 2 = 1
    · by_cases h3 : i = 2049
      · subst h3; rfl
      · rw [if_neg (show ¬ (i - 1) / 2 = n by omega)]
    · simp only [h2, if_false]
theorem ba_setthere (n : Nat) (b : Bool) (h : n < 1024) : (ba per F T fr).setIfInBounds (1 + n * 2 + 1) (.bool b) = ba per F (upd T n b) fr := by
  unfold ba; rw [arr_set]
  refine arr_congr _ _ _ fun i _ => ?_
  unfold bc upd
  by_cases h : i = 1 + n * 2 + 1
  · subst h
    rw [if_pos rfl, if_neg (by omega), if_neg (by omega), if_neg (by omega), if_pos (by omega)]
  · rw [if_neg h]
    by_cases h2 : i % 2 = 1
    · simp only [h2, if_true]
    · by_cases h3 : i = 0
      · simp [h3]
      · rw [if_neg (show ¬ (i - 2) / 2 = n by omega)]
end
theorem cnt_wd (F : Nat → Nat → Bool) (n : Nat) : cnt (wd F n).testBit 16 = cnt (F n) 16 := cnt_congr 16 fun i hi => by unfold wd; rw [bitsN_test]; simp [hi]
/-- A book at block bp. -/
def Bk (w : World) (bp per : Nat) (F : Nat → Nat → Bool) (T : Nat → Bool) (fr : Int) : Prop := At w bp 92 (ba per F T fr)
section
variable {w w' : World} {bp per : Nat} {F : Nat → Nat → Bool} {T : Nat → Bool} {r0 : Int} {S : List Nat}
theorem Bk.c0 (h : Bk w bp per F T r0) : w.cell? ⟨bp, 0, none⟩ = some (.int .i64 per) := (h.cell 0).trans (ba_per per F T r0)
theorem Bk.cf (h : Bk w bp per F T r0) : w.cell? ⟨bp, 2049, none⟩ = some (.int .i64 r0) := (h.cell 2049).trans (ba_fr per F T r0)
theorem Bk.cw (h : Bk w bp per F T r0) (n : Nat) (hn : n < 1024) : w.cell? ⟨bp, 1 + n * 2, none⟩ = some (.int .u32 (wd F n)) := (h.cell _).trans (ba_word per F T r0 n hn)
theorem Bk.ct (h : Bk w bp per F T r0) (n : Nat) (hn : n < 1024) : w.cell? ⟨bp, 1 + n * 2 + 1, none⟩ = some (.bool (T n)) := (h.cell _).trans (ba_there per F T r0 n hn)
theorem Bk.fr (h : Bk w bp per F T r0) (f : Fr S w w') (hS : bp ∉ S) : Bk w' bp per F T r0 := At.fr h f hS
theorem Bk.hp (h : Bk w bp per F T r0) (hv : w'.heap = w.heap) : Bk w' bp per F T r0 := At.hp h hv
end
theorem bnone_any {w : World} {bp per : Nat} {F : Nat → Nat → Bool} {T : Nat → Bool} {fr : Int} (h : Bk w bp per F T fr) (hp : 0 < per) :
    Calls Tryd.prog 60 #[.pointer (some ⟨bp, 0, none⟩)] w fun r w' => r = .returned (.bool false) ∧ w = w' := by
  have c := h.c0
  have h0 : ((per : Int) == 0) = false := by simp; omega
  go_enter Tryd.func60, Tryd.ntmps60
  go_wp2
  go_ret
  exact ⟨rfl, rfl⟩
theorem bnone_nil (w : World) : Calls Tryd.prog 60 #[.pointer none] w fun r w' => r = .returned (.bool true) ∧ w = w' := by
  go_enter Tryd.func60, Tryd.ntmps60
  go_wp2
  go_ret
  exact ⟨rfl, rfl⟩
theorem ret_u32 {a b : Int} (h : a = b) : Ending.returned (.int .u32 a) = .returned (.int .u32 b) := by rw [h]
theorem all_eq : ∀ p : Fin 17, ((2 : Int) ^ p.val % 4294967296 - 1) % 4294967296 = ((2 ^ p.val - 1 : Nat) : Int) := by decide +kernel
theorem ball_any {w : World} {bp per : Nat} {F : Nat → Nat → Bool} {T : Nat → Bool} {fr : Int} (h : Bk w bp per F T fr) (hp : per ≤ 16) :
    Calls Tryd.prog 71 #[.pointer (some ⟨bp, 0, none⟩)] w fun r w' => r = .returned (.int .u32 (2 ^ per - 1 : Nat)) ∧ w = w' := by
  have c := h.c0
  go_enter Tryd.func71, Tryd.ntmps71
  go_wp2
  go_ret
  exact ⟨ret_u32 (all_eq ⟨per, by omega⟩), rfl⟩
theorem bat_any {w : World} {bp per : Nat} {F : Nat → Nat → Bool} {T : Nat → Bool} {fr : Int} (h : Bk w bp per F T fr) (hp : 0 < per) (n : Nat) (hn : n < 1024) :
    Calls Tryd.prog 54 #[.pointer (some ⟨bp, 0, none⟩), .int .i64 n] w fun r w' => r = .returned (.pointer (some ⟨bp, 1 + n * 2, none⟩)) ∧ w = w' := by
  have H := Lib.hid h
  clear h
  go_enter Tryd.func54, Tryd.ntmps54
  go_wp2_with (go_at_call 60; refine (bnone_any H.out hp).mono ?_; rintro e w' ⟨rfl, rfl⟩)
  go_ret
  exact ⟨rfl, rfl⟩
theorem bat_bad {w : World} {bp per : Nat} {F : Nat → Nat → Bool} {T : Nat → Bool} {fr : Int} (h : Bk w bp per F T fr) (hp : 0 < per) (n : Int) (hn : n < 0 ∨ 1024 ≤ n) :
    Calls Tryd.prog 54 #[.pointer (some ⟨bp, 0, none⟩), .int .i64 n] w fun r w' => r = .returned (.pointer none) ∧ w = w' := by
  have H := Lib.hid h
  clear h
  by_cases h0 : n < 0
  · clear hn
    go_enter Tryd.func54, Tryd.ntmps54
    go_wp2_with (go_at_call 60; refine (bnone_any H.out hp).mono ?_; rintro e w' ⟨rfl, rfl⟩)
    go_ret
    exact ⟨rfl, rfl⟩
  · have h1 : 1024 ≤ n := by omega
    clear hn
    go_enter Tryd.func54, Tryd.ntmps54
    go_wp2_with (go_at_call 60; refine (bnone_any H.out hp).mono ?_; rintro e w' ⟨rfl, rfl⟩)
    go_ret
    exact ⟨rfl, rfl⟩
theorem bat_nil (w : World) (n : Int) :
    Calls Tryd.prog 54 #[.pointer none, .int .i64 n] w fun r w' => r = .returned (.pointer none) ∧ w = w' := by
  go_enter Tryd.func54, Tryd.ntmps54
  go_wp2_with (go_at_call 60; refine (bnone_nil _).mono ?_; rintro e w' ⟨rfl, rfl⟩)
  go_ret
  exact ⟨rfl, rfl⟩
/-- What a change does to a book. -/
def Doing (fid : Nat) (caps : Array Value) (bp per n : Nat) (F F' : Nat → Nat → Bool) (T T' : Nat → Bool) (r0 : Int) (w : World) : Prop :=
  ∀ W, Bk W bp per F T r0 → Fr [bp] w W → Calls Tryd.prog fid (#[.pointer (some ⟨bp, 1 + n * 2, none⟩)] ++ caps) W fun e W' => (∃ v, e = .returned v) ∧ Bk W' bp per F' T' r0 ∧ Fr [bp] W W'
set_option maxHeartbeats 2000000 in
theorem chg_any {w : World} {bp per n : Nat} {F F' : Nat → Nat → Bool} {T T' : Nat → Bool} {r0 : Int} (h : Bk w bp per F T r0) (hn : n < 1024) (h1 : 0 ≤ r0 - cnt (F n) 16) (h2 : r0 ≤ 100000)
    (fid : Nat) (caps : Array Value) (heg : ∀ args w, (callFunc fid args).run Tryd.prog w = .ok (.enter fid args) w) (hd : Doing fid caps bp per n F F' T T' (r0 - cnt (F n) 16) w) :
    Calls Tryd.prog 55 #[.pointer (some ⟨bp, 0, none⟩), .pointer (some ⟨bp, 1 + n * 2, none⟩), .func (.func fid) #[] caps] w fun e w' => (∃ v, e = .returned v) ∧ Bk w' bp per F' T' (r0 - cnt (F n) 16 + cnt (F' n) 16) ∧ Fr [bp] w w' := by
  have H := Lib.hid h
  have HD := Lib.hid hd
  have c1 := h.cf
  have c2 := h.cw n hn
  have hlt := wd_lt F n
  have C := Lib.hid fun W => pop32_any (wd F n) W (wd_lt F n)
  rw [cnt_wd] at C
  have hc := cnt_le (F n) 16
  have hc' := cnt_le (F' n) 16
  have C' := Lib.hid fun W => pop32_any (wd F' n) W (wd_lt F' n)
  rw [cnt_wd] at C'
  obtain ⟨c, hcc⟩ : ∃ c, cnt (F n) 16 = c := ⟨_, rfl⟩
  obtain ⟨c', hcc'⟩ : ∃ c, cnt (F' n) 16 = c := ⟨_, rfl⟩
  rw [hcc] at C hc h1 HD ⊢
  rw [hcc'] at C' hc' ⊢
  obtain ⟨x, hx⟩ : ∃ x, wd F n = x := ⟨_, rfl⟩
  rw [hx] at C c2
  clear h hd hcc hcc' hx hlt
  have f1 := H.out.froz 2049
  have hw1 : IntKind.i64.wrap (r0 - (c : Int)) = r0 - c := IntWalk.i64_in _ (by omega)
  go_enter Tryd.func55, Tryd.ntmps55
  go_upto_region 0 with (fail)
  go_cut [6] (fun s6 wx => s6 = .pointer (some ⟨bp, 0, none⟩) ∧ Bk wx bp per F T (r0 - c) ∧ Fr [bp] w wx)
  case first =>
    go_region_with (go_at_call 77; refine (C.out _).mono ?_; rintro e w5 ⟨rfl, nd, rfl⟩)
    all_goals
      go_wp2_with fail
      go_meet
      refine ⟨rfl, ?_, ((Fr.refl _ _).drewN _).set (.inl (by simp)) _⟩
      have := (H.out.drewN (1 + nd)).set 2049 (.int .i64 (r0 - c))
      rw [ba_setfr] at this
      exact this
  case rest =>
    obtain ⟨rfl, h6, hf6⟩ := hcut
    have D := Lib.hid (HD.out wc h6 hf6)
    clear c1 c2 f1 h6
    go_wp2_with fail
    refine (D.out).mono ?_
    rintro e w7 ⟨⟨v, rfl⟩, h7, hf7⟩
    have c1 := h7.cf
    have c2 := h7.cw n hn
    have f1 := h7.froz 2049
    have H7 := Lib.hid h7
    have HF := Lib.hid (hf6.trans hf7 (by simp))
    have hw2 : IntKind.i64.wrap (r0 - (c : Int) + (c' : Int)) = r0 - c + c' := IntWalk.i64_in _ (by omega)
    obtain ⟨x', hx'⟩ : ∃ x, wd F' n = x := ⟨_, rfl⟩
    rw [hx'] at C' c2
    clear h7 hf6 hf7 D C HD H hx' hw1
    go_wp2_with fail
    go_region_with (go_at_call 77; refine (C'.out _).mono ?_; rintro e w5 ⟨rfl, nd, rfl⟩)
    all_goals
      go_wp2_with fail
      go_end0
      refine ⟨⟨_, rfl⟩, ?_, HF.out.trans ((((Fr.refl [bp] w7).drewN _).set (.inl (by simp)) _)) (by simp)⟩
      have := (H7.out.drewN (1 + nd)).set 2049 (.int .i64 (r0 - c + c'))
      rw [ba_setfr] at this
      exact this
end Go.Proofs.YtdbpmojblgmhdaaDoor
