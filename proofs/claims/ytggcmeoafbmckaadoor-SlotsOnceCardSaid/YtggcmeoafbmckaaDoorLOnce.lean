/-
  SlotsOnce: what is taken was free, and is not taken again till it was put back. Condition: the table of math/bits is as the library lays it (the row lists it).
-/


import Derived.Test.YtggcmeoafbmckaaDoorWorks
import Derived.Test.YtggcmeoafbmckaaDoorDoor
import Derived.Deep.RegionHeld3
set_option linter.unusedVariables false
namespace Go.Proofs.YtggcmeoafbmckaaDoor
open Go.ChangeShapes Go.WideShapes Go.ChangeAt Go.RowKit
namespace slotsOnce
/-- Which slots are taken. -/
def tk (n : Nat) (F : Nat → Nat → Bool) (T : Nat → Bool) (p s : Nat) : Bool := T p && (decide (s < n) && !F p s)
def tks (n : Nat) (F : Nat → Nat → Bool) (T : Nat → Bool) : Array Value := arr 128 fun j => .bool (tk n F T (j / 16) (j % 16))
def ths (T : Nat → Bool) : Array Value := arr 8 fun j => .bool (T j)
theorem zero8 (w : World) : (zeroValue 25).run Tryd.prog w = .ok (.agg (ths noT)) w := by kernel_rfl
theorem zero128 (w : World) : (zeroValue 27).run Tryd.prog w = .ok (.agg (tks 0 noF noT)) w := by kernel_rfl
theorem ths_get (T : Nat → Bool) (p : Nat) (h : p < 8) : (ths T)[p]? = some (.bool (T p)) := arr_get _ _ _ h
theorem tks_get (n : Nat) (F : Nat → Nat → Bool) (T : Nat → Bool) (p s : Nat) (h : p < 8) (hs : s < 16) : (tks n F T)[p * 16 + s]? = some (.bool (tk n F T p s)) := by
  unfold tks; rw [arr_get _ _ _ (by omega), show (p * 16 + s) / 16 = p by omega, show (p * 16 + s) % 16 = s by omega]
theorem ths_set (T : Nat → Bool) (p : Nat) : (ths T).setIfInBounds p (.bool true) = ths (upd T p true) := by
  unfold ths; rw [arr_set]
  refine arr_congr _ _ _ fun i _ => ?_
  unfold upd
  by_cases h : i = p <;> simp [h]
theorem tks_set (n : Nat) (F : Nat → Nat → Bool) (T : Nat → Bool) (p s : Nat) (b : Bool) (hs : s < 16) (hn : s < n) (hT : T p = true) : (tks n F T).setIfInBounds (p * 16 + s) (.bool (!b)) = tks n (upp F p (upd (F p) s b)) T := by
  unfold tks; rw [arr_set]
  refine arr_congr _ _ _ fun i _ => ?_
  by_cases h : i = p * 16 + s
  · subst h
    rw [if_pos rfl, show (p * 16 + s) / 16 = p by omega, show (p * 16 + s) % 16 = s by omega]
    unfold tk upp upd
    simp [hT, hn]
  · rw [if_neg h]
    unfold tk upp upd
    by_cases e : i / 16 = p
    · have e2 : i % 16 ≠ s := by omega
      simp [e, e2]
    · simp [e]
theorem tks_add (n : Nat) (F : Nat → Nat → Bool) (T : Nat → Bool) (p : Nat) (hT : T p = false) : tks n F T = tks n (upp F p (ful n)) (upd T p true) := by
  unfold tks
  refine arr_congr _ _ _ fun i _ => ?_
  unfold tk upp upd ful
  by_cases e : i / 16 = p
  · simp [e, hT]
  · simp [e]
theorem tks_new (n : Nat) : tks 0 noF noT = tks n noF noT := rfl
theorem tot_add (per : Nat) (F : Nat → Nat → Bool) (T : Nat → Bool) (hS : Sound per F T) (p : Nat) (hp : p < 1024) (hT : T p = false) : tot (upp F p (ful per)) 1024 = tot F 1024 + per := by
  have h1 := tot_at F p (ful per) hp
  have h2 : cnt (F p) 16 = 0 := cnt_zero _ _ fun s _ => by
    cases e : F p s with
    | false => rfl
    | true => have := (hS.2.2.1 p s e).2; rw [hT] at this; cases this
  have h3 : cnt (ful per) 16 = per := by
    have h16 := hS.2.1
    have key : ∀ m, m ≤ per → cnt (ful per) m = m := fun m => by
      induction m with
      | zero => exact fun _ => rfl
      | succ m ih => intro hm; simp only [cnt]; rw [ih (by omega), if_pos (by unfold ful; simp; omega)]
    rw [show 16 = per + (16 - per) by omega, cnt_add, key per (Nat.le_refl _), cnt_zero _ _ fun s _ => by unfold ful; simp]
    rfl
  omega
theorem cnt_flip (g : Nat → Bool) (s : Nat) (b : Bool) (h : g s = !b) : ∀ m, cnt (upd g s b) m + (if s < m then (if b = true then 0 else 1) else 0) = cnt g m + (if s < m then (if b = true then 1 else 0) else 0)
  | 0 => by simp [cnt]
  | m + 1 => by
    have ih := cnt_flip g s b h m
    simp only [cnt]
    by_cases e : m = s
    · subst e
      have h1 : upd g m b m = b := if_pos rfl
      rw [h1, h]
      simp only [Nat.lt_irrefl, if_false] at ih
      cases b <;> simp at ih ⊢ <;> omega
    · have h1 : upd g s b m = g m := if_neg e
      rw [h1]
      by_cases h2 : s < m
      · rw [if_pos h2, if_pos h2] at ih
        rw [if_pos (show s < m + 1 by omega), if_pos (show s < m + 1 by omega)]; omega
      · rw [if_neg h2, if_neg h2] at ih
        rw [if_neg (show ¬ s < m + 1 by omega), if_neg (show ¬ s < m + 1 by omega)]; omega
theorem tot_put (F : Nat → Nat → Bool) (p s : Nat) (hp : p < 1024) (hs : s < 16) (h : F p s = false) : tot (upp F p (upd (F p) s true)) 1024 = tot F 1024 + 1 := by
  have h1 := tot_at F p (upd (F p) s true) hp
  have h2 := cnt_flip (F p) s true (by rw [h]; rfl) 16
  have h3 := cnt_tot F p 1024 hp
  simp [hs] at h2
  omega
theorem tot_take (F : Nat → Nat → Bool) (p s : Nat) (hp : p < 1024) (hs : s < 16) (h : F p s = true) : tot (upp F p (upd (F p) s false)) 1024 + 1 = tot F 1024 := by
  have h1 := tot_at F p (upd (F p) s false) hp
  have h2 := cnt_flip (F p) s false (by rw [h]; rfl) 16
  have h3 := cnt_tot F p 1024 hp
  simp [hs] at h2
  omega
theorem tot_none (per : Nat) (F : Nat → Nat → Bool) (T : Nat → Bool) (hS : Sound per F T) (h : ∀ x, T x = true → wd F x = 0) : tot F 1024 = 0 := by
  refine tot_zero F (fun n s => ?_) 1024
  cases e : F n s with
  | false => rfl
  | true =>
    obtain ⟨h1, h2⟩ := hS.2.2.1 n s e
    exact (wd_pos F n s (by have := hS.2.1; omega) e (h n h2)).elim
theorem bfree_int {w : World} {bp per : Nat} {F : Nat → Nat → Bool} {T : Nat → Bool} (h : Book w bp per F T) (x : Int) (hx : ((tot F 1024 : Nat) : Int) = x) :
    Calls Tryd.prog 11 #[.pointer (some ⟨bp, 0, none⟩)] w fun e w' => e = .returned (.int .i64 x) ∧ w = w' := by
  have := bfree_any h; rw [hx] at this; exact this
theorem t8 {T : Nat → Bool} {p : Nat} (h : ∀ p, T p = true → p < 8) (hp : p < 8) : ∀ x, upd T p true x = true → x < 8 := fun x hx => by
  unfold upd at hx
  by_cases e : x = p
  · omega
  · rw [if_neg e] at hx; exact h x hx
/-- What holds at each round's head. -/
def Rel (w : World) (bp qa qb n : Nat) (F : Nat → Nat → Bool) (T : Nat → Bool) (wr : World) : Prop :=
  Book wr bp n F T ∧ At wr qa 25 (ths T) ∧ At wr qb 27 (tks n F T) ∧ (∀ p, T p = true → p < 8) ∧ Fr [] w wr
set_option maxHeartbeats 4000000 in
set_option maxRecDepth 100000 in
theorem walk0 (n : Nat) (hn1 : 1 ≤ n) (hn2 : n ≤ 16) (a0 : Int) (h00 : 0 ≤ a0) (h01 : a0 ≤ 255) (he : 1 + a0 % 16 = n) (a1 : Option Addr) (b off len1 cap1 : Nat) (z1 : List Int) (w : World) (hT : Tab32 w) (ha1 : len1 = 0 ∨ a1 = some ⟨b, off, none⟩) (hlen : len1 ≤ 9223372036854775807) (hzl : z1.length = len1) (hwf : ∀ z ∈ z1, (Lit.int .u8 z).wf = true) (hb : 0 < len1 → b < w.heap.size) (hc : ∀ i, i < len1 → w.cell? ⟨b, off + i, none⟩ = some (.int .u8 (z1.getD i 0))) :
    Calls Tryd.prog 3 #[.int .u8 a0, .slice a1 len1 cap1] w fun e w' => e = .returned (.bool true) ∧ Fr [] w w' := by
  have hz8 := zero8
  have hz128 := zero128
  have Hc := Lib.hid fun i (hi : i < len1) => show ∃ z : Int, w.cell? ⟨b, off + i, none⟩ = some (.int .u8 z) ∧ 0 ≤ z ∧ z ≤ 255 from
    ⟨_, hc i hi, by
      have := bounds_u8 (hwf (z1.getD i 0) (by
        rw [List.getD_eq_getElem?_getD, List.getElem?_eq_getElem (by rw [hzl]; exact hi)]
        exact List.getElem_mem _))
      exact this⟩
  have Hb := Lib.hid hb
  have HA1 := Lib.hid ha1
  have HT := Lib.hid hT
  have hTl := hT.lt
  clear hc hwf hzl hb ha1 hT
  go_enter Tryd.func3, Tryd.ntmps3
  go_wp2_with fail
  refine (bnew_any n hn1 hn2 _).mono ?_
  rintro e w1 ⟨bp, rfl, h1, hbp, hf1⟩
  have hs1 := h1.lt
  go_wp2_with fail
  clear hz8 hz128
  have f2 : Fr [] w1 ((w1.alloc (.cells (ths noT) 25)).alloc (.cells (tks 0 noF noT) 27)) := (by repeat (first | exact Fr.refl _ _ | assumption | refine Fr.trans0 ?_ (by assumption) | refine Fr.drewN ?_ _ | refine Fr.alloc ?_ _ | refine Fr.drew ?_))
  have HR := Lib.hid (show Rel w bp w1.heap.size (w1.heap.size + 1) n noF noT ((w1.alloc (.cells (ths noT) 25)).alloc (.cells (tks 0 noF noT) 27)) from
    ⟨h1.fr f2 (by simp), (At.new w1 _ _).old _, by have := At.new (w1.alloc (.cells (ths noT) 25)) 27 (tks 0 noF noT); rw [World.size_alloc] at this; exact this, (fun p h => by cases h), hf1.trans0 f2⟩)
  have hf1s := hf1.size
  obtain ⟨qa, hqa⟩ : ∃ q, w1.heap.size = q := ⟨_, rfl⟩
  rw [hqa] at HR hs1 hf1s ⊢
  clear h1 hf1 f2 hqa
  go_loopw [9, 10] (fun c i wr => ∃ (k : Nat) (F : Nat → Nat → Bool) (T : Nat → Bool), k ≤ 200 ∧ i = .int .i64 k ∧ c = .int .i64 (tot F 1024 : Nat) ∧ Rel w bp qa (qa + 1) n F T wr) (fun _ i _ => 200 - (intOf i).toNat)
  case atStart => exact ⟨0, noF, noT, by omega, rfl, by rw [Go.Proofs.YtggcmeoafbmckaaDoor.tot_none]; rfl, HR.out⟩
  case round =>
    clear HR
    obtain ⟨k, F, T, hk, rfl, rfl, hR⟩ := hrel
    have HR := Lib.hid hR
    clear hR
    by_cases hlt : k < len1 ∧ k < 200
    · obtain ⟨hl1, hl2⟩ := hlt
      obtain rfl : a1 = some ⟨b, off, none⟩ := HA1.out.resolve_left (by omega)
      obtain ⟨z, hz, z0, z1'⟩ := Hc.out k hl1
      replace hz := (HR.out.2.2.2.2.cell (a := ⟨b, _, none⟩) (Hb.out (by omega)) (by simp)).trans hz
      have hbw := Hb.out (by omega)
      obtain ⟨kk, hkk⟩ := Int.eq_ofNat_of_zero_le (show 0 ≤ z / 4 by omega)
      have hk63 : kk ≤ 63 := by omega
      obtain ⟨p, hp⟩ : ∃ p, kk % 8 = p := ⟨_, rfl⟩
      have hp8 : p < 8 := by omega
      have hkp : (kk : Int) % 8 = (p : Int) := by omega
      have hp0 : (0 : Int) ≤ (p : Int) := by omega
      have hp7 : (p : Int) < 8 := by omega
      have htl := tot_le F 1024
      have hdec : decide ((k : Int) < (len1 : Int)) = true := by simpa using hl1
      clear hp
      rcases (show z % 4 = 0 ∨ z % 4 = 1 ∨ z % 4 = 2 ∨ z % 4 = 3 by omega) with hz4 | hz4 | hz4 | hz4
      · by_cases hTp : T p = true
        · have C := Lib.hid fun W (hW : W.heap = wr.heap) => badd_twice (HR.out.1.hp (w' := W) hW) p hTp
          have c1 := (HR.out.2.1.cell p).trans (ths_get T p hp8)
          rw [hTp] at c1
          obtain ⟨t, ht⟩ : ∃ t, tot F 1024 = t := ⟨_, rfl⟩
          rw [ht] at htl ⊢
          have HTE := Lib.hid ht
          clear hTp ht
          go_wp2_with fail
          have htm : (kk : Int).tmod 8 = (p : Int) := by rw [Int.tmod_eq_emod_of_nonneg (by omega)]; exact hkp
          have hw : IntKind.i64.wrap (p : Int) = p := IntWalk.i64_in _ (by omega)
          go_region_held3 (fun w' => w'.cell? ⟨qa, p, none⟩ = some (.bool true)) (first | exact c1 | exact d1 | go_keep) ((go_at_call 8; refine (C.out _ (by rfl)).mono ?_; rintro e w5 ⟨rfl, hf5⟩; have d1 : w5.cell? ⟨qa, p, none⟩ = some (.bool true) := (hf5.cell (a := ⟨qa, p, none⟩) (by first | exact lt_of_cell c1) (by simp)).trans c1))
          all_goals
            have HR5 := Lib.hid (show Rel w bp qa (qa + 1) n F T w5 from ⟨HR.out.1.fr (hf5.hd (w := wr) rfl rfl rfl rfl) (by simp), HR.out.2.1.fr (hf5.hd (w := wr) rfl rfl rfl rfl) (by simp), HR.out.2.2.1.fr (hf5.hd (w := wr) rfl rfl rfl rfl) (by simp), HR.out.2.2.2.1, HR.out.2.2.2.2.trans0 (hf5.hd (w := wr) rfl rfl rfl rfl)⟩)
            have HTE5 := Lib.hid (show ((tot F 1024 : Nat) : Int) = (t : Int) by rw [HTE.out])
            clear hf5 hw
            go_wp2_with fail
            refine (bfree_int HR5.out.1 (t) HTE5.out).mono ?_
            rintro e w' ⟨rfl, rfl⟩
            go_wp2_with fail
            go_roundw
            case rel => exact ⟨k + 1, F, T, by omega, by go_num, by rw [HTE5.out], HR5.out⟩
            case measure => simp [intOf]; omega
        · rw [Bool.not_eq_true] at hTp
          have C := Lib.hid fun W (hW : W.heap = wr.heap) => badd_yes (HR.out.1.hp (w' := W) hW) p (by omega) hTp
          have HT2 := Lib.hid (tks_add n F T p hTp)
          have HT3 := Lib.hid (tot_add n F T HR.out.1.2 p (by omega) hTp)
          have c1 := (HR.out.2.1.cell p).trans (ths_get T p hp8)
          rw [hTp] at c1
          obtain ⟨t, ht⟩ : ∃ t, tot F 1024 = t := ⟨_, rfl⟩
          rw [ht] at htl HT3 ⊢
          clear hTp ht
          go_wp2_with fail
          have htm : (kk : Int).tmod 8 = (p : Int) := by rw [Int.tmod_eq_emod_of_nonneg (by omega)]; exact hkp
          have hw : IntKind.i64.wrap (p : Int) = p := IntWalk.i64_in _ (by omega)
          go_region_held3 (fun w' => w'.cell? ⟨qa, p, none⟩ = some (.bool false)) (first | exact c1 | exact d1 | go_keep) ((go_at_call 8; refine (C.out _ (by rfl)).mono ?_; rintro e w5 ⟨rfl, h5, hf5⟩; have d1 : w5.cell? ⟨qa, p, none⟩ = some (.bool false) := (hf5.cell (a := ⟨qa, p, none⟩) (by first | exact lt_of_cell c1) (by simp; omega)).trans c1))
          all_goals
            have hf6 : Fr [bp] wr w5 := hf5.hd (w := wr) rfl rfl rfl rfl
            have A5 := Lib.hid (HR.out.2.1.fr hf6 (by simp; omega))
            have f5 := A5.out.froz p
            have hfs : Fr [qa] w5 (w5.setCell ⟨qa, p, none⟩ (.bool true)) := (Fr.refl _ _).set (.inl (by simp)) _
            have HR5 := Lib.hid (show Rel w bp qa (qa + 1) n (upp F p (ful n)) (upd T p true) (w5.setCell ⟨qa, p, none⟩ (.bool true)) from
              ⟨h5.fr hfs (by simp; omega), by have := A5.out.set p (.bool true); rw [ths_set] at this; exact this, by have := (HR.out.2.2.1.fr hf6 (by simp; omega)).fr hfs (by simp); rw [HT2.out] at this; exact this,
                t8 HR.out.2.2.2.1 hp8, (HR.out.2.2.2.2.trans hf6 (by simp; exact hbp)).trans hfs (by simp; exact hf1s)⟩)
            have HTE5 := Lib.hid (show ((tot (upp F p (ful n)) 1024 : Nat) : Int) = (t : Int) + (n : Int) by rw [HT3.out]; rfl)
            clear hf5 hf6 hfs h5 hw
            go_wp2_with fail
            refine (bfree_int HR5.out.1 ((t : Int) + (n : Int)) HTE5.out).mono ?_
            rintro e w' ⟨rfl, rfl⟩
            go_wp2_with fail
            go_roundw
            case rel => exact ⟨k + 1, upp F p (ful n), upd T p true, by omega, by go_num, by rw [HTE5.out], HR5.out⟩
            case measure => simp [intOf]; omega
      ·
        obtain ⟨t, ht⟩ : ∃ t, tot F 1024 = t := ⟨_, rfl⟩
        rw [ht] at htl ⊢
        have HTE := Lib.hid ht
        have hbt : bp ≠ 0 := by omega
        clear ht
        go_wp2_with fail
        refine btake_any HR.out.1 (HT.out.fr HR.out.2.2.2.2 (by simp)) hbt _ (fun hzz w5 hf5 => ?_) (fun y hy hy0 hmin w5 h5 hf5 => ?_)
        · have h0 : t = 0 := by rw [← HTE.out]; exact tot_none n F T HR.out.1.2 hzz
          subst h0
          have HR5 := Lib.hid (show Rel w bp qa (qa + 1) n F T w5 from ⟨HR.out.1.fr hf5 (by simp), HR.out.2.1.fr hf5 (by simp), HR.out.2.2.1.fr hf5 (by simp), HR.out.2.2.2.1, HR.out.2.2.2.2.trans0 hf5⟩)
          have HTE5 := Lib.hid (show ((tot F 1024 : Nat) : Int) = 0 by rw [HTE.out]; rfl)
          clear hzz hf5
          go_wp2_with fail
          go_roundw
          case rel => exact ⟨k + 1, F, T, by omega, by go_num, by rw [HTE5.out], HR5.out⟩
          case measure => simp [intOf]; omega
        · obtain ⟨hs16, hsF, _⟩ := sl_spec F y hy0
          have hsn := (HR.out.1.2.2.2.1 _ _ hsF).1
          have hy8 := HR.out.2.2.2.1 y hy
          have HTT := Lib.hid (tot_take F y (sl F y) (by omega) hs16 hsF)
          have ht0 : 0 < t := by have := HTT.out; have := HTE.out; omega
          have HSET := Lib.hid (tks_set n F T y (sl F y) false hs16 hsn hy)
          obtain ⟨S, hS⟩ : ∃ S, sl F y = S := ⟨_, rfl⟩
          rw [hS] at h5 hs16 hsn hsF HTT HSET ⊢
          have A5 := Lib.hid (HR.out.2.1.fr hf5 (by simp; omega))
          have B5 := Lib.hid (HR.out.2.2.1.fr hf5 (by simp; omega))
          have c1 := (A5.out.cell y).trans (ths_get T y hy8)
          have c2 := (B5.out.cell (y * 16 + S)).trans (tks_get n F T y S hy8 hs16)
          rw [hy] at c1
          rw [show tk n F T y S = false by unfold tk; rw [hsF]; simp] at c2
          have f2 := B5.out.froz (y * 16 + S)
          have hfs : Fr [qa + 1] w5 (w5.setCell ⟨qa + 1, y * 16 + S, none⟩ (.bool true)) := (Fr.refl _ _).set (.inl (by simp)) _
          have HR5 := Lib.hid (show Rel w bp qa (qa + 1) n (upp F y (upd (F y) S false)) T (w5.setCell ⟨qa + 1, y * 16 + S, none⟩ (.bool true)) from
            ⟨h5.fr hfs (by simp; omega), A5.out.fr hfs (by simp), by have := B5.out.set (y * 16 + S) (.bool true); rw [show (true : Bool) = !false from rfl, HSET.out] at this; exact this,
              HR.out.2.2.2.1, (HR.out.2.2.2.2.trans hf5 (by simp; exact hbp)).trans hfs (by simp; omega)⟩)
          have HTE5 := Lib.hid (show ((tot (upp F y (upd (F y) S false)) 1024 : Nat) : Int) = (t : Int) - 1 by have := HTT.out; rw [HTE.out] at this; omega)
          have d1 : decide ((y : Int) < 0) = false := by simp
          have d2 : decide ((7 : Int) < (y : Int)) = false := by simp; omega
          have d3 : decide ((S : Int) < 0) = false := by simp
          have d4 : decide ((n : Int) ≤ (S : Int)) = false := by simp; omega
          have d5 : decide ((0 : Int) < (t : Int)) = true := by simp; omega
          clear hy hy0 hmin h5 hf5 hsF hS hfs
          go_wp2_with fail
          refine (bfree_int HR5.out.1 ((t : Int) - 1) HTE5.out).mono ?_
          rintro e w' ⟨rfl, rfl⟩
          go_wp2_with fail
          go_roundw
          case rel => exact ⟨k + 1, upp F y (upd (F y) S false), T, by omega, by go_num, by rw [HTE5.out], HR5.out⟩
          case measure => simp [intOf]; omega
      ·
        obtain ⟨t, ht⟩ : ∃ t, tot F 1024 = t := ⟨_, rfl⟩
        rw [ht] at htl ⊢
        have HTE := Lib.hid ht
        have hbt : bp ≠ 0 := by omega
        clear ht
        go_wp2_with fail
        refine btake_any HR.out.1 (HT.out.fr HR.out.2.2.2.2 (by simp)) hbt _ (fun hzz w5 hf5 => ?_) (fun y hy hy0 hmin w5 h5 hf5 => ?_)
        · have h0 : t = 0 := by rw [← HTE.out]; exact tot_none n F T HR.out.1.2 hzz
          subst h0
          have HR5 := Lib.hid (show Rel w bp qa (qa + 1) n F T w5 from ⟨HR.out.1.fr hf5 (by simp), HR.out.2.1.fr hf5 (by simp), HR.out.2.2.1.fr hf5 (by simp), HR.out.2.2.2.1, HR.out.2.2.2.2.trans0 hf5⟩)
          have HTE5 := Lib.hid (show ((tot F 1024 : Nat) : Int) = 0 by rw [HTE.out]; rfl)
          clear hzz hf5
          go_wp2_with fail
          go_roundw
          case rel => exact ⟨k + 1, F, T, by omega, by go_num, by rw [HTE5.out], HR5.out⟩
          case measure => simp [intOf]; omega
        · obtain ⟨hs16, hsF, _⟩ := sl_spec F y hy0
          have hsn := (HR.out.1.2.2.2.1 _ _ hsF).1
          have hy8 := HR.out.2.2.2.1 y hy
          have HTT := Lib.hid (tot_take F y (sl F y) (by omega) hs16 hsF)
          have ht0 : 0 < t := by have := HTT.out; have := HTE.out; omega
          have HSET := Lib.hid (tks_set n F T y (sl F y) false hs16 hsn hy)
          obtain ⟨S, hS⟩ : ∃ S, sl F y = S := ⟨_, rfl⟩
          rw [hS] at h5 hs16 hsn hsF HTT HSET ⊢
          have A5 := Lib.hid (HR.out.2.1.fr hf5 (by simp; omega))
          have B5 := Lib.hid (HR.out.2.2.1.fr hf5 (by simp; omega))
          have c1 := (A5.out.cell y).trans (ths_get T y hy8)
          have c2 := (B5.out.cell (y * 16 + S)).trans (tks_get n F T y S hy8 hs16)
          rw [hy] at c1
          rw [show tk n F T y S = false by unfold tk; rw [hsF]; simp] at c2
          have f2 := B5.out.froz (y * 16 + S)
          have hfs : Fr [qa + 1] w5 (w5.setCell ⟨qa + 1, y * 16 + S, none⟩ (.bool true)) := (Fr.refl _ _).set (.inl (by simp)) _
          have HR5 := Lib.hid (show Rel w bp qa (qa + 1) n (upp F y (upd (F y) S false)) T (w5.setCell ⟨qa + 1, y * 16 + S, none⟩ (.bool true)) from
            ⟨h5.fr hfs (by simp; omega), A5.out.fr hfs (by simp), by have := B5.out.set (y * 16 + S) (.bool true); rw [show (true : Bool) = !false from rfl, HSET.out] at this; exact this,
              HR.out.2.2.2.1, (HR.out.2.2.2.2.trans hf5 (by simp; exact hbp)).trans hfs (by simp; omega)⟩)
          have HTE5 := Lib.hid (show ((tot (upp F y (upd (F y) S false)) 1024 : Nat) : Int) = (t : Int) - 1 by have := HTT.out; rw [HTE.out] at this; omega)
          have d1 : decide ((y : Int) < 0) = false := by simp
          have d2 : decide ((7 : Int) < (y : Int)) = false := by simp; omega
          have d3 : decide ((S : Int) < 0) = false := by simp
          have d4 : decide ((n : Int) ≤ (S : Int)) = false := by simp; omega
          have d5 : decide ((0 : Int) < (t : Int)) = true := by simp; omega
          clear hy hy0 hmin h5 hf5 hsF hS hfs
          go_wp2_with fail
          refine (bfree_int HR5.out.1 ((t : Int) - 1) HTE5.out).mono ?_
          rintro e w' ⟨rfl, rfl⟩
          go_wp2_with fail
          go_roundw
          case rel => exact ⟨k + 1, upp F y (upd (F y) S false), T, by omega, by go_num, by rw [HTE5.out], HR5.out⟩
          case measure => simp [intOf]; omega
      · obtain ⟨s, hs⟩ : ∃ s, kk / 8 % 16 = s := ⟨_, rfl⟩
        have hs16 : s < 16 := by omega
        have hks : (kk : Int) / 8 % 16 = (s : Int) := by omega
        have hs0 : (0 : Int) ≤ (s : Int) := by omega
        have hs15 : (s : Int) < 16 := by omega
        have hp7' : p ≤ 7 := by omega
        clear hs
        have c1 := (HR.out.2.2.1.cell (p * 16 + s)).trans (tks_get n F T p s hp8 hs16)
        by_cases htk : tk n F T p s = true
        · rw [htk] at c1
          have hall := htk
          unfold tk at hall
          simp only [Bool.and_eq_true, decide_eq_true_eq, Bool.not_eq_true'] at hall
          obtain ⟨hTp, hsn, hFp⟩ := hall
          have C := Lib.hid fun W (hW : W.heap = wr.heap) => bput_yes (HR.out.1.hp (w' := W) hW) p s hTp hsn hFp
          have HTT := Lib.hid (tot_put F p s (by omega) hs16 hFp)
          have HSET := Lib.hid (tks_set n F T p s true hs16 hsn hTp)
          obtain ⟨t, ht⟩ : ∃ t, tot F 1024 = t := ⟨_, rfl⟩
          rw [ht] at htl HTT ⊢
          clear hTp hFp htk ht
          go_wp2_with fail
          go_region_held3 (fun w' => w'.cell? ⟨qa + 1, p * 16 + s, none⟩ = some (.bool true)) (first | exact c1 | exact d1 | go_keep) ((go_at_call 10; refine (C.out _ (by rfl)).mono ?_; rintro e w5 ⟨rfl, h5, hf5⟩; have d1 : w5.cell? ⟨qa + 1, p * 16 + s, none⟩ = some (.bool true) := (hf5.cell (a := ⟨qa + 1, p * 16 + s, none⟩) (by first | exact lt_of_cell c1) (by simp; omega)).trans c1))
          all_goals
            have hf6 : Fr [bp] wr w5 := hf5.hd (w := wr) rfl rfl rfl rfl
            have B5 := Lib.hid (HR.out.2.2.1.fr hf6 (by simp; omega))
            have f5 := B5.out.froz (p * 16 + s)
            have hfs : Fr [qa + 1] w5 (w5.setCell ⟨qa + 1, p * 16 + s, none⟩ (.bool false)) := (Fr.refl _ _).set (.inl (by simp)) _
            have HR5 := Lib.hid (show Rel w bp qa (qa + 1) n (upp F p (upd (F p) s true)) T (w5.setCell ⟨qa + 1, p * 16 + s, none⟩ (.bool false)) from
              ⟨h5.fr hfs (by simp; omega), (HR.out.2.1.fr hf6 (by simp; omega)).fr hfs (by simp), by have := B5.out.set (p * 16 + s) (.bool false); rw [show (false : Bool) = !true from rfl, HSET.out] at this; exact this,
                HR.out.2.2.2.1, (HR.out.2.2.2.2.trans hf6 (by simp; exact hbp)).trans hfs (by simp; omega)⟩)
            have HTE5 := Lib.hid (show ((tot (upp F p (upd (F p) s true)) 1024 : Nat) : Int) = (t : Int) + 1 by rw [HTT.out]; rfl)
            clear hf5 hf6 hfs h5
            go_wp2_with fail
            refine (bfree_int HR5.out.1 ((t : Int) + 1) HTE5.out).mono ?_
            rintro e w' ⟨rfl, rfl⟩
            go_wp2_with fail
            go_roundw
            case rel => exact ⟨k + 1, upp F p (upd (F p) s true), T, by omega, by go_num, by rw [HTE5.out], HR5.out⟩
            case measure => simp [intOf]; omega
        · rw [Bool.not_eq_true] at htk
          rw [htk] at c1
          have C := Lib.hid fun W (hW : W.heap = wr.heap) => bput_no (HR.out.1.hp (w' := W) hW) p (s : Int) (by omega) (by
            rw [Int.toNat_natCast]
            unfold tk at htk
            by_cases h1 : T p = false
            · exact .inl h1
            · by_cases h2 : n ≤ s
              · exact .inr (.inr (.inl (by omega)))
              · rw [Bool.not_eq_false] at h1
                rw [h1, decide_eq_true (show s < n by omega)] at htk
                exact .inr (.inr (.inr (by simpa using htk))))
          obtain ⟨t, ht⟩ : ∃ t, tot F 1024 = t := ⟨_, rfl⟩
          rw [ht] at htl ⊢
          have HTE := Lib.hid ht
          clear htk ht
          go_wp2_with fail
          go_region_held3 (fun w' => w'.cell? ⟨qa + 1, p * 16 + s, none⟩ = some (.bool false)) (first | exact c1 | exact d1 | go_keep) ((go_at_call 10; refine (C.out _ (by rfl)).mono ?_; rintro e w5 ⟨rfl, hf5⟩; have d1 : w5.cell? ⟨qa + 1, p * 16 + s, none⟩ = some (.bool false) := (hf5.cell (a := ⟨qa + 1, p * 16 + s, none⟩) (by first | exact lt_of_cell c1) (by simp)).trans c1))
          all_goals
            have HR5 := Lib.hid (show Rel w bp qa (qa + 1) n F T w5 from ⟨HR.out.1.fr (hf5.hd (w := wr) rfl rfl rfl rfl) (by simp), HR.out.2.1.fr (hf5.hd (w := wr) rfl rfl rfl rfl) (by simp), HR.out.2.2.1.fr (hf5.hd (w := wr) rfl rfl rfl rfl) (by simp), HR.out.2.2.2.1, HR.out.2.2.2.2.trans0 (hf5.hd (w := wr) rfl rfl rfl rfl)⟩)
            have HTE5 := Lib.hid (show ((tot F 1024 : Nat) : Int) = (t : Int) by rw [HTE.out])
            clear hf5
            go_wp2_with fail
            refine (bfree_int HR5.out.1 (t) HTE5.out).mono ?_
            rintro e w' ⟨rfl, rfl⟩
            go_wp2_with fail
            go_roundw
            case rel => exact ⟨k + 1, F, T, by omega, by go_num, by rw [HTE5.out], HR5.out⟩
            case measure => simp [intOf]; omega
    · by_cases hl1 : k < len1
      · have hd1 : decide ((k : Int) < (len1 : Int)) = true := by simpa using hl1
        have hd2 : ¬ k < 200 := fun h => hlt ⟨hl1, h⟩
        clear hlt
        obtain ⟨t, ht⟩ : ∃ t, tot F 1024 = t := ⟨_, rfl⟩
        rw [ht]
        clear ht
        go_wp2_with fail
        refine (works_any _ (HT.out.fr HR.out.2.2.2.2 (by simp))).mono ?_
        rintro e w6 ⟨rfl, hf6⟩
        go_wp2_with fail
        go_ret
        exact ⟨rfl, HR.out.2.2.2.2.trans0 hf6⟩
      · clear hlt
        obtain ⟨t, ht⟩ : ∃ t, tot F 1024 = t := ⟨_, rfl⟩
        rw [ht]
        clear ht
        go_wp2_with fail
        refine (works_any _ (HT.out.fr HR.out.2.2.2.2 (by simp))).mono ?_
        rintro e w6 ⟨rfl, hf6⟩
        go_wp2_with fail
        go_ret
        exact ⟨rfl, HR.out.2.2.2.2.trans0 hf6⟩
theorem walk (a0 : Int) (w0 : (Lit.int .u8 a0).wf = true) (a1 : Option Addr) (len1 cap1 : Nat) (z1 : List Int) (w : World) (w1 : Ints .u8 w a1 len1 z1) (hT : Tab32 w) :
    Calls Tryd.prog 3 #[.int .u8 a0, .slice a1 len1 cap1] w fun e w' => e = .returned (.bool true) ∧ Fr [] w w' := by
  have hb0 := bounds_u8 w0
  obtain ⟨h1, h2, h3, h4⟩ := w1
  rcases h4 with h4 | ⟨b, off, h5, h6, h7⟩
  · exact walk0 (1 + a0 % 16).toNat (by omega) (by omega) a0 hb0.1 hb0.2 (by omega) a1 0 0 len1 cap1 z1 w hT (.inl h4) h1 h2 h3 (fun h => by omega) (fun i hi => by omega)
  · exact walk0 (1 + a0 % 16).toNat (by omega) (by omega) a0 hb0.1 hb0.2 (by omega) a1 b off len1 cap1 z1 w hT (.inr h5) h1 h2 h3 (fun _ => h6) h7
theorem laidOut : laidOutB Tryd.prog = true := by kernel_rfl
set_option maxRecDepth 100000 in
theorem lifted (os : Os) (started : os.Started) (H : Type) (enc : TypeId × Value → H) :
    ReturnsInHanded {} Tryd.checked os 3 .any (fun w args => (Rows.slotsOnceSpec.pre enc Tryd.prog Tryd.f3 [] false w args ∧ laidMetH Tryd.prog laidL w) ∧ sizedMet enc Tryd.prog Tryd.f3 (OpenSpec.ofChange Rows.slotsOnceSpec) false w args) (Rows.slotsOnceSpec.post enc Tryd.prog Tryd.f3 false true false false) := by
  refine returnsInHanded_of_change_and (C := Tryd.checked) (X := fun w _ => laidMetH Tryd.prog laidL w) (fun _ _ _ hh h => h.of_heap hh) own started (by kernel_rfl) Tryd.func3
    (ChangeSpec.witness_at (enc := enc) (C := Tryd.checked) (os := os) (X := fun w _ => laidMetH Tryd.prog laidL w) false (laidWorld os) #[.int .u8 0, .slice none 0 0] 8 rfl (by kernel_rfl) (by kernel_rfl) (by kernel_rfl) (by kernel_rfl) (by kernel_rfl) (laidWorld_met os _)) ?_
  intro W base args ds gs before hval0 hW _ _ hL _
  have hT := tab_of_laid hL
  have hval : ∀ (j : Nat) t v, Tryd.f3.params[j]? = some t → args[j]? = some v → Value.okWide Tryd.prog W .any base t v := hval0
  have hW' := hW
  obtain ⟨p, q, hA0, hV, rfl, hfz, hnd⟩ := hW
  have hA : DataW.TrodAll enc Tryd.prog W 0 (fun _ => true) true Tryd.f3.params.toList args.toList ds p := hA0
  rw [Tryd.params3] at hA hval
  obtain ⟨v0, vs0, d0, ds0, p0, q0, hargs, rfl, rfl, h0, r0⟩ := trodAll_cons hA
  obtain ⟨v1, vs1, d1, ds1, p1, q1, rfl, rfl, rfl, h1, r1⟩ := trodAll_cons r0
  obtain ⟨rfl, rfl, rfl⟩ := trodAll_nil r1
  obtain rfl : args = #[v0, v1] := by cases args; simp_all
  obtain ⟨rfl, rfl⟩ := trodVars_none hV
  obtain ⟨a0, rfl, rfl, rfl, w0⟩ := open_int Tryd.underlying5 (hval 0 5 v0 rfl rfl) h0
  obtain ⟨a1, len1, cap1, rfl⟩ := okWide_slice Tryd.underlying22 (hval 1 22 v1 rfl rfl)
  have k1 := h1
  have lt1 : ∀ x ∈ p1, x.block < W.heap.size := by obtain ⟨m, hm⟩ := k1; exact DataW.trod_lt m _ _ _ hm
  obtain ⟨z1, w1⟩ : ∃ zs, Ints .u8 W a1 len1 zs := by
    obtain ⟨fuel, hf⟩ := h1
    rcases open_ints Tryd.underlying22 Tryd.underlying5 (by kernel_rfl) hf with ⟨hcs, _⟩ | ⟨x, l, c, zs, hcs, _, hl, hm, hz, _, hcell, hwz⟩
    · simp [Value.cells] at hcs
      obtain ⟨rfl, rfl, rfl⟩ := hcs
      exact ⟨[], Ints.nil _⟩
    · simp [Value.cells] at hcs
      obtain ⟨rfl, rfl, rfl⟩ := hcs
      exact ⟨zs.take len1, Ints.of hl hm (by simpa using hz) hcell hwz⟩
  clear hA0 hval0
  refine (walk a0 w0 a1 len1 cap1 z1 W w1 hT).mono fun e W' ⟨he, hg⟩ => ?_
  subst he
  have bel := hg.below
  exact ⟨_, rfl, _, _, _, [], _, [], hW', trodAll_mk1 (shut_bool Tryd.underlying4 _), (trodAll_cons_mk (shut_int Tryd.underlying5 w0) (trodAll_cons_mk (Below.trod laidOut (by kernel_rfl) (of_decide_eq_true (by kernel_rfl)) k1 bel lt1) trodAll_mk0)), rfl, bel.frame _, fun h => by cases h⟩
theorem over : Rows.slotsOnceRow.holds Tryd.pinned (OpenSpec.ofChange Rows.slotsOnceSpec) :=
  OpenClaim.holds_of_wide 3 Tryd.f3 rfl rfl rfl rfl rfl rfl rfl ⟨rfl, rfl, rfl, rfl, rfl⟩ rfl rfl rfl rfl rfl (by kernel_rfl) Tryd.func3 (by kernel_rfl)
    (of_decide_eq_true (by kernel_rfl)) (by unfold Func.isWrapper; first | (rw [if_pos (by decide +kernel)]; kernel_rfl) | (rw [if_neg (by decide +kernel)]; exact ⟨rfl, rfl⟩))
    (fun os started H enc _ => lifted os started H enc)
set_option maxRecDepth 100000 in
/-- The card, tied. -/
theorem proved : Rows.SlotsOnceCardSaid :=
  Claim7.holds_tied_plain_at .later [] [.data] true (true, "cf9a7591cfa8dce3dcc3bf8a48b51dd81b21bd8b37a86308b919ccced3aca6f0") false
    over (fun _ h => by cases h) (by kernel_rfl) (fun _ h => by cases h) slotsOnce_row_tie rfl ⟨rfl, rfl⟩ (by kernel_rfl) rfl
    (fun f fn hf hfn => by
      obtain rfl : f = 3 := Option.some.inj ((show Tryd.prog.funcNamed "fallow/fallowlaw13.SlotsOnce" = some 3 by kernel_rfl).symm.trans hf) |>.symm
      obtain rfl : fn = Tryd.f3 := (Option.some.inj (Tryd.func3.symm.trans hfn)).symm
      exact ⟨by kernel_rfl, fun j t ht => by
        have hm : t ∈ Tryd.f3.params.toList := by simpa using Array.mem_of_getElem? ht
        have hall : (Tryd.f3.params.toList.all fun u => !Tryd.prog.wantsStandIn u) = true := by kernel_rfl
        exact (show Tryd.prog.wantsStandIn t = false by simpa using List.all_eq_true.1 hall t hm)⟩)
    (by kernel_rfl)
end slotsOnce
end Go.Proofs.YtggcmeoafbmckaaDoor
