/-
  Release: a resting region is given back. Condition: numbers in their types' ranges.
-/



import Derived.Test.YtdbpmojblgmhdaaDoorFree
set_option linter.unusedVariables false
namespace Go.Proofs.YtdbpmojblgmhdaaDoor
open Go.ChangeShapes Go.WideShapes Go.ChangeAt Go.RowKit
theorem pages_any (n : Int) (w : World) (h1 : 0 ≤ n) (h2 : n < 4294967296) : Calls Tryd.prog 16 #[.int .u32 n] w fun r w' => r = .returned (.int .i64 ((n + 256 - 1) / 256)) ∧ w = w' := by
  go_enter Tryd.func16, Tryd.ntmps16
  go_wp2
  go_ret
  exact ⟨rfl, rfl⟩
section
variable {w : World} {I : HId} {own r : Rg} {L R : List Rg}
theorem hrelease_no (h : Hp w I own L R) (hr : Ok32 r) (hL : r ∉ R) : Calls Tryd.prog 19 #[.pointer (some ⟨I.hp, 0, none⟩), .agg #[.int .u32 r.1, .int .u32 r.2]] w fun e w' => e = .returned (.int .i64 8) ∧ Rd w I own r L R w' := by
  obtain ⟨r1, r2⟩ := r
  dsimp only
  have hbox : Fr [] w (w.alloc (.cells #[.int .u32 r1, .int .u32 r2] 31)) := (by repeat (first | exact Fr.refl _ _ | assumption | refine Fr.trans0 ?_ (by assumption) | refine Fr.drewN ?_ _ | refine Fr.alloc ?_ _ | refine Fr.drew ?_))
  have HR := Lib.hid (show Rd w I own (r1, r2) L R (w.alloc (.cells #[.int .u32 r1, .int .u32 r2] 31)) from ⟨h.h.c.fr hbox (by simp), At.new _ _ _, h.l.fr0 hbox, h.r.fr0 hbox, hbox.more (by simp)⟩)
  have HSEP := Lib.hid h.sep
  have CN := Lib.hid (hnone_at HR.out.1)
  have CH := Lib.hid fun W (hW : Ms W I.rb R) => shas_any hW (r1, r2) hr false (by simpa using hL)
  clear h hL hbox
  go_enter Tryd.func19, Tryd.ntmps19
  go_wp2_with fail
  refine (CN.out).mono ?_
  rintro e w' ⟨rfl, rfl⟩
  go_wp2_with fail
  refine wp_region_L (Rd w I own (r1, r2) L R) [] (by kernel_rfl) HR.out.drew fun hHeld => ?_
  refine wpAnyL_take (i := 0) (v := ?_) rfl (by kernel_rfl) (fun _ _ _ h => h) (Or.inl ⟨by rfl, ?_⟩) (by assumption) ?_; rotate_left; (focus (intro w hSw; skip; go_simp; (try with_reducible rfl))); (try (refine wpAnyL_norm (by simp only [Act.put, List.setIfInBounds_toArray, List.set_cons_zero, List.set_cons_succ]; rfl) ?_))
  refine wpAnyL_take (i := 1) (v := ?_) rfl (by kernel_rfl) (fun _ _ _ h => h) (Or.inl ⟨by rfl, ?_⟩) (by assumption) ?_; rotate_left; (focus (intro w hSw; skip; go_simp; (try with_reducible rfl))); (try (refine wpAnyL_norm (by simp only [Act.put, List.setIfInBounds_toArray, List.set_cons_zero, List.set_cons_succ]; rfl) ?_))
  refine wpAnyL_take (i := 2) (v := ?_) rfl (by kernel_rfl) (fun _ _ _ h => h) (Or.inl ⟨by rfl, ?_⟩) (by assumption) ?_; rotate_left; (focus (intro w hSw; skip; go_simp; (try with_reducible rfl))); (try (refine wpAnyL_norm (by simp only [Act.put, List.setIfInBounds_toArray, List.set_cons_zero, List.set_cons_succ]; rfl) ?_))
  refine wpAnyL_take (i := 3) (v := ?_) rfl (by kernel_rfl) (fun _ _ _ h => h) (Or.inl ⟨by rfl, ?_⟩) (by assumption) ?_; rotate_left; (focus (intro w hSw; have c : _ = some (Value.map (some I.rb)) := hSw.1.cell 9; go_simp; (try with_reducible rfl))); (try (refine wpAnyL_norm (by simp only [Act.put, List.setIfInBounds_toArray, List.set_cons_zero, List.set_cons_succ]; rfl) ?_))
  refine wpAnyL_take (i := 4) rfl (by kernel_rfl) (fun _ _ _ h => h) (yields_load_at 31 (.tmp 3) rfl ⟨w.heap.size, 0, none⟩ rfl [.int .u32 r1, .int .u32 r2] _ (fun W h => two_cells h.2.1) Tryd.underlying31 rfl infoRgS rfl) (by assumption) ?_; (try (refine wpAnyL_norm (by simp only [Act.put, List.setIfInBounds_toArray, List.set_cons_zero, List.set_cons_succ]; rfl) ?_))
  refine wpAnyL_ready (rs := [5]) (by kernel_rfl) (by simp) ?_; refine AllReadyL.cons rfl (fun K hK => ?_) AllReadyL.nil
  go_simp
  refine (CH.out _ hHeld.2.2.2.1).mono ?_
  rintro e w5 ⟨rfl, hf5⟩
  refine hK.out _ _ (fun _ => hHeld.fr0 hf5) (fun hHeld' => ?_); have hHeld := hHeld' (by decide); clear hHeld' hK K; (try (refine wpAnyL_norm (by simp only [Act.put, List.setIfInBounds_toArray, List.set_cons_zero, List.set_cons_succ]; rfl) ?_))
  refine wpAnyL_take (i := 6) (v := ?_) rfl (by kernel_rfl) (fun _ _ _ h => h) (Or.inl ⟨by rfl, ?_⟩) (by assumption) ?_; rotate_left; (focus (intro w hSw; skip; go_simp; (try with_reducible rfl))); (try (refine wpAnyL_norm (by simp only [Act.put, List.setIfInBounds_toArray, List.set_cons_zero, List.set_cons_succ]; rfl) ?_))
  refine wpAnyL_take (i := 7) (v := ?_) rfl (by kernel_rfl) (fun _ _ _ h => h) (Or.inl ⟨by rfl, ?_⟩) (by assumption) ?_; rotate_left; (focus (intro w hSw; skip; go_simp; (try with_reducible rfl))); (try (refine wpAnyL_norm (by simp only [Act.put, List.setIfInBounds_toArray, List.set_cons_zero, List.set_cons_succ]; rfl) ?_))
  refine wpAnyL_done (by kernel_rfl) ?_ _
  go_wp2
  go_ret
  exact ⟨rfl, hHeld⟩
/-- What is behind a release, but for the pool and the book. -/
theorem hrelease_slot (h : Hp w I own L R) (hr : Ok32 r) (hL : r ∈ R) {c p s : Nat} (hc : c < 5) (hcls : clsV r.2 = c) (hclb : clsB r.2 = true) (hp : r.1 / 256 = p) (hs : r.1 % 256 / r.2 = s) (hr2 : 0 < r.2)
    (hT : tcl (L ++ R) c p = true) (hsp : s < per c) (hF : fcl (L ++ R) c p s = false) (hw : wh (per c) (upp (fcl (L ++ R) c) p (upd (fcl (L ++ R) c p) s true)) p = false) :
    Calls Tryd.prog 19 #[.pointer (some ⟨I.hp, 0, none⟩), .agg #[.int .u32 r.1, .int .u32 r.2]] w fun e w' => e = .returned (.int .i64 0) ∧
      ∃ w6, Rd w I own r L (less R r) w6 ∧ Book w' (I.bk c) (per c) (upp (fcl (L ++ R) c) p (upd (fcl (L ++ R) c p) s true)) (tcl (L ++ R) c) ∧ Fr [I.bk c] w6 w' := by
  obtain ⟨r1, r2⟩ := r
  dsimp only
  have hbox : Fr [] w (w.alloc (.cells #[.int .u32 r1, .int .u32 r2] 31)) := (by repeat (first | exact Fr.refl _ _ | assumption | refine Fr.trans0 ?_ (by assumption) | refine Fr.drewN ?_ _ | refine Fr.alloc ?_ _ | refine Fr.drew ?_))
  have HR := Lib.hid (show Rd w I own (r1, r2) L R (w.alloc (.cells #[.int .u32 r1, .int .u32 r2] 31)) from ⟨h.h.c.fr hbox (by simp), At.new _ _ _, h.l.fr0 hbox, h.r.fr0 hbox, hbox.more (by simp)⟩)
  have HSEP := Lib.hid h.sep
  have CN := Lib.hid (hnone_at HR.out.1)
  have CH := Lib.hid fun W (hW : Ms W I.rb R) => shas_any hW (r1, r2) hr true (by simpa using hL)
  dsimp only at hcls hclb hp hs hr2
  have hpI : (r1 : Int) / 256 = p := by omega
  have hsI : (r1 : Int) % 256 / (r2 : Int) = s := by rw [← hs]; simp
  have hs64 : wrap64 (s : Int) = s := by have := per_bd hc; unfold wrap64; omega
  have hr1 := hr.1
  have hr3 := hr.2
  dsimp only at hr1 hr3
  have CC := Lib.hid fun W => class_any (r2 : Int) W (by omega) (by omega)
  rw [hcls, hclb] at CC
  have HB := Lib.hid (h.h.b c hc)
  have cb := Lib.hid (fun W (hW : At W I.hp 55 (hcells own I)) => show W.cell? ⟨I.hp, 3 + c, none⟩ = some (.pointer (some ⟨I.bk c, 0, none⟩)) from by
    rw [hW.cell]
    rcases five hc with rfl | rfl | rfl | rfl | rfl <;> rfl)
  have HT := Lib.hid hT
  have HF := Lib.hid hF
  have HW := Lib.hid hw
  have hbl : I.bk c ≠ I.lb ∧ I.bk c ≠ I.rb := by
    have nd := h.h.nd
    simp [HId.foot] at nd
    rcases five hc with rfl | rfl | rfl | rfl | rfl <;> constructor <;> intro e <;> simp_all
  have CB := Lib.hid (fun W (hW : Book W (I.bk c) (per c) (fcl (L ++ R) c) (tcl (L ++ R) c)) => bput_yes hW p s HT.out hsp HF.out)
  have CD := Lib.hid (fun W (hW : Book W (I.bk c) (per c) (upp (fcl (L ++ R) c) p (upd (fcl (L ++ R) c p) s true)) (tcl (L ++ R) c)) => bdrop_no hW p (HB.out.2.2.2.2 p HT.out) (by rw [HW.out, Bool.and_false]))
  clear h hL hbox hT hF hw hcls hclb hsp
  go_enter Tryd.func19, Tryd.ntmps19
  go_wp2_with fail
  refine (CN.out).mono ?_
  rintro e w' ⟨rfl, rfl⟩
  go_wp2_with fail
  refine wp_region_L (Rd w I own (r1, r2) L R) [] (by kernel_rfl) HR.out.drew fun hHeld => ?_
  refine wpAnyL_take (i := 0) (v := ?_) rfl (by kernel_rfl) (fun _ _ _ h => h) (Or.inl ⟨by rfl, ?_⟩) (by assumption) ?_; rotate_left; (focus (intro w hSw; skip; go_simp; (try with_reducible rfl))); (try (refine wpAnyL_norm (by simp only [Act.put, List.setIfInBounds_toArray, List.set_cons_zero, List.set_cons_succ]; rfl) ?_))
  refine wpAnyL_take (i := 1) (v := ?_) rfl (by kernel_rfl) (fun _ _ _ h => h) (Or.inl ⟨by rfl, ?_⟩) (by assumption) ?_; rotate_left; (focus (intro w hSw; skip; go_simp; (try with_reducible rfl))); (try (refine wpAnyL_norm (by simp only [Act.put, List.setIfInBounds_toArray, List.set_cons_zero, List.set_cons_succ]; rfl) ?_))
  refine wpAnyL_take (i := 2) (v := ?_) rfl (by kernel_rfl) (fun _ _ _ h => h) (Or.inl ⟨by rfl, ?_⟩) (by assumption) ?_; rotate_left; (focus (intro w hSw; skip; go_simp; (try with_reducible rfl))); (try (refine wpAnyL_norm (by simp only [Act.put, List.setIfInBounds_toArray, List.set_cons_zero, List.set_cons_succ]; rfl) ?_))
  refine wpAnyL_take (i := 3) (v := ?_) rfl (by kernel_rfl) (fun _ _ _ h => h) (Or.inl ⟨by rfl, ?_⟩) (by assumption) ?_; rotate_left; (focus (intro w hSw; have c : _ = some (Value.map (some I.rb)) := hSw.1.cell 9; go_simp; (try with_reducible rfl))); (try (refine wpAnyL_norm (by simp only [Act.put, List.setIfInBounds_toArray, List.set_cons_zero, List.set_cons_succ]; rfl) ?_))
  refine wpAnyL_take (i := 4) rfl (by kernel_rfl) (fun _ _ _ h => h) (yields_load_at 31 (.tmp 3) rfl ⟨w.heap.size, 0, none⟩ rfl [.int .u32 r1, .int .u32 r2] _ (fun W h => two_cells h.2.1) Tryd.underlying31 rfl infoRgS rfl) (by assumption) ?_; (try (refine wpAnyL_norm (by simp only [Act.put, List.setIfInBounds_toArray, List.set_cons_zero, List.set_cons_succ]; rfl) ?_))
  refine wpAnyL_ready (rs := [5]) (by kernel_rfl) (by simp) ?_; refine AllReadyL.cons rfl (fun K hK => ?_) AllReadyL.nil
  go_simp
  refine (CH.out _ hHeld.2.2.2.1).mono ?_
  rintro e w5 ⟨rfl, hf5⟩
  refine hK.out _ _ (fun _ => hHeld.fr0 hf5) (fun hHeld' => ?_); have hHeld := hHeld' (by decide); clear hHeld' hK K; (try (refine wpAnyL_norm (by simp only [Act.put, List.setIfInBounds_toArray, List.set_cons_zero, List.set_cons_succ]; rfl) ?_))
  refine wpAnyL_take (i := 6) (v := ?_) rfl (by kernel_rfl) (fun _ _ _ h => h) (Or.inl ⟨by rfl, ?_⟩) (by assumption) ?_; rotate_left; (focus (intro w hSw; skip; go_simp; (try with_reducible rfl))); (try (refine wpAnyL_norm (by simp only [Act.put, List.setIfInBounds_toArray, List.set_cons_zero, List.set_cons_succ]; rfl) ?_))
  refine wpAnyL_take (i := 7) (v := ?_) rfl (by kernel_rfl) (fun _ _ _ h => h) (Or.inl ⟨by rfl, ?_⟩) (by assumption) ?_; rotate_left; (focus (intro w hSw; skip; go_simp; (try with_reducible rfl))); (try (refine wpAnyL_norm (by simp only [Act.put, List.setIfInBounds_toArray, List.set_cons_zero, List.set_cons_succ]; rfl) ?_))
  refine wpAnyL_done (by kernel_rfl) ?_ _
  go_wp2_with fail
  refine wp_region_L (Rd w I own (r1, r2) L R) [5] (by kernel_rfl) hHeld.drew fun hHeld => ?_
  refine wpAnyL_take (i := 0) (v := ?_) rfl (by kernel_rfl) (fun _ _ _ h => h) (Or.inl ⟨by rfl, ?_⟩) (by assumption) ?_; rotate_left; (focus (intro w hSw; skip; go_simp; (try with_reducible rfl))); (try (refine wpAnyL_norm (by simp only [Act.put, List.setIfInBounds_toArray, List.set_cons_zero, List.set_cons_succ]; rfl) ?_))
  refine wpAnyL_take (i := 1) (v := ?_) rfl (by kernel_rfl) (fun _ _ _ h => h) (Or.inl ⟨by rfl, ?_⟩) (by assumption) ?_; rotate_left; (focus (intro w hSw; skip; go_simp; (try with_reducible rfl))); (try (refine wpAnyL_norm (by simp only [Act.put, List.setIfInBounds_toArray, List.set_cons_zero, List.set_cons_succ]; rfl) ?_))
  refine wpAnyL_take (i := 2) (v := ?_) rfl (by kernel_rfl) (fun _ _ _ h => h) (Or.inl ⟨by rfl, ?_⟩) (by assumption) ?_; rotate_left; (focus (intro w hSw; skip; go_simp; (try with_reducible rfl))); (try (refine wpAnyL_norm (by simp only [Act.put, List.setIfInBounds_toArray, List.set_cons_zero, List.set_cons_succ]; rfl) ?_))
  refine wpAnyL_take (i := 3) (v := ?_) rfl (by kernel_rfl) (fun _ _ _ h => h) (Or.inl ⟨by rfl, ?_⟩) (by assumption) ?_; rotate_left; (focus (intro w hSw; have c : _ = some (Value.map (some I.rb)) := hSw.1.cell 9; go_simp; (try with_reducible rfl))); (try (refine wpAnyL_norm (by simp only [Act.put, List.setIfInBounds_toArray, List.set_cons_zero, List.set_cons_succ]; rfl) ?_))
  refine wpAnyL_take (i := 4) rfl (by kernel_rfl) (fun _ _ _ h => h) (yields_load_at 31 (.tmp 3) rfl ⟨w.heap.size, 0, none⟩ rfl [.int .u32 r1, .int .u32 r2] _ (fun W h => two_cells h.2.1) Tryd.underlying31 rfl infoRgS rfl) (by assumption) ?_; (try (refine wpAnyL_norm (by simp only [Act.put, List.setIfInBounds_toArray, List.set_cons_zero, List.set_cons_succ]; rfl) ?_))
  refine wpAnyL_ready (rs := [5]) (by kernel_rfl) (by simp) ?_; refine AllReadyL.cons rfl (fun K hK => ?_) AllReadyL.nil
  refine wp_rdelete (.tmp 23) (.tmp 24) 53 rfl hHeld.2.2.2.1 70 Tryd.underlying53 (r1, r2) rfl rfl hr ?_
  intro w6 hm6 hf6 hs6
  have hHeld6 := hHeld.setR HSEP.out hf6 hm6
  refine hK.out _ _ (fun h => (h (by decide)).elim) (fun _ => ?_); clear hK K; (try (refine wpAnyL_norm (by simp only [Act.put, List.setIfInBounds_toArray, List.set_cons_zero, List.set_cons_succ]; rfl) ?_))
  refine wpAnyL_done (by kernel_rfl) ?_ _
  have H6 := Lib.hid hHeld6
  clear hHeld hHeld6 hm6 hf6 hs6 HR
  have k0 := H6.out.2.1.cell 0
  have k1 := H6.out.2.1.cell 1
  simp only [List.getElem?_toArray, List.getElem?_cons_zero, List.getElem?_cons_succ] at k0 k1
  have c3 := cb.out _ H6.out.1
  go_wp2_with fail
  refine (CC.out _).mono ?_
  rintro e w7 ⟨rfl, hf7⟩
  have H7 := Lib.hid (H6.out.fr0 hf7)
  have k0 := H7.out.2.1.cell 0
  have k1 := H7.out.2.1.cell 1
  have c3 := cb.out _ H7.out.1
  simp only [List.getElem?_toArray, List.getElem?_cons_zero, List.getElem?_cons_succ] at k0 k1
  have CB7 := Lib.hid (CB.out _ (HB.out.fr H7.out.2.2.2.2 (by simp; exact hbl)))
  clear hf7
  go_wp2_with fail
  refine (CB7.out).mono ?_
  rintro e w8 ⟨rfl, hb8, hf8⟩
  have CD8 := Lib.hid (CD.out _ hb8)
  have HF8 := Lib.hid hf8
  have HB8 := Lib.hid hb8
  clear hb8 hf8
  go_wp2_with fail
  refine (CD8.out).mono ?_
  rintro e w9 ⟨rfl, hf9⟩
  have HB9 := Lib.hid (HB8.out.fr hf9 (by simp))
  have HF9 := Lib.hid (HF8.out.trans0 hf9)
  clear hf9
  go_wp2
  go_ret
  exact ⟨rfl, _, H7.out, HB9.out, HF9.out⟩
theorem hrelease_page (h : Hp w I own L R) (hr : Ok32 r) (hL : r ∈ R) {c p s : Nat} (hc : c < 5) (hcls : clsV r.2 = c) (hclb : clsB r.2 = true) (hp : r.1 / 256 = p) (hs : r.1 % 256 / r.2 = s) (hr2 : 0 < r.2)
    (hT : tcl (L ++ R) c p = true) (hsp : s < per c) (hF : fcl (L ++ R) c p s = false) (hw : wh (per c) (upp (fcl (L ++ R) c) p (upd (fcl (L ++ R) c p) s true)) p = true) (hok : okPut (frP own (L ++ R)) 1024 p 1 = true) :
    Calls Tryd.prog 19 #[.pointer (some ⟨I.hp, 0, none⟩), .agg #[.int .u32 r.1, .int .u32 r.2]] w fun e w' => e = .returned (.int .i64 0) ∧
      ∃ w6, Rd w I own r L (less R r) w6 ∧ Book w' (I.bk c) (per c) (upp (upp (fcl (L ++ R) c) p (upd (fcl (L ++ R) c p) s true)) p fun _ => false) (upd (tcl (L ++ R) c) p false) ∧ Pl w' I.pp I.pt I.pg 1024 (setr (frP own (L ++ R)) p 1) ∧ Fr [I.pg, I.bk c] w6 w' := by
  obtain ⟨r1, r2⟩ := r
  dsimp only
  have hbox : Fr [] w (w.alloc (.cells #[.int .u32 r1, .int .u32 r2] 31)) := (by repeat (first | exact Fr.refl _ _ | assumption | refine Fr.trans0 ?_ (by assumption) | refine Fr.drewN ?_ _ | refine Fr.alloc ?_ _ | refine Fr.drew ?_))
  have HR := Lib.hid (show Rd w I own (r1, r2) L R (w.alloc (.cells #[.int .u32 r1, .int .u32 r2] 31)) from ⟨h.h.c.fr hbox (by simp), At.new _ _ _, h.l.fr0 hbox, h.r.fr0 hbox, hbox.more (by simp)⟩)
  have HSEP := Lib.hid h.sep
  have CN := Lib.hid (hnone_at HR.out.1)
  have CH := Lib.hid fun W (hW : Ms W I.rb R) => shas_any hW (r1, r2) hr true (by simpa using hL)
  dsimp only at hcls hclb hp hs hr2
  have hpI : (r1 : Int) / 256 = p := by omega
  have hsI : (r1 : Int) % 256 / (r2 : Int) = s := by rw [← hs]; simp
  have hs64 : wrap64 (s : Int) = s := by have := per_bd hc; unfold wrap64; omega
  have hr1 := hr.1
  have hr3 := hr.2
  dsimp only at hr1 hr3
  have CC := Lib.hid fun W => class_any (r2 : Int) W (by omega) (by omega)
  rw [hcls, hclb] at CC
  have HB := Lib.hid (h.h.b c hc)
  have cb := Lib.hid (fun W (hW : At W I.hp 55 (hcells own I)) => show W.cell? ⟨I.hp, 3 + c, none⟩ = some (.pointer (some ⟨I.bk c, 0, none⟩)) from by
    rw [hW.cell]
    rcases five hc with rfl | rfl | rfl | rfl | rfl <;> rfl)
  have HT := Lib.hid hT
  have HF := Lib.hid hF
  have HW := Lib.hid hw
  have hbl : I.bk c ≠ I.lb ∧ I.bk c ≠ I.rb := by
    have nd := h.h.nd
    simp [HId.foot] at nd
    rcases five hc with rfl | rfl | rfl | rfl | rfl <;> constructor <;> intro e <;> simp_all
  have CB := Lib.hid (fun W (hW : Book W (I.bk c) (per c) (fcl (L ++ R) c) (tcl (L ++ R) c)) => bput_yes hW p s HT.out hsp HF.out)
  have CD := Lib.hid (fun W (hW : Book W (I.bk c) (per c) (upp (fcl (L ++ R) c) p (upd (fcl (L ++ R) c p) s true)) (tcl (L ++ R) c)) => bdrop_yes hW p HT.out HW.out)
  have HP := Lib.hid h.h.p
  have HK := Lib.hid hok
  have hbp : I.bk c ≠ I.pg ∧ I.bk c ≠ I.pt ∧ I.bk c ≠ I.pp := by
    have nd := h.h.nd
    simp [HId.foot] at nd
    rcases five hc with rfl | rfl | rfl | rfl | rfl <;> refine ⟨fun e => ?_, fun e => ?_, fun e => ?_⟩ <;> simp_all
  have hpl : (I.pp ≠ I.lb ∧ I.pp ≠ I.rb) ∧ (I.pt ≠ I.lb ∧ I.pt ≠ I.rb) ∧ I.pg ≠ I.lb ∧ I.pg ≠ I.rb ∧ I.hp ≠ I.bk c := by
    have nd := h.h.nd
    simp [HId.foot] at nd
    rcases five hc with rfl | rfl | rfl | rfl | rfl <;> refine ⟨⟨fun e => ?_, fun e => ?_⟩, ⟨fun e => ?_, fun e => ?_⟩, fun e => ?_, fun e => ?_, fun e => ?_⟩ <;> simp_all
  clear h hL hbox hT hF hw hcls hclb hsp hok
  go_enter Tryd.func19, Tryd.ntmps19
  go_wp2_with fail
  refine (CN.out).mono ?_
  rintro e w' ⟨rfl, rfl⟩
  go_wp2_with fail
  refine wp_region_L (Rd w I own (r1, r2) L R) [] (by kernel_rfl) HR.out.drew fun hHeld => ?_
  refine wpAnyL_take (i := 0) (v := ?_) rfl (by kernel_rfl) (fun _ _ _ h => h) (Or.inl ⟨by rfl, ?_⟩) (by assumption) ?_; rotate_left; (focus (intro w hSw; skip; go_simp; (try with_reducible rfl))); (try (refine wpAnyL_norm (by simp only [Act.put, List.setIfInBounds_toArray, List.set_cons_zero, List.set_cons_succ]; rfl) ?_))
  refine wpAnyL_take (i := 1) (v := ?_) rfl (by kernel_rfl) (fun _ _ _ h => h) (Or.inl ⟨by rfl, ?_⟩) (by assumption) ?_; rotate_left; (focus (intro w hSw; skip; go_simp; (try with_reducible rfl))); (try (refine wpAnyL_norm (by simp only [Act.put, List.setIfInBounds_toArray, List.set_cons_zero, List.set_cons_succ]; rfl) ?_))
  refine wpAnyL_take (i := 2) (v := ?_) rfl (by kernel_rfl) (fun _ _ _ h => h) (Or.inl ⟨by rfl, ?_⟩) (by assumption) ?_; rotate_left; (focus (intro w hSw; skip; go_simp; (try with_reducible rfl))); (try (refine wpAnyL_norm (by simp only [Act.put, List.setIfInBounds_toArray, List.set_cons_zero, List.set_cons_succ]; rfl) ?_))
  refine wpAnyL_take (i := 3) (v := ?_) rfl (by kernel_rfl) (fun _ _ _ h => h) (Or.inl ⟨by rfl, ?_⟩) (by assumption) ?_; rotate_left; (focus (intro w hSw; have c : _ = some (Value.map (some I.rb)) := hSw.1.cell 9; go_simp; (try with_reducible rfl))); (try (refine wpAnyL_norm (by simp only [Act.put, List.setIfInBounds_toArray, List.set_cons_zero, List.set_cons_succ]; rfl) ?_))
  refine wpAnyL_take (i := 4) rfl (by kernel_rfl) (fun _ _ _ h => h) (yields_load_at 31 (.tmp 3) rfl ⟨w.heap.size, 0, none⟩ rfl [.int .u32 r1, .int .u32 r2] _ (fun W h => two_cells h.2.1) Tryd.underlying31 rfl infoRgS rfl) (by assumption) ?_; (try (refine wpAnyL_norm (by simp only [Act.put, List.setIfInBounds_toArray, List.set_cons_zero, List.set_cons_succ]; rfl) ?_))
  refine wpAnyL_ready (rs := [5]) (by kernel_rfl) (by simp) ?_; refine AllReadyL.cons rfl (fun K hK => ?_) AllReadyL.nil
  go_simp
  refine (CH.out _ hHeld.2.2.2.1).mono ?_
  rintro e w5 ⟨rfl, hf5⟩
  refine hK.out _ _ (fun _ => hHeld.fr0 hf5) (fun hHeld' => ?_); have hHeld := hHeld' (by decide); clear hHeld' hK K; (try (refine wpAnyL_norm (by simp only [Act.put, List.setIfInBounds_toArray, List.set_cons_zero, List.set_cons_succ]; rfl) ?_))
  refine wpAnyL_take (i := 6) (v := ?_) rfl (by kernel_rfl) (fun _ _ _ h => h) (Or.inl ⟨by rfl, ?_⟩) (by assumption) ?_; rotate_left; (focus (intro w hSw; skip; go_simp; (try with_reducible rfl))); (try (refine wpAnyL_norm (by simp only [Act.put, List.setIfInBounds_toArray, List.set_cons_zero, List.set_cons_succ]; rfl) ?_))
  refine wpAnyL_take (i := 7) (v := ?_) rfl (by kernel_rfl) (fun _ _ _ h => h) (Or.inl ⟨by rfl, ?_⟩) (by assumption) ?_; rotate_left; (focus (intro w hSw; skip; go_simp; (try with_reducible rfl))); (try (refine wpAnyL_norm (by simp only [Act.put, List.setIfInBounds_toArray, List.set_cons_zero, List.set_cons_succ]; rfl) ?_))
  refine wpAnyL_done (by kernel_rfl) ?_ _
  go_wp2_with fail
  refine wp_region_L (Rd w I own (r1, r2) L R) [5] (by kernel_rfl) hHeld.drew fun hHeld => ?_
  refine wpAnyL_take (i := 0) (v := ?_) rfl (by kernel_rfl) (fun _ _ _ h => h) (Or.inl ⟨by rfl, ?_⟩) (by assumption) ?_; rotate_left; (focus (intro w hSw; skip; go_simp; (try with_reducible rfl))); (try (refine wpAnyL_norm (by simp only [Act.put, List.setIfInBounds_toArray, List.set_cons_zero, List.set_cons_succ]; rfl) ?_))
  refine wpAnyL_take (i := 1) (v := ?_) rfl (by kernel_rfl) (fun _ _ _ h => h) (Or.inl ⟨by rfl, ?_⟩) (by assumption) ?_; rotate_left; (focus (intro w hSw; skip; go_simp; (try with_reducible rfl))); (try (refine wpAnyL_norm (by simp only [Act.put, List.setIfInBounds_toArray, List.set_cons_zero, List.set_cons_succ]; rfl) ?_))
  refine wpAnyL_take (i := 2) (v := ?_) rfl (by kernel_rfl) (fun _ _ _ h => h) (Or.inl ⟨by rfl, ?_⟩) (by assumption) ?_; rotate_left; (focus (intro w hSw; skip; go_simp; (try with_reducible rfl))); (try (refine wpAnyL_norm (by simp only [Act.put, List.setIfInBounds_toArray, List.set_cons_zero, List.set_cons_succ]; rfl) ?_))
  refine wpAnyL_take (i := 3) (v := ?_) rfl (by kernel_rfl) (fun _ _ _ h => h) (Or.inl ⟨by rfl, ?_⟩) (by assumption) ?_; rotate_left; (focus (intro w hSw; have c : _ = some (Value.map (some I.rb)) := hSw.1.cell 9; go_simp; (try with_reducible rfl))); (try (refine wpAnyL_norm (by simp only [Act.put, List.setIfInBounds_toArray, List.set_cons_zero, List.set_cons_succ]; rfl) ?_))
  refine wpAnyL_take (i := 4) rfl (by kernel_rfl) (fun _ _ _ h => h) (yields_load_at 31 (.tmp 3) rfl ⟨w.heap.size, 0, none⟩ rfl [.int .u32 r1, .int .u32 r2] _ (fun W h => two_cells h.2.1) Tryd.underlying31 rfl infoRgS rfl) (by assumption) ?_; (try (refine wpAnyL_norm (by simp only [Act.put, List.setIfInBounds_toArray, List.set_cons_zero, List.set_cons_succ]; rfl) ?_))
  refine wpAnyL_ready (rs := [5]) (by kernel_rfl) (by simp) ?_; refine AllReadyL.cons rfl (fun K hK => ?_) AllReadyL.nil
  refine wp_rdelete (.tmp 23) (.tmp 24) 53 rfl hHeld.2.2.2.1 70 Tryd.underlying53 (r1, r2) rfl rfl hr ?_
  intro w6 hm6 hf6 hs6
  have hHeld6 := hHeld.setR HSEP.out hf6 hm6
  refine hK.out _ _ (fun h => (h (by decide)).elim) (fun _ => ?_); clear hK K; (try (refine wpAnyL_norm (by simp only [Act.put, List.setIfInBounds_toArray, List.set_cons_zero, List.set_cons_succ]; rfl) ?_))
  refine wpAnyL_done (by kernel_rfl) ?_ _
  have H6 := Lib.hid hHeld6
  clear hHeld hHeld6 hm6 hf6 hs6 HR
  have k0 := H6.out.2.1.cell 0
  have k1 := H6.out.2.1.cell 1
  simp only [List.getElem?_toArray, List.getElem?_cons_zero, List.getElem?_cons_succ] at k0 k1
  have c3 := cb.out _ H6.out.1
  go_wp2_with fail
  refine (CC.out _).mono ?_
  rintro e w7 ⟨rfl, hf7⟩
  have H7 := Lib.hid (H6.out.fr0 hf7)
  have k0 := H7.out.2.1.cell 0
  have k1 := H7.out.2.1.cell 1
  have c3 := cb.out _ H7.out.1
  simp only [List.getElem?_toArray, List.getElem?_cons_zero, List.getElem?_cons_succ] at k0 k1
  have CB7 := Lib.hid (CB.out _ (HB.out.fr H7.out.2.2.2.2 (by simp; exact hbl)))
  clear hf7
  go_wp2_with fail
  refine (CB7.out).mono ?_
  rintro e w8 ⟨rfl, hb8, hf8⟩
  have CD8 := Lib.hid (CD.out _ hb8)
  have HF8 := Lib.hid hf8
  have HB8 := Lib.hid hb8
  clear hb8 hf8
  go_wp2_with fail
  refine (CD8.out).mono ?_
  rintro e w9 ⟨rfl, hb9, hf9⟩
  have HB9 := Lib.hid hb9
  have HF9 := Lib.hid (HF8.out.trans hf9 (fun k hk => .inl hk))
  have c2 : w9.cell? ⟨I.hp, 2, none⟩ = some (.pointer (some ⟨I.pp, 0, none⟩)) := by
    have := (H7.out.1.fr HF9.out (by simp; exact hpl.2.2.2.2)).cell 2
    rw [this]; rfl
  have P9 := ((HP.out.fr H7.out.2.2.2.2 (by simp; exact hpl.1) (by simp; exact hpl.2.1) (by simp; exact ⟨hpl.2.2.1, hpl.2.2.2.1⟩)).fr HF9.out (by simp; exact fun e => hbp.2.2 e.symm) (by simp; exact fun e => hbp.2.1 e.symm) (by simp; exact fun e => hbp.1 e.symm))
  have CP := Lib.hid (pput_yes w9 I.pp I.pt I.pg 1024 _ P9 p 1 HK.out)
  clear hb9 hf9 P9
  go_wp2_with fail
  refine (CP.out).mono ?_
  rintro e w10 ⟨rfl, hpl10, hf10⟩
  have HB10 := Lib.hid (HB9.out.fr hf10 (by simp; exact hbp.1))
  have HP10 := Lib.hid hpl10
  have HF10 := Lib.hid ((HF9.out.more (T := [I.pg, I.bk c]) (by simp)).trans hf10 (fun k hk => .inl (by simp at hk; simp [hk])))
  clear hpl10 hf10
  go_wp2
  go_ret
  exact ⟨rfl, _, H7.out, HB10.out, HP10.out, HF10.out⟩
/-- A run of pages. -/
theorem hrelease_run (h : Hp w I own L R) (hr : Ok32 r) (hL : r ∈ R) {a k : Nat} (ha : r.1 = 256 * a) (hk : r.2 = 256 * k) (hk1 : 1 < k) (hok : okPut (frP own (L ++ R)) 1024 a k = true) :
    Calls Tryd.prog 19 #[.pointer (some ⟨I.hp, 0, none⟩), .agg #[.int .u32 r.1, .int .u32 r.2]] w fun e w' => e = .returned (.int .i64 0) ∧
      ∃ w6, Rd w I own r L (less R r) w6 ∧ Pl w' I.pp I.pt I.pg 1024 (setr (frP own (L ++ R)) a k) ∧ Fr [I.pg] w6 w' := by
  obtain ⟨r1, r2⟩ := r
  dsimp only
  have hbox : Fr [] w (w.alloc (.cells #[.int .u32 r1, .int .u32 r2] 31)) := (by repeat (first | exact Fr.refl _ _ | assumption | refine Fr.trans0 ?_ (by assumption) | refine Fr.drewN ?_ _ | refine Fr.alloc ?_ _ | refine Fr.drew ?_))
  have HR := Lib.hid (show Rd w I own (r1, r2) L R (w.alloc (.cells #[.int .u32 r1, .int .u32 r2] 31)) from ⟨h.h.c.fr hbox (by simp), At.new _ _ _, h.l.fr0 hbox, h.r.fr0 hbox, hbox.more (by simp)⟩)
  have HSEP := Lib.hid h.sep
  have CN := Lib.hid (hnone_at HR.out.1)
  have CH := Lib.hid fun W (hW : Ms W I.rb R) => shas_any hW (r1, r2) hr true (by simpa using hL)
  have hr1 := hr.1
  have hr3 := hr.2
  dsimp only at hr1 hr3 ha hk
  have hpI : (r1 : Int) / 256 = a := by omega
  have CC := Lib.hid fun W => class_any (r2 : Int) W (by omega) (by omega)
  rw [(cls_not (r2 : Int) (by omega)).1, (cls_not (r2 : Int) (by omega)).2] at CC
  have CG := Lib.hid fun W => pages_any (r2 : Int) W (by omega) (by omega)
  rw [show ((r2 : Int) + 256 - 1) / 256 = k by omega] at CG
  have HP := Lib.hid h.h.p
  have HK := Lib.hid hok
  have hpl : (I.pp ≠ I.lb ∧ I.pp ≠ I.rb) ∧ (I.pt ≠ I.lb ∧ I.pt ≠ I.rb) ∧ I.pg ≠ I.lb ∧ I.pg ≠ I.rb := by
    have nd := h.h.nd
    simp [HId.foot] at nd
    refine ⟨⟨fun e => ?_, fun e => ?_⟩, ⟨fun e => ?_, fun e => ?_⟩, fun e => ?_, fun e => ?_⟩ <;> simp_all
  clear h hL hbox hok ha hk
  go_enter Tryd.func19, Tryd.ntmps19
  go_wp2_with fail
  refine (CN.out).mono ?_
  rintro e w' ⟨rfl, rfl⟩
  go_wp2_with fail
  refine wp_region_L (Rd w I own (r1, r2) L R) [] (by kernel_rfl) HR.out.drew fun hHeld => ?_
  refine wpAnyL_take (i := 0) (v := ?_) rfl (by kernel_rfl) (fun _ _ _ h => h) (Or.inl ⟨by rfl, ?_⟩) (by assumption) ?_; rotate_left; (focus (intro w hSw; skip; go_simp; (try with_reducible rfl))); (try (refine wpAnyL_norm (by simp only [Act.put, List.setIfInBounds_toArray, List.set_cons_zero, List.set_cons_succ]; rfl) ?_))
  refine wpAnyL_take (i := 1) (v := ?_) rfl (by kernel_rfl) (fun _ _ _ h => h) (Or.inl ⟨by rfl, ?_⟩) (by assumption) ?_; rotate_left; (focus (intro w hSw; skip; go_simp; (try with_reducible rfl))); (try (refine wpAnyL_norm (by simp only [Act.put, List.setIfInBounds_toArray, List.set_cons_zero, List.set_cons_succ]; rfl) ?_))
  refine wpAnyL_take (i := 2) (v := ?_) rfl (by kernel_rfl) (fun _ _ _ h => h) (Or.inl ⟨by rfl, ?_⟩) (by assumption) ?_; rotate_left; (focus (intro w hSw; skip; go_simp; (try with_reducible rfl))); (try (refine wpAnyL_norm (by simp only [Act.put, List.setIfInBounds_toArray, List.set_cons_zero, List.set_cons_succ]; rfl) ?_))
  refine wpAnyL_take (i := 3) (v := ?_) rfl (by kernel_rfl) (fun _ _ _ h => h) (Or.inl ⟨by rfl, ?_⟩) (by assumption) ?_; rotate_left; (focus (intro w hSw; have c : _ = some (Value.map (some I.rb)) := hSw.1.cell 9; go_simp; (try with_reducible rfl))); (try (refine wpAnyL_norm (by simp only [Act.put, List.setIfInBounds_toArray, List.set_cons_zero, List.set_cons_succ]; rfl) ?_))
  refine wpAnyL_take (i := 4) rfl (by kernel_rfl) (fun _ _ _ h => h) (yields_load_at 31 (.tmp 3) rfl ⟨w.heap.size, 0, none⟩ rfl [.int .u32 r1, .int .u32 r2] _ (fun W h => two_cells h.2.1) Tryd.underlying31 rfl infoRgS rfl) (by assumption) ?_; (try (refine wpAnyL_norm (by simp only [Act.put, List.setIfInBounds_toArray, List.set_cons_zero, List.set_cons_succ]; rfl) ?_))
  refine wpAnyL_ready (rs := [5]) (by kernel_rfl) (by simp) ?_; refine AllReadyL.cons rfl (fun K hK => ?_) AllReadyL.nil
  go_simp
  refine (CH.out _ hHeld.2.2.2.1).mono ?_
  rintro e w5 ⟨rfl, hf5⟩
  refine hK.out _ _ (fun _ => hHeld.fr0 hf5) (fun hHeld' => ?_); have hHeld := hHeld' (by decide); clear hHeld' hK K; (try (refine wpAnyL_norm (by simp only [Act.put, List.setIfInBounds_toArray, List.set_cons_zero, List.set_cons_succ]; rfl) ?_))
  refine wpAnyL_take (i := 6) (v := ?_) rfl (by kernel_rfl) (fun _ _ _ h => h) (Or.inl ⟨by rfl, ?_⟩) (by assumption) ?_; rotate_left; (focus (intro w hSw; skip; go_simp; (try with_reducible rfl))); (try (refine wpAnyL_norm (by simp only [Act.put, List.setIfInBounds_toArray, List.set_cons_zero, List.set_cons_succ]; rfl) ?_))
  refine wpAnyL_take (i := 7) (v := ?_) rfl (by kernel_rfl) (fun _ _ _ h => h) (Or.inl ⟨by rfl, ?_⟩) (by assumption) ?_; rotate_left; (focus (intro w hSw; skip; go_simp; (try with_reducible rfl))); (try (refine wpAnyL_norm (by simp only [Act.put, List.setIfInBounds_toArray, List.set_cons_zero, List.set_cons_succ]; rfl) ?_))
  refine wpAnyL_done (by kernel_rfl) ?_ _
  go_wp2_with fail
  refine wp_region_L (Rd w I own (r1, r2) L R) [5] (by kernel_rfl) hHeld.drew fun hHeld => ?_
  refine wpAnyL_take (i := 0) (v := ?_) rfl (by kernel_rfl) (fun _ _ _ h => h) (Or.inl ⟨by rfl, ?_⟩) (by assumption) ?_; rotate_left; (focus (intro w hSw; skip; go_simp; (try with_reducible rfl))); (try (refine wpAnyL_norm (by simp only [Act.put, List.setIfInBounds_toArray, List.set_cons_zero, List.set_cons_succ]; rfl) ?_))
  refine wpAnyL_take (i := 1) (v := ?_) rfl (by kernel_rfl) (fun _ _ _ h => h) (Or.inl ⟨by rfl, ?_⟩) (by assumption) ?_; rotate_left; (focus (intro w hSw; skip; go_simp; (try with_reducible rfl))); (try (refine wpAnyL_norm (by simp only [Act.put, List.setIfInBounds_toArray, List.set_cons_zero, List.set_cons_succ]; rfl) ?_))
  refine wpAnyL_take (i := 2) (v := ?_) rfl (by kernel_rfl) (fun _ _ _ h => h) (Or.inl ⟨by rfl, ?_⟩) (by assumption) ?_; rotate_left; (focus (intro w hSw; skip; go_simp; (try with_reducible rfl))); (try (refine wpAnyL_norm (by simp only [Act.put, List.setIfInBounds_toArray, List.set_cons_zero, List.set_cons_succ]; rfl) ?_))
  refine wpAnyL_take (i := 3) (v := ?_) rfl (by kernel_rfl) (fun _ _ _ h => h) (Or.inl ⟨by rfl, ?_⟩) (by assumption) ?_; rotate_left; (focus (intro w hSw; have c : _ = some (Value.map (some I.rb)) := hSw.1.cell 9; go_simp; (try with_reducible rfl))); (try (refine wpAnyL_norm (by simp only [Act.put, List.setIfInBounds_toArray, List.set_cons_zero, List.set_cons_succ]; rfl) ?_))
  refine wpAnyL_take (i := 4) rfl (by kernel_rfl) (fun _ _ _ h => h) (yields_load_at 31 (.tmp 3) rfl ⟨w.heap.size, 0, none⟩ rfl [.int .u32 r1, .int .u32 r2] _ (fun W h => two_cells h.2.1) Tryd.underlying31 rfl infoRgS rfl) (by assumption) ?_; (try (refine wpAnyL_norm (by simp only [Act.put, List.setIfInBounds_toArray, List.set_cons_zero, List.set_cons_succ]; rfl) ?_))
  refine wpAnyL_ready (rs := [5]) (by kernel_rfl) (by simp) ?_; refine AllReadyL.cons rfl (fun K hK => ?_) AllReadyL.nil
  refine wp_rdelete (.tmp 23) (.tmp 24) 53 rfl hHeld.2.2.2.1 70 Tryd.underlying53 (r1, r2) rfl rfl hr ?_
  intro w6 hm6 hf6 hs6
  have hHeld6 := hHeld.setR HSEP.out hf6 hm6
  refine hK.out _ _ (fun h => (h (by decide)).elim) (fun _ => ?_); clear hK K; (try (refine wpAnyL_norm (by simp only [Act.put, List.setIfInBounds_toArray, List.set_cons_zero, List.set_cons_succ]; rfl) ?_))
  refine wpAnyL_done (by kernel_rfl) ?_ _
  have H6 := Lib.hid hHeld6
  clear hHeld hHeld6 hm6 hf6 hs6 HR
  have k0 := H6.out.2.1.cell 0
  have k1 := H6.out.2.1.cell 1
  simp only [List.getElem?_toArray, List.getElem?_cons_zero, List.getElem?_cons_succ] at k0 k1
  go_wp2_with fail
  refine (CC.out _).mono ?_
  rintro e w7 ⟨rfl, hf7⟩
  have H7 := Lib.hid (H6.out.fr0 hf7)
  clear hf7
  go_wp2_with fail
  have P7 := Lib.hid (HP.out.fr H7.out.2.2.2.2 (by simp; exact hpl.1) (by simp; exact hpl.2.1) (by simp; exact hpl.2.2))
  refine wp_region_L (fun W => Rd w I own (r1, r2) L (less R (r1, r2)) W ∧ Pl W I.pp I.pt I.pg 1024 (frP own (L ++ R)) ∧ Fr [] w7 W) [8] (by kernel_rfl) ⟨H7.out.drew, P7.out.heap rfl, (Fr.refl _ _).drew⟩ fun hHeld => ?_
  refine wpAnyL_take (i := 0) (v := ?_) rfl (by kernel_rfl) (fun _ _ _ h => h) (Or.inl ⟨by rfl, ?_⟩) (by assumption) ?_; rotate_left; (focus (intro w hSw; skip; go_simp; (try with_reducible rfl))); (try (refine wpAnyL_norm (by simp only [Act.put, List.setIfInBounds_toArray, List.set_cons_zero, List.set_cons_succ]; rfl) ?_))
  refine wpAnyL_take (i := 1) (v := ?_) rfl (by kernel_rfl) (fun _ _ _ h => h) (Or.inl ⟨by rfl, ?_⟩) (by assumption) ?_; rotate_left; (focus (intro w hSw; skip; go_simp; (try with_reducible rfl))); (try (refine wpAnyL_norm (by simp only [Act.put, List.setIfInBounds_toArray, List.set_cons_zero, List.set_cons_succ]; rfl) ?_))
  refine wpAnyL_take (i := 2) (v := ?_) rfl (by kernel_rfl) (fun _ _ _ h => h) (Or.inl ⟨by rfl, ?_⟩) (by assumption) ?_; rotate_left; (focus (intro w hSw; skip; go_simp; (try with_reducible rfl))); (try (refine wpAnyL_norm (by simp only [Act.put, List.setIfInBounds_toArray, List.set_cons_zero, List.set_cons_succ]; rfl) ?_))
  refine wpAnyL_take (i := 3) (v := ?_) rfl (by kernel_rfl) (fun _ _ _ h => h) (Or.inl ⟨by rfl, ?_⟩) (by assumption) ?_; rotate_left; (focus (intro w hSw; have c : _ = some (Value.pointer (some ⟨I.pp, 0, none⟩)) := hSw.1.1.cell 2; go_simp; (try with_reducible rfl))); (try (refine wpAnyL_norm (by simp only [Act.put, List.setIfInBounds_toArray, List.set_cons_zero, List.set_cons_succ]; rfl) ?_))
  refine wpAnyL_take (i := 4) (v := ?_) rfl (by kernel_rfl) (fun _ _ _ h => h) (Or.inl ⟨by rfl, ?_⟩) (by assumption) ?_; rotate_left; (focus (intro w hSw; skip; go_simp; (try with_reducible rfl))); (try (refine wpAnyL_norm (by simp only [Act.put, List.setIfInBounds_toArray, List.set_cons_zero, List.set_cons_succ]; rfl) ?_))
  refine wpAnyL_take (i := 5) (v := ?_) rfl (by kernel_rfl) (fun _ _ _ h => h) (Or.inl ⟨by rfl, ?_⟩) (by assumption) ?_; rotate_left; (focus (intro w hSw; skip; go_simp; (try with_reducible rfl))); (try (refine wpAnyL_norm (by simp only [Act.put, List.setIfInBounds_toArray, List.set_cons_zero, List.set_cons_succ]; rfl) ?_))
  refine wpAnyL_take (i := 6) (v := ?_) rfl (by kernel_rfl) (fun _ _ _ h => h) (Or.inl ⟨by rfl, ?_⟩) (by assumption) ?_; rotate_left; (focus (intro w hSw; have c : _ = some (Value.int .u32 (r2 : Int)) := hSw.1.2.1.cell 1; go_simp; (try with_reducible rfl))); (try (refine wpAnyL_norm (by simp only [Act.put, List.setIfInBounds_toArray, List.set_cons_zero, List.set_cons_succ]; rfl) ?_))
  refine wpAnyL_ready (rs := [7]) (by kernel_rfl) (by simp) ?_; refine AllReadyL.cons rfl (fun K hK => ?_) AllReadyL.nil
  go_simp
  refine (CG.out _).mono ?_
  rintro e w8 ⟨rfl, rfl⟩
  refine hK.out _ _ (fun _ => hHeld) (fun hHeld' => ?_); have hHeld := hHeld' (by decide); clear hHeld' hK K; (try (refine wpAnyL_norm (by simp only [Act.put, List.setIfInBounds_toArray, List.set_cons_zero, List.set_cons_succ]; rfl) ?_))
  refine wpAnyL_ready (rs := [8]) (by kernel_rfl) (by simp) ?_; refine AllReadyL.cons rfl (fun K hK => ?_) AllReadyL.nil
  go_simp
  refine (pput_yes _ I.pp I.pt I.pg 1024 _ hHeld.2.1 a k HK.out).mono ?_
  rintro e w9 ⟨rfl, hp9, hf9⟩
  have HP9 := Lib.hid hp9
  have HF9 := Lib.hid ((hHeld.2.2.more (T := [I.pg]) (by simp)).trans hf9 (fun k hk => .inl hk))
  refine hK.out _ _ (fun h => (h (by decide)).elim) (fun _ => ?_); clear hK K; (try (refine wpAnyL_norm (by simp only [Act.put, List.setIfInBounds_toArray, List.set_cons_zero, List.set_cons_succ]; rfl) ?_))
  refine wpAnyL_done (by kernel_rfl) ?_ _
  clear hp9 hf9
  go_wp2
  go_ret
  exact ⟨rfl, _, H7.out, HP9.out, HF9.out⟩
end
end Go.Proofs.YtdbpmojblgmhdaaDoor
