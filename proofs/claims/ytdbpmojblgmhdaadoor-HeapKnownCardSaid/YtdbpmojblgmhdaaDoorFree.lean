/-
  Free: a live region rests. Condition: numbers in their types' ranges.
-/


import Derived.Test.YtdbpmojblgmhdaaDoorSlot
import Derived.Test.YtdbpmojblgmhdaaDoorHeld
set_option linter.unusedVariables false
namespace Go.Proofs.YtdbpmojblgmhdaaDoor
open Go.ChangeShapes Go.WideShapes Go.ChangeAt Go.RowKit
theorem Ms.drew {w : World} {b : Nat} {L : List Rg} (h : Ms w b L) : Ms w.drew b L := h.hp rfl
theorem two_cells {W : World} {g : Nat} {t : TypeId} {a b : Value} (h : At W g t #[a, b]) : ∀ j v, ([a, b] : List Value)[j]? = some v → W.cell? ((⟨g, 0, none⟩ : Addr).add j) = some v := fun j v hv => by
  rw [Go.WideShapes.add_plain, h.cell]
  simpa using hv
/-- What the regions of Free and Release read. -/
def Rd (w : World) (I : HId) (own r : Rg) (L R : List Rg) (W : World) : Prop :=
  At W I.hp 55 (hcells own I) ∧ At W w.heap.size 31 #[.int .u32 r.1, .int .u32 r.2] ∧ Ms W I.lb L ∧ Ms W I.rb R ∧ Fr [I.lb, I.rb] w W
section
variable {w : World} {I : HId} {own r : Rg} {L R : List Rg} {W W' : World}
theorem Rd.drew (h : Rd w I own r L R W) : Rd w I own r L R W.drew := ⟨h.1.hp rfl, h.2.1.hp rfl, h.2.2.1.hp rfl, h.2.2.2.1.hp rfl, h.2.2.2.2.drew⟩
theorem Rd.fr0 (h : Rd w I own r L R W) (f : Fr [] W W') : Rd w I own r L R W' := ⟨h.1.fr f (by simp), h.2.1.fr f (by simp), h.2.2.1.fr0 f, h.2.2.2.1.fr0 f, h.2.2.2.2.trans0 f⟩
/-- What is apart. -/
structure Sep (w : World) (I : HId) : Prop where
  lr : I.lb ≠ I.rb
  hl : I.hp ≠ I.lb
  hr : I.hp ≠ I.rb
  l : I.lb < w.heap.size
  r : I.rb < w.heap.size
theorem Rd.setL (h : Rd w I own r L R W) (s : Sep w I) {L' : List Rg} (f : Fr [I.lb] W W') (hm : Ms W' I.lb L') : Rd w I own r L' R W' :=
  ⟨h.1.fr f (by simp; exact s.hl), h.2.1.fr f (by simp; exact fun e => by have := s.l; omega), hm, h.2.2.2.1.fr f (by simp; exact fun e => s.lr e.symm), h.2.2.2.2.trans f (fun k hk => .inl (by simp at hk; simp [hk]))⟩
theorem Rd.setR (h : Rd w I own r L R W) (s : Sep w I) {R' : List Rg} (f : Fr [I.rb] W W') (hm : Ms W' I.rb R') : Rd w I own r L R' W' :=
  ⟨h.1.fr f (by simp; exact s.hr), h.2.1.fr f (by simp; exact fun e => by have := s.r; omega), h.2.2.1.fr f (by simp; exact s.lr), hm, h.2.2.2.2.trans f (fun k hk => .inl (by simp at hk; simp [hk]))⟩
theorem Hp.sep (h : Hp w I own L R) : Sep w I := by
  have nd := h.h.nd
  simp [HId.foot] at nd
  exact ⟨by simp_all, by simp_all, by simp_all, h.l.lt, h.r.lt⟩
theorem hnone_at (h : At W I.hp 55 (hcells own I)) : Calls Tryd.prog 26 #[.pointer (some ⟨I.hp, 0, none⟩)] W fun r w' => r = .returned (.bool false) ∧ W = w' := by
  have c2 : W.cell? ⟨I.hp, 2, none⟩ = some (.pointer (some ⟨I.pp, 0, none⟩)) := by rw [h.cell]; rfl
  clear h
  go_enter Tryd.func26, Tryd.ntmps26
  go_wp2
  go_ret
  exact ⟨rfl, rfl⟩
theorem hfree_no (h : Hp w I own L R) (hr : Ok32 r) (hL : r ∉ L) : Calls Tryd.prog 18 #[.pointer (some ⟨I.hp, 0, none⟩), .agg #[.int .u32 r.1, .int .u32 r.2]] w fun e w' => e = .returned (.int .i64 8) ∧ Rd w I own r L R w' := by
  obtain ⟨r1, r2⟩ := r
  dsimp only
  have hbox : Fr [] w (w.alloc (.cells #[.int .u32 r1, .int .u32 r2] 31)) := (by repeat (first | exact Fr.refl _ _ | assumption | refine Fr.trans0 ?_ (by assumption) | refine Fr.drewN ?_ _ | refine Fr.alloc ?_ _ | refine Fr.drew ?_))
  have HR := Lib.hid (show Rd w I own (r1, r2) L R (w.alloc (.cells #[.int .u32 r1, .int .u32 r2] 31)) from ⟨h.h.c.fr hbox (by simp), At.new _ _ _, h.l.fr0 hbox, h.r.fr0 hbox, hbox.more (by simp)⟩)
  have HSEP := Lib.hid h.sep
  have CN := Lib.hid (hnone_at HR.out.1)
  have CH := Lib.hid fun W (hW : Ms W I.lb L) => shas_any hW (r1, r2) hr false (by simpa using hL)
  clear h hL hbox
  go_enter Tryd.func18, Tryd.ntmps18
  go_wp2_with fail
  refine (CN.out).mono ?_
  rintro e w' ⟨rfl, rfl⟩
  go_wp2_with fail
  refine wp_region_L (Rd w I own (r1, r2) L R) [] (by kernel_rfl) HR.out.drew fun hHeld => ?_
  refine wpAnyL_take (i := 0) (v := ?_) rfl (by kernel_rfl) (fun _ _ _ h => h) (Or.inl ⟨by rfl, ?_⟩) (by assumption) ?_; rotate_left; (focus (intro w hSw; skip; go_simp; (try with_reducible rfl))); (try (refine wpAnyL_norm (by simp only [Act.put, List.setIfInBounds_toArray, List.set_cons_zero, List.set_cons_succ]; rfl) ?_))
  refine wpAnyL_take (i := 1) (v := ?_) rfl (by kernel_rfl) (fun _ _ _ h => h) (Or.inl ⟨by rfl, ?_⟩) (by assumption) ?_; rotate_left; (focus (intro w hSw; skip; go_simp; (try with_reducible rfl))); (try (refine wpAnyL_norm (by simp only [Act.put, List.setIfInBounds_toArray, List.set_cons_zero, List.set_cons_succ]; rfl) ?_))
  refine wpAnyL_take (i := 2) (v := ?_) rfl (by kernel_rfl) (fun _ _ _ h => h) (Or.inl ⟨by rfl, ?_⟩) (by assumption) ?_; rotate_left; (focus (intro w hSw; skip; go_simp; (try with_reducible rfl))); (try (refine wpAnyL_norm (by simp only [Act.put, List.setIfInBounds_toArray, List.set_cons_zero, List.set_cons_succ]; rfl) ?_))
  refine wpAnyL_take (i := 3) (v := ?_) rfl (by kernel_rfl) (fun _ _ _ h => h) (Or.inl ⟨by rfl, ?_⟩) (by assumption) ?_; rotate_left; (focus (intro w hSw; have c : _ = some (Value.map (some I.lb)) := hSw.1.cell 8; go_simp; (try with_reducible rfl))); (try (refine wpAnyL_norm (by simp only [Act.put, List.setIfInBounds_toArray, List.set_cons_zero, List.set_cons_succ]; rfl) ?_))
  refine wpAnyL_take (i := 4) rfl (by kernel_rfl) (fun _ _ _ h => h) (yields_load_at 31 (.tmp 3) rfl ⟨w.heap.size, 0, none⟩ rfl [.int .u32 r1, .int .u32 r2] _ (fun W h => two_cells h.2.1) Tryd.underlying31 rfl infoRgS rfl) (by assumption) ?_; (try (refine wpAnyL_norm (by simp only [Act.put, List.setIfInBounds_toArray, List.set_cons_zero, List.set_cons_succ]; rfl) ?_))
  refine wpAnyL_ready (rs := [5]) (by kernel_rfl) (by simp) ?_; refine AllReadyL.cons rfl (fun K hK => ?_) AllReadyL.nil
  go_simp
  refine (CH.out _ hHeld.2.2.1).mono ?_
  rintro e w5 ⟨rfl, hf5⟩
  refine hK.out _ _ (fun _ => hHeld.fr0 hf5) (fun hHeld' => ?_); have hHeld := hHeld' (by decide); clear hHeld' hK K; (try (refine wpAnyL_norm (by simp only [Act.put, List.setIfInBounds_toArray, List.set_cons_zero, List.set_cons_succ]; rfl) ?_))
  refine wpAnyL_take (i := 6) (v := ?_) rfl (by kernel_rfl) (fun _ _ _ h => h) (Or.inl ⟨by rfl, ?_⟩) (by assumption) ?_; rotate_left; (focus (intro w hSw; skip; go_simp; (try with_reducible rfl))); (try (refine wpAnyL_norm (by simp only [Act.put, List.setIfInBounds_toArray, List.set_cons_zero, List.set_cons_succ]; rfl) ?_))
  refine wpAnyL_take (i := 7) (v := ?_) rfl (by kernel_rfl) (fun _ _ _ h => h) (Or.inl ⟨by rfl, ?_⟩) (by assumption) ?_; rotate_left; (focus (intro w hSw; skip; go_simp; (try with_reducible rfl))); (try (refine wpAnyL_norm (by simp only [Act.put, List.setIfInBounds_toArray, List.set_cons_zero, List.set_cons_succ]; rfl) ?_))
  refine wpAnyL_done (by kernel_rfl) ?_ _
  go_wp2
  go_ret
  exact ⟨rfl, hHeld⟩
set_option maxRecDepth 100000 in
theorem hfree_go (h : Hp w I own L R) (hr : Ok32 r) (hL : r ∈ L) (hlen : R.length < maxLen) : Calls Tryd.prog 18 #[.pointer (some ⟨I.hp, 0, none⟩), .agg #[.int .u32 r.1, .int .u32 r.2]] w fun e w' => e = .returned (.int .i64 0) ∧ Rd w I own r (less L r) (r :: R) w' := by
  obtain ⟨r1, r2⟩ := r
  dsimp only
  have hbox : Fr [] w (w.alloc (.cells #[.int .u32 r1, .int .u32 r2] 31)) := (by repeat (first | exact Fr.refl _ _ | assumption | refine Fr.trans0 ?_ (by assumption) | refine Fr.drewN ?_ _ | refine Fr.alloc ?_ _ | refine Fr.drew ?_))
  have HR := Lib.hid (show Rd w I own (r1, r2) L R (w.alloc (.cells #[.int .u32 r1, .int .u32 r2] 31)) from ⟨h.h.c.fr hbox (by simp), At.new _ _ _, h.l.fr0 hbox, h.r.fr0 hbox, hbox.more (by simp)⟩)
  have HSEP := Lib.hid h.sep
  have CN := Lib.hid (hnone_at HR.out.1)
  have CH := Lib.hid fun W (hW : Ms W I.lb L) => shas_any hW (r1, r2) hr true (by simpa using hL)
  have hno := h.dj _ hL
  clear h hL hbox
  go_enter Tryd.func18, Tryd.ntmps18
  go_wp2_with fail
  refine (CN.out).mono ?_
  rintro e w' ⟨rfl, rfl⟩
  go_wp2_with fail
  refine wp_region_L (Rd w I own (r1, r2) L R) [] (by kernel_rfl) HR.out.drew fun hHeld => ?_
  refine wpAnyL_take (i := 0) (v := ?_) rfl (by kernel_rfl) (fun _ _ _ h => h) (Or.inl ⟨by rfl, ?_⟩) (by assumption) ?_; rotate_left; (focus (intro w hSw; skip; go_simp; (try with_reducible rfl))); (try (refine wpAnyL_norm (by simp only [Act.put, List.setIfInBounds_toArray, List.set_cons_zero, List.set_cons_succ]; rfl) ?_))
  refine wpAnyL_take (i := 1) (v := ?_) rfl (by kernel_rfl) (fun _ _ _ h => h) (Or.inl ⟨by rfl, ?_⟩) (by assumption) ?_; rotate_left; (focus (intro w hSw; skip; go_simp; (try with_reducible rfl))); (try (refine wpAnyL_norm (by simp only [Act.put, List.setIfInBounds_toArray, List.set_cons_zero, List.set_cons_succ]; rfl) ?_))
  refine wpAnyL_take (i := 2) (v := ?_) rfl (by kernel_rfl) (fun _ _ _ h => h) (Or.inl ⟨by rfl, ?_⟩) (by assumption) ?_; rotate_left; (focus (intro w hSw; skip; go_simp; (try with_reducible rfl))); (try (refine wpAnyL_norm (by simp only [Act.put, List.setIfInBounds_toArray, List.set_cons_zero, List.set_cons_succ]; rfl) ?_))
  refine wpAnyL_take (i := 3) (v := ?_) rfl (by kernel_rfl) (fun _ _ _ h => h) (Or.inl ⟨by rfl, ?_⟩) (by assumption) ?_; rotate_left; (focus (intro w hSw; have c : _ = some (Value.map (some I.lb)) := hSw.1.cell 8; go_simp; (try with_reducible rfl))); (try (refine wpAnyL_norm (by simp only [Act.put, List.setIfInBounds_toArray, List.set_cons_zero, List.set_cons_succ]; rfl) ?_))
  refine wpAnyL_take (i := 4) rfl (by kernel_rfl) (fun _ _ _ h => h) (yields_load_at 31 (.tmp 3) rfl ⟨w.heap.size, 0, none⟩ rfl [.int .u32 r1, .int .u32 r2] _ (fun W h => two_cells h.2.1) Tryd.underlying31 rfl infoRgS rfl) (by assumption) ?_; (try (refine wpAnyL_norm (by simp only [Act.put, List.setIfInBounds_toArray, List.set_cons_zero, List.set_cons_succ]; rfl) ?_))
  refine wpAnyL_ready (rs := [5]) (by kernel_rfl) (by simp) ?_; refine AllReadyL.cons rfl (fun K hK => ?_) AllReadyL.nil
  go_simp
  refine (CH.out _ hHeld.2.2.1).mono ?_
  rintro e w5 ⟨rfl, hf5⟩
  refine hK.out _ _ (fun _ => hHeld.fr0 hf5) (fun hHeld' => ?_); have hHeld := hHeld' (by decide); clear hHeld' hK K; (try (refine wpAnyL_norm (by simp only [Act.put, List.setIfInBounds_toArray, List.set_cons_zero, List.set_cons_succ]; rfl) ?_))
  refine wpAnyL_take (i := 6) (v := ?_) rfl (by kernel_rfl) (fun _ _ _ h => h) (Or.inl ⟨by rfl, ?_⟩) (by assumption) ?_; rotate_left; (focus (intro w hSw; skip; go_simp; (try with_reducible rfl))); (try (refine wpAnyL_norm (by simp only [Act.put, List.setIfInBounds_toArray, List.set_cons_zero, List.set_cons_succ]; rfl) ?_))
  refine wpAnyL_take (i := 7) (v := ?_) rfl (by kernel_rfl) (fun _ _ _ h => h) (Or.inl ⟨by rfl, ?_⟩) (by assumption) ?_; rotate_left; (focus (intro w hSw; skip; go_simp; (try with_reducible rfl))); (try (refine wpAnyL_norm (by simp only [Act.put, List.setIfInBounds_toArray, List.set_cons_zero, List.set_cons_succ]; rfl) ?_))
  refine wpAnyL_done (by kernel_rfl) ?_ _
  go_wp2_with fail
  refine wp_region_L (Rd w I own (r1, r2) L R) [5] (by kernel_rfl) hHeld.drew fun hHeld => ?_
  refine wpAnyL_take (i := 0) (v := ?_) rfl (by kernel_rfl) (fun _ _ _ h => h) (Or.inl ⟨by rfl, ?_⟩) (by assumption) ?_; rotate_left; (focus (intro w hSw; skip; go_simp; (try with_reducible rfl))); (try (refine wpAnyL_norm (by simp only [Act.put, List.setIfInBounds_toArray, List.set_cons_zero, List.set_cons_succ]; rfl) ?_))
  refine wpAnyL_take (i := 1) (v := ?_) rfl (by kernel_rfl) (fun _ _ _ h => h) (Or.inl ⟨by rfl, ?_⟩) (by assumption) ?_; rotate_left; (focus (intro w hSw; skip; go_simp; (try with_reducible rfl))); (try (refine wpAnyL_norm (by simp only [Act.put, List.setIfInBounds_toArray, List.set_cons_zero, List.set_cons_succ]; rfl) ?_))
  refine wpAnyL_take (i := 2) (v := ?_) rfl (by kernel_rfl) (fun _ _ _ h => h) (Or.inl ⟨by rfl, ?_⟩) (by assumption) ?_; rotate_left; (focus (intro w hSw; skip; go_simp; (try with_reducible rfl))); (try (refine wpAnyL_norm (by simp only [Act.put, List.setIfInBounds_toArray, List.set_cons_zero, List.set_cons_succ]; rfl) ?_))
  refine wpAnyL_take (i := 3) (v := ?_) rfl (by kernel_rfl) (fun _ _ _ h => h) (Or.inl ⟨by rfl, ?_⟩) (by assumption) ?_; rotate_left; (focus (intro w hSw; have c : _ = some (Value.map (some I.lb)) := hSw.1.cell 8; go_simp; (try with_reducible rfl))); (try (refine wpAnyL_norm (by simp only [Act.put, List.setIfInBounds_toArray, List.set_cons_zero, List.set_cons_succ]; rfl) ?_))
  refine wpAnyL_take (i := 4) rfl (by kernel_rfl) (fun _ _ _ h => h) (yields_load_at 31 (.tmp 3) rfl ⟨w.heap.size, 0, none⟩ rfl [.int .u32 r1, .int .u32 r2] _ (fun W h => two_cells h.2.1) Tryd.underlying31 rfl infoRgS rfl) (by assumption) ?_; (try (refine wpAnyL_norm (by simp only [Act.put, List.setIfInBounds_toArray, List.set_cons_zero, List.set_cons_succ]; rfl) ?_))
  refine wpAnyL_ready (rs := [5]) (by kernel_rfl) (by simp) ?_; refine AllReadyL.cons rfl (fun K hK => ?_) AllReadyL.nil
  refine wp_rdelete (.tmp 19) (.tmp 20) 53 rfl hHeld.2.2.1 70 Tryd.underlying53 (r1, r2) rfl rfl hr ?_
  intro w6 hm6 hf6 hs6
  have hHeld6 := hHeld.setL HSEP.out hf6 hm6
  refine hK.out _ _ (fun h => (h (by decide)).elim) (fun _ => ?_); clear hK K; (try (refine wpAnyL_norm (by simp only [Act.put, List.setIfInBounds_toArray, List.set_cons_zero, List.set_cons_succ]; rfl) ?_))
  refine wpAnyL_done (by kernel_rfl) ?_ _
  go_wp2_with fail
  refine wp_region_L (Rd w I own (r1, r2) (less L (r1, r2)) R) [6] (by kernel_rfl) hHeld6.drew fun hHeld => ?_
  refine wpAnyL_take (i := 0) (v := ?_) rfl (by kernel_rfl) (fun _ _ _ h => h) (Or.inl ⟨by rfl, ?_⟩) (by assumption) ?_; rotate_left; (focus (intro w hSw; skip; go_simp; (try with_reducible rfl))); (try (refine wpAnyL_norm (by simp only [Act.put, List.setIfInBounds_toArray, List.set_cons_zero, List.set_cons_succ]; rfl) ?_))
  refine wpAnyL_take (i := 1) (v := ?_) rfl (by kernel_rfl) (fun _ _ _ h => h) (Or.inl ⟨by rfl, ?_⟩) (by assumption) ?_; rotate_left; (focus (intro w hSw; skip; go_simp; (try with_reducible rfl))); (try (refine wpAnyL_norm (by simp only [Act.put, List.setIfInBounds_toArray, List.set_cons_zero, List.set_cons_succ]; rfl) ?_))
  refine wpAnyL_take (i := 2) (v := ?_) rfl (by kernel_rfl) (fun _ _ _ h => h) (Or.inl ⟨by rfl, ?_⟩) (by assumption) ?_; rotate_left; (focus (intro w hSw; skip; go_simp; (try with_reducible rfl))); (try (refine wpAnyL_norm (by simp only [Act.put, List.setIfInBounds_toArray, List.set_cons_zero, List.set_cons_succ]; rfl) ?_))
  refine wpAnyL_take (i := 3) (v := ?_) rfl (by kernel_rfl) (fun _ _ _ h => h) (Or.inl ⟨by rfl, ?_⟩) (by assumption) ?_; rotate_left; (focus (intro w hSw; have c : _ = some (Value.map (some I.rb)) := hSw.1.cell 9; go_simp; (try with_reducible rfl))); (try (refine wpAnyL_norm (by simp only [Act.put, List.setIfInBounds_toArray, List.set_cons_zero, List.set_cons_succ]; rfl) ?_))
  refine wpAnyL_take (i := 4) rfl (by kernel_rfl) (fun _ _ _ h => h) (yields_load_at 31 (.tmp 3) rfl ⟨w.heap.size, 0, none⟩ rfl [.int .u32 r1, .int .u32 r2] _ (fun W h => two_cells h.2.1) Tryd.underlying31 rfl infoRgS rfl) (by assumption) ?_; (try (refine wpAnyL_norm (by simp only [Act.put, List.setIfInBounds_toArray, List.set_cons_zero, List.set_cons_succ]; rfl) ?_))
  refine wpAnyL_take (i := 5) (v := ?_) rfl (by kernel_rfl) (fun _ _ _ h => h) (Or.inl ⟨by rfl, ?_⟩) (by assumption) ?_; rotate_left; (focus (intro w hSw; skip; go_simp; (try with_reducible rfl))); (try (refine wpAnyL_norm (by simp only [Act.put, List.setIfInBounds_toArray, List.set_cons_zero, List.set_cons_succ]; rfl) ?_))
  refine wpAnyL_ready (rs := [6]) (by kernel_rfl) (by simp) ?_; refine AllReadyL.cons rfl (fun K hK => ?_) AllReadyL.nil
  refine wp_rstore (.tmp 24) (.tmp 25) (.tmp 26) 53 rfl hHeld.2.2.2.1 70 Tryd.underlying53 hlen (r1, r2) rfl rfl hr hno rfl ?_
  intro w7 hm7 hf7 hs7
  have hHeld7 := hHeld.setR HSEP.out hf7 hm7
  refine hK.out _ _ (fun h => (h (by decide)).elim) (fun _ => ?_); clear hK K; (try (refine wpAnyL_norm (by simp only [Act.put, List.setIfInBounds_toArray, List.set_cons_zero, List.set_cons_succ]; rfl) ?_))
  refine wpAnyL_done (by kernel_rfl) ?_ _
  go_wp2
  go_ret
  exact ⟨rfl, hHeld7⟩
end
end Go.Proofs.YtdbpmojblgmhdaaDoor
