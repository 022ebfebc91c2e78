/-
  HeapApart, of no choices: no two regions that are live or rest have a byte in common; each lies within the heap, its bounds are exact; it is at least as large as was asked for. Condition: the table of math/bits is as the library lays it (the row lists it).
-/



import Derived.Test.YtdbpmojblgmhdaaDoorHAct
import Derived.Test.YtdbpmojblgmhdaaDoorDoor
import Derived.Test.YtdbpmojblgmhdaaDoorEnc
import Derived.Test.YtdbpmojblgmhdaaDoorSrc
import Derived.Deep.CutBlock
import Derived.Deep.DeepCutAuto
set_option linter.unusedVariables false
namespace Go.Proofs.YtdbpmojblgmhdaaDoor
open Go.ChangeShapes Go.WideShapes Go.ChangeAt Go.RowKit
namespace heapApart
theorem Good.exact {own : Rg} {A : List Rg} (h : Good own A) {x : Rg} (hx : x ∈ A) : rdn (x.1 : Int) (expo x.1 (x.1 + x.2)) = x.1 ∧ rup ((x.1 : Int) + x.2) (expo x.1 (x.1 + x.2)) = (x.1 : Int) + x.2 := by
  obtain ⟨a, h1, h2⟩ := h.fit x hx
  have hin := h.inside x hx
  have h4 := h.o4
  have hc : (x.1 : Int) = (a : Int) * (x.1 / a : Nat) := by
    have := Nat.mod_add_div x.1 a
    rw [h2, Nat.zero_add] at this
    rw [← Int.natCast_mul, this]
  have := exact_at (x.2 : Int) x.2 a (x.1 / a : Nat) (by omega) h1 (by rw [← hc]; omega) (by rw [← hc]; omega)
  rw [← hc] at this
  exact this
theorem two_at' {W : World} {g o : Nat} {a b : Value} (h0 : W.cell? ⟨g, o, none⟩ = some a) (h1 : W.cell? ⟨g, o + 1, none⟩ = some b) : ∀ j v, ([a, b] : List Value)[j]? = some v → W.cell? ((⟨g, o, none⟩ : Addr).add j) = some v := fun j v hj => by
  rw [Go.WideShapes.add_plain]
  match j, hj with
  | 0, hj => rw [Nat.add_zero, h0]; exact hj
  | 1, hj => rw [h1]; exact hj
theorem srt_nodup {l : List Rg} (h : l.Pairwise (fun a b => a.1 < b.1)) : l.Nodup := by
  rw [List.nodup_iff_pairwise_ne]
  exact h.imp fun h e => by rw [e] at h; omega
theorem Hp.nodup {w : World} {I : HId} {own : Rg} {L R : List Rg} (h : Hp w I own L R) : (L ++ R).Nodup := by
  rw [List.nodup_append]
  exact ⟨srt_nodup h.sl, srt_nodup h.sr, fun a ha b hb e => h.dj a ha (e ▸ hb)⟩
theorem mal_ge {own : Rg} (ho : own.2 ≤ 262144) {A : List Rg} {size : Nat} {r : Rg} {er : Int} (h : malP own A size = (some r, er)) : size ≤ r.2 ∧ er = 0 := by
  rcases pad_cases size own.2 ho with hv | ⟨pd, al, hv, p1, _⟩
  · unfold malP at h; rw [hv] at h; cases h
  · unfold malP at h
    rw [hv] at h
    simp only [if_true, Int.toNat_natCast] at h
    split at h
    · cases h
    · injection h with h1 h2
      injection h1 with h1
      subst h1
      exact ⟨p1, h2.symm⟩
theorem mal_none {own : Rg} (ho : own.2 ≤ 262144) {A : List Rg} {size : Nat} {er : Int} (h : malP own A size = (none, er)) : (er == 0) = false := by
  rcases pad_cases size own.2 ho with hv | ⟨pd, al, hv, p1, _⟩
  · unfold malP at h; rw [hv] at h
    have := (Prod.mk.inj h).2
    rw [← this]; rfl
  · unfold malP at h
    rw [hv] at h
    simp only [if_true, Int.toNat_natCast] at h
    split at h
    · have := (Prod.mk.inj h).2
      rw [← this]; rfl
    · cases h
set_option maxHeartbeats 2000000 in
set_option maxRecDepth 100000 in
theorem walkN (n : Nat) (hn : n < 20) (a0 : Int) (h00 : 0 ≤ a0) (h01 : a0 ≤ 255) (he : a0 % 20 = n) (a1 : Option Addr) (b off len1 cap1 : Nat) (w : World) (hT : Tab32 w) (h0 : len1 = 0) (hlen : len1 ≤ 9223372036854775807)
    (hc : ∀ i, i < len1 → ∃ z : Nat, w.cell? ⟨b, off + i, none⟩ = some (.int .u8 z) ∧ z < 256) :
    Calls Tryd.prog 4 #[.int .u8 a0, .slice a1 len1 cap1] w fun e w' => e = .returned (.bool true) ∧ Fr [] w w' := by
  skip
  have CW := Lib.hid (works_any w hT)
  have HT := Lib.hid hT
  have HC := Lib.hid hc
  have HL1 := Lib.hid hlen
  obtain ⟨N, hN⟩ : ∃ N, 256 * (1 + n) = N := ⟨_, rfl⟩
  have hz : (256 : Int) * (1 + (n : Int)) = (N : Int) := by omega
  have hNb : N ≤ 5120 ∧ N % 256 = 0 ∧ 0 < N := by omega
  clear hN
  have RG := Lib.hid region_any
  clear hT hc hlen
  go_enter Tryd.func4, Tryd.ntmps4
  go_wp2_with fail
  refine (CW.out).mono ?_
  rintro e w1 ⟨rfl, hf1⟩
  have HF1 := Lib.hid hf1
  clear hf1
  go_wp2_with fail
  try rw [hz]
  have CG := RG.out 512 N w1
  refine CG.mono ?_
  rintro e w2 ⟨rfl, hf2⟩
  have HF2 := Lib.hid (HF1.out.trans0 hf2)
  clear hf2 CG
  go_wp2_with fail
  have hfa : Fr [] w2 (w2.alloc (.cells #[.int .u32 512, .int .u32 N] 31)) := (by repeat (first | exact Fr.refl _ _ | assumption | refine Fr.trans0 ?_ (by assumption) | refine Fr.drewN ?_ _ | refine Fr.alloc ?_ _ | refine Fr.drew ?_))
  have X := Lib.hid (At.new w2 31 #[.int .u32 512, .int .u32 N])
  have CN := hnew_any (w2.alloc (.cells #[.int .u32 512, .int .u32 N] 31)) (512, N) (by show 512 % 256 = 0; decide) hNb.2.1 hNb.2.2 (by dsimp only; omega)
  refine CN.mono ?_
  rintro e w3 ⟨I, rfl, h3, hge, hf3⟩
  have H3 := Lib.hid h3
  have HF3 := Lib.hid ((HF2.out.trans0 hfa).trans0 hf3)
  have X3 := Lib.hid (X.out.fr hf3 (by simp))
  have s2 := HF2.out.size
  have HG := Lib.hid (fun k hk => show w2.heap.size < k from by have := hge k hk; simp at this; omega)
  have HGw := Lib.hid (fun k hk => show w.heap.size ≤ k from by have := HG.out k hk; omega)
  clear h3 hge hf3 hfa CN X
  go_upto_block 0 with (fail)
  go_cut [8] (fun v wx => ∃ (L R : List Rg), Hp wx I (512, N) L R ∧ At wx w2.heap.size 31 #[.int .u32 512, .int .u32 N] ∧ Fr [] w wx)
  case first =>
    go_wp2_with fail
    go_loopw [8] (fun v wr => ∃ (i : Nat) (L R : List Rg), i ≤ 50 ∧ v = .int .i64 i ∧ Hp wr I (512, N) L R ∧ At wr w2.heap.size 31 #[.int .u32 512, .int .u32 N] ∧ Fr [] w wr) (fun v _ => 50 - (intOf v).toNat)
    case atStart => exact ⟨0, [], [], by omega, rfl, H3.out, X3.out, HF3.out⟩
    case round =>
      obtain ⟨i, L, R, hi, rfl, hh, hx, hf⟩ := hrel
      have HH := Lib.hid hh
      have HX := Lib.hid hx
      have HF := Lib.hid hf
      clear hh hx hf X3 H3 HF3 CW
      by_cases hgo : 2 * i + 1 < len1 ∧ i < 50
      · obtain ⟨g1, g2⟩ := hgo
        have q1 : 2 * (i : Int) + 1 < (len1 : Int) := by omega
        have q2 : (i : Int) < 50 := by omega
        exfalso
        omega
      · by_cases h9 : 2 * i + 1 < len1
        · have q1 : 2 * (i : Int) + 1 < (len1 : Int) := by omega
          have q2 : ¬ ((i : Int) < 50) := by omega
          go_wp2
          all_goals (go_meet; exact ⟨L, R, HH.out, HX.out, HF.out⟩)
        · have q1 : ¬ (2 * (i : Int) + 1 < (len1 : Int)) := by omega
          go_wp2
          all_goals (go_meet; exact ⟨L, R, HH.out, HX.out, HF.out⟩)
  case rest =>
    obtain ⟨L, R, hh, hx, hf⟩ := hcut
    rename World => wx
    have HH := Lib.hid hh
    have HX := Lib.hid hx
    have HF := Lib.hid hf
    clear hh hx hf X3 H3 HF3 CW
    have CL := Lib.hid (live_any HH.out)
    go_wp2_with fail
    refine (CL.out).mono ?_
    rintro e w6 ⟨vl, rfl, hol, hf6⟩
    have H6 := HH.out.fr0 hf6
    have CR := Lib.hid (rest_any H6)
    have HLT := Lib.hid HH.out.lt
    have hroom := HH.out.room
    have s6 := hf6.size
    have F6 := Lib.hid (HF.out.trans0 hf6)
    have X6 := Lib.hid (HX.out.fr hf6 (by simp))
    have H6 := Lib.hid H6
    have OL := Lib.hid hol
    have hxB := HX.out.lt
    obtain ⟨B, hB⟩ : ∃ B, wx.heap.size = B := ⟨_, rfl⟩
    rw [hB] at HLT OL s6 hxB
    clear hol hf6 HH HX HF hB
    go_wp2_with fail
    refine (CR.out).mono ?_
    rintro e w7 ⟨vr, rfl, hor, hf7⟩
    have S7 := SrcAt.own hor
    have F7 := Lib.hid (F6.out.trans0 hf7)
    have X7 := Lib.hid (X6.out.fr hf7 (by simp))
    have H7 := Lib.hid (H6.out.fr0 hf7)
    have OL7 := Lib.hid (own_fr0 OL.out hf7)
    have s7 := hf7.size
    obtain ⟨i0, hi, hz0, hz1, hz2⟩ := info_parts infoRg
    have h12 : ∀ u ∈ rgv R, u.oneCell' = true := rgv_one R
    have hl2 := rgv_len R
    have hlL := hroom.2.2.1
    have hlR := hroom.2.2.2.1
    have HROOM := Lib.hid hroom
    obtain ⟨a1', c1', rfl, _⟩ := own_slice OL7.out
    obtain ⟨a2', c2', rfl⟩ := S7.len
    have S7 := Lib.hid S7
    have HI0 := Lib.hid hi
    have HZ := Lib.hid (And.intro hz0 (And.intro hz1 hz2))
    have H12 := Lib.hid h12
    have HL2 := Lib.hid hl2
    clear hor hf7 hi hz0 hz1 hz2 h12 hl2 hroom CR CL
    go_wp2_with (at_builtin; refine wpList_append_src rfl (.tmp 62) (.tmp 64) 34 rfl B 31 i0 (.agg #[.int .u32 0, .int .u32 0]) 2 8 Tryd.underlying34 HI0.out HZ.out.1 HZ.out.2.1 HZ.out.2.2 rfl (by omega) (.slice a1' L.length c1') L.length (rgv L) rfl OL7.out (.slice a2' R.length c2') R.length (rgv R) rfl S7.out HL2.out H12.out (by unfold maxLen; omega) (by omega) (by omega) ?_; intro v3 w8 hown8 hg8 hat8)
    obtain ⟨a9, c9, rfl, _⟩ := own_slice hown8
    have e9 : L.length + R.length = (L ++ R).length := by simp
    rw [e9, ← rgv_append] at hown8
    have hgb : ∀ g, (Value.slice a1' L.length c1').ownBlock = some g → B ≤ g := fun g hg => (OL7.out.lt g hg).1
    have hf8 : Fr (Value.slice a1' L.length c1').ownBlock.toList w7 w8 := Fr.grown hg8
    have hnot : ∀ k, k < B → k ∉ (Value.slice a1' L.length c1').ownBlock.toList := fun k hk hm => by
      have := hgb k (Option.mem_toList.1 hm)
      omega
    have H8 := Lib.hid (H7.out.fr hf8 (fun k hk => hnot k (HLT.out k hk)))
    have X8 := Lib.hid (X7.out.fr hf8 (hnot _ hxB))
    have hwB : w.heap.size ≤ B := by omega
    have F8 := Lib.hid (F7.out.trans hf8 (fun k hk => .inr (by have := hgb k (Option.mem_toList.1 hk); omega)))
    have O8 := Lib.hid hown8
    rw [e9]
    clear hown8 hg8 hat8 hf8 hnot hgb e9 OL7 H7 X7 F7 S7 H6 F6 X6 OL
    obtain ⟨A, hA⟩ : ∃ A, L ++ R = A := ⟨_, rfl⟩
    have HA := Lib.hid hA
    have G := Lib.hid H8.out.h.g
    rw [hA] at O8 G ⊢
    have hAb : A.length ≤ 2000000 := by rw [← hA]; simp; omega
    clear hA
    go_wp2_with fail
    go_loopw [10] (fun v wr => ∃ (i : Nat), i ≤ A.length ∧ v = .int .i64 i ∧ Hp wr I (512, N) L R ∧ At wr w2.heap.size 31 #[.int .u32 512, .int .u32 N] ∧ wr.ownsRow B 31 2 (.slice a9 A.length c9) A.length (rgv A) ∧ Fr [] w wr) (fun v _ => A.length - (intOf v).toNat)
    case atStart => exact ⟨0, by omega, rfl, H8.out, X8.out, O8.out, F8.out⟩
    case round =>
      obtain ⟨i, hi, rfl, hh, hx, ho, hf⟩ := hrel
      have HH := Lib.hid hh
      have HX := Lib.hid hx
      have HF := Lib.hid hf
      have HO := Lib.hid ho
      clear hh hx hf ho H8 X8 O8 F8
      by_cases hil : i < A.length
      · have q1 : (i : Int) < (A.length : Int) := by omega
        obtain ⟨⟨r1, r2⟩, hr⟩ : ∃ r, A[i]? = some r := ⟨_, List.getElem?_eq_getElem hil⟩
        obtain ⟨g, c, hv, hbg, hrow⟩ := row_at HO.out (by intro e; rw [e] at hil; simp at hil)
        cases hv
        have HROW := Lib.hid hrow
        have hmem := List.mem_of_getElem? hr
        have hin := G.out.inside _ hmem
        have hpos := G.out.pos hmem
        have hex := Good.exact G.out hmem
        dsimp only at hin hpos hex
        have HMEM := Lib.hid hmem
        have HR := Lib.hid hr
        have hk : ∀ W, Fr [] wr W → W.cell? ⟨g, i * 2, none⟩ = some (.int .u32 (r1 : Nat)) ∧ W.cell? ⟨g, i * 2 + 1, none⟩ = some (.int .u32 (r2 : Nat)) := fun W hW => by
          obtain ⟨k0, k1⟩ := HROW.out i _ HR.out
          exact ⟨(hW.cell (a := ⟨g, i * 2, none⟩) (lt_of_cell k0) (by simp)).trans k0, (hW.cell (a := ⟨g, i * 2 + 1, none⟩) (lt_of_cell k1) (by simp)).trans k1⟩
        have HK := Lib.hid hk
        have CE := Lib.hid fun W => encode_exact (r1 : Int) ((r1 : Int) + r2) W (by omega) (by omega) (by omega) (by omega) hex.1 hex.2
        have v1 : IntKind.u64.wrap (r1 : Int) = r1 := by simp [IntKind.wrap, IntKind.signed, IntKind.bits]; omega
        have v2 : IntKind.u64.wrap (r2 : Int) = r2 := by simp [IntKind.wrap, IntKind.signed, IntKind.bits]; omega
        have v3 : IntKind.u64.wrap ((r1 : Int) + r2) = (r1 : Int) + r2 := by simp [IntKind.wrap, IntKind.signed, IntKind.bits]; omega
        have v4 : IntKind.u32.wrap ((r1 : Int) + r2) = (r1 : Int) + r2 := by simp [IntKind.wrap, IntKind.signed, IntKind.bits]; omega
        have v5 : IntKind.u32.wrap ((512 : Int) + N) = 512 + N := by simp [IntKind.wrap, IntKind.signed, IntKind.bits]; omega
        have p1 : ((r2 : Int) == 0) = false := by simp; omega
        have p2 : ¬ ((r1 : Int) < 512) := by omega
        have p3 : ¬ ((512 : Int) + N < (r1 : Int) + r2) := by omega
        have p4 : 0 ≤ (i : Int) := by omega
        have p5 : decide ((r1 : Int) < 512) = false := by simp; omega
        have p6 : decide ((512 : Int) + N < (r1 : Int) + r2) = false := by simp; omega
        have hrb : r1 + r2 ≤ 10000 := by omega
        clear hrow hr hk hex hmem hin
        go_wp2_with fail
        refine wp_region_L (fun W => W.cell? ⟨g, i * 2, none⟩ = some (.int .u32 (r1 : Nat)) ∧ W.cell? ⟨g, i * 2 + 1, none⟩ = some (.int .u32 (r2 : Nat))) [] (by kernel_rfl) (HK.out wr (Fr.refl _ _)) fun hHeld => ?_
        refine wpAnyL_take (i := 0) (v := ?_) rfl (by kernel_rfl) (fun _ _ _ h => h) (Or.inl ⟨by rfl, ?_⟩) (by assumption) ?_; rotate_left; (focus (intro w hSw; (obtain ⟨e0, e1⟩ := hSw); go_simp; (try with_reducible rfl))); (try (refine wpAnyL_norm (by simp only [Act.put, List.setIfInBounds_toArray, List.set_cons_zero, List.set_cons_succ]; rfl) ?_))
        refine wpAnyL_take (i := 1) (v := ?_) rfl (by kernel_rfl) (fun _ _ _ h => h) (Or.inl ⟨by rfl, ?_⟩) (by assumption) ?_; rotate_left; (focus (intro w hSw; (obtain ⟨e0, e1⟩ := hSw); go_simp; (try with_reducible rfl))); (try (refine wpAnyL_norm (by simp only [Act.put, List.setIfInBounds_toArray, List.set_cons_zero, List.set_cons_succ]; rfl) ?_))
        refine wpAnyL_take (i := 2) (v := ?_) rfl (by kernel_rfl) (fun _ _ _ h => h) (Or.inl ⟨by rfl, ?_⟩) (by assumption) ?_; rotate_left; (focus (intro w hSw; (obtain ⟨e0, e1⟩ := hSw); go_simp; (try with_reducible rfl))); (try (refine wpAnyL_norm (by simp only [Act.put, List.setIfInBounds_toArray, List.set_cons_zero, List.set_cons_succ]; rfl) ?_))
        refine wpAnyL_take (i := 3) (v := ?_) rfl (by kernel_rfl) (fun _ _ _ h => h) (Or.inl ⟨by rfl, ?_⟩) (by assumption) ?_; rotate_left; (focus (intro w hSw; (obtain ⟨e0, e1⟩ := hSw); go_simp; (try with_reducible rfl))); (try (refine wpAnyL_norm (by simp only [Act.put, List.setIfInBounds_toArray, List.set_cons_zero, List.set_cons_succ]; rfl) ?_))
        refine wpAnyL_take (i := 4) (v := ?_) rfl (by kernel_rfl) (fun _ _ _ h => h) (Or.inl ⟨by rfl, ?_⟩) (by assumption) ?_; rotate_left; (focus (intro w hSw; (obtain ⟨e0, e1⟩ := hSw); go_simp; (try with_reducible rfl))); (try (refine wpAnyL_norm (by simp only [Act.put, List.setIfInBounds_toArray, List.set_cons_zero, List.set_cons_succ]; rfl) ?_))
        refine wpAnyL_take (i := 5) (v := ?_) rfl (by kernel_rfl) (fun _ _ _ h => h) (Or.inl ⟨by rfl, ?_⟩) (by assumption) ?_; rotate_left; (focus (intro w hSw; (obtain ⟨e0, e1⟩ := hSw); go_simp; (try with_reducible rfl))); (try (refine wpAnyL_norm (by simp only [Act.put, List.setIfInBounds_toArray, List.set_cons_zero, List.set_cons_succ]; rfl) ?_))
        refine wpAnyL_take (i := 6) (v := ?_) rfl (by kernel_rfl) (fun _ _ _ h => h) (Or.inl ⟨by rfl, ?_⟩) (by assumption) ?_; rotate_left; (focus (intro w hSw; (obtain ⟨e0, e1⟩ := hSw); go_simp; (try with_reducible rfl))); (try (refine wpAnyL_norm (by simp only [Act.put, List.setIfInBounds_toArray, List.set_cons_zero, List.set_cons_succ]; rfl) ?_))
        refine wpAnyL_take (i := 7) (v := ?_) rfl (by kernel_rfl) (fun _ _ _ h => h) (Or.inl ⟨by rfl, ?_⟩) (by assumption) ?_; rotate_left; (focus (intro w hSw; (obtain ⟨e0, e1⟩ := hSw); go_simp; (try with_reducible rfl))); (try (refine wpAnyL_norm (by simp only [Act.put, List.setIfInBounds_toArray, List.set_cons_zero, List.set_cons_succ]; rfl) ?_))
        refine wpAnyL_take (i := 8) (v := ?_) rfl (by kernel_rfl) (fun _ _ _ h => h) (Or.inl ⟨by rfl, ?_⟩) (by assumption) ?_; rotate_left; (focus (intro w hSw; (obtain ⟨e0, e1⟩ := hSw); go_simp; (try with_reducible rfl))); (try (refine wpAnyL_norm (by simp only [Act.put, List.setIfInBounds_toArray, List.set_cons_zero, List.set_cons_succ]; rfl) ?_))
        refine wpAnyL_take (i := 9) (v := ?_) rfl (by kernel_rfl) (fun _ _ _ h => h) (Or.inl ⟨by rfl, ?_⟩) (by assumption) ?_; rotate_left; (focus (intro w hSw; (obtain ⟨e0, e1⟩ := hSw); go_simp; (try with_reducible rfl))); (try (refine wpAnyL_norm (by simp only [Act.put, List.setIfInBounds_toArray, List.set_cons_zero, List.set_cons_succ]; rfl) ?_))
        refine wpAnyL_take (i := 10) (v := ?_) rfl (by kernel_rfl) (fun _ _ _ h => h) (Or.inl ⟨by rfl, ?_⟩) (by assumption) ?_; rotate_left; (focus (intro w hSw; (obtain ⟨e0, e1⟩ := hSw); go_simp; (try with_reducible rfl))); (try (refine wpAnyL_norm (by simp only [Act.put, List.setIfInBounds_toArray, List.set_cons_zero, List.set_cons_succ]; rfl) ?_))
        refine wpAnyL_take (i := 11) (v := ?_) rfl (by kernel_rfl) (fun _ _ _ h => h) (Or.inl ⟨by rfl, ?_⟩) (by assumption) ?_; rotate_left; (focus (intro w hSw; (obtain ⟨e0, e1⟩ := hSw); go_simp; (try with_reducible rfl))); (try (refine wpAnyL_norm (by simp only [Act.put, List.setIfInBounds_toArray, List.set_cons_zero, List.set_cons_succ]; rfl) ?_))
        refine wpAnyL_take (i := 12) (v := ?_) rfl (by kernel_rfl) (fun _ _ _ h => h) (Or.inl ⟨by rfl, ?_⟩) (by assumption) ?_; rotate_left; (focus (intro w hSw; (obtain ⟨e0, e1⟩ := hSw); go_simp; (try with_reducible rfl))); (try (refine wpAnyL_norm (by simp only [Act.put, List.setIfInBounds_toArray, List.set_cons_zero, List.set_cons_succ]; rfl) ?_))
        refine wpAnyL_take (i := 13) (v := ?_) rfl (by kernel_rfl) (fun _ _ _ h => h) (Or.inl ⟨by rfl, ?_⟩) (by assumption) ?_; rotate_left; (focus (intro w hSw; (obtain ⟨e0, e1⟩ := hSw); go_simp; (try with_reducible rfl))); (try (refine wpAnyL_norm (by simp only [Act.put, List.setIfInBounds_toArray, List.set_cons_zero, List.set_cons_succ]; rfl) ?_))
        refine wpAnyL_take (i := 14) (v := ?_) rfl (by kernel_rfl) (fun _ _ _ h => h) (Or.inl ⟨by rfl, ?_⟩) (by assumption) ?_; rotate_left; (focus (intro w hSw; (obtain ⟨e0, e1⟩ := hSw); go_simp; (try with_reducible rfl))); (try (refine wpAnyL_norm (by simp only [Act.put, List.setIfInBounds_toArray, List.set_cons_zero, List.set_cons_succ]; rfl) ?_))
        refine wpAnyL_take (i := 15) (v := ?_) rfl (by kernel_rfl) (fun _ _ _ h => h) (Or.inl ⟨by rfl, ?_⟩) (by assumption) ?_; rotate_left; (focus (intro w hSw; (obtain ⟨e0, e1⟩ := hSw); go_simp; (try with_reducible rfl))); (try (refine wpAnyL_norm (by simp only [Act.put, List.setIfInBounds_toArray, List.set_cons_zero, List.set_cons_succ]; rfl) ?_))
        refine wpAnyL_take (i := 16) (v := ?_) rfl (by kernel_rfl) (fun _ _ _ h => h) (Or.inl ⟨by rfl, ?_⟩) (by assumption) ?_; rotate_left; (focus (intro w hSw; (obtain ⟨e0, e1⟩ := hSw); go_simp; (try with_reducible rfl))); (try (refine wpAnyL_norm (by simp only [Act.put, List.setIfInBounds_toArray, List.set_cons_zero, List.set_cons_succ]; rfl) ?_))
        refine wpAnyL_take (i := 17) (v := ?_) rfl (by kernel_rfl) (fun _ _ _ h => h) (Or.inl ⟨by rfl, ?_⟩) (by assumption) ?_; rotate_left; (focus (intro w hSw; (obtain ⟨e0, e1⟩ := hSw); go_simp; (try with_reducible rfl))); (try (refine wpAnyL_norm (by simp only [Act.put, List.setIfInBounds_toArray, List.set_cons_zero, List.set_cons_succ]; rfl) ?_))
        refine wpAnyL_ready (rs := [18]) (by kernel_rfl) (by simp) ?_; refine AllReadyL.cons rfl (fun K hK => ?_) AllReadyL.nil
        go_simp
        have CE2 := CE.out wr.drew
        refine CE2.mono ?_
        rintro e w9 ⟨⟨x9, y9, z9, rfl⟩, nd, rfl⟩
        refine hK.out _ _ (fun _ => hHeld) (fun hHeld' => ?_); have hHeld := hHeld' (by decide); clear hHeld' hK K; (try (refine wpAnyL_norm (by simp only [Act.put, List.setIfInBounds_toArray, List.set_cons_zero, List.set_cons_succ]; rfl) ?_))
        refine wpAnyL_take (i := 19) (v := ?_) rfl (by kernel_rfl) (fun _ _ _ h => h) (Or.inl ⟨by rfl, ?_⟩) (by assumption) ?_; rotate_left; (focus (intro w hSw; skip; go_simp; (try with_reducible rfl))); (try (refine wpAnyL_norm (by simp only [Act.put, List.setIfInBounds_toArray, List.set_cons_zero, List.set_cons_succ]; rfl) ?_))
        refine wpAnyL_take (i := 20) (v := ?_) rfl (by kernel_rfl) (fun _ _ _ h => h) (Or.inl ⟨by rfl, ?_⟩) (by assumption) ?_; rotate_left; (focus (intro w hSw; skip; go_simp; (try with_reducible rfl))); (try (refine wpAnyL_norm (by simp only [Act.put, List.setIfInBounds_toArray, List.set_cons_zero, List.set_cons_succ]; rfl) ?_))
        refine wpAnyL_take (i := 21) (v := ?_) rfl (by kernel_rfl) (fun _ _ _ h => h) (Or.inl ⟨by rfl, ?_⟩) (by assumption) ?_; rotate_left; (focus (intro w hSw; skip; go_simp; (try with_reducible rfl))); (try (refine wpAnyL_norm (by simp only [Act.put, List.setIfInBounds_toArray, List.set_cons_zero, List.set_cons_succ]; rfl) ?_))
        refine wpAnyL_take (i := 22) (v := ?_) rfl (by kernel_rfl) (fun _ _ _ h => h) (Or.inl ⟨by rfl, ?_⟩) (by assumption) ?_; rotate_left; (focus (intro w hSw; skip; go_simp; (try with_reducible rfl))); (try (refine wpAnyL_norm (by simp only [Act.put, List.setIfInBounds_toArray, List.set_cons_zero, List.set_cons_succ]; rfl) ?_))
        refine wpAnyL_take (i := 23) (v := ?_) rfl (by kernel_rfl) (fun _ _ _ h => h) (Or.inl ⟨by rfl, ?_⟩) (by assumption) ?_; rotate_left; (focus (intro w hSw; skip; go_simp; (try with_reducible rfl))); (try (refine wpAnyL_norm (by simp only [Act.put, List.setIfInBounds_toArray, List.set_cons_zero, List.set_cons_succ]; rfl) ?_))
        refine wpAnyL_take (i := 24) (v := ?_) rfl (by kernel_rfl) (fun _ _ _ h => h) (Or.inl ⟨by rfl, ?_⟩) (by assumption) ?_; rotate_left; (focus (intro w hSw; skip; go_simp; (try with_reducible rfl))); (try (refine wpAnyL_norm (by simp only [Act.put, List.setIfInBounds_toArray, List.set_cons_zero, List.set_cons_succ]; rfl) ?_))
        refine wpAnyL_take (i := 25) (v := ?_) rfl (by kernel_rfl) (fun _ _ _ h => h) (Or.inl ⟨by rfl, ?_⟩) (by assumption) ?_; rotate_left; (focus (intro w hSw; skip; go_simp; (try with_reducible rfl))); (try (refine wpAnyL_norm (by simp only [Act.put, List.setIfInBounds_toArray, List.set_cons_zero, List.set_cons_succ]; rfl) ?_))
        refine wpAnyL_take (i := 26) (v := ?_) rfl (by kernel_rfl) (fun _ _ _ h => h) (Or.inl ⟨by rfl, ?_⟩) (by assumption) ?_; rotate_left; (focus (intro w hSw; skip; go_simp; (try with_reducible rfl))); (try (refine wpAnyL_norm (by simp only [Act.put, List.setIfInBounds_toArray, List.set_cons_zero, List.set_cons_succ]; rfl) ?_))
        refine wpAnyL_take (i := 27) (v := ?_) rfl (by kernel_rfl) (fun _ _ _ h => h) (Or.inl ⟨by rfl, ?_⟩) (by assumption) ?_; rotate_left; (focus (intro w hSw; skip; go_simp; (try with_reducible rfl))); (try (refine wpAnyL_norm (by simp only [Act.put, List.setIfInBounds_toArray, List.set_cons_zero, List.set_cons_succ]; rfl) ?_))
        refine wpAnyL_take (i := 28) (v := ?_) rfl (by kernel_rfl) (fun _ _ _ h => h) (Or.inl ⟨by rfl, ?_⟩) (by assumption) ?_; rotate_left; (focus (intro w hSw; skip; go_simp; (try with_reducible rfl))); (try (refine wpAnyL_norm (by simp only [Act.put, List.setIfInBounds_toArray, List.set_cons_zero, List.set_cons_succ]; rfl) ?_))
        refine wpAnyL_take (i := 29) (v := ?_) rfl (by kernel_rfl) (fun _ _ _ h => h) (Or.inl ⟨by rfl, ?_⟩) (by assumption) ?_; rotate_left; (focus (intro w hSw; skip; go_simp; (try with_reducible rfl))); (try (refine wpAnyL_norm (by simp only [Act.put, List.setIfInBounds_toArray, List.set_cons_zero, List.set_cons_succ]; rfl) ?_))
        refine wpAnyL_done (by kernel_rfl) ?_ _
        have f9 : Fr [] wr (wr.drew.drewN nd) := ((Fr.refl _ wr).drew).drewN nd
        obtain ⟨w9, hw9⟩ : ∃ W, wr.drew.drewN nd = W := ⟨_, rfl⟩
        rw [hw9] at f9 ⊢
        have X9 := Lib.hid (HX.out.fr f9 (by simp))
        have F9 := Lib.hid f9
        clear hw9 hHeld CE2 f9
        go_wp2_with fail
        refine wp_region_L (fun W => W.cell? ⟨g, i * 2, none⟩ = some (.int .u32 (r1 : Nat)) ∧ W.cell? ⟨g, i * 2 + 1, none⟩ = some (.int .u32 (r2 : Nat)) ∧ W.cell? ⟨w2.heap.size, 0, none⟩ = some (.int .u32 512) ∧ W.cell? ⟨w2.heap.size, 1, none⟩ = some (.int .u32 N)) [] (by kernel_rfl) ⟨(HK.out w9 F9.out).1, (HK.out w9 F9.out).2, X9.out.cell 0, X9.out.cell 1⟩ fun hHeld => ?_
        refine wpAnyL_take (i := 0) (v := ?_) rfl (by kernel_rfl) (fun _ _ _ h => h) (Or.inl ⟨by rfl, ?_⟩) (by assumption) ?_; rotate_left; (focus (intro w hSw; (obtain ⟨e0, e1, e2, e3⟩ := hSw); go_simp; (try with_reducible rfl))); (try (refine wpAnyL_norm (by simp only [Act.put, List.setIfInBounds_toArray, List.set_cons_zero, List.set_cons_succ]; rfl) ?_))
        refine wpAnyL_take (i := 1) (v := ?_) rfl (by kernel_rfl) (fun _ _ _ h => h) (Or.inl ⟨by rfl, ?_⟩) (by assumption) ?_; rotate_left; (focus (intro w hSw; (obtain ⟨e0, e1, e2, e3⟩ := hSw); go_simp; (try with_reducible rfl))); (try (refine wpAnyL_norm (by simp only [Act.put, List.setIfInBounds_toArray, List.set_cons_zero, List.set_cons_succ]; rfl) ?_))
        refine wpAnyL_take (i := 2) (v := ?_) rfl (by kernel_rfl) (fun _ _ _ h => h) (Or.inl ⟨by rfl, ?_⟩) (by assumption) ?_; rotate_left; (focus (intro w hSw; (obtain ⟨e0, e1, e2, e3⟩ := hSw); go_simp; (try with_reducible rfl))); (try (refine wpAnyL_norm (by simp only [Act.put, List.setIfInBounds_toArray, List.set_cons_zero, List.set_cons_succ]; rfl) ?_))
        refine wpAnyL_take (i := 3) (v := ?_) rfl (by kernel_rfl) (fun _ _ _ h => h) (Or.inl ⟨by rfl, ?_⟩) (by assumption) ?_; rotate_left; (focus (intro w hSw; (obtain ⟨e0, e1, e2, e3⟩ := hSw); go_simp; (try with_reducible rfl))); (try (refine wpAnyL_norm (by simp only [Act.put, List.setIfInBounds_toArray, List.set_cons_zero, List.set_cons_succ]; rfl) ?_))
        refine wpAnyL_take (i := 4) (v := ?_) rfl (by kernel_rfl) (fun _ _ _ h => h) (Or.inl ⟨by rfl, ?_⟩) (by assumption) ?_; rotate_left; (focus (intro w hSw; (obtain ⟨e0, e1, e2, e3⟩ := hSw); go_simp; (try with_reducible rfl))); (try (refine wpAnyL_norm (by simp only [Act.put, List.setIfInBounds_toArray, List.set_cons_zero, List.set_cons_succ]; rfl) ?_))
        refine wpAnyL_take (i := 5) (v := ?_) rfl (by kernel_rfl) (fun _ _ _ h => h) (Or.inl ⟨by rfl, ?_⟩) (by assumption) ?_; rotate_left; (focus (intro w hSw; (obtain ⟨e0, e1, e2, e3⟩ := hSw); go_simp; (try with_reducible rfl))); (try (refine wpAnyL_norm (by simp only [Act.put, List.setIfInBounds_toArray, List.set_cons_zero, List.set_cons_succ]; rfl) ?_))
        refine wpAnyL_take (i := 6) (v := ?_) rfl (by kernel_rfl) (fun _ _ _ h => h) (Or.inl ⟨by rfl, ?_⟩) (by assumption) ?_; rotate_left; (focus (intro w hSw; (obtain ⟨e0, e1, e2, e3⟩ := hSw); go_simp; (try with_reducible rfl))); (try (refine wpAnyL_norm (by simp only [Act.put, List.setIfInBounds_toArray, List.set_cons_zero, List.set_cons_succ]; rfl) ?_))
        refine wpAnyL_take (i := 7) (v := ?_) rfl (by kernel_rfl) (fun _ _ _ h => h) (Or.inl ⟨by rfl, ?_⟩) (by assumption) ?_; rotate_left; (focus (intro w hSw; (obtain ⟨e0, e1, e2, e3⟩ := hSw); go_simp; (try with_reducible rfl))); (try (refine wpAnyL_norm (by simp only [Act.put, List.setIfInBounds_toArray, List.set_cons_zero, List.set_cons_succ]; rfl) ?_))
        refine wpAnyL_take (i := 8) (v := ?_) rfl (by kernel_rfl) (fun _ _ _ h => h) (Or.inl ⟨by rfl, ?_⟩) (by assumption) ?_; rotate_left; (focus (intro w hSw; (obtain ⟨e0, e1, e2, e3⟩ := hSw); go_simp; (try with_reducible rfl))); (try (refine wpAnyL_norm (by simp only [Act.put, List.setIfInBounds_toArray, List.set_cons_zero, List.set_cons_succ]; rfl) ?_))
        refine wpAnyL_take (i := 9) (v := ?_) rfl (by kernel_rfl) (fun _ _ _ h => h) (Or.inl ⟨by rfl, ?_⟩) (by assumption) ?_; rotate_left; (focus (intro w hSw; (obtain ⟨e0, e1, e2, e3⟩ := hSw); go_simp; (try with_reducible rfl))); (try (refine wpAnyL_norm (by simp only [Act.put, List.setIfInBounds_toArray, List.set_cons_zero, List.set_cons_succ]; rfl) ?_))
        refine wpAnyL_take (i := 10) (v := ?_) rfl (by kernel_rfl) (fun _ _ _ h => h) (Or.inl ⟨by rfl, ?_⟩) (by assumption) ?_; rotate_left; (focus (intro w hSw; (obtain ⟨e0, e1, e2, e3⟩ := hSw); go_simp; (try with_reducible rfl))); (try (refine wpAnyL_norm (by simp only [Act.put, List.setIfInBounds_toArray, List.set_cons_zero, List.set_cons_succ]; rfl) ?_))
        refine wpAnyL_take (i := 11) (v := ?_) rfl (by kernel_rfl) (fun _ _ _ h => h) (Or.inl ⟨by rfl, ?_⟩) (by assumption) ?_; rotate_left; (focus (intro w hSw; (obtain ⟨e0, e1, e2, e3⟩ := hSw); go_simp; (try with_reducible rfl))); (try (refine wpAnyL_norm (by simp only [Act.put, List.setIfInBounds_toArray, List.set_cons_zero, List.set_cons_succ]; rfl) ?_))
        refine wpAnyL_take (i := 12) (v := ?_) rfl (by kernel_rfl) (fun _ _ _ h => h) (Or.inl ⟨by rfl, ?_⟩) (by assumption) ?_; rotate_left; (focus (intro w hSw; (obtain ⟨e0, e1, e2, e3⟩ := hSw); go_simp; (try with_reducible rfl))); (try (refine wpAnyL_norm (by simp only [Act.put, List.setIfInBounds_toArray, List.set_cons_zero, List.set_cons_succ]; rfl) ?_))
        refine wpAnyL_take (i := 13) (v := ?_) rfl (by kernel_rfl) (fun _ _ _ h => h) (Or.inl ⟨by rfl, ?_⟩) (by assumption) ?_; rotate_left; (focus (intro w hSw; (obtain ⟨e0, e1, e2, e3⟩ := hSw); go_simp; (try with_reducible rfl))); (try (refine wpAnyL_norm (by simp only [Act.put, List.setIfInBounds_toArray, List.set_cons_zero, List.set_cons_succ]; rfl) ?_))
        refine wpAnyL_take (i := 14) (v := ?_) rfl (by kernel_rfl) (fun _ _ _ h => h) (Or.inl ⟨by rfl, ?_⟩) (by assumption) ?_; rotate_left; (focus (intro w hSw; (obtain ⟨e0, e1, e2, e3⟩ := hSw); go_simp; (try with_reducible rfl))); (try (refine wpAnyL_norm (by simp only [Act.put, List.setIfInBounds_toArray, List.set_cons_zero, List.set_cons_succ]; rfl) ?_))
        refine wpAnyL_take (i := 15) (v := ?_) rfl (by kernel_rfl) (fun _ _ _ h => h) (Or.inl ⟨by rfl, ?_⟩) (by assumption) ?_; rotate_left; (focus (intro w hSw; (obtain ⟨e0, e1, e2, e3⟩ := hSw); go_simp; (try with_reducible rfl))); (try (refine wpAnyL_norm (by simp only [Act.put, List.setIfInBounds_toArray, List.set_cons_zero, List.set_cons_succ]; rfl) ?_))
        refine wpAnyL_take (i := 16) (v := ?_) rfl (by kernel_rfl) (fun _ _ _ h => h) (Or.inl ⟨by rfl, ?_⟩) (by assumption) ?_; rotate_left; (focus (intro w hSw; (obtain ⟨e0, e1, e2, e3⟩ := hSw); go_simp; (try with_reducible rfl))); (try (refine wpAnyL_norm (by simp only [Act.put, List.setIfInBounds_toArray, List.set_cons_zero, List.set_cons_succ]; rfl) ?_))
        refine wpAnyL_take (i := 17) (v := ?_) rfl (by kernel_rfl) (fun _ _ _ h => h) (Or.inl ⟨by rfl, ?_⟩) (by assumption) ?_; rotate_left; (focus (intro w hSw; (obtain ⟨e0, e1, e2, e3⟩ := hSw); go_simp; (try with_reducible rfl))); (try (refine wpAnyL_norm (by simp only [Act.put, List.setIfInBounds_toArray, List.set_cons_zero, List.set_cons_succ]; rfl) ?_))
        refine wpAnyL_take (i := 18) (v := ?_) rfl (by kernel_rfl) (fun _ _ _ h => h) (Or.inl ⟨by rfl, ?_⟩) (by assumption) ?_; rotate_left; (focus (intro w hSw; (obtain ⟨e0, e1, e2, e3⟩ := hSw); go_simp; (try with_reducible rfl))); (try (refine wpAnyL_norm (by simp only [Act.put, List.setIfInBounds_toArray, List.set_cons_zero, List.set_cons_succ]; rfl) ?_))
        refine wpAnyL_take (i := 19) (v := ?_) rfl (by kernel_rfl) (fun _ _ _ h => h) (Or.inl ⟨by rfl, ?_⟩) (by assumption) ?_; rotate_left; (focus (intro w hSw; (obtain ⟨e0, e1, e2, e3⟩ := hSw); go_simp; (try with_reducible rfl))); (try (refine wpAnyL_norm (by simp only [Act.put, List.setIfInBounds_toArray, List.set_cons_zero, List.set_cons_succ]; rfl) ?_))
        refine wpAnyL_take (i := 20) (v := ?_) rfl (by kernel_rfl) (fun _ _ _ h => h) (Or.inl ⟨by rfl, ?_⟩) (by assumption) ?_; rotate_left; (focus (intro w hSw; (obtain ⟨e0, e1, e2, e3⟩ := hSw); go_simp; (try with_reducible rfl))); (try (refine wpAnyL_norm (by simp only [Act.put, List.setIfInBounds_toArray, List.set_cons_zero, List.set_cons_succ]; rfl) ?_))
        refine wpAnyL_take (i := 21) (v := ?_) rfl (by kernel_rfl) (fun _ _ _ h => h) (Or.inl ⟨by rfl, ?_⟩) (by assumption) ?_; rotate_left; (focus (intro w hSw; (obtain ⟨e0, e1, e2, e3⟩ := hSw); go_simp; (try with_reducible rfl))); (try (refine wpAnyL_norm (by simp only [Act.put, List.setIfInBounds_toArray, List.set_cons_zero, List.set_cons_succ]; rfl) ?_))
        refine wpAnyL_take (i := 22) (v := ?_) rfl (by kernel_rfl) (fun _ _ _ h => h) (Or.inl ⟨by rfl, ?_⟩) (by assumption) ?_; rotate_left; (focus (intro w hSw; (obtain ⟨e0, e1, e2, e3⟩ := hSw); go_simp; (try with_reducible rfl))); (try (refine wpAnyL_norm (by simp only [Act.put, List.setIfInBounds_toArray, List.set_cons_zero, List.set_cons_succ]; rfl) ?_))
        refine wpAnyL_take (i := 23) (v := ?_) rfl (by kernel_rfl) (fun _ _ _ h => h) (Or.inl ⟨by rfl, ?_⟩) (by assumption) ?_; rotate_left; (focus (intro w hSw; (obtain ⟨e0, e1, e2, e3⟩ := hSw); go_simp; (try with_reducible rfl))); (try (refine wpAnyL_norm (by simp only [Act.put, List.setIfInBounds_toArray, List.set_cons_zero, List.set_cons_succ]; rfl) ?_))
        refine wpAnyL_take (i := 24) (v := ?_) rfl (by kernel_rfl) (fun _ _ _ h => h) (Or.inl ⟨by rfl, ?_⟩) (by assumption) ?_; rotate_left; (focus (intro w hSw; (obtain ⟨e0, e1, e2, e3⟩ := hSw); go_simp; (try with_reducible rfl))); (try (refine wpAnyL_norm (by simp only [Act.put, List.setIfInBounds_toArray, List.set_cons_zero, List.set_cons_succ]; rfl) ?_))
        refine wpAnyL_take (i := 25) (v := ?_) rfl (by kernel_rfl) (fun _ _ _ h => h) (Or.inl ⟨by rfl, ?_⟩) (by assumption) ?_; rotate_left; (focus (intro w hSw; (obtain ⟨e0, e1, e2, e3⟩ := hSw); go_simp; (try with_reducible rfl))); (try (refine wpAnyL_norm (by simp only [Act.put, List.setIfInBounds_toArray, List.set_cons_zero, List.set_cons_succ]; rfl) ?_))
        refine wpAnyL_take (i := 26) (v := ?_) rfl (by kernel_rfl) (fun _ _ _ h => h) (Or.inl ⟨by rfl, ?_⟩) (by assumption) ?_; rotate_left; (focus (intro w hSw; (obtain ⟨e0, e1, e2, e3⟩ := hSw); go_simp; (try with_reducible rfl))); (try (refine wpAnyL_norm (by simp only [Act.put, List.setIfInBounds_toArray, List.set_cons_zero, List.set_cons_succ]; rfl) ?_))
        refine wpAnyL_take (i := 27) (v := ?_) rfl (by kernel_rfl) (fun _ _ _ h => h) (Or.inl ⟨by rfl, ?_⟩) (by assumption) ?_; rotate_left; (focus (intro w hSw; (obtain ⟨e0, e1, e2, e3⟩ := hSw); go_simp; (try with_reducible rfl))); (try (refine wpAnyL_norm (by simp only [Act.put, List.setIfInBounds_toArray, List.set_cons_zero, List.set_cons_succ]; rfl) ?_))
        refine wpAnyL_take (i := 28) (v := ?_) rfl (by kernel_rfl) (fun _ _ _ h => h) (Or.inl ⟨by rfl, ?_⟩) (by assumption) ?_; rotate_left; (focus (intro w hSw; (obtain ⟨e0, e1, e2, e3⟩ := hSw); go_simp; (try with_reducible rfl))); (try (refine wpAnyL_norm (by simp only [Act.put, List.setIfInBounds_toArray, List.set_cons_zero, List.set_cons_succ]; rfl) ?_))
        refine wpAnyL_take (i := 29) (v := ?_) rfl (by kernel_rfl) (fun _ _ _ h => h) (Or.inl ⟨by rfl, ?_⟩) (by assumption) ?_; rotate_left; (focus (intro w hSw; (obtain ⟨e0, e1, e2, e3⟩ := hSw); go_simp; (try with_reducible rfl))); (try (refine wpAnyL_norm (by simp only [Act.put, List.setIfInBounds_toArray, List.set_cons_zero, List.set_cons_succ]; rfl) ?_))
        refine wpAnyL_take (i := 30) (v := ?_) rfl (by kernel_rfl) (fun _ _ _ h => h) (Or.inl ⟨by rfl, ?_⟩) (by assumption) ?_; rotate_left; (focus (intro w hSw; (obtain ⟨e0, e1, e2, e3⟩ := hSw); go_simp; (try with_reducible rfl))); (try (refine wpAnyL_norm (by simp only [Act.put, List.setIfInBounds_toArray, List.set_cons_zero, List.set_cons_succ]; rfl) ?_))
        refine wpAnyL_take (i := 31) (v := ?_) rfl (by kernel_rfl) (fun _ _ _ h => h) (Or.inl ⟨by rfl, ?_⟩) (by assumption) ?_; rotate_left; (focus (intro w hSw; (obtain ⟨e0, e1, e2, e3⟩ := hSw); go_simp; (try with_reducible rfl))); (try (refine wpAnyL_norm (by simp only [Act.put, List.setIfInBounds_toArray, List.set_cons_zero, List.set_cons_succ]; rfl) ?_))
        refine wpAnyL_take (i := 32) (v := ?_) rfl (by kernel_rfl) (fun _ _ _ h => h) (Or.inl ⟨by rfl, ?_⟩) (by assumption) ?_; rotate_left; (focus (intro w hSw; (obtain ⟨e0, e1, e2, e3⟩ := hSw); go_simp; (try with_reducible rfl))); (try (refine wpAnyL_norm (by simp only [Act.put, List.setIfInBounds_toArray, List.set_cons_zero, List.set_cons_succ]; rfl) ?_))
        refine wpAnyL_take (i := 33) (v := ?_) rfl (by kernel_rfl) (fun _ _ _ h => h) (Or.inl ⟨by rfl, ?_⟩) (by assumption) ?_; rotate_left; (focus (intro w hSw; (obtain ⟨e0, e1, e2, e3⟩ := hSw); go_simp; (try with_reducible rfl))); (try (refine wpAnyL_norm (by simp only [Act.put, List.setIfInBounds_toArray, List.set_cons_zero, List.set_cons_succ]; rfl) ?_))
        refine wpAnyL_take (i := 34) (v := ?_) rfl (by kernel_rfl) (fun _ _ _ h => h) (Or.inl ⟨by rfl, ?_⟩) (by assumption) ?_; rotate_left; (focus (intro w hSw; (obtain ⟨e0, e1, e2, e3⟩ := hSw); go_simp; (try with_reducible rfl))); (try (refine wpAnyL_norm (by simp only [Act.put, List.setIfInBounds_toArray, List.set_cons_zero, List.set_cons_succ]; rfl) ?_))
        refine wpAnyL_take (i := 35) (v := ?_) rfl (by kernel_rfl) (fun _ _ _ h => h) (Or.inl ⟨by rfl, ?_⟩) (by assumption) ?_; rotate_left; (focus (intro w hSw; (obtain ⟨e0, e1, e2, e3⟩ := hSw); go_simp; (try with_reducible rfl))); (try (refine wpAnyL_norm (by simp only [Act.put, List.setIfInBounds_toArray, List.set_cons_zero, List.set_cons_succ]; rfl) ?_))
        refine wpAnyL_take (i := 36) (v := ?_) rfl (by kernel_rfl) (fun _ _ _ h => h) (Or.inl ⟨by rfl, ?_⟩) (by assumption) ?_; rotate_left; (focus (intro w hSw; (obtain ⟨e0, e1, e2, e3⟩ := hSw); go_simp; (try with_reducible rfl))); (try (refine wpAnyL_norm (by simp only [Act.put, List.setIfInBounds_toArray, List.set_cons_zero, List.set_cons_succ]; rfl) ?_))
        refine wpAnyL_take (i := 37) (v := ?_) rfl (by kernel_rfl) (fun _ _ _ h => h) (Or.inl ⟨by rfl, ?_⟩) (by assumption) ?_; rotate_left; (focus (intro w hSw; (obtain ⟨e0, e1, e2, e3⟩ := hSw); go_simp; (try with_reducible rfl))); (try (refine wpAnyL_norm (by simp only [Act.put, List.setIfInBounds_toArray, List.set_cons_zero, List.set_cons_succ]; rfl) ?_))
        refine wpAnyL_take (i := 38) (v := ?_) rfl (by kernel_rfl) (fun _ _ _ h => h) (Or.inl ⟨by rfl, ?_⟩) (by assumption) ?_; rotate_left; (focus (intro w hSw; (obtain ⟨e0, e1, e2, e3⟩ := hSw); go_simp; (try with_reducible rfl))); (try (refine wpAnyL_norm (by simp only [Act.put, List.setIfInBounds_toArray, List.set_cons_zero, List.set_cons_succ]; rfl) ?_))
        refine wpAnyL_take (i := 39) (v := ?_) rfl (by kernel_rfl) (fun _ _ _ h => h) (Or.inl ⟨by rfl, ?_⟩) (by assumption) ?_; rotate_left; (focus (intro w hSw; (obtain ⟨e0, e1, e2, e3⟩ := hSw); go_simp; (try with_reducible rfl))); (try (refine wpAnyL_norm (by simp only [Act.put, List.setIfInBounds_toArray, List.set_cons_zero, List.set_cons_succ]; rfl) ?_))
        refine wpAnyL_take (i := 40) (v := ?_) rfl (by kernel_rfl) (fun _ _ _ h => h) (Or.inl ⟨by rfl, ?_⟩) (by assumption) ?_; rotate_left; (focus (intro w hSw; (obtain ⟨e0, e1, e2, e3⟩ := hSw); go_simp; (try with_reducible rfl))); (try (refine wpAnyL_norm (by simp only [Act.put, List.setIfInBounds_toArray, List.set_cons_zero, List.set_cons_succ]; rfl) ?_))
        refine wpAnyL_take (i := 41) (v := ?_) rfl (by kernel_rfl) (fun _ _ _ h => h) (Or.inl ⟨by rfl, ?_⟩) (by assumption) ?_; rotate_left; (focus (intro w hSw; (obtain ⟨e0, e1, e2, e3⟩ := hSw); go_simp; (try with_reducible rfl))); (try (refine wpAnyL_norm (by simp only [Act.put, List.setIfInBounds_toArray, List.set_cons_zero, List.set_cons_succ]; rfl) ?_))
        refine wpAnyL_take (i := 42) (v := ?_) rfl (by kernel_rfl) (fun _ _ _ h => h) (Or.inl ⟨by rfl, ?_⟩) (by assumption) ?_; rotate_left; (focus (intro w hSw; (obtain ⟨e0, e1, e2, e3⟩ := hSw); go_simp; (try with_reducible rfl))); (try (refine wpAnyL_norm (by simp only [Act.put, List.setIfInBounds_toArray, List.set_cons_zero, List.set_cons_succ]; rfl) ?_))
        refine wpAnyL_done (by kernel_rfl) ?_ _
        have f10 : Fr [] wr w9.drew := F9.out.drew
        obtain ⟨w10, hw10⟩ : ∃ W, w9.drew = W := ⟨_, rfl⟩
        rw [hw10] at f10 ⊢
        have HH10 := Lib.hid (HH.out.fr0 f10)
        have X10 := Lib.hid (HX.out.fr f10 (by simp))
        have O10 := Lib.hid (own_fr0 HO.out f10)
        have F10 := Lib.hid f10
        have FF10 := Lib.hid (HF.out.trans0 f10)
        clear hw10 hHeld f10 v1 v2 v3 v4 v5 p1 p2 p3 p5 p6 X9 CE
        go_wp2_with fail
        go_loopw [16] (fun v wq => ∃ (k : Nat), k ≤ i ∧ v = .int .i64 k ∧ Fr [] wr wq) (fun v _ => i - (intOf v).toNat)
        case atStart => exact ⟨0, by omega, rfl, F10.out⟩
        case round =>
          rename World => wq
          obtain ⟨k, hki, rfl, hfq⟩ := hrel
          have FQ := Lib.hid hfq
          clear hfq
          by_cases hlt : k < i
          · have q2 : (k : Int) < (i : Int) := by omega
            have q3 : (k : Int) < (A.length : Int) := by omega
            have q5 : 0 ≤ (k : Int) := by omega
            obtain ⟨⟨s1, s2⟩, hs⟩ : ∃ r, A[k]? = some r := ⟨_, List.getElem?_eq_getElem (by omega)⟩
            have hcom : decide (max r1 s1 < min (r1 + r2) (s1 + s2)) = false := by
              have hne : ((r1, r2) : Rg) ≠ (s1, s2) := fun e => by
                have hnd := Hp.nodup HH.out
                rw [HA.out] at hnd
                have h1 := HR.out
                have h2 := hs
                rw [List.getElem?_eq_getElem hil] at h1
                rw [List.getElem?_eq_getElem (by omega : k < A.length)] at h2
                injection h1 with h1
                injection h2 with h2
                exact (List.pairwise_iff_getElem.1 (List.nodup_iff_pairwise_ne.1 hnd)) k i (by omega) hil hlt (by rw [h1, h2, e])
              have := G.out.apart _ HMEM.out _ (List.mem_of_getElem? hs) hne
              dsimp only at this
              simp
              omega
            have hsin := G.out.inside _ (List.mem_of_getElem? hs)
            have ho4 := G.out.o4
            dsimp only at hsin ho4
            have CC := fun W => common_any (r1, r2) (s1, s2) (by unfold Ok32; dsimp only; omega) (by unfold Ok32; dsimp only; omega) W
            dsimp only at CC
            rw [hcom] at CC
            have CC := Lib.hid CC
            have hk2 : ∀ W, Fr [] wr W → W.cell? ⟨g, k * 2, none⟩ = some (.int .u32 (s1 : Nat)) ∧ W.cell? ⟨g, k * 2 + 1, none⟩ = some (.int .u32 (s2 : Nat)) := fun W hW => by
              obtain ⟨k0, k1⟩ := HROW.out k _ hs
              exact ⟨(hW.cell (a := ⟨g, k * 2, none⟩) (lt_of_cell k0) (by simp)).trans k0, (hW.cell (a := ⟨g, k * 2 + 1, none⟩) (lt_of_cell k1) (by simp)).trans k1⟩
            have HK2 := Lib.hid hk2
            clear hk2 hcom hs hsin ho4
            go_wp2_with fail
            refine wp_region_L (fun W => (W.cell? ⟨g, i * 2, none⟩ = some (.int .u32 (r1 : Nat)) ∧ W.cell? ⟨g, i * 2 + 1, none⟩ = some (.int .u32 (r2 : Nat))) ∧ W.cell? ⟨g, k * 2, none⟩ = some (.int .u32 (s1 : Nat)) ∧ W.cell? ⟨g, k * 2 + 1, none⟩ = some (.int .u32 (s2 : Nat))) [8] (by kernel_rfl) ⟨HK.out wq FQ.out, HK2.out wq FQ.out⟩ fun hHeld => ?_
            refine wpAnyL_take (i := 0) (v := ?_) rfl (by kernel_rfl) (fun _ _ _ h => h) (Or.inl ⟨by rfl, ?_⟩) (by assumption) ?_; rotate_left; (focus (intro w hSw; skip; go_simp; (try with_reducible rfl))); (try (refine wpAnyL_norm (by simp only [Act.put, List.setIfInBounds_toArray, List.set_cons_zero, List.set_cons_succ]; rfl) ?_))
            refine wpAnyL_take (i := 1) (v := ?_) rfl (by kernel_rfl) (fun _ _ _ h => h) (Or.inl ⟨by rfl, ?_⟩) (by assumption) ?_; rotate_left; (focus (intro w hSw; skip; go_simp; (try with_reducible rfl))); (try (refine wpAnyL_norm (by simp only [Act.put, List.setIfInBounds_toArray, List.set_cons_zero, List.set_cons_succ]; rfl) ?_))
            refine wpAnyL_take (i := 2) (v := ?_) rfl (by kernel_rfl) (fun _ _ _ h => h) (Or.inl ⟨by rfl, ?_⟩) (by assumption) ?_; rotate_left; (focus (intro w hSw; skip; go_simp; (try with_reducible rfl))); (try (refine wpAnyL_norm (by simp only [Act.put, List.setIfInBounds_toArray, List.set_cons_zero, List.set_cons_succ]; rfl) ?_))
            refine wpAnyL_take (i := 3) rfl (by kernel_rfl) (fun _ _ _ h => h) (yields_load_at 31 (.tmp 147) rfl ⟨g, i * 2, none⟩ rfl [.int .u32 r1, .int .u32 r2] _ (fun W h => two_at' h.1.1 h.1.2) Tryd.underlying31 rfl infoRgS rfl) (by assumption) ?_; (try (refine wpAnyL_norm (by simp only [Act.put, List.setIfInBounds_toArray, List.set_cons_zero, List.set_cons_succ]; rfl) ?_))
            refine wpAnyL_take (i := 4) (v := ?_) rfl (by kernel_rfl) (fun _ _ _ h => h) (Or.inl ⟨by rfl, ?_⟩) (by assumption) ?_; rotate_left; (focus (intro w hSw; skip; go_simp; (try with_reducible rfl))); (try (refine wpAnyL_norm (by simp only [Act.put, List.setIfInBounds_toArray, List.set_cons_zero, List.set_cons_succ]; rfl) ?_))
            refine wpAnyL_take (i := 5) (v := ?_) rfl (by kernel_rfl) (fun _ _ _ h => h) (Or.inl ⟨by rfl, ?_⟩) (by assumption) ?_; rotate_left; (focus (intro w hSw; skip; go_simp; (try with_reducible rfl))); (try (refine wpAnyL_norm (by simp only [Act.put, List.setIfInBounds_toArray, List.set_cons_zero, List.set_cons_succ]; rfl) ?_))
            refine wpAnyL_take (i := 6) (v := ?_) rfl (by kernel_rfl) (fun _ _ _ h => h) (Or.inl ⟨by rfl, ?_⟩) (by assumption) ?_; rotate_left; (focus (intro w hSw; skip; go_simp; (try with_reducible rfl))); (try (refine wpAnyL_norm (by simp only [Act.put, List.setIfInBounds_toArray, List.set_cons_zero, List.set_cons_succ]; rfl) ?_))
            refine wpAnyL_take (i := 7) rfl (by kernel_rfl) (fun _ _ _ h => h) (yields_load_at 31 (.tmp 151) rfl ⟨g, k * 2, none⟩ rfl [.int .u32 s1, .int .u32 s2] _ (fun W h => two_at' h.2.1 h.2.2) Tryd.underlying31 rfl infoRgS rfl) (by assumption) ?_; (try (refine wpAnyL_norm (by simp only [Act.put, List.setIfInBounds_toArray, List.set_cons_zero, List.set_cons_succ]; rfl) ?_))
            refine wpAnyL_ready (rs := [8]) (by kernel_rfl) (by simp) ?_; refine AllReadyL.cons rfl (fun K hK => ?_) AllReadyL.nil
            go_simp
            have CC2 := CC.out wq.drew
            refine CC2.mono ?_
            rintro e w11 ⟨rfl, hf11⟩
            have F11 := Lib.hid (FQ.out.trans0 ((((Fr.refl [] wq).drew).trans0 hf11)))
            refine hK.out _ _ (fun h => (h (by decide)).elim) (fun _ => ?_); clear hK K; (try (refine wpAnyL_norm (by simp only [Act.put, List.setIfInBounds_toArray, List.set_cons_zero, List.set_cons_succ]; rfl) ?_))
            refine wpAnyL_done (by kernel_rfl) ?_ _
            clear hf11 CC2 hHeld
            go_wp2
            go_roundw
            case rel => exact ⟨k + 1, by omega, by go_num, F11.out⟩
            case measure => simp [intOf]; omega
          · obtain rfl : k = i := by omega
            have HHq := Lib.hid (HH.out.fr0 FQ.out)
            have Xq := Lib.hid (HX.out.fr FQ.out (by simp))
            have Oq := Lib.hid (own_fr0 HO.out FQ.out)
            have Fq := Lib.hid (HF.out.trans0 FQ.out)
            go_wp2
            go_roundw
            case rel => exact ⟨k + 1, by omega, by go_num, HHq.out, Xq.out, Oq.out, Fq.out⟩
            case measure => simp [intOf]; omega
      · obtain rfl : i = A.length := by omega
        clear hil HO
        go_wp2_with fail
        go_loopw [17] (fun v wr => ∃ (j : Nat) (L R : List Rg), j ≤ 19 ∧ v = .int .u32 (1 + 37 * j : Nat) ∧ Hp wr I (512, N) L R ∧ Fr [] w wr) (fun v _ => 800 - (intOf v).toNat)
        case atStart => exact ⟨0, L, R, by omega, rfl, HH.out, HF.out⟩
        case round =>
          rename World => wq
          obtain ⟨j, L2, R2, hj, rfl, hh, hf⟩ := hrel
          have HH2 := Lib.hid hh
          have HF2 := Lib.hid hf
          clear hh hf HH HX HF
          obtain ⟨m, hm⟩ : ∃ m, 1 + 37 * j = m := ⟨_, rfl⟩
          rw [hm]
          by_cases hj2 : j < 19
          · have q1 : (m : Int) < 700 := by omega
            have CM := malloc_any HH2.out (HT.out.fr HF2.out (by simp)) (size := m) (by omega)
            have HTO : (512, N).2 ≤ 262144 := by dsimp only; omega
            rcases hmo : malP (512, N) (L2 ++ R2) m with ⟨_ | ⟨r1, r2⟩, er⟩
            · rw [hmo] at CM
              have p1 := mal_none HTO hmo
              have CM := Lib.hid CM
              go_wp2_with fail
              refine (CM.out).mono ?_
              rintro e v3 ⟨rfl, h3, hf3⟩
              have H3 := Lib.hid h3
              have F3 := Lib.hid (HF2.out.trans hf3 (fun k hk => .inr (HGw.out k hk)))
              clear h3 hf3 CM
              have z0 : ((0 : Nat) : Int) = 0 := rfl
              simp only [rv, Option.getD_none, z0]
              have hfa : Fr [] v3 (v3.alloc (.cells #[.int .u32 0, .int .u32 0] 31)) := (by repeat (first | exact Fr.refl _ _ | assumption | refine Fr.trans0 ?_ (by assumption) | refine Fr.drewN ?_ _ | refine Fr.alloc ?_ _ | refine Fr.drew ?_))
              have H4 := Lib.hid (H3.out.fr0 hfa)
              have F4 := Lib.hid (F3.out.trans0 hfa)
              clear hfa
              go_wp2
              go_roundw
              case rel => exact ⟨j + 1, L2, R2, by omega, by rw [show ((1 + 37 * (j + 1) : Nat) : Int) = (m : Int) + 37 by omega], H4.out, F4.out⟩
              case measure => simp [intOf]; omega
            · rw [hmo] at CM
              obtain ⟨p1, p2⟩ := mal_ge HTO hmo
              subst p2
              dsimp only at p1
              have q5 : ¬ ((r2 : Int) < (m : Int)) := by omega
              have q6 : decide ((r2 : Int) < (m : Int)) = false := by simp; omega
              have CM := Lib.hid CM
              go_wp2_with fail
              refine (CM.out).mono ?_
              rintro e v3 ⟨rfl, h3, hf3⟩
              simp only [rv, Option.getD_some]
              have F3 := Lib.hid (HF2.out.trans hf3 (fun k hk => .inr (HGw.out k hk)))
              have hlt3 := h3.lt
              obtain ⟨v4, hv4⟩ : ∃ W, v3.alloc (.cells #[.int .u32 (r1 : Nat), .int .u32 (r2 : Nat)] 31) = W := ⟨_, rfl⟩
              have hfa : Fr [] v3 v4 := by rw [← hv4]; exact (by repeat (first | exact Fr.refl _ _ | assumption | refine Fr.trans0 ?_ (by assumption) | refine Fr.drewN ?_ _ | refine Fr.alloc ?_ _ | refine Fr.drew ?_))
              have Y := Lib.hid (show At v4 v3.heap.size 31 #[.int .u32 (r1 : Nat), .int .u32 (r2 : Nat)] by rw [← hv4]; exact At.new _ _ _)
              have H4 := Lib.hid (show Hp v4 I (512, N) (insS L2 (r1, r2)) R2 from h3.fr0 hfa)
              have F4 := Lib.hid (F3.out.trans0 hfa)
              have y0 := Y.out.cell 0
              have y1 := Y.out.cell 1
              simp only [List.getElem?_toArray, List.getElem?_cons_zero, List.getElem?_cons_succ] at y0 y1
              have CF := Lib.hid (free_yes (r := (r1, r2)) H4.out ((insS_mem _ _ _).2 (.inl rfl)))
              have HL3 := Lib.hid hlt3
              clear h3 hf3 hfa CM hlt3
              go_wp2_with fail
              refine (CF.out).mono ?_
              rintro e v5 ⟨rfl, h5, hf5⟩
              have Y5 := Y.out.fr hf5 (fun hk => by have := HL3.out _ hk; omega)
              have y0 := Y5.cell 0
              have y1 := Y5.cell 1
              simp only [List.getElem?_toArray, List.getElem?_cons_zero, List.getElem?_cons_succ] at y0 y1
              have F5 := Lib.hid (F4.out.trans hf5 (fun k hk => .inr (HGw.out k hk)))
              have CR := Lib.hid (release_yes (r := (r1, r2)) h5 ((insS_mem _ _ _).2 (.inl rfl)))
              clear h5 hf5 Y5 CF
              go_wp2_with fail
              refine (CR.out).mono ?_
              rintro e v6 ⟨rfl, h6, hf6⟩
              have H6 := Lib.hid h6
              have F6 := Lib.hid (F5.out.trans hf6 (fun k hk => .inr (HGw.out k hk)))
              clear h6 hf6 CR
              go_wp2
              go_roundw
              case rel => exact ⟨j + 1, _, _, by omega, by rw [show ((1 + 37 * (j + 1) : Nat) : Int) = (m : Int) + 37 by omega], H6.out, F6.out⟩
              case measure => simp [intOf]; omega
          · obtain rfl : j = 19 := by omega
            have q1 : ¬ ((m : Int) < 700) := by omega
            go_wp2
            go_ret
            exact ⟨rfl, HF2.out⟩
end heapApart
end Go.Proofs.YtdbpmojblgmhdaaDoor
