/-
  Bytes as a list of numbers below 256: strings of them, cells of them; conversions between strings and slices of bytes; numbers as bytes. Condition: lengths that are ints.
-/

import Derived.Test.YtilgklpponaoeaaBase
import Derived.Test.YtilgklpponaoeaaCells
import Derived.Laws.IdiomStrings
import Derived.Laws.Concat
set_option linter.unusedVariables false
namespace Go.Proofs.Ytilgklpponaoeaa
open Go.ChangeShapes Go.WideShapes Go.ChangeAt Go.RowKit
theorem At.nw {w : World} {g : Nat} {t : TypeId} {cs : Array Value} (h : g = w.heap.size) : At (w.alloc (.cells cs t)) g t cs := by subst h; exact At.new w t cs
def BS (l : List Nat) : ByteArray := ⟨(l.map UInt8.ofNat).toArray⟩
def strV (l : List Nat) : Value := .string (BS l)
def bys (l : List Nat) : List Value := l.map fun (n : Nat) => .int .u8 (n : Int)
def Byt (l : List Nat) : Prop := ∀ n ∈ l, n < 256
theorem BS_size (l : List Nat) : (BS l).size = l.length := by unfold BS ByteArray.size; simp
theorem BS_append (a b : List Nat) : BS a ++ BS b = BS (a ++ b) := by
  unfold BS
  apply ByteArray.ext
  simp [ByteArray.data_append]
theorem BS_nil : BS [] = ⟨#[]⟩ := rfl
theorem bys_len (l : List Nat) : (bys l).length = l.length := by unfold bys; simp
theorem bys_append (a b : List Nat) : bys (a ++ b) = bys a ++ bys b := by unfold bys; simp
theorem bys_get (l : List Nat) (i : Nat) (n : Nat) (h : l[i]? = some n) : (bys l)[i]? = some (.int .u8 (n : Int)) := by unfold bys; rw [List.getElem?_map, h]; rfl
theorem bys_take (l : List Nat) (n : Nat) : (bys l).take n = bys (l.take n) := by unfold bys; rw [List.map_take]
theorem bys_drop (l : List Nat) (n : Nat) : (bys l).drop n = bys (l.drop n) := by unfold bys; rw [List.map_drop]
theorem bys_set (l : List Nat) (i n : Nat) : (bys l).set i (.int .u8 (n : Int)) = bys (l.set i n) := by unfold bys; rw [List.map_set]
theorem bys_one (l : List Nat) : ∀ v ∈ bys l, v.oneCell' = true := fun v hv => by
  unfold bys at hv
  obtain ⟨n, _, rfl⟩ := List.mem_map.1 hv
  rfl
theorem Byt.take {l : List Nat} (h : Byt l) (n : Nat) : Byt (l.take n) := fun x hx => h x (List.mem_of_mem_take hx)
theorem Byt.drop {l : List Nat} (h : Byt l) (n : Nat) : Byt (l.drop n) := fun x hx => h x (List.mem_of_mem_drop hx)
theorem Byt.append {a b : List Nat} (h : Byt a) (h2 : Byt b) : Byt (a ++ b) := fun x hx => (List.mem_append.1 hx).elim (h x) (h2 x)
theorem Byt.set {l : List Nat} (h : Byt l) (i n : Nat) (hn : n < 256) : Byt (l.set i n) := fun x hx => by
  rcases List.mem_or_eq_of_mem_set hx with h1 | rfl
  · exact h x h1
  · exact hn
theorem Byt.rep (n : Nat) : Byt (List.replicate n 0) := fun x hx => by rw [(List.mem_replicate.1 hx).2]; omega
theorem Byt.at_ {l : List Nat} (h : Byt l) (i n : Nat) (hi : l[i]? = some n) : n < 256 := h n (List.mem_of_getElem? hi)
/-- Each string is of bytes. -/
theorem str_of (s : ByteArray) : ∃ l, Byt l ∧ s = BS l := by
  refine ⟨s.data.toList.map UInt8.toNat, fun n hn => ?_, ?_⟩
  · obtain ⟨b, _, rfl⟩ := List.mem_map.1 hn
    exact b.toNat_lt
  · unfold BS
    apply ByteArray.ext
    have e : (UInt8.ofNat ∘ UInt8.toNat) = id := by funext b; simp
    simp [e]
theorem u8_back (n : Nat) (h : n < 256) : (UInt8.ofNat n).toNat = n := by simp; omega
theorem BS_inj {a b : List Nat} (ha : Byt a) (hb : Byt b) (h : BS a = BS b) : a = b := by
  have h1 : a.map UInt8.ofNat = b.map UInt8.ofNat := by
    have := congrArg (fun s : ByteArray => s.data.toList) h
    simpa [BS] using this
  have h2 := congrArg (List.map UInt8.toNat) h1
  rw [List.map_map, List.map_map] at h2
  have key : ∀ l, Byt l → l.map (UInt8.toNat ∘ UInt8.ofNat) = l := fun l hl => by
    conv => rhs; rw [← List.map_id l]
    exact List.map_congr_left fun n hn => u8_back n (hl n hn)
  rwa [key a ha, key b hb] at h2
/-- Where bytes lie, or there are none. -/
def BIn (w : World) (a : Option Addr) (l : List Nat) : Prop := l = [] ∨ ∃ g off, a = some ⟨g, off, none⟩ ∧ g < w.heap.size ∧ ∀ j v, (bys l)[j]? = some v → w.cell? ⟨g, off + j, none⟩ = some v
theorem BIn.fr {w w' : World} {a : Option Addr} {l : List Nat} (h : BIn w a l) (f : Fr [] w w') : BIn w' a l := by
  rcases h with h | ⟨g, off, e, hg, hc⟩
  · exact .inl h
  · exact .inr ⟨g, off, e, Nat.lt_of_lt_of_le hg f.size, fun j v hv => (f.cell (a := ⟨g, off + j, none⟩) hg (by simp)).trans (hc j v hv)⟩
section
variable {P : Program} {ops : Array Oper} {rest : List Oper} {o : Oper} {a : Act} {w : World} {Q : Exit → Act → World → Prop} {K : Act → World → Prop}
theorem run_str (src dst e : TypeId) (hs : P.underlying src = some (.slice e)) (he : P.underlying e = some (.int .u8)) (hd : P.underlying dst = some .string) (w : World) (x : Option Addr) (n cap : Nat) (l : List Nat) (hl : l.length = n) (hb : Byt l) (hi : BIn w x l) (hx : x = none → n = 0) :
    (convert src dst (.slice x n cap)).run P w = .ok (strV l) w := by
  have hd0 : (l.map UInt8.ofNat).length = n := by simpa using hl
  rcases x with _ | ad
  · obtain rfl := hx rfl
    obtain rfl := List.eq_nil_of_length_eq_zero hl
    rw [run_convert_bytes_string w src dst e none 0 cap hs he hd]
    simp [Conv.bytesToString, strV, BS]
    rfl
  · have key := run_convert_bytes_back (P := P) w src dst e ad cap (l.map UInt8.ofNat) hs he hd (fun j hj => by
      have hj2 : j < l.length := by simpa using hj
      rcases hi with h0 | ⟨g, off, e1, _, hc⟩
      · subst h0; simp at hj2
      · injection e1 with e1
        subst e1
        have := hc j _ (bys_get l j _ (List.getElem?_eq_getElem hj2))
        rw [Go.WideShapes.add_plain, this, List.getElem_map, u8_back _ (hb _ (List.getElem_mem hj2))])
    rw [hd0] at key
    exact key
theorem wp_str {src dst : TypeId} (hs' : ∃ e, P.underlying src = some (.slice e) ∧ P.underlying e = some (.int .u8)) (hd : P.underlying dst = some .string) (x : Operand) (ho : o.op = .convert src dst x) (ad : Option Addr) (n cap : Nat) (hx : a.eval x = .slice ad n cap) (l : List Nat) (hl : l.length = n) (hb : Byt l) (hi : BIn w ad l) (hn : ad = none → n = 0)
    (h : K (a.put o.dst (strV l)) w) : o.wp P a w K Q := by
  obtain ⟨e, hs, he⟩ := hs'
  unfold Oper.wp execOp
  simp only [ho, hx, Sem.run_bind, Sem.run_pure, Result.andThen_ok, run_str src dst e hs he hd w ad n cap l hl hb hi hn]
  exact h
theorem wpList_str {src dst : TypeId} (hgd : Region.wanted o (yielded ops a.tmps) = true) (hs' : ∃ e, P.underlying src = some (.slice e) ∧ P.underlying e = some (.int .u8)) (hd : P.underlying dst = some .string) (x : Operand) (ho : o.op = .convert src dst x) (ad : Option Addr) (n cap : Nat) (hx : a.eval x = .slice ad n cap) (l : List Nat) (hl : l.length = n) (hb : Byt l) (hi : BIn w ad l) (hn : ad = none → n = 0)
    (h : wpList P ops Q rest (a.put o.dst (strV l)) w) : wpList P ops Q (o :: rest) a w :=
  wpList_want hgd fun _ hK => wp_str hs' hd x ho ad n cap hx l hl hb hi hn (hK _ _ h)
theorem wp_bytes {src dst : TypeId} (hs : P.underlying src = some .string) (hd' : ∃ e, P.underlying dst = some (.slice e) ∧ P.underlying e = some (.int .u8)) (x : Operand) (ho : o.op = .convert src dst x) (l : List Nat) (hb : Byt l) (hlen : l.length ≤ 1000000) (hx : a.eval x = strV l)
    (h : ∀ w' g cap, w.heap.size ≤ g → l.length ≤ cap → cap ≤ 9223372036854775807 → (∀ j v, (bys l)[j]? = some v → w'.cell? ⟨g, j, none⟩ = some v) → Fr [] w w' → g < w'.heap.size → K (a.put o.dst (.slice (some ⟨g, 0, none⟩) l.length cap)) w') : o.wp P a w K Q := by
  obtain ⟨e, hd, he⟩ := hd'
  have hr := run_bytes_of_string (P := P) w src dst e (BS l) hs hd he
  unfold Oper.wp execOp
  simp only [ho, hx, strV, Sem.run_bind, Sem.run_pure, Result.andThen_ok, hr]
  have hge := grownCap_ge w (BS l).size 0 e
  rw [BS_size] at hge
  have hsz : (BS l).size = l.length := BS_size l
  have hf : Fr [] w (w.drew.alloc (.cells (bytesRow (BS l) (grownCap w (BS l).size 0 e)) e ((bytesRow (BS l) (grownCap w (BS l).size 0 e)).size, (bytesRow (BS l) (grownCap w (BS l).size 0 e)).size + 1))) := (Fr.refl _ _).drew.alloc _
  have hK := h _ w.heap.size (grownCap w (BS l).size 0 e) (Nat.le_refl _) (by rw [hsz]; exact hge) (grownCap_le_maxLen w _ 0 e (by rw [hsz]; unfold maxLen; omega)) (fun j v hv => by
    have hj : j < l.length := by have := (List.getElem?_eq_some_iff.1 hv).1; rwa [bys_len] at this
    have h1 := bytesRow_at (BS l) (grownCap w (BS l).size 0 e) j (by unfold BS; simpa using hj)
    rw [bys_get l j _ (List.getElem?_eq_getElem hj)] at hv
    injection hv with hv
    refine (World.cell?_alloc_mark w.drew _ _ _ j).trans ?_
    rw [h1, ← hv]
    congr 2
    unfold BS
    simp only [List.getElem_toArray, List.getElem_map, u8_back _ (hb _ (List.getElem_mem hj))]) hf (by simp)
  rw [← hsz] at hK
  exact hK
theorem wpList_bytes {src dst : TypeId} (hgd : Region.wanted o (yielded ops a.tmps) = true) (hs : P.underlying src = some .string) (hd' : ∃ e, P.underlying dst = some (.slice e) ∧ P.underlying e = some (.int .u8)) (x : Operand) (ho : o.op = .convert src dst x) (l : List Nat) (hb : Byt l) (hlen : l.length ≤ 1000000) (hx : a.eval x = strV l)
    (h : ∀ w' g cap, w.heap.size ≤ g → l.length ≤ cap → cap ≤ 9223372036854775807 → (∀ j v, (bys l)[j]? = some v → w'.cell? ⟨g, j, none⟩ = some v) → Fr [] w w' → g < w'.heap.size → wpList P ops Q rest (a.put o.dst (.slice (some ⟨g, 0, none⟩) l.length cap)) w') : wpList P ops Q (o :: rest) a w :=
  wpList_want hgd fun _ hK => wp_bytes hs hd' x ho l hb hlen hx (fun w' g cap h1 h2 h3 h4 h5 h6 => hK _ _ (h w' g cap h1 h2 h3 h4 h5 h6))
end
/-- A number's first bytes. -/
def le : Nat → Nat → List Nat
  | 0, _ => []
  | k + 1, v => v % 256 :: le k (v / 256)
theorem le_len : ∀ k v, (le k v).length = k
  | 0, _ => rfl
  | k + 1, v => by unfold le; rw [List.length_cons, le_len]
theorem le_byt : ∀ k v, Byt (le k v)
  | 0, _ => fun _ h => by cases h
  | k + 1, v => fun n h => by
    unfold le at h
    rcases List.mem_cons.1 h with rfl | h
    · omega
    · exact le_byt k _ n h
/-- The number that bytes are. -/
def unle : List Nat → Nat
  | [] => 0
  | b :: l => b + 256 * unle l
theorem unle_le : ∀ k v, unle (le k v) = v % 256 ^ k
  | 0, v => by simp [le, unle, Nat.mod_one]
  | k + 1, v => by
    unfold le unle
    rw [unle_le k, Nat.pow_succ, Nat.mul_comm (256 ^ k) 256, Nat.mod_mul]
theorem unle_lt : ∀ l, Byt l → unle l < 256 ^ l.length
  | [], _ => by simp [unle]
  | b :: l, h => by
    have h1 := unle_lt l (fun n hn => h n (List.mem_cons_of_mem _ hn))
    have h2 := h b (by simp)
    unfold unle
    rw [List.length_cons, Nat.pow_succ]
    omega
end Go.Proofs.Ytilgklpponaoeaa
