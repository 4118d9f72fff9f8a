/- Slices of slices of integers: words, . -/
import Derived.Test.YtkofjdddmpebmaaGreatDoorAppend
namespace Go.Proofs.YtkofjdddmpebmaaGreatDoor
open Go.RowKit
set_option maxRecDepth 100000

/-- A header: where a list of numbers lies, its room, and the numbers. -/
abbrev Hd : Type := Option Addr × Nat × List Int
def hv (h : Hd) : Value := .slice h.1 h.2.2.length h.2.1
def hvs (hs : List Hd) : List Value := hs.map hv
def hnth (hs : List Hd) (k : Nat) : Hd := hs.getD k (none, 0, [])
def hA (hs : List Hd) (k : Nat) : Option Addr := (hnth hs k).1
def hc (hs : List Hd) (k : Nat) : Nat := (hnth hs k).2.1
def hx (hs : List Hd) (k : Nat) : List Int := (hnth hs k).2.2
def hl (hs : List Hd) (k : Nat) : Nat := (hx hs k).length
/-- The lists themselves. -/
def cont (hs : List Hd) : List (List Int) := hs.map fun h => h.2.2
theorem hnth_get {hs : List Hd} {k : Nat} (h : k < hs.length) : hnth hs k = hs[k] := by simp [hnth, List.getD, h]
theorem hv_nth (hs : List Hd) (k : Nat) : hv (hnth hs k) = .slice (hA hs k) (hl hs k) (hc hs k) := rfl
theorem cont_len (hs : List Hd) : (cont hs).length = hs.length := by simp [cont]
theorem cont_nth {hs : List Hd} {k : Nat} (h : k < hs.length) : (cont hs)[k]? = some (hx hs k) := by
  simp [cont, hx, hnth, List.getD, h]
theorem cont_eq {hs ks : List Hd} (h : cont hs = cont ks) {k : Nat} (hk : k < hs.length) : hx hs k = hx ks k := by
  have hl : hs.length = ks.length := by rw [← cont_len, h, cont_len]
  have e : (cont hs)[k]? = (cont ks)[k]? := by rw [h]
  rw [cont_nth hk, cont_nth (by omega)] at e
  injection e
theorem hvs_len (hs : List Hd) : (hvs hs).length = hs.length := by simp [hvs]
theorem hvs_nth {hs : List Hd} {k : Nat} (h : k < hs.length) : (hvs hs)[k]? = some (.slice (hA hs k) (hl hs k) (hc hs k)) := by
  rw [← hv_nth]; simp [hvs, hnth, List.getD, h]

/-- The slice of slices with address A and length n holds the lists behind the headers hs. -/
def Lists (w : World) (A : Option Addr) (n : Nat) (hs : List Hd) : Prop :=
  hs.length = n ∧ (0 < n → ∃ b o, A = some ⟨b, o, none⟩ ∧ b < w.heap.size ∧ ∀ j, j < n → w.cell? ⟨b, o + j, none⟩ = some (.slice (hA hs j) (hl hs j) (hc hs j)) ∧ hl hs j ≤ hc hs j ∧ hc hs j ≤ maxLen ∧ Ints w (hA hs j) (hl hs j) (hx hs j))
/-- A slice of slices of the call's own, all its lists too, each in a block of its own. -/
structure OwnL (w : World) (base : Nat) (A : Option Addr) (n c : Nat) (hs : List Hd) : Prop where
  row : w.ownsRow base 34 1 (.slice A n c) n (hvs hs)
  each : ∀ k, k < hs.length → Own w base (hA hs k) (hl hs k) (hc hs k) (hx hs k)
  apart : ∀ i j, i < j → j < hs.length → ∀ a b, hA hs i = some a → hA hs j = some b → a.block ≠ b.block
  off : ∀ k, k < hs.length → ∀ a g, hA hs k = some a → A = some g → a.block ≠ g.block

section
variable {w w' : World} {base n c : Nat} {A : Option Addr} {hs : List Hd}
theorem OwnL.len (h : OwnL w base A n c hs) : hs.length = n := by have := h.row.1; rw [hvs_len] at this; omega
theorem OwnL.nil_ (w : World) (base : Nat) : OwnL w base none 0 0 [] :=
  ⟨World.ownsRow_nil w base 34 1, fun k hk => absurd hk (by simp), fun i j _ hj => absurd hj (by simp), fun k hk => absurd hk (by simp)⟩
theorem OwnL.lists (h : OwnL w base A n c hs) : Lists w A n hs := by
  refine ⟨h.len, fun hn => ?_⟩
  obtain ⟨g, rfl, _, hg⟩ := own_form h.row hn
  refine ⟨g, 0, rfl, hg, fun j hj => ?_⟩
  have hj' : j < hs.length := by rw [h.len]; exact hj
  have hc := own_cap (h.each j hj')
  refine ⟨?_, hc.1, hc.2, Ints.of_own (h.each j hj')⟩
  rw [Nat.zero_add, h.row.cellAt j (by omega)]
  exact hvs_nth hj'
theorem OwnL.below {B : Nat} (h : OwnL w base A n c hs) (hb : Below B w w') (hB : w.heap.size ≤ B) : OwnL w' base A n c hs :=
  ⟨own_below h.row hb hB, fun k hk => own_below (h.each k hk) hb hB, h.apart, h.off⟩
theorem OwnL.mono {base' : Nat} (h : OwnL w base A n c hs) (hb : base' ≤ base) : OwnL w base' A n c hs :=
  ⟨own_mono h.row hb, fun k hk => own_mono (h.each k hk) hb, h.apart, h.off⟩
/-- All its blocks lie below T. -/
def InL (A : Option Addr) (hs : List Hd) (T : Nat) : Prop := (∀ a, A = some a → a.block < T) ∧ ∀ k, k < hs.length → ∀ a, hA hs k = some a → a.block < T
theorem OwnL.inn (h : OwnL w base A n c hs) : InL A hs w.heap.size := ⟨fun a ha => (own_ge h.row a ha).2, fun k hk a ha => (own_ge (h.each k hk) a ha).2⟩
theorem own_belowIn {w w' : World} {base B : Nat} {e : TypeId} {A : Option Addr} {n c : Nat} {vs : List Value} (h : w.ownsRow base e 1 (.slice A n c) n vs) (hb : Below B w w') (hr : ∀ a, A = some a → a.block < B) : w'.ownsRow base e 1 (.slice A n c) n vs := by
  refine ⟨h.1, ?_⟩
  rcases h.2 with h0 | ⟨g, cap, cur, h1, h2, h3, h4⟩
  · exact .inl h0
  · have hA : A = some ⟨g, 0, none⟩ := by injection h1
    exact .inr ⟨g, cap, cur, h1, h2, (hb.block g (hr _ hA)).trans h3, h4⟩
theorem OwnL.belowIn {B : Nat} (h : OwnL w base A n c hs) (hb : Below B w w') (hi : InL A hs B) : OwnL w' base A n c hs :=
  ⟨own_belowIn h.row hb hi.1, fun k hk => own_belowIn (h.each k hk) hb (hi.2 k hk), h.apart, h.off⟩
theorem Lists.on (h : Lists w A n hs) (hb : Below w.heap.size w w') : Lists w' A n hs :=
  ⟨h.1, fun hn => by
    obtain ⟨b, o, e, hlt, hcell⟩ := h.2 hn
    refine ⟨b, o, e, Nat.lt_of_lt_of_le hlt hb.size, fun j hj => ?_⟩
    obtain ⟨h1, h2, h3, h4⟩ := hcell j hj
    exact ⟨(hb.cell (p := ⟨b, o + j, none⟩) hlt).trans h1, h2, h3, h4.on hb⟩⟩
theorem Lists.at_ {k : Nat} (h : Lists w A n hs) (hk : k < n) : ∃ b o, A = some ⟨b, o, none⟩ ∧ b < w.heap.size ∧ w.cell? ⟨b, o + k, none⟩ = some (.slice (hA hs k) (hl hs k) (hc hs k)) ∧ hl hs k ≤ hc hs k ∧ hc hs k ≤ maxLen ∧ Ints w (hA hs k) (hl hs k) (hx hs k) := by
  obtain ⟨b, o, e, hb, hcell⟩ := h.2 (by omega)
  exact ⟨b, o, e, hb, hcell k hk⟩
end

/-! ### Marks -/
/-- How many numbers lie ahead of the k-th list. -/
def pre (hs : List Hd) : Nat → Nat
  | 0 => 0
  | k + 1 => pre hs k + hl hs k
/-- The headers behind the marks, the first k lists marked. -/
def markd (hs : List Hd) (m : Int) (k : Nat) (j : Nat) : List Int := if j < k then marks (m + (pre hs j : Int)) (hl hs j) else hx hs j
theorem markd_len (hs : List Hd) (m : Int) (k j : Nat) : (markd hs m k j).length = hl hs j := by
  unfold markd; split
  · rw [marks_len]
  · rfl
theorem pre_le (hs : List Hd) (n : Nat) (hb : ∀ k, k < n → (hl hs k : Int) ≤ 1048576) : ∀ k, k ≤ n → (pre hs k : Int) ≤ 1048576 * k
  | 0, _ => by simp [pre]
  | k + 1, h => by
    have h1 := pre_le hs n hb k (by omega)
    have h2 := hb k (by omega)
    simp only [pre]
    omega

end Go.Proofs.YtkofjdddmpebmaaGreatDoor
