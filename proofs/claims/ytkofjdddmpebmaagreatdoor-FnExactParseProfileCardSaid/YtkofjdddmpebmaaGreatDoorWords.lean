/- Words for slices of integers: what reads as a list of numbers, and rows of a call's own. No program in sight. -/
import Derived.Below
import Derived.OwnWalk
import Derived.Deep.OwnRows
import Derived.Deep.Draws
import Derived.ChangeSlices
import Derived.Lib.Hide
namespace Go.Proofs.YtkofjdddmpebmaaGreatDoor
open Go.RowKit

/-- The k-th number of a list, 0 behind its end. -/
def nth (xs : List Int) (k : Nat) : Int := xs.getD k 0
/-- The slice value with address A and length n holds the numbers xs. -/
def Ints (w : World) (A : Option Addr) (n : Nat) (xs : List Int) : Prop :=
  xs.length = n ∧ (0 < n → ∃ b o, A = some ⟨b, o, none⟩ ∧ b < w.heap.size ∧ ∀ j, j < n → w.cell? ⟨b, o + j, none⟩ = some (.int .i64 (nth xs j)))
/-- Each number fits into 64 bits. -/
def I64 (xs : List Int) : Prop := ∀ j, -9223372036854775808 ≤ nth xs j ∧ nth xs j ≤ 9223372036854775807
/-- The values of numbers. -/
def iv (xs : List Int) : List Value := xs.map (Value.int .i64)

section
variable {w w' : World} {A : Option Addr} {n : Nat} {xs : List Int}
theorem Ints.nil_ : Ints w A 0 [] := ⟨rfl, fun h => absurd h (by omega)⟩
theorem Ints.len (h : Ints w A n xs) : xs.length = n := h.1
theorem Ints.at_ {k : Nat} (h : Ints w A n xs) (hk : k < n) : ∃ b o, A = some ⟨b, o, none⟩ ∧ b < w.heap.size ∧ w.cell? ⟨b, o + k, none⟩ = some (.int .i64 (nth xs k)) := by
  obtain ⟨b, o, e, hb, hc⟩ := h.2 (by omega)
  exact ⟨b, o, e, hb, hc k hk⟩
theorem Ints.keep (h : Ints w A n xs) (hs : w.heap.size ≤ w'.heap.size) (hk : ∀ b o, b < w.heap.size → w'.cell? ⟨b, o, none⟩ = w.cell? ⟨b, o, none⟩) : Ints w' A n xs :=
  ⟨h.1, fun hn => by
    obtain ⟨b, o, e, hb, hc⟩ := h.2 hn
    exact ⟨b, o, e, by omega, fun j hj => (hk b _ hb).trans (hc j hj)⟩⟩
theorem Ints.below {B : Nat} (h : Ints w A n xs) (hb : Below B w w') (hB : w.heap.size ≤ B) : Ints w' A n xs :=
  h.keep hb.size fun b o hlt => hb.cell (p := ⟨b, o, none⟩) (by show b < B; omega)
theorem Ints.on (h : Ints w A n xs) (hb : Below w.heap.size w w') : Ints w' A n xs := h.below hb (Nat.le_refl _)
theorem Ints.drew (h : Ints w A n xs) : Ints w.drew A n xs := h
theorem Ints.drewN (h : Ints w A n xs) (k : Nat) : Ints (w.drewN k) A n xs := h
theorem Ints.alloc (h : Ints w A n xs) (o : Obj) : Ints (w.alloc o) A n xs := h.on ((Below.refl _ _).alloc (Nat.le_refl _) o)
/-- The blocks of a slice that is read: below what bound they lie. -/
def In (A : Option Addr) (n B : Nat) : Prop := 0 < n → ∀ a, A = some a → a.block < B
theorem Ints.belowIn {B : Nat} (h : Ints w A n xs) (hb : Below B w w') (hi : In A n B) : Ints w' A n xs :=
  ⟨h.1, fun hn => by
    obtain ⟨b, o, e, hlt, hc⟩ := h.2 hn
    exact ⟨b, o, e, by have := hb.size; omega, fun j hj => (hb.cell (p := ⟨b, o + j, none⟩) (hi hn ⟨b, o, none⟩ e)).trans (hc j hj)⟩⟩
theorem Ints.in_ (h : Ints w A n xs) : In A n w.heap.size := fun hn a ha => by
  obtain ⟨b, o, e, hb, _⟩ := h.2 hn
  rw [e] at ha
  injection ha with ha
  subst ha
  exact hb
theorem In.mono {B B' : Nat} (h : In A n B) (hB : B ≤ B') : In A n B' := fun hn a ha => Nat.lt_of_lt_of_le (h hn a ha) hB
/-- A row of the call's own grows or is written: what is read elsewhere stays. -/
theorem Ints.grown {row : Option Nat} (h : Ints w A n xs) (hg : w.grownBy w' row) (hr : 0 < n → ∀ a, A = some a → some a.block ≠ row) : Ints w' A n xs :=
  ⟨h.1, fun hn => by
    obtain ⟨b, o, e, hlt, hc⟩ := h.2 hn
    refine ⟨b, o, e, by have := hg.size; omega, fun j hj => ?_⟩
    exact (World.cell?_of_block (w := w) (a := ⟨b, o + j, none⟩) (hg.block b hlt (hr hn _ e))).trans (hc j hj)⟩
/-- A later part of a slice. -/
theorem Ints.cut {k cap : Nat} (h : Ints w A n xs) (hk : k ≤ n) (hc : n ≤ cap) : Ints w (if cap = k then A else A.map (·.add k)) (n - k) (xs.drop k) := by
  refine ⟨by rw [List.length_drop, h.1], fun hn => ?_⟩
  obtain ⟨b, o, rfl, hb, hcell⟩ := h.2 (by omega)
  rw [if_neg (by omega)]
  refine ⟨b, o + k, by simp [Addr.add_lit], hb, fun j hj => ?_⟩
  rw [Nat.add_assoc, hcell (k + j) (by omega)]
  simp [nth, List.getD]
/-- An earlier part of a slice. -/
theorem Ints.take {k : Nat} (h : Ints w A n xs) (hk : k ≤ n) : Ints w A k (xs.take k) := by
  refine ⟨by rw [List.length_take, h.1]; omega, fun hn => ?_⟩
  obtain ⟨b, o, rfl, hb, hcell⟩ := h.2 (by omega)
  refine ⟨b, o, rfl, hb, fun j hj => ?_⟩
  rw [hcell j (by omega)]
  simp [nth, List.getD, hj]
theorem Ints.of_own {base : Nat} {e : TypeId} {c : Nat} (h : w.ownsRow base e 1 (.slice A n c) n (iv xs)) : Ints w A n xs := by
  have hl : xs.length = n := by have := h.1; simpa [iv] using this
  refine ⟨hl, fun hn => ?_⟩
  rcases h.2 with ⟨_, h0⟩ | ⟨g, cap, cur, hv, _, hh, _⟩
  · omega
  · injection hv with h1 h2 h3
    subst h1; subst h3
    have hlt : g < w.heap.size := by
      rcases Nat.lt_or_ge g w.heap.size with hlt | hge
      · exact hlt
      · rw [Array.getElem?_eq_none hge] at hh; cases hh
    refine ⟨g, 0, rfl, hlt, fun j hj => ?_⟩
    rw [Nat.zero_add, h.cellAt j (by omega)]
    simp [iv, nth, List.getD, show j < xs.length by omega]
/-- An own row lies from its base on. -/
theorem own_ge {base : Nat} {e : TypeId} {c : Nat} {vs : List Value} (h : w.ownsRow base e 1 (.slice A n c) n vs) : ∀ a, A = some a → base ≤ a.block ∧ a.block < w.heap.size := by
  intro a ha
  subst ha
  exact h.lt a.block rfl
theorem own_cap {base : Nat} {e : TypeId} {c : Nat} {vs : List Value} (h : w.ownsRow base e 1 (.slice A n c) n vs) : n ≤ c ∧ c ≤ maxLen := by
  rcases h.2 with ⟨hv, h0⟩ | ⟨g, cap, cur, hv, _, _, h1, h2, _⟩
  · injection hv with h1 h2 h3
    subst h3
    exact ⟨by omega, Nat.zero_le _⟩
  · injection hv with e1 e2 e3
    subst e3
    exact ⟨h1, h2⟩
/-- An own row stays where another row grows or is written. -/
theorem own_grown {base : Nat} {e : TypeId} {c : Nat} {vs : List Value} {row : Option Nat} (h : w.ownsRow base e 1 (.slice A n c) n vs) (hg : w.grownBy w' row) (hr : ∀ a, A = some a → some a.block ≠ row) : w'.ownsRow base e 1 (.slice A n c) n vs := by
  refine h.kept hg ?_
  cases A with
  | none => exact .inl rfl
  | some a => exact .inr (hr a rfl)
theorem own_below {base B : Nat} {e : TypeId} {c : Nat} {vs : List Value} (h : w.ownsRow base e 1 (.slice A n c) n vs) (hb : Below B w w') (hr : w.heap.size ≤ B) : w'.ownsRow base e 1 (.slice A n c) n vs := by
  refine own_grown (row := none) h ⟨hb.os, hb.tape, hb.output, hb.size, fun k hk _ => hb.block k (by omega)⟩ (fun a _ => by simp)
theorem own_mono {base base' : Nat} {e : TypeId} {c : Nat} {vs : List Value} (h : w.ownsRow base e 1 (.slice A n c) n vs) (hb : base' ≤ base) : w.ownsRow base' e 1 (.slice A n c) n vs := by
  refine ⟨h.1, ?_⟩
  rcases h.2 with h0 | ⟨g, cap, cur, h1, h2, h3⟩
  · exact .inl h0
  · exact .inr ⟨g, cap, cur, h1, by omega, h3⟩
/-- A row that is known by its index is an own row. -/
theorem own_of_row {base g : Nat} {e : TypeId} {f : Nat → Value} (h : w.rowIs g e n f) (hb : base ≤ g) (hn : n ≤ maxLen) {vs : List Value} (hl : vs.length = n) (hv : ∀ j, j < n → vs[j]? = some (f j)) : w.ownsRow base e 1 (.slice (some ⟨g, 0, none⟩) n n) n vs := by
  obtain ⟨c, h1, h2, h3⟩ := h
  refine ⟨by omega, .inr ⟨g, n, c, rfl, hb, h1, Nat.le_refl _, hn, by omega, ?_⟩⟩
  apply List.ext_getElem?
  intro j
  by_cases hj : j < n
  · rw [List.getElem?_take, if_pos (by omega), Array.getElem?_toList, h3 j hj, hv j hj]
  · rw [List.getElem?_eq_none (by rw [List.length_take]; omega), List.getElem?_eq_none (by omega)]
theorem iv_at {j : Nat} (hj : j < xs.length) : (iv xs)[j]? = some (.int .i64 (nth xs j)) := by
  simp [iv, nth, List.getD, hj]
theorem iv_len : (iv xs).length = xs.length := by simp [iv]
theorem iv_one : ∀ u ∈ iv xs, u.oneCell' = true := by
  intro u hu
  obtain ⟨_, _, rfl⟩ := List.mem_map.1 hu
  rfl
end

theorem I64.nil_ : I64 [] := fun j => by simp [nth]
theorem I64.of_mem {xs : List Int} (h : ∀ x ∈ xs, -9223372036854775808 ≤ x ∧ x ≤ 9223372036854775807) : I64 xs := by
  intro j
  by_cases hj : j < xs.length
  · have e : nth xs j = xs[j] := by simp [nth, List.getD, hj]
    rw [e]
    exact h _ (List.getElem_mem hj)
  · have e : nth xs j = 0 := by simp [nth, List.getD, hj]
    rw [e]; omega
/-- The marks that the laws lay. -/
def marks (k : Int) (n : Nat) : List Int := (List.range n).map fun (j : Nat) => k + (j : Int)
theorem marks_len (k : Int) (n : Nat) : (marks k n).length = n := by simp [marks]
theorem marks_at (k : Int) {n j : Nat} (hj : j < n) : nth (marks k n) j = k + j := by simp [marks, nth, List.getD, hj]

/-- An own row with cells has an address of its own. -/
theorem own_form {w : World} {A : Option Addr} {n base : Nat} {e : TypeId} {c : Nat} {vs : List Value} (h : w.ownsRow base e 1 (.slice A n c) n vs) (hn : 0 < n) : ∃ g, A = some ⟨g, 0, none⟩ ∧ base ≤ g ∧ g < w.heap.size := by
  rcases h.2 with ⟨_, h0⟩ | ⟨g, cap, cur, hv, hb, hh, _⟩
  · omega
  · injection hv with h1 h2 h3
    subst h1
    exact ⟨g, rfl, hb, (own_ge h ⟨g, 0, none⟩ rfl).2⟩
theorem below_drewN {B : Nat} {a w : World} (h : Below B a w) (n : Nat) : Below B a (w.drewN n) := ⟨h.os, h.tape, h.output, h.size, h.block⟩
theorem grown_trans {a b c : World} {row : Option Nat} (h : a.grownBy b row) (k : b.grownBy c row) : a.grownBy c row :=
  ⟨k.os.trans h.os, k.tape.trans h.tape, k.output.trans h.output, Nat.le_trans h.size k.size, fun i hi hr => (k.block i (Nat.lt_of_lt_of_le hi h.size) hr).trans (h.block i hi hr)⟩
/-- A row of which the first k cells have been marked. -/
def marked (m : Int) (k : Nat) (vs : List Value) : List Value := iv (marks m k) ++ vs.drop k
theorem marked_zero (m : Int) (vs : List Value) : marked m 0 vs = vs := by simp [marked, marks, iv]
theorem marked_all (m : Int) {n : Nat} {vs : List Value} (h : vs.length = n) : marked m n vs = iv (marks m n) := by
  subst h; simp [marked]
theorem marks_snoc (m : Int) (k : Nat) : marks m (k + 1) = marks m k ++ [m + k] := by simp [marks, List.range_succ]
theorem marked_set (m : Int) {k : Nat} {vs : List Value} (h : k < vs.length) : (marked m k vs).set k (.int .i64 (m + k)) = marked m (k + 1) vs := by
  have hl : (iv (marks m k)).length = k := by rw [iv_len, marks_len]
  have hd : vs.drop k = vs[k] :: vs.drop (k + 1) := List.drop_eq_getElem_cons h
  unfold marked
  rw [List.set_append_right _ _ (by omega), hl, Nat.sub_self, hd, List.set_cons_zero, marks_snoc]
  simp [iv]
theorem marked_len (m : Int) {k : Nat} {vs : List Value} (h : k ≤ vs.length) : (marked m k vs).length = vs.length := by
  simp [marked, iv, marks]; omega
end Go.Proofs.YtkofjdddmpebmaaGreatDoor
