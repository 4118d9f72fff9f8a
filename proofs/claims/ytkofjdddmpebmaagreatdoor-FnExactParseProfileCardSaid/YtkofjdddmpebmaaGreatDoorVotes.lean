/- Words for lists of votes in memory: a ranking and a count each. No program in sight. -/
import Derived.Test.YtkofjdddmpebmaaGreatDoorWords
namespace Go.Proofs.YtkofjdddmpebmaaGreatDoor
open Go.RowKit

/-- The k-th vote. -/
def vnth (vs : List (List Int × Int)) (k : Nat) : List Int × Int := vs.getD k ([], 0)
/-- Its ranking. -/
def rk (vs : List (List Int × Int)) (k : Nat) : List Int := (vnth vs k).1
/-- How many places its ranking has. -/
def rl (vs : List (List Int × Int)) (k : Nat) : Nat := (rk vs k).length
/-- How many voters cast it. -/
def ct (vs : List (List Int × Int)) (k : Nat) : Int := (vnth vs k).2

/-- The k-th vote's two cells, in a row that begins at ⟨b, o⟩. -/
def VoteAt (w : World) (b o : Nat) (vs : List (List Int × Int)) (k : Nat) : Prop :=
  ∃ A c, w.cell? ⟨b, o + k * 2, none⟩ = some (.slice A (rl vs k) c) ∧ rl vs k ≤ c ∧ c ≤ maxLen ∧ Ints w A (rl vs k) (rk vs k) ∧ w.cell? ⟨b, o + k * 2 + 1, none⟩ = some (.int .i64 (ct vs k))
/-- The slice value with address A and length n holds the votes vs. -/
def Votes (w : World) (A : Option Addr) (n : Nat) (vs : List (List Int × Int)) : Prop :=
  vs.length = n ∧ (0 < n → ∃ b o, A = some ⟨b, o, none⟩ ∧ b < w.heap.size ∧ ∀ j, j < n → VoteAt w b o vs j)
/-- Counts fit into 64 bits. -/
def C64 (vs : List (List Int × Int)) : Prop := ∀ j, -9223372036854775808 ≤ ct vs j ∧ ct vs j ≤ 9223372036854775807

section
variable {w w' : World} {A : Option Addr} {n : Nat} {vs : List (List Int × Int)}
theorem Votes.nil_ : Votes w A 0 [] := ⟨rfl, fun h => absurd h (by omega)⟩
theorem Votes.empty (h : Votes w A 0 vs) : vs = [] := List.eq_nil_of_length_eq_zero h.1
theorem VoteAt.below {B b o k : Nat} (h : VoteAt w b o vs k) (hb : Below B w w') (hB : w.heap.size ≤ B) (hlt : b < w.heap.size) : VoteAt w' b o vs k := by
  obtain ⟨A, c, h1, h2, h3, h4, h5⟩ := h
  exact ⟨A, c, (hb.cell (p := ⟨b, o + k * 2, none⟩) (by show b < B; omega)).trans h1, h2, h3, h4.below hb hB, (hb.cell (p := ⟨b, o + k * 2 + 1, none⟩) (by show b < B; omega)).trans h5⟩
theorem Votes.below {B : Nat} (h : Votes w A n vs) (hb : Below B w w') (hB : w.heap.size ≤ B) : Votes w' A n vs :=
  ⟨h.1, fun hn => by
    obtain ⟨b, o, e, hlt, hc⟩ := h.2 hn
    exact ⟨b, o, e, Nat.lt_of_lt_of_le hlt hb.size, fun j hj => (hc j hj).below hb hB hlt⟩⟩
theorem Votes.on (h : Votes w A n vs) (hb : Below w.heap.size w w') : Votes w' A n vs := h.below hb (Nat.le_refl _)
theorem Votes.at_ {k : Nat} (h : Votes w A n vs) (hk : k < n) : ∃ b o, A = some ⟨b, o, none⟩ ∧ b < w.heap.size ∧ VoteAt w b o vs k := by
  obtain ⟨b, o, e, hb, hc⟩ := h.2 (by omega)
  exact ⟨b, o, e, hb, hc k hk⟩
end

/-! ### Votes of the call's own -/
/-- All blocks but those from lo up to hi are as they were. -/
structure Mid (lo hi : Nat) (w w' : World) : Prop where
  os : w'.os = w.os
  tape : w'.tape = w.tape
  output : w'.output = w.output
  size : w.heap.size ≤ w'.heap.size
  block : ∀ k, k < w.heap.size → (k < lo ∨ hi ≤ k) → w'.heap[k]? = w.heap[k]?
theorem Mid.refl (lo hi : Nat) (w : World) : Mid lo hi w w := ⟨rfl, rfl, rfl, Nat.le_refl _, fun _ _ _ => rfl⟩
theorem Mid.trans {lo hi : Nat} {a b c : World} (h : Mid lo hi a b) (k : Mid lo hi b c) : Mid lo hi a c :=
  ⟨k.os.trans h.os, k.tape.trans h.tape, k.output.trans h.output, Nat.le_trans h.size k.size, fun i hi' hr => (k.block i (Nat.lt_of_lt_of_le hi' h.size) hr).trans (h.block i hi' hr)⟩
theorem Mid.of_grown {lo hi : Nat} {w w' : World} {row : Option Nat} (h : w.grownBy w' row) (hr : ∀ g, row = some g → lo ≤ g ∧ g < hi) : Mid lo hi w w' :=
  ⟨h.os, h.tape, h.output, h.size, fun k hk ho => h.block k hk (fun e => by have := hr k e.symm; omega)⟩
theorem Mid.setCell {lo hi : Nat} (w : World) {p : Addr} (h : lo ≤ p.block ∧ p.block < hi) (v : Value) : Mid lo hi w (w.setCell p v) :=
  ⟨rfl, rfl, rfl, by simp, fun k _ ho => Below.heap_setCell _ _ _ _ (by omega)⟩
theorem Mid.cell {lo hi : Nat} {w w' : World} (h : Mid lo hi w w') {p : Addr} (hp : p.block < w.heap.size) (ho : p.block < lo ∨ hi ≤ p.block) : w'.cell? p = w.cell? p := World.cell?_of_block (w := w) (h.block p.block hp ho)
theorem Mid.frozen {lo hi : Nat} {w w' : World} (h : Mid lo hi w w') {p : Addr} (hp : p.block < w.heap.size) (ho : p.block < lo ∨ hi ≤ p.block) : w'.frozen? p = w.frozen? p := World.frozen?_of_block (w := w) (h.block p.block hp ho)
theorem Below.mid {B lo hi : Nat} {a w w' : World} (h : Below B a w) (k : Mid lo hi w w') (hlo : B ≤ lo) (hB : B ≤ w.heap.size) : Below B a w' :=
  ⟨k.os.trans h.os, k.tape.trans h.tape, k.output.trans h.output, Nat.le_trans h.size k.size, fun i hi' => (k.block i (by omega) (.inl (by omega))).trans (h.block i hi')⟩
theorem below_of_mid {B lo hi : Nat} {w w' : World} (k : Mid lo hi w w') (hlo : B ≤ lo) (hB : B ≤ w.heap.size) : Below B w w' := Below.mid (Below.refl B w) k hlo hB
/-- A row of the call's own that lies outside stays. -/
theorem own_mid {w w' : World} {base lo hi : Nat} {e : TypeId} {A : Option Addr} {n c : Nat} {xs : List Value} (h : w.ownsRow base e 1 (.slice A n c) n xs) (k : Mid lo hi w w') (ho : ∀ a, A = some a → a.block < lo ∨ hi ≤ a.block) : w'.ownsRow base e 1 (.slice A n c) n xs := by
  refine ⟨h.1, ?_⟩
  rcases h.2 with h0 | ⟨g, cap, cur, h1, h2, h3, h4⟩
  · exact .inl h0
  · have hA : A = some ⟨g, 0, none⟩ := by injection h1
    have hlt := (own_ge h _ hA).2
    exact .inr ⟨g, cap, cur, h1, h2, (k.block g hlt (ho _ hA)).trans h3, h4⟩
theorem Ints.mid {w w' : World} {lo hi : Nat} {A : Option Addr} {n : Nat} {xs : List Int} (h : Ints w A n xs) (k : Mid lo hi w w') (ho : 0 < n → ∀ a, A = some a → a.block < lo ∨ hi ≤ a.block) : Ints w' A n xs :=
  ⟨h.1, fun hn => by
    obtain ⟨b, o, e, hlt, hc⟩ := h.2 hn
    exact ⟨b, o, e, Nat.lt_of_lt_of_le hlt k.size, fun j hj => (k.cell (p := ⟨b, o + j, none⟩) hlt (ho hn ⟨b, o, none⟩ e)).trans (hc j hj)⟩⟩
end Go.Proofs.YtkofjdddmpebmaaGreatDoor
