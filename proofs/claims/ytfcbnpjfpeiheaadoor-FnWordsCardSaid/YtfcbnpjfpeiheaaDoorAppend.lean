/- append onto a slice of numbers of the call's own: what comes out. -/
import Derived.Test.YtfcbnpjfpeiheaaDoorRange
import Derived.Maps.AppendAt
namespace Go.Proofs.YtfcbnpjfpeiheaaDoor
open Go.RowKit
set_option maxRecDepth 100000

theorem own_slice {w : World} {base : Nat} {v : Value} {n : Nat} {xs : List Int} (h : w.ownsRow base 3 1 v n (iv xs)) : ∃ A c, v = .slice A n c ∧ Own w base A n c xs ∧ v.ownBlock = A.map (·.block) := by
  rcases h.2 with ⟨rfl, rfl⟩ | ⟨g, cap, cur, rfl, _⟩
  · exact ⟨none, 0, rfl, h, rfl⟩
  · exact ⟨some ⟨g, 0, none⟩, cap, rfl, h, rfl⟩
theorem ownBlock_slice (A : Option Addr) (n c : Nat) : (Value.slice A n c).ownBlock = A.map (·.block) := by cases A <;> rfl
theorem iv_append (xs ys : List Int) : iv (xs ++ ys) = iv xs ++ iv ys := by simp [iv]

/-- The new one-cell block of 'append(out, x)'. -/
theorem ints_one (w : World) (x : Int) (t : TypeId) : Ints (w.alloc (.cells #[.int .i64 x] t)) (some ⟨w.heap.size, 0, none⟩) 1 [x] := by
  refine ⟨rfl, fun _ => ⟨w.heap.size, 0, rfl, by simp, fun j hj => ?_⟩⟩
  obtain rfl : j = 0 := by omega
  simp [nth]
theorem own_nil (w : World) (base : Nat) : Own w base none 0 0 [] := World.ownsRow_nil w base 3 1
theorem own_alloc {w : World} {base : Nat} {A : Option Addr} {n c : Nat} {xs : List Int} (h : Own w base A n c xs) (o : Obj) : Own (w.alloc o) base A n c xs := own_below (w := w) h ((Below.refl w.heap.size w).alloc (Nat.le_refl _) o) (Nat.le_refl _)
/-- An empty slice that is not nil. -/
theorem own_empty (w : World) {base : Nat} (h : base ≤ w.heap.size) : Own (w.alloc (.cells #[] 3)) base (some ⟨w.heap.size, 0, none⟩) 0 0 [] := World.ownsRow_lit (e := 3) (size := 1) w #[] 0 h (Nat.zero_le _) rfl
theorem map_block {A : Option Addr} {k : Nat} (h : some k = A.map (·.block)) : ∃ a, A = some a ∧ a.block = k := by
  cases A with
  | none => cases h
  | some a => injection h with h; exact ⟨a, rfl, h.symm⟩
/-- Below, behind an append onto a row of the call's own. -/
theorem below_ap {a w w' : World} {base : Nat} {A : Option Addr} {n c : Nat} {xs : List Int} (hb : Below base a w) (hown : Own w base A n c xs) (hg : w.grownBy w' (A.map (·.block))) (hbase : base ≤ w.heap.size) : Below base a w' :=
  hb.grown hg hbase fun k hk => by
    cases A with
    | none => cases hk
    | some ad => injection hk with hk; subst hk; exact (own_ge hown ad rfl).1
theorem Ints.none_zero {w : World} {n : Nat} {xs : List Int} (h : Ints w none n xs) : n = 0 := by
  rcases Nat.eq_zero_or_pos n with h0 | h0
  · exact h0
  · obtain ⟨b, o, e, _⟩ := h.2 h0
    cases e
theorem Ints.empty {w : World} {A : Option Addr} {xs : List Int} (h : Ints w A 0 xs) : xs = [] := List.eq_nil_of_length_eq_zero h.1

end Go.Proofs.YtfcbnpjfpeiheaaDoor
