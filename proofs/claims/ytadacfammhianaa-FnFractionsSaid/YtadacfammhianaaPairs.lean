/- Words for slices of structs of two numbers. No program in sight. -/
import Derived.Test.YtadacfammhianaaWords
namespace Go.Proofs.Ytadacfammhianaa
open Go.RowKit

/-- The k-th pair. -/
def pnth (ps : List (Int × Int)) (k : Nat) : Int × Int := ps.getD k (0, 0)
def p1 (ps : List (Int × Int)) (k : Nat) : Int := (pnth ps k).1
def p2 (ps : List (Int × Int)) (k : Nat) : Int := (pnth ps k).2
/-- The slice value with address A and length n holds the pairs ps. -/
def Pairs (w : World) (A : Option Addr) (n : Nat) (ps : List (Int × Int)) : Prop :=
  ps.length = n ∧ (0 < n → ∃ b o, A = some ⟨b, o, none⟩ ∧ b < w.heap.size ∧ ∀ j, j < n → w.cell? ⟨b, o + j * 2, none⟩ = some (.int .i64 (p1 ps j)) ∧ w.cell? ⟨b, o + j * 2 + 1, none⟩ = some (.int .i64 (p2 ps j)))
/-- All fit into 64 bits. -/
def P64 (ps : List (Int × Int)) : Prop := ∀ j, (-9223372036854775808 ≤ p1 ps j ∧ p1 ps j ≤ 9223372036854775807) ∧ (-9223372036854775808 ≤ p2 ps j ∧ p2 ps j ≤ 9223372036854775807)
section
variable {w w' : World} {A : Option Addr} {n : Nat} {ps : List (Int × Int)}
theorem Pairs.nil_ : Pairs w A 0 [] := ⟨rfl, fun h => absurd h (by omega)⟩
theorem Pairs.at_ {k : Nat} (h : Pairs w A n ps) (hk : k < n) : ∃ b o, A = some ⟨b, o, none⟩ ∧ b < w.heap.size ∧ w.cell? ⟨b, o + k * 2, none⟩ = some (.int .i64 (p1 ps k)) ∧ w.cell? ⟨b, o + k * 2 + 1, none⟩ = some (.int .i64 (p2 ps k)) := by
  obtain ⟨b, o, e, hb, hc⟩ := h.2 (by omega)
  exact ⟨b, o, e, hb, hc k hk⟩
theorem Pairs.below {B : Nat} (h : Pairs w A n ps) (hb : Below B w w') (hB : w.heap.size ≤ B) : Pairs w' A n ps :=
  ⟨h.1, fun hn => by
    obtain ⟨b, o, e, hlt, hc⟩ := h.2 hn
    exact ⟨b, o, e, Nat.lt_of_lt_of_le hlt hb.size, fun j hj => ⟨(hb.cell (p := ⟨b, o + j * 2, none⟩) (by show b < B; omega)).trans (hc j hj).1, (hb.cell (p := ⟨b, o + j * 2 + 1, none⟩) (by show b < B; omega)).trans (hc j hj).2⟩⟩⟩
theorem Pairs.on (h : Pairs w A n ps) (hb : Below w.heap.size w w') : Pairs w' A n ps := h.below hb (Nat.le_refl _)
end
/-- The cells of a copy of pairs, made up to k. -/
def pcell (ps : List (Int × Int)) (k i : Nat) : Value :=
  if i < 2 * k then (if i % 2 = 0 then .int .i64 (p1 ps (i / 2)) else .int .i64 (p2 ps (i / 2))) else .int .i64 0
theorem pcell_set (ps : List (Int × Int)) (k i : Nat) :
    (if i = k * 2 + 1 then Value.int .i64 (p2 ps k) else if i = k * 2 then Value.int .i64 (p1 ps k) else pcell ps k i) = pcell ps (k + 1) i := by
  simp only [pcell]
  repeat' split
  all_goals first
    | rfl
    | (exfalso; omega)
    | rw [show i / 2 = k by omega]
theorem pairs_of_row {w : World} {g n : Nat} {e : TypeId} {ps : List (Int × Int)} (h : w.rowIs g e (n * 2) (pcell ps n)) (hl : ps.length = n) : Pairs w (some ⟨g, 0, none⟩) n ps := by
  refine ⟨hl, fun hn => ⟨g, 0, rfl, h.lt, fun j hj => ⟨?_, ?_⟩⟩⟩
  · rw [Nat.zero_add, h.cell (by omega), pcell, if_pos (by omega), if_pos (by omega), show j * 2 / 2 = j by omega]
  · rw [Nat.zero_add, h.cell (by omega), pcell, if_pos (by omega), if_neg (by omega), show (j * 2 + 1) / 2 = j by omega]
end Go.Proofs.Ytadacfammhianaa
