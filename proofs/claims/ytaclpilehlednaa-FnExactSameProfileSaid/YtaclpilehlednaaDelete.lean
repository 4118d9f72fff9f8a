/- slices.Delete of one number of a slice of the call's own: what comes out. -/
import Derived.Test.YtaclpilehlednaaShelf
import Derived.Test.YtaclpilehlednaaAppend
import Derived.Sort.OwnSortedInts
namespace Go.Proofs.Ytaclpilehlednaa
open Go.RowKit Go.Sort
set_option maxRecDepth 100000

/-- The first numbers of an own row. -/
theorem own_take {w : World} {base g n c m : Nat} {xs : List Int} (h : Own w base (some ⟨g, 0, none⟩) n c xs) (hm : m ≤ n) : Own w base (some ⟨g, 0, none⟩) m c (xs.take m) := by
  rcases h.2 with ⟨hv, h0⟩ | ⟨g', cap, cur, hv, hbase, hb, h1, h2, h3, h4⟩
  · cases hv
  · cases hv
    have hl : xs.length = n := by have := h.1; rw [iv_len] at this; omega
    refine ⟨by rw [iv_len, List.length_take]; omega, .inr ⟨g, c, cur, rfl, hbase, hb, by omega, h2, h3, ?_⟩⟩
    have e : (cur.toList.take (n * 1)).take m = (iv xs).take m := by rw [h4]
    rw [List.take_take, show min m (n * 1) = m * 1 by omega] at e
    rw [e]
    simp [iv, List.map_take]

theorem libDelete (base : Nat) (A : Option Addr) (n c : Nat) (xs : List Int) (k : Nat) (w : World) (h : Own w base A n c xs) (hn : (n : Int) ≤ 1048576) (hk : k < n) :
    Calls Try.prog 50 #[.slice A n c, .int .i64 k, .int .i64 ((k : Int) + 1)] w fun e w' => e = .returned (.slice A (n - 1) c) ∧ Own w' base A (n - 1) c (xs.take k ++ xs.drop (k + 1)) ∧ w.grownBy w' (A.map (·.block)) := by
  have hl : xs.length = n := by have := h.1; rw [iv_len] at this; omega
  rcases h.2 with ⟨hv, h0⟩ | ⟨g, cap, cur, hv, hbase, hb, h1, h2, h3, h4⟩
  · omega
  · cases hv
    subst hl
    have hH : Holds (Value.int .i64) w g 0 xs.toArray := holds_of_blockI hb (by rw [Nat.mul_one] at h4; exact h4)
    have hc := Try.slices_Delete_int g 0 c k (k + 1) xs w hH h1 h2 (by omega) (by omega)
    rw [show ((k + 1 : Nat) : Int) = (k : Int) + 1 by omega] at hc
    refine hc.mono ?_
    rintro e w' ⟨rfl, q, rfl⟩
    have hs := ownsRow_sortedI (n := q) (os := #[]) (ss := xs) (ts := xs.take k ++ xs.drop (k + 1) ++ List.replicate (k + 1 - k) 0) (by simp; omega) hbase hb h1 h2 h3
    have hg := grownBy_sortedI (w := w) (g := g) (n := q) (os := #[]) (xs.take k ++ xs.drop (k + 1) ++ List.replicate (k + 1 - k) 0).toArray
    rw [show ∀ w : World, grow w #[] = w from fun w => by simp [grow]] at hs hg
    have e1 : xs.length - (k + 1 - k) = xs.length - 1 := by omega
    rw [e1]
    refine ⟨rfl, ?_, hg⟩
    have ht := own_take (m := xs.length - 1) hs (by omega)
    have e2 : (xs.take k ++ xs.drop (k + 1) ++ List.replicate (k + 1 - k) 0).take (xs.length - 1) = xs.take k ++ xs.drop (k + 1) := by
      have hl : (xs.take k ++ xs.drop (k + 1)).length = xs.length - 1 := by simp; omega
      rw [List.take_append_of_le_length (by omega), List.take_of_length_le (l := xs.take k ++ xs.drop (k + 1)) (by omega)]
    rw [e2] at ht
    exact ht
end Go.Proofs.Ytaclpilehlednaa
