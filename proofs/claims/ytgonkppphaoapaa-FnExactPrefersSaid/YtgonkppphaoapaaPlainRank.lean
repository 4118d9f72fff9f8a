/- Plain facts on lists of numbers: places, rankings. No program in sight. -/
import Derived.Test.YtgonkppphaoapaaWords
namespace Go.Proofs.Ytgonkppphaoapaa

/-- The place of a in xs, or -1. -/
def idxP (xs : List Int) (a : Int) : Int := if a ∈ xs then (xs.idxOf a : Int) else -1
theorem nth_zero (x : Int) (xs : List Int) : nth (x :: xs) 0 = x := rfl
theorem nth_succ (x : Int) (xs : List Int) (k : Nat) : nth (x :: xs) (k + 1) = nth xs k := by simp [nth]
theorem idxOf_at (a : Int) : ∀ (xs : List Int) (k : Nat), k < xs.length → nth xs k = a → (∀ j, j < k → nth xs j ≠ a) → xs.idxOf a = k
  | [], k, h, _, _ => absurd h (by simp)
  | x :: xs, 0, _, h, _ => by
    have h : x = a := h
    subst h
    exact List.idxOf_cons_self
  | x :: xs, k + 1, hk, h, hn => by
    have h0 : x ≠ a := hn 0 (by omega)
    rw [nth_succ] at h
    rw [List.idxOf_cons, show (x == a) = false by simpa using h0, cond_false, idxOf_at a xs k (by simpa using hk) h (fun j hj => by have := hn (j + 1) (by omega); rwa [nth_succ] at this)]
theorem getD_mem {xs : List Int} {k : Nat} (hk : k < xs.length) : nth xs k ∈ xs := by
  have e : nth xs k = xs[k] := by simp [nth, List.getD, hk]
  rw [e]
  exact List.getElem_mem hk
theorem mem_getD {xs : List Int} {a : Int} (h : a ∈ xs) : ∃ k, k < xs.length ∧ nth xs k = a := by
  obtain ⟨k, hk, e⟩ := List.mem_iff_getElem.1 h
  exact ⟨k, hk, by simp [nth, List.getD, hk, e]⟩
theorem idx_found {xs : List Int} {a : Int} {k : Nat} (hk : k < xs.length) (he : nth xs k = a) (hn : ∀ j, j < k → nth xs j ≠ a) : idxP xs a = k := by
  have hm : a ∈ xs := he ▸ getD_mem hk
  rw [idxP, if_pos hm, idxOf_at a xs k hk he hn]
theorem idx_none {xs : List Int} {a : Int} (hn : ∀ j, j < xs.length → nth xs j ≠ a) : idxP xs a = -1 := by
  rw [idxP, if_neg]
  intro hm
  obtain ⟨k, hk, e⟩ := mem_getD hm
  exact hn k hk e
theorem idx_bd (xs : List Int) (a : Int) : -1 ≤ idxP xs a ∧ idxP xs a < xs.length ∧ (0 ≤ idxP xs a ↔ a ∈ xs) := by
  unfold idxP
  by_cases h : a ∈ xs
  · rw [if_pos h]
    have := List.idxOf_lt_length_of_mem h
    exact ⟨by omega, by omega, by simp [h]⟩
  · rw [if_neg h]
    exact ⟨by omega, by omega, by simp [h]⟩
/-- b is preferred to a .. -/
def prefP (xs : List Int) (a b : Int) : Bool := decide (0 ≤ idxP xs a) && decide (0 ≤ idxP xs b) && decide (idxP xs a < idxP xs b)
def lastP (xs : List Int) : Int := if xs.length = 0 then -1 else nth xs (xs.length - 1)
end Go.Proofs.Ytgonkppphaoapaa
