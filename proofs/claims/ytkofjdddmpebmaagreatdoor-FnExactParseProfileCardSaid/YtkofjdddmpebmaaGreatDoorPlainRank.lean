/- Plain facts on lists of numbers: places, rankings. No program in sight. -/
import Derived.Test.YtkofjdddmpebmaaGreatDoorWords
namespace Go.Proofs.YtkofjdddmpebmaaGreatDoor

/-- The place of a in xs, or -1. -/
def idxP (xs : List Int) (a : Int) : Int := if a ∈ xs then (xs.idxOf a : Int) else -1
theorem nth_zero (x : Int) (xs : List Int) : nth (x :: xs) 0 = x := rfl
theorem nth_succ (x : Int) (xs : List Int) (k : Nat) : nth (x :: xs) (k + 1) = nth xs k := by simp [nth]
theorem idxOf_at (a : Int) : ∀ (xs : List Int) (k : Nat), k < xs.length → nth xs k = a → (∀ j, j < k → nth xs j ≠ a) → xs.idxOf a = k
  | [], k, h, _, _ => absurd h (by simp)
  | x :: xs, 0, _, h, _ => by
    have h : x = a := h
    subst h
    exact List.idxOf_cons_self
  | x :: xs, k + 1, hk, h, hn => by
    have h0 : x ≠ a := hn 0 (by omega)
    rw [nth_succ] at h
    rw [List.idxOf_cons, show (x == a) = false by simpa using h0, cond_false, idxOf_at a xs k (by simpa using hk) h (fun j hj => by have := hn (j + 1) (by omega); rwa [nth_succ] at this)]
theorem getD_mem {xs : List Int} {k : Nat} (hk : k < xs.length) : nth xs k ∈ xs := by
  have e : nth xs k = xs[k] := by simp [nth, List.getD, hk]
  rw [e]
  exact List.getElem_mem hk
theorem mem_getD {xs : List Int} {a : Int} (h : a ∈ xs) : ∃ k, k < xs.length ∧ nth xs k = a := by
  obtain ⟨k, hk, e⟩ := List.mem_iff_getElem.1 h
  exact ⟨k, hk, by simp [nth, List.getD, hk, e]⟩
theorem idx_found {xs : List Int} {a : Int} {k : Nat} (hk : k < xs.length) (he : nth xs k = a) (hn : ∀ j, j < k → nth xs j ≠ a) : idxP xs a = k := by
  have hm : a ∈ xs := he ▸ getD_mem hk
  rw [idxP, if_pos hm, idxOf_at a xs k hk he hn]
theorem idx_none {xs : List Int} {a : Int} (hn : ∀ j, j < xs.length → nth xs j ≠ a) : idxP xs a = -1 := by
  rw [idxP, if_neg]
  intro hm
  obtain ⟨k, hk, e⟩ := mem_getD hm
  exact hn k hk e
theorem idx_bd (xs : List Int) (a : Int) : -1 ≤ idxP xs a ∧ idxP xs a < xs.length ∧ (0 ≤ idxP xs a ↔ a ∈ xs) := by
  unfold idxP
  by_cases h : a ∈ xs
  · rw [if_pos h]
    have := List.idxOf_lt_length_of_mem h
    exact ⟨by omega, by omega, by simp [h]⟩
  · rw [if_neg h]
    exact ⟨by omega, by omega, by simp [h]⟩
/-- b is preferred to a .. -/
def prefP (xs : List Int) (a b : Int) : Bool := decide (0 ≤ idxP xs a) && decide (0 ≤ idxP xs b) && decide (idxP xs a < idxP xs b)
def lastP (xs : List Int) : Int := if xs.length = 0 then -1 else nth xs (xs.length - 1)

/-! ### Rankings -/
def inB' (n lo hi : Int) : Bool := decide (lo ≤ n ∧ n ≤ hi)
/-- A ranking of m candidates. -/
def rankOkP (m : Int) (xs : List Int) : Bool := inB' m 1 5 && decide ((xs.length : Int) = m) && xs.all (fun x => inB' x 0 (m - 1)) && decide xs.Nodup
/-- The first k are candidates, each another. -/
def Good (m : Int) (xs : List Int) (k : Nat) : Prop := ∀ j, j < k → (0 ≤ nth xs j ∧ nth xs j ≤ m - 1) ∧ ∀ i, i < j → nth xs i ≠ nth xs j
theorem Good.zero (m : Int) (xs : List Int) : Good m xs 0 := fun j hj => absurd hj (by omega)
theorem Good.succ {m : Int} {xs : List Int} {k : Nat} (h : Good m xs k) (h1 : 0 ≤ nth xs k ∧ nth xs k ≤ m - 1) (h2 : ∀ i, i < k → nth xs i ≠ nth xs k) : Good m xs (k + 1) := fun j hj => by
  by_cases e : j = k
  · subst e; exact ⟨h1, h2⟩
  · exact h j (by omega)
theorem rank_no1 {m : Int} {xs : List Int} (h : ¬ (1 ≤ m ∧ m ≤ 5)) : rankOkP m xs = false := by simp [rankOkP, inB', h]
theorem rank_no2 {m : Int} {xs : List Int} (h : (xs.length : Int) ≠ m) : rankOkP m xs = false := by simp [rankOkP, h]
theorem nth_get {xs : List Int} {k : Nat} (hk : k < xs.length) : nth xs k = xs[k] := by simp [nth, List.getD, hk]
theorem rank_no3 {m : Int} {xs : List Int} {k : Nat} (hk : k < xs.length) (h : ¬ (0 ≤ nth xs k ∧ nth xs k ≤ m - 1)) : rankOkP m xs = false := by
  have h2 : xs.all (fun x => inB' x 0 (m - 1)) = false := by
    rw [List.all_eq_false]
    exact ⟨nth xs k, getD_mem hk, by simpa [inB'] using h⟩
  simp [rankOkP, h2]
theorem rank_no4 {m : Int} {xs : List Int} {i k : Nat} (hk : k < xs.length) (hi : i < k) (h : nth xs i = nth xs k) : rankOkP m xs = false := by
  have h2 : ¬ xs.Nodup := by
    intro hn
    rw [nth_get hk, nth_get (by omega)] at h
    rw [List.nodup_iff_pairwise_ne, List.pairwise_iff_getElem] at hn
    exact hn i k (by omega) hk hi h
  simp [rankOkP, h2]
theorem rank_yes {m : Int} {xs : List Int} (h1 : 1 ≤ m ∧ m ≤ 5) (h2 : (xs.length : Int) = m) (h : Good m xs xs.length) : rankOkP m xs = true := by
  have h3 : xs.all (fun x => inB' x 0 (m - 1)) = true := by
    rw [List.all_eq_true]
    intro x hx
    obtain ⟨k, hk, rfl⟩ := mem_getD hx
    simpa [inB'] using (h k hk).1
  have h4 : xs.Nodup := by
    rw [List.nodup_iff_pairwise_ne, List.pairwise_iff_getElem]
    intro i j hi hj hij e
    exact (h j hj).2 i hij (by rw [nth_get hi, nth_get hj]; exact e)
  unfold rankOkP
  rw [h3]
  simp [inB', h4, h1, h2]
theorem of_rank {m : Int} {xs : List Int} (h : rankOkP m xs = true) : (1 ≤ m ∧ m ≤ 5) ∧ (xs.length : Int) = m ∧ (∀ k, k < xs.length → 0 ≤ nth xs k ∧ nth xs k ≤ m - 1) ∧ xs.Nodup := by
  simp only [rankOkP, Bool.and_eq_true, decide_eq_true_eq, inB'] at h
  obtain ⟨⟨⟨h1, h2⟩, h3⟩, h4⟩ := h
  refine ⟨h1, h2, fun k hk => ?_, h4⟩
  rw [List.all_eq_true] at h3
  simpa using h3 _ (getD_mem hk)
theorem idx_take {xs : List Int} {a : Int} {k : Nat} (hk : k ≤ xs.length) : (0 ≤ idxP (xs.take k) a) ↔ ∃ i, i < k ∧ nth xs i = a := by
  rw [(idx_bd _ _).2.2]
  constructor
  · intro h
    obtain ⟨i, hi, e⟩ := mem_getD h
    rw [List.length_take] at hi
    refine ⟨i, by omega, ?_⟩
    rw [nth_get (by omega)]
    rw [nth_get (by rw [List.length_take]; omega)] at e
    simpa using e
  · rintro ⟨i, hi, e⟩
    rw [nth_get (by omega)] at e
    have := List.getElem_mem (l := xs.take k) (n := i) (by rw [List.length_take]; omega)
    simpa [e] using this
/-- Is j one of the first k? -/
def seenB (xs : List Int) (k : Nat) (j : Nat) : Bool := (List.range k).any fun i => nth xs i == (j : Int)
theorem seen_succ (xs : List Int) (k j : Nat) : seenB xs (k + 1) j = (seenB xs k j || nth xs k == (j : Int)) := by simp [seenB, List.range_succ, List.any_append]
theorem seen_iff (xs : List Int) (k j : Nat) : seenB xs k j = true ↔ ∃ i, i < k ∧ nth xs i = (j : Int) := by simp [seenB]
theorem seen_set {xs : List Int} {k : Nat} (h : 0 ≤ nth xs k) (j : Nat) : (if j = (nth xs k).toNat then Value.bool true else Value.bool (seenB xs k j)) = Value.bool (seenB xs (k + 1) j) := by
  rw [seen_succ]
  by_cases e : j = (nth xs k).toNat
  · rw [if_pos e]
    have : (nth xs k == (j : Int)) = true := by simp; omega
    rw [this, Bool.or_true]
  · rw [if_neg e]
    have : (nth xs k == (j : Int)) = false := by simp; omega
    rw [this, Bool.or_false]
end Go.Proofs.YtkofjdddmpebmaaGreatDoor
