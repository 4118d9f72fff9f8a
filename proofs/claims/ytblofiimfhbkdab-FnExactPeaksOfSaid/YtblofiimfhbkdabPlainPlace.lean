/- How often a candidate stands at a place: plain facts. No program in sight. -/
import Derived.Test.YtblofiimfhbkdabPok
import Derived.Test.YtblofiimfhbkdabPlainPerm
namespace Go.Proofs.Ytblofiimfhbkdab
open Go.RowKit

theorem place_iff {m : Nat} {xs : List Int} (h : rankOkP m xs = true) {a p : Nat} (hp : p < m) : nth xs p = (a : Int) ↔ idxP xs a = (p : Int) := by
  obtain ⟨_, hl, _, hd⟩ := of_rank h
  have hpl : p < xs.length := by omega
  constructor
  · intro e
    refine idx_found hpl e (fun j hj he => ?_)
    have hjl : j < xs.length := by omega
    rw [nth_get hjl] at he
    rw [nth_get hpl] at e
    exact List.pairwise_iff_getElem.1 hd j p hjl hpl hj (he.trans e.symm)
  · intro e
    have hb := idx_bd xs (a : Int)
    have hm : (a : Int) ∈ xs := hb.2.2.1 (by omega)
    have := idx_at hm
    rw [e] at this
    simpa using this
theorem place_ex {m : Nat} {xs : List Int} (h : rankOkP m xs = true) {a : Nat} (ha : a < m) : ∃ p : Nat, p < m ∧ idxP xs a = (p : Int) := by
  obtain ⟨_, hl, _, _⟩ := of_rank h
  have hm : (a : Int) ∈ xs := rank_full h ⟨by omega, by omega⟩
  have hb := idx_bd xs (a : Int)
  have h0 := hb.2.2.2 hm
  exact ⟨(idxP xs a).toNat, by omega, by omega⟩
/-- How many of the first k votes' voters have candidate a at place p. -/
def plT (vs : List (List Int × Int)) (k p a : Nat) : Int := ((List.range k).map fun j => if nth (rk vs j) p = (a : Int) then ct vs j else 0).sum
theorem plT_zero (vs : List (List Int × Int)) (p a : Nat) : plT vs 0 p a = 0 := rfl
theorem plT_succ (vs : List (List Int × Int)) (k p a : Nat) : plT vs (k + 1) p a = plT vs k p a + (if nth (rk vs k) p = (a : Int) then ct vs k else 0) := by
  simp [plT, List.range_succ]
theorem plT_bd {vs : List (List Int × Int)} (p a : Nat) : ∀ k, (∀ j, j < k → 1 ≤ ct vs j ∧ ct vs j ≤ 1000) → 0 ≤ plT vs k p a ∧ plT vs k p a ≤ 1000 * k
  | 0, _ => by simp [plT]
  | k + 1, h => by
    have h1 := plT_bd (vs := vs) p a k (fun j hj => h j (by omega))
    have h2 := h k (by omega)
    rw [plT_succ]
    split <;> omega
/-- Candidate a's row of the table of places. -/
def plRow (vs : List (List Int × Int)) (n q a : Nat) : List Int := (List.range q).map fun p => plT vs n p a
theorem plRow_len (vs : List (List Int × Int)) (n q a : Nat) : (plRow vs n q a).length = q := by simp [plRow]
theorem plRow_nth {vs : List (List Int × Int)} {n q a p : Nat} (h : p < q) : nth (plRow vs n q a) p = plT vs n p a := by
  rw [nth_get (by rw [plRow_len]; exact h)]
  simp [plRow]
/-- A column of it. -/
def plCol (vs : List (List Int × Int)) (n q p : Nat) : List Int := (List.range q).map fun a => plT vs n p a
theorem plCol_len (vs : List (List Int × Int)) (n q p : Nat) : (plCol vs n q p).length = q := by simp [plCol]
theorem plCol_nth {vs : List (List Int × Int)} {n q a p : Nat} (h : a < q) : nth (plCol vs n q p) a = plT vs n p a := by
  rw [nth_get (by rw [plCol_len]; exact h)]
  simp [plCol]
theorem plCol_succ (vs : List (List Int × Int)) (n q p : Nat) : plCol vs n (q + 1) p = plCol vs n q p ++ [plT vs n p q] := by
  simp [plCol, List.range_succ]
theorem plCol_zero (vs : List (List Int × Int)) (n p : Nat) : plCol vs n 0 p = [] := rfl
def lastPl (last : Bool) (m : Int) : Nat := if last then m.toNat - 1 else 0
def colP (m : Int) (vs : List (List Int × Int)) (last : Bool) : List Int := if profP m vs then plCol vs vs.length m.toNat (lastPl last m) else []
theorem col_no {m : Int} {vs : List (List Int × Int)} {last : Bool} (h : profP m vs = false) : colP m vs last = [] := by simp [colP, h]
theorem col_yes {n q : Nat} {vs : List (List Int × Int)} {last : Bool} (hl : vs.length = n) (h : profP q vs = true) : colP q vs last = plCol vs n q (lastPl last q) := by simp [colP, h, hl]
theorem colP_len {m : Int} {vs : List (List Int × Int)} {last : Bool} : (colP m vs last).length ≤ 5 := by
  cases h : profP m vs with
  | false => rw [col_no h]; simp
  | true =>
    have := (of_prof h).1
    unfold colP
    rw [if_pos h, plCol_len]; omega
/-- One cell of a row of places, the k-th vote counted. -/
theorem pl_store {m : Nat} {vs : List (List Int × Int)} {k a p : Nat} (h : rankOkP m (rk vs k) = true) (hp : idxP (rk vs k) a = (p : Int)) (hpm : p < m) (j : Nat) (hj : j < m) :
    (if j = p then Value.int .i64 (plT vs k p a + ct vs k) else Value.int .i64 (plT vs k j a)) = .int .i64 (plT vs (k + 1) j a) := by
  rw [plT_succ]
  by_cases e : j = p
  · subst e
    rw [if_pos rfl, if_pos ((place_iff h hpm).2 hp)]
  · rw [if_neg e, if_neg, Int.add_zero]
    intro he
    have := (place_iff h hj).1 he
    omega
/-- One cell of the column of places, the k-th vote counted. -/
theorem pc_store {vs : List (List Int × Int)} {k a p : Nat} (ha : nth (rk vs k) p = (a : Int)) (j : Nat) :
    (if j = a then Value.int .i64 (plT vs k p a + ct vs k) else Value.int .i64 (plT vs k p j)) = .int .i64 (plT vs (k + 1) p j) := by
  rw [plT_succ]
  by_cases e : j = a
  · subst e
    rw [if_pos rfl, if_pos ha]
  · rw [if_neg e, if_neg, Int.add_zero]
    intro he
    rw [ha] at he
    omega
end Go.Proofs.Ytblofiimfhbkdab
