/- The number of a ranking: plain facts. No program in sight. -/
import Derived.Test.YtaclpilehlednaaPlainPerm
import Derived.Test.YtaclpilehlednaaPlainAll
namespace Go.Proofs.Ytaclpilehlednaa

/-- The reference's number: at each place how many smaller ones stand behind it. -/
def lehS : List Int → Int → Int
  | [], a => a
  | x :: r, a => lehS r (a * ((r.length : Int) + 1) + less x r)
theorem num_same0 : allRank (fun m xs => decide (lehS xs 0 = ((ordP m (upTo m)).idxOf xs : Int)) && decide (xs ∈ ordP m (upTo m))) = true := by decide +kernel
/-- A ranking's place among all rankings is the reference's number. -/
theorem num_same {m : Nat} {xs : List Int} (h : rankOkP m xs = true) : lehS xs 0 = ((ordP m (upTo m)).idxOf xs : Int) ∧ xs ∈ ordP m (upTo m) := by
  have := of_allRank num_same0 h
  simpa using this
/-- The place of a list among lists, or -1. -/
def idxL (ls : List (List Int)) (x : List Int) : Int := if x ∈ ls then (ls.idxOf x : Int) else -1
/-- The number of a ranking, -1 of what is none. -/
def numP (xs : List Int) : Int := if rankOkP xs.length xs then lehS xs 0 else -1
theorem ranks_mem {m : Int} {xs : List Int} (h : xs ∈ ranksP m) : rankOkP m xs = true := by
  by_cases hm : 1 ≤ m ∧ m ≤ 5
  · obtain ⟨q, rfl⟩ : ∃ q : Nat, m = (q : Int) := ⟨m.toNat, by omega⟩
    rw [ranks_yes hm] at h
    have h2 := ranks_rank0 q (by omega) (by omega)
    rw [List.all_eq_true] at h2
    exact h2 _ h
  · rw [ranks_no hm] at h
    cases h
theorem num_idx (xs : List Int) : idxL (ranksP xs.length) xs = numP xs := by
  unfold idxL numP
  cases h : rankOkP xs.length xs with
  | true =>
    obtain ⟨h1, h2⟩ := num_same h
    rw [ranks_yes (of_rank h).1, if_pos h2, if_pos rfl, h1]
  | false =>
    rw [if_neg (fun hm => by rw [ranks_mem hm] at h; cases h), if_neg (by simp)]
theorem idxOf_list (a : List Int) : ∀ (ls : List (List Int)) (k : Nat), ls[k]? = some a → (∀ j, j < k → ls[j]? ≠ some a) → ls.idxOf a = k
  | [], k, h, _ => by simp at h
  | x :: ls, 0, h, _ => by
    have h : x = a := by simpa using h
    subst h
    exact List.idxOf_cons_self
  | x :: ls, k + 1, h, hn => by
    have h0 : x ≠ a := fun e => hn 0 (by omega) (by simp [e])
    rw [List.idxOf_cons, show (x == a) = false by simpa using h0, cond_false, idxOf_list a ls k (by simpa using h) (fun j hj => by have := hn (j + 1) (by omega); simpa using this)]
theorem idxL_found {ls : List (List Int)} {a : List Int} {k : Nat} (h : ls[k]? = some a) (hn : ∀ j, j < k → ls[j]? ≠ some a) : idxL ls a = k := by
  rw [idxL, if_pos (List.mem_of_getElem? h), idxOf_list a ls k h hn]
theorem idxL_none {ls : List (List Int)} {a : List Int} (hn : ∀ j, j < ls.length → ls[j]? ≠ some a) : idxL ls a = -1 := by
  rw [idxL, if_neg]
  intro hm
  obtain ⟨k, hk, e⟩ := List.mem_iff_getElem.1 hm
  exact hn k hk (by rw [List.getElem?_eq_getElem hk, e])
theorem num_bd (xs : List Int) : -1 ≤ numP xs ∧ numP xs < 120 := by
  rw [← num_idx]
  unfold idxL
  split
  · rename_i h
    have := List.idxOf_lt_length_of_mem h
    have := ranks_len (xs.length : Int)
    omega
  · omega
/-- How far the reference has come: what is behind it still to do. -/
theorem leh_step {xs : List Int} {k : Nat} (h : k < xs.length) (a : Int) : lehS (xs.drop k) a = lehS (xs.drop (k + 1)) (a * ((xs.length : Int) - (k : Int)) + less (nth xs k) (xs.drop (k + 1))) := by
  rw [drop_cons h, lehS, List.length_drop]
  congr 2
  congr 1
  omega
end Go.Proofs.Ytaclpilehlednaa
