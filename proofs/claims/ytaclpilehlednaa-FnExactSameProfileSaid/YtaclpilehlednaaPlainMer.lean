/- The merged profile, in plain terms. -/
import Derived.Test.YtaclpilehlednaaPlainFnR
import Derived.Test.YtaclpilehlednaaPok
namespace Go.Proofs.Ytaclpilehlednaa
open Go.RowKit

theorem ranks_nodup0 : ∀ m, m < 6 → (ordP m (upTo m)).Nodup := by decide +kernel
theorem ranks_nodup (m : Int) : (ranksP m).Nodup := by
  by_cases h : 1 ≤ m ∧ m ≤ 5
  · rw [ranksP, if_pos h]; exact ranks_nodup0 _ (by omega)
  · rw [ranks_no h]; exact List.nodup_nil
/-- How many voters have the ranking r among the first k votes. -/
def cnt (vs : List (List Int × Int)) (r : List Int) : Nat → Int
  | 0 => 0
  | k + 1 => cnt vs r k + (if rk vs k = r then ct vs k else 0)
theorem cnt_yes {vs : List (List Int × Int)} {r : List Int} {k : Nat} (h : rk vs k = r) : cnt vs r (k + 1) = cnt vs r k + ct vs k := by rw [cnt, if_pos h]
theorem cnt_no {vs : List (List Int × Int)} {r : List Int} {k : Nat} (h : rk vs k ≠ r) : cnt vs r (k + 1) = cnt vs r k := by rw [cnt, if_neg h, Int.add_zero]
theorem cnt_bd {m : Int} {vs : List (List Int × Int)} (hp : profP m vs = true) (r : List Int) : ∀ k, k ≤ vs.length → 0 ≤ cnt vs r k ∧ cnt vs r k ≤ 1000 * k
  | 0, _ => by simp [cnt]
  | k + 1, h => by
    have ih := cnt_bd hp r k (by omega)
    have := (of_votes (of_prof hp).2.2 (k := k) (by omega)).2
    rw [cnt]
    split <;> omega
theorem cnt_some {vs : List (List Int × Int)} {r : List Int} : ∀ k, 0 < cnt vs r k → ∃ j, j < k ∧ rk vs j = r
  | 0, h => by simp [cnt] at h
  | k + 1, h => by
    by_cases e : rk vs k = r
    · exact ⟨k, by omega, e⟩
    · rw [cnt_no e] at h
      obtain ⟨j, hj, hr⟩ := cnt_some k h
      exact ⟨j, by omega, hr⟩
/-- The counts, in the rankings' order, behind k votes. -/
def cL (m : Int) (vs : List (List Int × Int)) (k : Nat) : List Int := (ranksP m).map fun r => cnt vs r k
theorem cL_len (m : Int) (vs : List (List Int × Int)) (k : Nat) : (cL m vs k).length = (ranksP m).length := by simp [cL]
theorem cL_at {m : Int} {vs : List (List Int × Int)} {k i : Nat} {r : List Int} (h : (ranksP m)[i]? = some r) : nth (cL m vs k) i = cnt vs r k := by simp [nth, List.getD, cL, h]
theorem cL_zero (m : Int) (vs : List (List Int × Int)) (i : Nat) : nth (cL m vs 0) i = 0 := by
  simp only [nth, List.getD, cL, cnt, List.getElem?_map]
  cases (ranksP m)[i]? <;> rfl
theorem cL_step {m : Int} {vs : List (List Int × Int)} {k i : Nat} (h : (ranksP m)[i]? = some (rk vs k)) : (cL m vs k).set i (nth (cL m vs k) i + ct vs k) = cL m vs (k + 1) := by
  have hi : i < (ranksP m).length := (List.getElem?_eq_some_iff.1 h).1
  have hg : (ranksP m)[i] = rk vs k := (List.getElem?_eq_some_iff.1 h).2
  apply List.ext_getElem
  · rw [List.length_set, cL_len, cL_len]
  · intro j h1 h2
    rw [List.length_set, cL_len] at h1
    rw [List.getElem_set]
    by_cases e : i = j
    · subst e
      rw [if_pos rfl, cL_at h]
      simp only [cL, List.getElem_map, hg, cnt_yes rfl]
    · rw [if_neg e]
      simp only [cL, List.getElem_map]
      rw [cnt_no]
      intro q
      rw [← hg] at q
      have hN := List.pairwise_iff_getElem.1 (ranks_nodup m)
      rcases Nat.lt_or_gt_of_ne e with l | l
      · exact hN i j hi h1 l q
      · exact hN j i h1 hi l q.symm
/-- The merged votes out of the first k rankings. -/
def merK (m : Int) (vs : List (List Int × Int)) (k : Nat) : List (List Int × Int) :=
  ((ranksP m).take k).filterMap fun r => if 0 < cnt vs r vs.length then some (r, cnt vs r vs.length) else none
def merP (m : Int) (vs : List (List Int × Int)) : List (List Int × Int) := merK m vs (ranksP m).length
theorem mer_zero (m : Int) (vs : List (List Int × Int)) : merK m vs 0 = [] := by simp [merK]
theorem mer_yes {m : Int} {vs : List (List Int × Int)} {k : Nat} {r : List Int} (h : (ranksP m)[k]? = some r) (hc : 0 < cnt vs r vs.length) : merK m vs (k + 1) = merK m vs k ++ [(r, cnt vs r vs.length)] := by
  have hi : k < (ranksP m).length := (List.getElem?_eq_some_iff.1 h).1
  have hg : (ranksP m)[k] = r := (List.getElem?_eq_some_iff.1 h).2
  rw [merK, merK, List.take_succ_eq_append_getElem hi, List.filterMap_append, hg]
  simp [hc]
theorem mer_no {m : Int} {vs : List (List Int × Int)} {k : Nat} {r : List Int} (h : (ranksP m)[k]? = some r) (hc : ¬ 0 < cnt vs r vs.length) : merK m vs (k + 1) = merK m vs k := by
  have hi : k < (ranksP m).length := (List.getElem?_eq_some_iff.1 h).1
  have hg : (ranksP m)[k] = r := (List.getElem?_eq_some_iff.1 h).2
  rw [merK, merK, List.take_succ_eq_append_getElem hi, List.filterMap_append, hg]
  simp [hc]
theorem mer_len_le (m : Int) (vs : List (List Int × Int)) (k : Nat) : (merK m vs k).length ≤ k := by
  unfold merK
  exact Nat.le_trans (List.length_filterMap_le ..) (by rw [List.length_take]; omega)
theorem mer_mem {m : Int} {vs : List (List Int × Int)} {k : Nat} {p : List Int × Int} (h : p ∈ merK m vs k) : p.1 ∈ ranksP m ∧ p.2 = cnt vs p.1 vs.length ∧ 0 < p.2 := by
  unfold merK at h
  rw [List.mem_filterMap] at h
  obtain ⟨r, hr, he⟩ := h
  split at he
  · injection he with he
    subst he
    exact ⟨List.mem_of_mem_take hr, rfl, by assumption⟩
  · cases he
theorem mer_few (m : Int) (vs : List (List Int × Int)) : (merP m vs).length ≤ vs.length := by
  have e : (merP m vs).length = ((ranksP m).filter fun r => decide (0 < cnt vs r vs.length)).length := by
    unfold merP merK
    rw [List.take_of_length_le (Nat.le_refl _), List.length_filterMap_eq_countP, List.countP_eq_length_filter]
    congr 1
    apply List.filter_congr
    intro r _
    by_cases h : 0 < cnt vs r vs.length <;> simp [h]
  rw [e, show vs.length = (vs.map (·.1)).length by simp]
  apply List.Nodup.length_le_of_subset
  · exact List.Pairwise.filter _ (ranks_nodup m)
  · intro r hr
    rw [List.mem_filter] at hr
    obtain ⟨j, hj, he⟩ := cnt_some vs.length (by simpa using hr.2)
    rw [List.mem_map]
    refine ⟨vs[j], List.getElem_mem hj, ?_⟩
    rw [← he]; simp [rk, vnth, List.getD, hj]
/-- Where the merged profile is not one, some count is above 1000. -/
theorem mer_fail {m : Int} {vs : List (List Int × Int)} (hp : profP m vs = true) (hq : profP m (merP m vs) = false) : ∃ i : Nat, i < (ranksP m).length ∧ 1000 < nth (cL m vs vs.length) i := by
  apply Classical.byContradiction
  intro hno
  have hall : ∀ i : Nat, i < (ranksP m).length → nth (cL m vs vs.length) i ≤ 1000 := fun i hi => by
    by_cases h : nth (cL m vs vs.length) i ≤ 1000
    · exact h
    · exact absurd ⟨i, hi, by omega⟩ hno
  have h24 := (of_prof hp).2.1
  have hm := (of_prof hp).1
  have hf := mer_few m vs
  have : profP m (merP m vs) = true := by
    have hv : votesOk m (merP m vs) = true := votes_yes fun k hk => by
      have hmem : vnth (merP m vs) k ∈ merP m vs := by
        rw [show vnth (merP m vs) k = (merP m vs)[k] by simp [vnth, List.getD, hk]]
        exact List.getElem_mem hk
      obtain ⟨h1, h2, h3⟩ := mer_mem hmem
      obtain ⟨i, hi, hr⟩ := List.getElem_of_mem h1
      have hb := hall i hi
      rw [cL_at (r := (vnth (merP m vs) k).1) (by rw [List.getElem?_eq_getElem hi, hr])] at hb
      have q1 : rankOkP m (rk (merP m vs) k) = true := ranks_mem h1
      have q2 : inB (ct (merP m vs) k) 1 1000 = true := by
        show inB (vnth (merP m vs) k).2 1 1000 = true
        simp only [inB, decide_eq_true_eq]
        omega
      rw [voteOk, q1, q2]; rfl
    have q3 : inB m 1 5 = true := by simp only [inB, decide_eq_true_eq]; omega
    have q4 : (merP m vs).length ≤ 24 := by omega
    simp [profP, q3, q4, hv]
  rw [this] at hq
  cases hq
end Go.Proofs.Ytaclpilehlednaa
