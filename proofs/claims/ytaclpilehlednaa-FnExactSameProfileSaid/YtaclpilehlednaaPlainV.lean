/- Profiles that the program makes: plain facts. No program in sight. -/
import Derived.Test.YtaclpilehlednaaPok
namespace Go.Proofs.Ytaclpilehlednaa
open Go.RowKit

theorem vnth_get {vs : List (List Int × Int)} {k : Nat} (h : k < vs.length) : vnth vs k = vs[k] := by simp [vnth, List.getD, h]
theorem vnth_out {vs : List (List Int × Int)} {k : Nat} (h : vs.length ≤ k) : vnth vs k = ([], 0) := by simp [vnth, List.getD, List.getElem?_eq_none h]
/-- The votes of a ranking each: f of the ranking, its count as it was. -/
def mapV (f : List Int → List Int) (vs : List (List Int × Int)) : List (List Int × Int) := vs.map fun v => (f v.1, v.2)
theorem mapV_len (f : List Int → List Int) (vs : List (List Int × Int)) : (mapV f vs).length = vs.length := by simp [mapV]
theorem mapV_rk (f : List Int → List Int) {vs : List (List Int × Int)} {k : Nat} (h : k < vs.length) : rk (mapV f vs) k = f (rk vs k) := by
  unfold rk
  rw [vnth_get (by rw [mapV_len]; exact h), vnth_get h]
  simp [mapV]
theorem mapV_ct (f : List Int → List Int) {vs : List (List Int × Int)} {k : Nat} (h : k < vs.length) : ct (mapV f vs) k = ct vs k := by
  unfold ct
  rw [vnth_get (by rw [mapV_len]; exact h), vnth_get h]
  simp [mapV]
/-- One ranking is replaced. -/
def setV (vs : List (List Int × Int)) (k : Nat) (xs : List Int) : List (List Int × Int) := vs.set k (xs, ct vs k)
theorem setV_len (vs : List (List Int × Int)) (k : Nat) (xs : List Int) : (setV vs k xs).length = vs.length := by simp [setV]
theorem setV_rk {vs : List (List Int × Int)} {k j : Nat} (xs : List Int) (h : j < vs.length) : rk (setV vs k xs) j = if j = k then xs else rk vs j := by
  unfold rk
  rw [vnth_get (by rw [setV_len]; exact h), vnth_get h]
  by_cases e : k = j
  · subst e; simp [setV]
  · have e' : j ≠ k := fun h => e h.symm
    simp [setV, e, e']
theorem setV_ct {vs : List (List Int × Int)} {k j : Nat} (xs : List Int) (h : j < vs.length) : ct (setV vs k xs) j = ct vs j := by
  unfold ct
  rw [vnth_get (by rw [setV_len]; exact h), vnth_get h]
  by_cases e : k = j
  · subst e; simp [setV, ct, vnth_get h]
  · simp [setV, e]
/-- A vote is added. -/
def addV (vs : List (List Int × Int)) (xs : List Int) (q : Int) : List (List Int × Int) := vs ++ [(xs, q)]
theorem addV_len (vs : List (List Int × Int)) (xs : List Int) (q : Int) : (addV vs xs q).length = vs.length + 1 := by simp [addV]
theorem addV_rk {vs : List (List Int × Int)} {n j : Nat} (hl : vs.length = n) (xs : List Int) (q : Int) (h : j < n + 1) : (if j = n then xs else rk vs j) = rk (addV vs xs q) j := by
  subst hl
  unfold rk
  rw [vnth_get (vs := addV vs xs q) (by rw [addV_len]; exact h)]
  by_cases e : j = vs.length
  · subst e; simp [addV]
  · have hj : j < vs.length := by omega
    rw [if_neg e, vnth_get hj]
    simp [addV, List.getElem_append_left hj]
theorem addV_ct {vs : List (List Int × Int)} {n j : Nat} (hl : vs.length = n) (xs : List Int) (q : Int) (h : j < n + 1) : (if j = n then q else ct vs j) = ct (addV vs xs q) j := by
  subst hl
  unfold ct
  rw [vnth_get (vs := addV vs xs q) (by rw [addV_len]; exact h)]
  by_cases e : j = vs.length
  · subst e; simp [addV]
  · have hj : j < vs.length := by omega
    rw [if_neg e, vnth_get hj]
    simp [addV, List.getElem_append_left hj]
theorem rank_len {m : Int} {xs : List Int} (h : rankOkP m xs = true) : (xs.length : Int) = m ∧ 1 ≤ m ∧ m ≤ 5 := by
  simp only [rankOkP, Bool.and_eq_true, decide_eq_true_eq, inB'] at h
  exact ⟨h.1.1.2, h.1.1.1.1, h.1.1.1.2⟩
theorem prof_rl {m : Int} {vs : List (List Int × Int)} (h : profP m vs = true) {k : Nat} (hk : k < vs.length) : (rl vs k : Int) = m ∧ m ≤ 5 := by
  have h1 := rank_len (of_votes (of_prof h).2.2 hk).1
  exact ⟨h1.1, h1.2.2⟩

/-! ### What the functions answer -/
def onM (ok : Bool) (m : Int) : Int := if ok then m else 0
def onV (ok : Bool) (vs : List (List Int × Int)) : List (List Int × Int) := if ok then vs else []
def wrOk (m : Int) (vs : List (List Int × Int)) (k : Int) (xs : List Int) : Bool := profP m vs && inB k 0 ((vs.length : Int) - 1) && rankOkP m xs
def wrM (m : Int) (vs : List (List Int × Int)) (k : Int) (xs : List Int) : Int := onM (wrOk m vs k xs) m
def wrV (m : Int) (vs : List (List Int × Int)) (k : Int) (xs : List Int) : List (List Int × Int) := onV (wrOk m vs k xs) (setV vs k.toNat xs)
def rvM (m : Int) (vs : List (List Int × Int)) : Int := onM (profP m vs) m
def rvV (m : Int) (vs : List (List Int × Int)) : List (List Int × Int) := onV (profP m vs) (mapV List.reverse vs)
/-- A ranking's candidates by their new names. -/
def byName (names xs : List Int) : List Int := xs.map fun a => nth names a.toNat
theorem byName_len (names xs : List Int) : (byName names xs).length = xs.length := by simp [byName]
def rnOk (m : Int) (vs : List (List Int × Int)) (xs : List Int) : Bool := profP m vs && rankOkP m xs
def rnM (m : Int) (vs : List (List Int × Int)) (xs : List Int) : Int := onM (rnOk m vs xs) m
def rnV (m : Int) (vs : List (List Int × Int)) (xs : List Int) : List (List Int × Int) := onV (rnOk m vs xs) (mapV (byName xs) vs)
def adOk (m : Int) (vs : List (List Int × Int)) (xs : List Int) (q : Int) : Bool := profP m vs && profP m (addV vs xs q)
def adM (m : Int) (vs : List (List Int × Int)) (xs : List Int) (q : Int) : Int := onM (adOk m vs xs q) m
def adV (m : Int) (vs : List (List Int × Int)) (xs : List Int) (q : Int) : List (List Int × Int) := onV (adOk m vs xs q) (addV vs xs q)
/-- Few votes, each of few candidates. -/
def SmallV (vs : List (List Int × Int)) : Prop := (vs.length : Int) ≤ 1048576 ∧ ∀ k, k < vs.length → ((rk vs k).length : Int) ≤ 1048576
theorem small_nil : SmallV [] := ⟨by simp, fun k hk => absurd hk (by simp)⟩
theorem small_on {ok : Bool} {vs : List (List Int × Int)} (h : ok = true → SmallV vs) : SmallV (onV ok vs) := by
  cases ok with
  | false => exact small_nil
  | true => exact h rfl
theorem small_prof {m : Int} {vs : List (List Int × Int)} (h : profP m vs = true) : SmallV vs := by
  have h1 := of_prof h
  exact ⟨by omega, fun k hk => by have h2 := prof_rl h hk; have h3 : (rk vs k).length = rl vs k := rfl; omega⟩
theorem wr_small (m : Int) (vs : List (List Int × Int)) (k : Int) (xs : List Int) : SmallV (wrV m vs k xs) := by
  refine small_on fun h => ?_
  simp only [wrOk, Bool.and_eq_true] at h
  have h1 := of_prof h.1.1
  have h2 := rank_len h.2
  refine ⟨by rw [setV_len]; omega, fun j hj => ?_⟩
  rw [setV_len] at hj
  rw [setV_rk _ hj]
  have h3 := prof_rl h.1.1 hj
  have h4 : (rk vs j).length = rl vs j := rfl
  split <;> omega
theorem rv_small (m : Int) (vs : List (List Int × Int)) : SmallV (rvV m vs) := by
  refine small_on fun h => ?_
  have h1 := of_prof h
  refine ⟨by rw [mapV_len]; omega, fun j hj => ?_⟩
  rw [mapV_len] at hj
  rw [mapV_rk _ hj, List.length_reverse]
  have h3 := prof_rl h hj
  have h4 : (rk vs j).length = rl vs j := rfl
  omega
theorem rn_small (m : Int) (vs : List (List Int × Int)) (xs : List Int) : SmallV (rnV m vs xs) := by
  refine small_on fun h => ?_
  simp only [rnOk, Bool.and_eq_true] at h
  have h1 := of_prof h.1
  refine ⟨by rw [mapV_len]; omega, fun j hj => ?_⟩
  rw [mapV_len] at hj
  rw [mapV_rk _ hj, byName_len]
  have h3 := prof_rl h.1 hj
  have h4 : (rk vs j).length = rl vs j := rfl
  omega
theorem ad_small (m : Int) (vs : List (List Int × Int)) (xs : List Int) (q : Int) : SmallV (adV m vs xs q) := by
  refine small_on fun h => ?_
  simp only [adOk, Bool.and_eq_true] at h
  exact small_prof h.2
theorem on_no {vs : List (List Int × Int)} : onV false vs = [] := rfl
theorem on_yes {vs : List (List Int × Int)} : onV true vs = vs := rfl
end Go.Proofs.Ytaclpilehlednaa
