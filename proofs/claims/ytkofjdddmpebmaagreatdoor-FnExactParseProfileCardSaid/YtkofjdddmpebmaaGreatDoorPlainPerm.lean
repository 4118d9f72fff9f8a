/- Plain facts on rankings of at most five candidates, by looking at each: every candidate has a place; the two ways to test a peak and to count swaps agree. No program in sight. -/
import Derived.Test.YtkofjdddmpebmaaGreatDoorPlainRank
namespace Go.Proofs.YtkofjdddmpebmaaGreatDoor

/-- All lists of length k over 0 .. m-1. -/
def cube (m : Nat) : Nat → List (List Int)
  | 0 => [[]]
  | k + 1 => (List.range m).flatMap fun (x : Nat) => (cube m k).map fun r => (x : Int) :: r
theorem mem_cube {m : Nat} : ∀ (xs : List Int), (∀ x ∈ xs, 0 ≤ x ∧ x < m) → xs ∈ cube m xs.length
  | [], _ => by simp [cube]
  | x :: xs, h => by
    have hx := h x (by simp)
    have ih := mem_cube (m := m) xs (fun y hy => h y (by simp [hy]))
    simp only [List.length_cons, cube, List.mem_flatMap, List.mem_map, List.mem_range]
    exact ⟨x.toNat, by omega, xs, ih, by congr 1; omega⟩
theorem rank_mem {m : Nat} {xs : List Int} (h : rankOkP m xs = true) : xs ∈ cube m m ∧ m < 6 := by
  obtain ⟨h1, h2, h3, _⟩ := of_rank h
  have hl : xs.length = m := by omega
  refine ⟨?_, by omega⟩
  have := mem_cube (m := m) xs (fun x hx => by
    obtain ⟨k, hk, rfl⟩ := mem_getD hx
    have := h3 k hk
    omega)
  rwa [hl] at this
/-- A test that every ranking passes. -/
def allRank (P : Nat → List Int → Bool) : Bool := (List.range 6).all fun m => (cube m m).all fun xs => !rankOkP m xs || P m xs
theorem of_allRank {P : Nat → List Int → Bool} (h : allRank P = true) {m : Nat} {xs : List Int} (hr : rankOkP m xs = true) : P m xs = true := by
  obtain ⟨h1, h2⟩ := rank_mem hr
  unfold allRank at h
  rw [List.all_eq_true] at h
  have h3 := h m (List.mem_range.2 h2)
  rw [List.all_eq_true] at h3
  have h4 := h3 xs h1
  simpa [hr] using h4

theorem rank_full {m : Nat} {xs : List Int} (h : rankOkP m xs = true) {a : Int} (ha : 0 ≤ a ∧ a < m) : a ∈ xs := by
  have := of_allRank (P := fun m xs => (List.range m).all fun (a : Nat) => xs.contains (a : Int)) (by decide +kernel) h
  rw [List.all_eq_true] at this
  have := this a.toNat (List.mem_range.2 (by omega))
  rw [show ((a.toNat : Nat) : Int) = a by omega] at this
  simpa using this

/-- The places on the axis, in the list's order. -/
def places (axis xs : List Int) : List Int := xs.map (idxP axis)
theorem places_len (axis xs : List Int) : (places axis xs).length = xs.length := by simp [places]
theorem nth_places (axis : List Int) {xs : List Int} {k : Nat} (h : k < xs.length) : nth (places axis xs) k = idxP axis (nth xs k) := by
  rw [nth_get (by rw [places_len]; exact h), nth_get h]; simp [places]
theorem idx_at {xs : List Int} {a : Int} (h : a ∈ xs) : nth xs (idxP xs a).toNat = a := by
  have hlt := List.idxOf_lt_length_of_mem h
  have e : (idxP xs a).toNat = xs.idxOf a := by rw [idxP, if_pos h]; omega
  rw [e, nth_get hlt]
  exact List.getElem_idxOf hlt
theorem idx_inj {xs : List Int} {a b : Int} (ha : a ∈ xs) (hb : b ∈ xs) (h : idxP xs a = idxP xs b) : a = b := by
  rw [← idx_at ha, ← idx_at hb, h]
theorem places_rank {m : Nat} {axis xs : List Int} (h1 : rankOkP m axis = true) (h2 : rankOkP m xs = true) : rankOkP m (places axis xs) = true := by
  obtain ⟨a1, a2, a3, a4⟩ := of_rank h1
  obtain ⟨b1, b2, b3, b4⟩ := of_rank h2
  have mem : ∀ k, k < xs.length → nth xs k ∈ axis := fun k hk => rank_full h1 (by have := b3 k hk; omega)
  refine rank_yes b1 (by rw [places_len]; exact b2) fun j hj => ?_
  rw [places_len] at hj
  have hb := idx_bd axis (nth xs j)
  have hm := hb.2.2.2 (mem j hj)
  refine ⟨by rw [nth_places _ hj]; omega, fun i hi e => ?_⟩
  rw [nth_places _ hj, nth_places _ (by omega)] at e
  have e2 := idx_inj (mem i (by omega)) (mem j hj) e
  rw [List.nodup_iff_pairwise_ne, List.pairwise_iff_getElem] at b4
  exact b4 i j (by omega) hj hi (by rw [← nth_get (by omega), ← nth_get hj]; exact e2)

theorem nth_drop (xs : List Int) (i k : Nat) : nth (xs.drop i) k = nth xs (i + k) := by
  unfold nth
  simp [List.getD, List.getElem?_drop]
/-! ### Peaks -/
def pkI : List Int → Int → Int → Int → Bool
  | [], _, _, _ => true
  | p :: r, low, high, k => if max high p - min low p > k then false else pkI r (min low p) (max high p) (k + 1)
def pkS : List Int → Int → Int → Bool
  | [], _, _ => true
  | p :: r, low, high => if p = low - 1 then pkS r p high else if p = high + 1 then pkS r low p else false
def peakI (ps : List Int) : Bool := pkI ps ps.length (-1) 0
def peakS (ps : List Int) : Bool := pkS (ps.drop 1) (nth ps 0) (nth ps 0)
theorem peak_same {m : Nat} {ps : List Int} (h : rankOkP m ps = true) : peakI ps = peakS ps := by
  have := of_allRank (P := fun _ ps => peakI ps == peakS ps) (by decide +kernel) h
  simpa using this
theorem drop_cons {xs : List Int} {k : Nat} (h : k < xs.length) : xs.drop k = nth xs k :: xs.drop (k + 1) := by
  rw [nth_get h]; exact List.drop_eq_getElem_cons h
def peakedP (xs axis : List Int) : Bool := rankOkP axis.length axis && rankOkP axis.length xs && peakS (places axis xs)

/-! ### Swaps -/
/-- How many of the later ones come before p. -/
def less (p : Int) (r : List Int) : Int := ((r.filter fun q => decide (q < p)).length : Int)
def swI : List Int → Int
  | [] => 0
  | p :: r => less p r + swI r
/-- The other way round: of the first k, how many come behind the k-th. -/
def more (p : Int) (r : List Int) : Int := ((r.filter fun q => decide (p < q)).length : Int)
def swS (ps : List Int) (k : Nat) : Int := ((List.range k).map fun i => more (nth ps i) (ps.take i)).sum
theorem swap_same {m : Nat} {ps : List Int} (h : rankOkP m ps = true) : swI ps = swS ps ps.length := by
  have := of_allRank (P := fun _ ps => swI ps == swS ps ps.length) (by decide +kernel) h
  simpa using this
end Go.Proofs.YtkofjdddmpebmaaGreatDoor
