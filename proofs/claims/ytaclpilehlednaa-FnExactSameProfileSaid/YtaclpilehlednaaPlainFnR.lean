/- The number of swaps is a distance: plain facts. No program in sight. -/
import Derived.Test.YtaclpilehlednaaPlainSwap
import Derived.Test.YtaclpilehlednaaNum
import Derived.Test.YtaclpilehlednaaRaise
import Derived.Test.YtaclpilehlednaaWithout
namespace Go.Proofs.Ytaclpilehlednaa
set_option maxRecDepth 100000

/-- Neighbours exchanged. -/
def adj (i : Nat) (xs : List Int) : List Int := (xs.set i (nth xs (i + 1))).set (i + 1) (nth xs i)
theorem adj_len (i : Nat) (xs : List Int) : (adj i xs).length = xs.length := by simp [adj]
theorem adj_rank0 : allRank (fun m xs => (List.range (m - 1)).all fun i => rankOkP m (adj i xs) && decide (swI (adj i xs) ≤ swI xs + 1) && decide (adj i (adj i xs) = xs)) = true := by decide +kernel
theorem adj_rank {m i : Nat} {xs : List Int} (h : rankOkP m xs = true) (hi : i + 1 < m) : rankOkP m (adj i xs) = true ∧ swI (adj i xs) ≤ swI xs + 1 ∧ adj i (adj i xs) = xs := by
  have := of_allRank adj_rank0 h
  rw [List.all_eq_true] at this
  have := this i (List.mem_range.2 (by omega))
  simp only [Bool.and_eq_true, decide_eq_true_eq] at this
  exact ⟨this.1.1, this.1.2, this.2⟩
theorem adj_down0 : allRank (fun m xs => decide (0 ≤ swI xs) && if swI xs = 0 then decide (xs = upTo m) else (List.range (m - 1)).any fun i => decide (swI (adj i xs) + 1 = swI xs)) = true := by decide +kernel
theorem sw_nonneg {m : Nat} {xs : List Int} (h : rankOkP m xs = true) : 0 ≤ swI xs := by
  have := of_allRank adj_down0 h
  simp only [Bool.and_eq_true, decide_eq_true_eq] at this
  exact this.1
theorem sw_zero {m : Nat} {xs : List Int} (h : rankOkP m xs = true) (h0 : swI xs = 0) : xs = upTo m := by
  have := of_allRank adj_down0 h
  rw [if_pos h0] at this
  simp only [Bool.and_eq_true, decide_eq_true_eq] at this
  exact this.2
theorem sw_down {m : Nat} {xs : List Int} (h : rankOkP m xs = true) (h0 : swI xs ≠ 0) : ∃ i, i + 1 < m ∧ swI (adj i xs) + 1 = swI xs := by
  have := of_allRank adj_down0 h
  rw [if_neg h0] at this
  simp only [Bool.and_eq_true, List.any_eq_true, decide_eq_true_eq] at this
  obtain ⟨_, i, hi, e⟩ := this
  exact ⟨i, by have := List.mem_range.1 hi; omega, e⟩
theorem sw_upTo : ∀ m : Nat, m < 6 → swI (upTo m) = 0 := by decide +kernel
theorem places_adj (ax xs : List Int) {i : Nat} (h : i + 1 < xs.length) : places ax (adj i xs) = adj i (places ax xs) := by
  unfold adj
  rw [nth_places _ h, nth_places _ (show i < xs.length by omega)]
  simp [places, List.map_set]
theorem rank_lenF {m : Nat} {xs : List Int} (h : rankOkP m xs = true) : xs.length = m := by have := (of_rank h).2.1; omega
theorem rank_mem' {m : Nat} {xs ys : List Int} (h1 : rankOkP m xs = true) (h2 : rankOkP m ys = true) {k : Nat} (hk : k < m) : nth xs k ∈ ys :=
  rank_full h2 (by have := (of_rank h1).2.2.1 k (by rw [rank_lenF h1]; exact hk); omega)
theorem nth_up {m j : Nat} (h : j < m) : nth (upTo m) j = j := by simp [nth, List.getD, upTo, h]
/-- All at their own places: the same ranking. -/
theorem places_id {m : Nat} {xs ys : List Int} (h1 : rankOkP m xs = true) (h2 : rankOkP m ys = true) (h : places ys xs = upTo m) : xs = ys := by
  have l1 := rank_lenF h1
  have l2 := rank_lenF h2
  apply ext_nth (by omega)
  intro t ht
  have e := nth_places ys ht
  rw [h, nth_up (by omega)] at e
  have := idx_at (rank_mem' h1 h2 (k := t) (by omega))
  rw [← e, Int.toNat_natCast] at this
  exact this.symm
theorem places_self0 : allRank (fun m xs => decide (places xs xs = upTo m)) = true := by decide +kernel
theorem places_self {m : Nat} {xs : List Int} (h : rankOkP m xs = true) : places xs xs = upTo m := by
  have := of_allRank places_self0 h
  simpa using this
/-- The triangle. -/
theorem sw_tri {m : Nat} {ys zs : List Int} (h2 : rankOkP m ys = true) (h3 : rankOkP m zs = true) : ∀ (t : Nat) (xs : List Int), rankOkP m xs = true → swI (places ys xs) = t → swI (places zs xs) ≤ swI (places ys xs) + swI (places zs ys)
  | 0, xs, h1, ht => by
    have := places_id h1 h2 (sw_zero (places_rank h2 h1) ht)
    subst this
    omega
  | t + 1, xs, h1, ht => by
    obtain ⟨i, hi, e⟩ := sw_down (places_rank h2 h1) (by omega)
    have hl := rank_lenF h1
    rw [← places_adj _ _ (by omega)] at e
    obtain ⟨a1, _, a3⟩ := adj_rank h1 hi
    have ih := sw_tri h2 h3 t (adj i xs) a1 (by omega)
    have := (adj_rank (places_rank h3 a1) hi).2.1
    rw [← places_adj _ _ (by rw [adj_len]; omega), a3] at this
    omega
theorem sw_inv0 : allRank (fun m xs => decide (swI (places xs (upTo m)) = swI xs)) = true := by decide +kernel
theorem nodup_nth {xs : List Int} (h : xs.Nodup) {i j : Nat} (hi : i < xs.length) (hj : j < xs.length) (e : nth xs i = nth xs j) : i = j := by
  rw [nth_get hi, nth_get hj] at e
  exact (List.getElem_inj h).1 e
/-- The places the other way round: the inverse. -/
theorem places_inv {m : Nat} {xs ys : List Int} (h1 : rankOkP m xs = true) (h2 : rankOkP m ys = true) : places xs ys = places (places ys xs) (upTo m) := by
  have l1 := rank_lenF h1
  have l2 := rank_lenF h2
  have lu : (upTo m).length = m := by simp [upTo]
  apply ext_nth (by rw [places_len, places_len]; omega)
  intro j hj
  rw [places_len] at hj
  rw [nth_places _ hj, nth_places _ (by omega), nth_up (by omega)]
  -- the place of ys' j-th in xs
  have hm := rank_mem' h2 h1 (k := j) (by omega)
  have hb := idx_bd xs (nth ys j)
  have hk : (idxP xs (nth ys j)).toNat < xs.length := by have := hb.2.2.2 hm; omega
  have hat := idx_at hm
  have hp : rankOkP m (places ys xs) = true := places_rank h2 h1
  have lp := rank_lenF hp
  have e : nth (places ys xs) (idxP xs (nth ys j)).toNat = j := by
    rw [nth_places _ hk, hat]
    have hm2 := getD_mem (xs := ys) (k := j) hj
    have h3 := idx_at hm2
    have hb2 := idx_bd ys (nth ys j)
    have := nodup_nth (of_rank h2).2.2.2 (i := (idxP ys (nth ys j)).toNat) (j := j) (by have := hb2.2.2.2 hm2; omega) hj h3
    have := hb2.2.2.2 hm2
    omega
  have := idx_found (xs := places ys xs) (a := (j : Int)) (k := (idxP xs (nth ys j)).toNat) (by omega) e (fun i hi he => by
    have := nodup_nth (of_rank hp).2.2.2 (i := i) (j := (idxP xs (nth ys j)).toNat) (by omega) (by omega) (by rw [he, e])
    omega)
  rw [this]
  have := hb.2.2.2 hm
  omega
theorem sw_sym {m : Nat} {xs ys : List Int} (h1 : rankOkP m xs = true) (h2 : rankOkP m ys = true) : swI (places xs ys) = swI (places ys xs) := by
  have := of_allRank sw_inv0 (places_rank h2 h1)
  rw [← places_inv h1 h2] at this
  simpa using this

theorem swapP_of {m : Nat} {xs ys : List Int} (h1 : rankOkP m xs = true) (h2 : rankOkP m ys = true) : swapP xs ys = swI (places ys xs) := swap_yes (rank_lenF h1) h1 h2
theorem swapP_sym {m : Nat} {xs ys : List Int} (h1 : rankOkP m xs = true) (h2 : rankOkP m ys = true) : swapP ys xs = swapP xs ys := by
  rw [swapP_of h1 h2, swapP_of h2 h1, sw_sym h1 h2]
theorem swapP_nonneg {m : Nat} {xs ys : List Int} (h1 : rankOkP m xs = true) (h2 : rankOkP m ys = true) : 0 ≤ swapP xs ys := by
  rw [swapP_of h1 h2]; exact sw_nonneg (places_rank h2 h1)
theorem swapP_bd0 : allRank (fun _ xs => decide (swI xs ≤ 10)) = true := by decide +kernel
theorem swapP_bd {m : Nat} {xs ys : List Int} (h1 : rankOkP m xs = true) (h2 : rankOkP m ys = true) : swapP xs ys ≤ 10 := by
  rw [swapP_of h1 h2]
  have := of_allRank swapP_bd0 (places_rank h2 h1)
  simpa using this
theorem swapP_zero {m : Nat} {xs ys : List Int} (h1 : rankOkP m xs = true) (h2 : rankOkP m ys = true) : (swapP xs ys == 0) = decide (xs = ys) := by
  rw [swapP_of h1 h2, Bool.eq_iff_iff]
  simp only [beq_iff_eq, decide_eq_true_eq]
  constructor
  · intro h; exact places_id h1 h2 (sw_zero (places_rank h2 h1) h)
  · intro h; subst h; rw [places_self h1]; exact sw_upTo m (by have := (of_rank h1).1; omega)
theorem swapP_tri {m : Nat} {xs ys zs : List Int} (h1 : rankOkP m xs = true) (h2 : rankOkP m ys = true) (h3 : rankOkP m zs = true) : swapP xs zs ≤ swapP xs ys + swapP ys zs := by
  rw [swapP_of h1 h3, swapP_of h1 h2, swapP_of h2 h3]
  have h0 := sw_nonneg (places_rank h2 h1)
  exact sw_tri h2 h3 (swI (places ys xs)).toNat xs h1 (by omega)
theorem rev_rank0 : allRank (fun m xs => rankOkP m xs.reverse && decide (swI xs + swI xs.reverse = (m : Int) * ((m : Int) - 1) / 2)) = true := by decide +kernel
theorem rev_rank {m : Nat} {xs : List Int} (h : rankOkP m xs = true) : rankOkP m xs.reverse = true ∧ swI xs + swI xs.reverse = (m : Int) * ((m : Int) - 1) / 2 := by
  have := of_allRank rev_rank0 h
  simpa using this
theorem swapP_rev {m : Nat} {xs ys : List Int} (h1 : rankOkP m xs = true) (h2 : rankOkP m ys = true) : swapP xs ys + swapP xs.reverse ys = (m : Int) * ((m : Int) - 1) / 2 := by
  rw [swapP_of h1 h2, swapP_of (rev_rank h1).1 h2]
  have e : places ys xs.reverse = (places ys xs).reverse := by simp [places]
  rw [e]
  exact (rev_rank (places_rank h2 h1)).2
/-! ### The number -/
theorem num_at {m : Nat} {xs : List Int} (h : rankOkP m xs = true) : 0 ≤ numP xs ∧ numP xs < (ranksP m).length ∧ (ranksP m)[(numP xs).toNat]? = some xs := by
  have hl := rank_lenF h
  obtain ⟨e, hm⟩ := num_same h
  have hn : numP xs = lehS xs 0 := num_yes hl h
  rw [hn, e, ranks_yes (of_rank h).1]
  have hlt := List.idxOf_lt_length_of_mem hm
  refine ⟨by omega, by omega, ?_⟩
  rw [Int.toNat_natCast, List.getElem?_eq_getElem hlt, List.getElem_idxOf hlt]
/-! ### One raised, one gone -/
theorem raise_facts0 : allRank (fun m xs => (List.range m).all fun (x : Nat) => (raiseOk xs x == decide (0 < idxP xs x)) && (!raiseOk xs x || (decide (swapP xs (raiseP xs x) = 1) && decide (idxP (raiseP xs x) x = idxP xs x - 1))) && (woOk xs x == decide (1 < m)) && (!decide (1 < m) || rankOkP ((m : Int) - 1) (woP xs x))) = true := by decide +kernel
theorem raise_facts {m : Nat} {xs : List Int} (h : rankOkP m xs = true) {x : Int} (h0 : 0 ≤ x) (hx : x < m) : raiseOk xs x = decide (0 < idxP xs x) ∧ (raiseOk xs x = true → swapP xs (raiseP xs x) = 1 ∧ idxP (raiseP xs x) x = idxP xs x - 1) ∧ woOk xs x = decide (1 < (m : Int)) ∧ (1 < (m : Int) → rankOkP ((m : Int) - 1) (woP xs x) = true) := by
  obtain ⟨q, rfl⟩ : ∃ q : Nat, x = (q : Int) := ⟨x.toNat, by omega⟩
  have := of_allRank raise_facts0 h
  rw [List.all_eq_true] at this
  have := this q (List.mem_range.2 (by omega))
  simp only [Bool.and_eq_true, beq_iff_eq, Bool.or_eq_true, Bool.not_eq_true', decide_eq_true_eq, decide_eq_false_iff_not] at this
  obtain ⟨⟨⟨t1, t2⟩, t3⟩, t4⟩ := this
  refine ⟨t1, fun hr => ?_, ?_, fun h1 => ?_⟩
  · rcases t2 with t2 | t2
    · rw [hr] at t2; cases t2
    · exact t2
  · rw [t3]; congr 1; apply propext; omega
  · rcases t4 with t4 | t4
    · omega
    · exact t4
end Go.Proofs.Ytaclpilehlednaa
