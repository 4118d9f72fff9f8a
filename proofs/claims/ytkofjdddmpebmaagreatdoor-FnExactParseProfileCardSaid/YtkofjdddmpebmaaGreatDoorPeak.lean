/- Whether a ranking is peaked on an axis: what the program computes. -/
import Derived.Test.YtkofjdddmpebmaaGreatDoorIsRank
namespace Go.Proofs.YtkofjdddmpebmaaGreatDoor
open Go.RowKit
theorem peaked_no1 {n m : Nat} {xs axis : List Int} (hx : xs.length = n) (ha : axis.length = m) (h : rankOkP n xs = false) : peakedP xs axis = false := by
  cases h2 : peakedP xs axis with
  | false => rfl
  | true =>
    simp only [peakedP, Bool.and_eq_true] at h2
    have h3 := h2.1.2
    have := (of_rank h3).2.1
    rw [ha] at h3 this
    have e : m = n := by omega
    rw [e, h] at h3
    cases h3
theorem peaked_no2 {m : Nat} {xs axis : List Int} (ha : axis.length = m) (h : rankOkP m axis = false) : peakedP xs axis = false := by
  simp [peakedP, ha, h]
theorem peaked_no3 {n m : Nat} {xs axis : List Int} (hx : xs.length = n) (ha : axis.length = m) (h : ((n : Int) != (m : Int)) = true) : peakedP xs axis = false := by
  cases h2 : peakedP xs axis with
  | false => rfl
  | true =>
    simp only [peakedP, Bool.and_eq_true] at h2
    have := (of_rank h2.1.2).2.1
    rw [hx, ha] at this
    simp at h
    omega
theorem peaked_yes {n : Nat} {xs axis : List Int} (ha : axis.length = n) (h1 : rankOkP n xs = true) (h2 : rankOkP n axis = true) : peakedP xs axis = peakI (places axis xs) := by
  rw [peak_same (places_rank h2 h1)]
  simp [peakedP, ha, h1, h2]
theorem pk_step {axis xs : List Int} {k : Nat} {low high : Int} (hk : k < xs.length) :
    pkI ((places axis xs).drop k) low high k = if max high (idxP axis (nth xs k)) - min low (idxP axis (nth xs k)) > k then false else pkI ((places axis xs).drop (k + 1)) (min low (idxP axis (nth xs k))) (max high (idxP axis (nth xs k))) ((k : Int) + 1) := by
  rw [drop_cons (by rw [places_len]; exact hk), nth_places _ hk]
  rfl

end Go.Proofs.YtkofjdddmpebmaaGreatDoor
