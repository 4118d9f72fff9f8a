/- Scores of candidates: plain facts. No program in sight. -/
import Derived.Test.YtaclpilehlednaaPok
import Derived.Test.YtaclpilehlednaaWok
namespace Go.Proofs.Ytaclpilehlednaa
open Go.RowKit

/-- What the first k places of a ranking give to candidate a. -/
def sc1 (xs ws : List Int) (c : Int) (k a : Nat) : Int := ((List.range k).map fun i => if nth xs i = (a : Int) then c * nth ws i else 0).sum
theorem sc1_succ (xs ws : List Int) (c : Int) (k a : Nat) : sc1 xs ws c (k + 1) a = sc1 xs ws c k a + (if nth xs k = (a : Int) then c * nth ws k else 0) := by
  simp [sc1, List.range_succ]
theorem sc1_zero (xs ws : List Int) (c : Int) (a : Nat) : sc1 xs ws c 0 a = 0 := rfl
theorem sc1_bd {xs ws : List Int} {c : Int} (a : Nat) : ∀ k, (∀ i, i < k → 0 ≤ c * nth ws i ∧ c * nth ws i ≤ 100000) → 0 ≤ sc1 xs ws c k a ∧ sc1 xs ws c k a ≤ 100000 * k
  | 0, _ => by simp [sc1]
  | k + 1, h => by
    have h1 := sc1_bd (xs := xs) a k (fun i hi => h i (by omega))
    have h2 := h k (by omega)
    rw [sc1_succ]
    split <;> omega
/-- What the first k votes give to candidate a. -/
def scT (vs : List (List Int × Int)) (ws : List Int) (k a : Nat) : Int := ((List.range k).map fun j => sc1 (rk vs j) ws (ct vs j) (rl vs j) a).sum
theorem scT_succ (vs : List (List Int × Int)) (ws : List Int) (k a : Nat) : scT vs ws (k + 1) a = scT vs ws k a + sc1 (rk vs k) ws (ct vs k) (rl vs k) a := by
  simp [scT, List.range_succ]
theorem scT_bd {vs : List (List Int × Int)} {ws : List Int} (a : Nat) : ∀ k, (∀ j, j < k → (rl vs j ≤ 5 ∧ ∀ i, i < rl vs j → 0 ≤ ct vs j * nth ws i ∧ ct vs j * nth ws i ≤ 100000)) → 0 ≤ scT vs ws k a ∧ scT vs ws k a ≤ 500000 * k
  | 0, _ => by simp [scT]
  | k + 1, h => by
    have h1 := scT_bd (vs := vs) (ws := ws) a k (fun j hj => h j (by omega))
    have h2 := h k (by omega)
    have h3 := sc1_bd (xs := rk vs k) a (rl vs k) h2.2
    rw [scT_succ]
    omega
def scL (vs : List (List Int × Int)) (ws : List Int) (n q : Nat) : List Int := (List.range q).map fun a => scT vs ws n a
theorem scL_len (vs : List (List Int × Int)) (ws : List Int) (n q : Nat) : (scL vs ws n q).length = q := by simp [scL]
theorem scL_nth {vs : List (List Int × Int)} {ws : List Int} {n q a : Nat} (h : a < q) : nth (scL vs ws n q) a = scT vs ws n a := by
  rw [nth_get (by rw [scL_len]; exact h)]
  simp [scL]
def scOk (m : Int) (vs : List (List Int × Int)) (ws : List Int) : Bool := profP m vs && weightsP m ws
def scoresP (m : Int) (vs : List (List Int × Int)) (ws : List Int) : List Int := if scOk m vs ws then scL vs ws vs.length m.toNat else []
theorem sc_no {m : Int} {vs : List (List Int × Int)} {ws : List Int} (h : scOk m vs ws = false) : scoresP m vs ws = [] := by simp [scoresP, h]
theorem sc_yes {n q : Nat} {vs : List (List Int × Int)} {ws : List Int} (hl : vs.length = n) (h : scOk q vs ws = true) : scoresP q vs ws = scL vs ws n q := by simp [scoresP, h, hl]
theorem scOk_no1 {m : Int} {vs : List (List Int × Int)} {ws : List Int} (h : profP m vs = false) : scOk m vs ws = false := by simp [scOk, h]
theorem scOk_no2 {m : Int} {vs : List (List Int × Int)} {ws : List Int} (h : weightsP m ws = false) : scOk m vs ws = false := by simp [scOk, h]
theorem scOk_yes {m : Int} {vs : List (List Int × Int)} {ws : List Int} (h : profP m vs = true) (h' : weightsP m ws = true) : scOk m vs ws = true := by simp [scOk, h, h']
theorem of_weights {m : Int} {ws : List Int} (h : weightsP m ws = true) : (ws.length : Int) = m ∧ ∀ i, i < ws.length → 0 ≤ nth ws i ∧ nth ws i ≤ 100 := by
  simp only [weightsP, Bool.and_eq_true, decide_eq_true_eq] at h
  exact ⟨h.1.1.2, fun i hi => of_allIn h.1.2 hi⟩
theorem mulW {a b : Int} (ha : 1 ≤ a ∧ a ≤ 1000) (hb : 0 ≤ b ∧ b ≤ 100) : 0 ≤ a * b ∧ a * b ≤ 100000 := by
  have h : (a * b).natAbs = a.natAbs * b.natAbs := Int.natAbs_mul a b
  have h1 : a.natAbs * b.natAbs ≤ 1000 * 100 := Nat.mul_le_mul (by omega) (by omega)
  have h2 : 0 ≤ a * b := Int.mul_nonneg (by omega) hb.1
  omega
theorem scoresP_len {m : Int} {vs : List (List Int × Int)} {ws : List Int} : (scoresP m vs ws).length ≤ 5 := by
  unfold scoresP
  cases h : scOk m vs ws with
  | false => simp
  | true =>
    simp only [scOk, Bool.and_eq_true] at h
    have := (of_prof h.1).1
    rw [if_pos rfl, scL_len]; omega
/-- The table's cells, made up to place k of vote j. -/
theorem sc_store {vs : List (List Int × Int)} {ws xs : List Int} {c : Int} {n k a : Nat} (ha : nth xs k = (a : Int)) (j : Nat) :
    (if j = a then Value.int .i64 (scT vs ws n a + sc1 xs ws c k a + c * nth ws k) else Value.int .i64 (scT vs ws n j + sc1 xs ws c k j)) = Value.int .i64 (scT vs ws n j + sc1 xs ws c (k + 1) j) := by
  rw [sc1_succ, ha]
  by_cases e : j = a
  · subst e; rw [if_pos rfl, if_pos rfl, Int.add_assoc]
  · rw [if_neg e, if_neg (by omega), Int.add_zero]
/-- The facts that a walk over valid votes and weights needs. -/
theorem sc_facts {q : Nat} {n : Nat} {vs : List (List Int × Int)} {ws : List Int} (hl : vs.length = n) (h1 : profP q vs = true) (h2 : weightsP q ws = true) :
    (1 ≤ q ∧ q ≤ 5) ∧ n ≤ 24 ∧ ws.length = q ∧ ∀ k, k < n → (rl vs k = q ∧ (∀ i, i < q → 0 ≤ nth (rk vs k) i ∧ nth (rk vs k) i < q) ∧ (1 ≤ ct vs k ∧ ct vs k ≤ 1000) ∧ ∀ i, i < q → 0 ≤ ct vs k * nth ws i ∧ ct vs k * nth ws i ≤ 100000) := by
  obtain ⟨p1, p2, p3⟩ := of_prof h1
  obtain ⟨w1, w2⟩ := of_weights h2
  refine ⟨by omega, by omega, by omega, fun k hk => ?_⟩
  obtain ⟨r1, r2⟩ := of_votes p3 (k := k) (by omega)
  obtain ⟨_, e1, e2, _⟩ := of_rank r1
  have e3 : rl vs k = q := by unfold rl; omega
  refine ⟨e3, fun i hi => ?_, r2, fun i hi => mulW r2 (w2 i (by omega))⟩
  have := e2 i (by unfold rl at e3; omega)
  omega
end Go.Proofs.Ytaclpilehlednaa
