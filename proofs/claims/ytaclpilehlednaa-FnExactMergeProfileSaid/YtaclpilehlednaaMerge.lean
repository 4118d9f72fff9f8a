/- MergeProfile: what the program's and the reference's functions compute, for every profile. -/
import Derived.Test.YtaclpilehlednaaMergeI
namespace Go.Proofs.Ytaclpilehlednaa
open Go.RowKit
set_option maxRecDepth 100000

/-- Whether a profile can be merged. -/
def mgB (m : Int) (vs : List (List Int × Int)) : Bool := profP m vs && profP m (merP m vs)
def mgM (m : Int) (vs : List (List Int × Int)) : Int := if mgB m vs then m else 0
def mgV (m : Int) (vs : List (List Int × Int)) : List (List Int × Int) := if mgB m vs then merP m vs else []
theorem mg_prof {m : Int} {vs : List (List Int × Int)} (h : mgB m vs = true) : profP (mgM m vs) (mgV m vs) = true := by
  have h2 := h
  rw [mgB, Bool.and_eq_true] at h2
  rw [mgM, mgV, if_pos h, if_pos h]
  exact h2.2
theorem mg_no {m : Int} {vs : List (List Int × Int)} (h : mgB m vs = false) : mgM m vs = 0 ∧ mgV m vs = [] := by
  rw [mgM, mgV, h]
  exact ⟨rfl, rfl⟩
theorem mg_small (m : Int) (vs : List (List Int × Int)) : ((mgV m vs).length : Int) ≤ 1048576 ∧ ∀ j, j < (mgV m vs).length → (rl (mgV m vs) j : Int) ≤ 1048576 := by
  cases h : mgB m vs with
  | false =>
    rw [(mg_no h).2]
    exact ⟨by simp, fun j hj => absurd hj (by simp)⟩
  | true =>
    have hp := mg_prof h
    have h1 := (of_prof hp).2.1
    refine ⟨by omega, ?_⟩
    rw [mgV, if_pos h]
    exact mer_rl m vs
theorem mg_cases (m : Int) (vs : List (List Int × Int)) : Hid ((mgB m vs = true ∧ mgM m vs = m ∧ mgV m vs = merP m vs) ∨ (mgB m vs = false ∧ mgM m vs = 0 ∧ mgV m vs = [])) := by
  rw [Hid]
  cases hb : mgB m vs with
  | false => exact Or.inr ⟨rfl, mg_no hb⟩
  | true => exact Or.inl ⟨rfl, by rw [mgM, if_pos hb], by rw [mgV, if_pos hb]⟩

theorem specMergeProfile (m : Int) (A : Option Addr) (n c : Nat) (vs : List (List Int × Int)) (w : World) (h : Votes w A n vs) (hn : (n : Int) ≤ 1048576) (hm : ∀ j, j < n → (rl vs j : Int) ≤ 1048576) :
    Calls Try.prog 33 #[.agg #[.int .i64 m, .slice A n c]] w fun e w' => ∃ A' c' G C, e = .returned (.tuple #[.agg #[.int .i64 (mgM m vs), .slice A' (mgV m vs).length c'], .bool (mgB m vs)]) ∧ OwnV w' w.heap.size A' (mgV m vs).length c' G C (rk (mgV m vs)) (ct (mgV m vs)) ∧ Below w.heap.size w w' := by
  cases hp : profP m vs with
  | false =>
    have eb : mgB m vs = false := by rw [mgB, hp]; rfl
    rw [eb, (mg_no eb).1, (mg_no eb).2]
    refine (specMergeF m A n c vs w h hn hm hp).mono ?_; rintro e w1 ⟨rfl, b⟩
    exact ⟨none, 0, fun _ => none, fun _ => 0, rfl, OwnV.nil_ _ _ _ _ _ _, b⟩
  | true => exact specMergeT m A n c vs w h hn hm hp (mgB m vs) (by rw [mgB, hp, Bool.true_and]) (mgM m vs) (mgV m vs) (mg_cases m vs)

theorem implMergeProfile (m : Int) (A : Option Addr) (n c : Nat) (vs : List (List Int × Int)) (w : World) (h : Votes w A n vs) (hn : (n : Int) ≤ 1048576) (hm : ∀ j, j < n → (rl vs j : Int) ≤ 1048576) :
    Calls Try.prog 35 #[.agg #[.int .i64 m, .slice A n c]] w fun e w' => ∃ A' c' G C, e = .returned (.tuple #[.agg #[.int .i64 (mgM m vs), .slice A' (mgV m vs).length c'], .bool (mgB m vs)]) ∧ OwnV w' w.heap.size A' (mgV m vs).length c' G C (rk (mgV m vs)) (ct (mgV m vs)) ∧ Below w.heap.size w w' := by
  cases hp : profP m vs with
  | false =>
    have eb : mgB m vs = false := by rw [mgB, hp]; rfl
    rw [eb, (mg_no eb).1, (mg_no eb).2]
    refine (implMergeF m A n c vs w h hn hm hp).mono ?_; rintro e w1 ⟨rfl, b⟩
    exact ⟨none, 0, fun _ => none, fun _ => 0, rfl, OwnV.nil_ _ _ _ _ _ _, b⟩
  | true => exact implMergeT m A n c vs w h hn hm hp (mgB m vs) (by rw [mgB, hp, Bool.true_and]) (mgM m vs) (mgV m vs) (mg_cases m vs)
end Go.Proofs.Ytaclpilehlednaa
