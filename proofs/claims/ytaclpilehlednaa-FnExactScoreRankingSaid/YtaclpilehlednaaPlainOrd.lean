/- A stable order by falling scores: plain facts. No program in sight. -/
import Derived.Test.YtaclpilehlednaaPlainAll
import Derived.Test.YtaclpilehlednaaRev
import Derived.Test.YtaclpilehlednaaOrders
namespace Go.Proofs.Ytaclpilehlednaa
set_option maxRecDepth 100000

/-- The score of candidate y. -/
def sv (ss : List Int) (y : Int) : Int := nth ss y.toNat
/-- Where x goes into a list that falls: behind all that are no worse. -/
def posO (ss L : List Int) (x : Int) : Nat := (L.takeWhile fun y => decide (sv ss x ≤ sv ss y)).length
def insAt (L : List Int) (x : Int) (j : Nat) : List Int := L.take j ++ x :: L.drop j
def ordO (ss : List Int) : Nat → List Int
  | 0 => []
  | i + 1 => insAt (ordO ss i) i (posO ss (ordO ss i) i)
def Cut (ss L : List Int) (x : Int) (j : Nat) : Prop := j ≤ L.length ∧ (∀ t, t < j → sv ss x ≤ sv ss (nth L t)) ∧ (∀ t, j ≤ t → t < L.length → sv ss (nth L t) < sv ss x)
def Desc (ss L : List Int) : Prop := ∀ a b, a ≤ b → b < L.length → sv ss (nth L b) ≤ sv ss (nth L a)
theorem while_len (p : Int → Bool) : ∀ (L : List Int) (j : Nat), j ≤ L.length → (∀ t, t < j → p (nth L t) = true) → (j < L.length → p (nth L j) = false) → (L.takeWhile p).length = j
  | [], j, h, _, _ => by simp at h; subst h; rfl
  | y :: L, 0, _, _, h => by
    have := h (by simp)
    rw [nth_zero] at this
    rw [List.takeWhile_cons, this]; rfl
  | y :: L, j + 1, h, h1, h2 => by
    have h0 := h1 0 (by omega)
    rw [nth_zero] at h0
    rw [List.takeWhile_cons, if_pos h0, List.length_cons, while_len p L j (by simpa using h) (fun t ht => by have := h1 (t + 1) (by omega); rwa [nth_succ] at this) (fun hj => by have := h2 (by simpa using hj); rwa [nth_succ] at this)]
theorem cut_pos {ss L : List Int} {x : Int} {j : Nat} (h : Cut ss L x j) : posO ss L x = j :=
  while_len _ L j h.1 (fun t ht => decide_eq_true (h.2.1 t ht)) (fun hj => decide_eq_false (by have := h.2.2 j (Nat.le_refl _) hj; omega))
theorem while_at (p : Int → Bool) : ∀ (L : List Int), (∀ t, t < (L.takeWhile p).length → p (nth L t) = true) ∧ ((L.takeWhile p).length < L.length → p (nth L (L.takeWhile p).length) = false) ∧ (L.takeWhile p).length ≤ L.length
  | [] => ⟨fun t ht => absurd ht (by simp), fun h => absurd h (by simp), by simp⟩
  | y :: L => by
    obtain ⟨h1, h2, h3⟩ := while_at p L
    cases hy : p y with
    | false =>
      rw [List.takeWhile_cons, hy]
      exact ⟨fun t ht => absurd ht (by simp), fun _ => hy, by simp⟩
    | true =>
      rw [List.takeWhile_cons, if_pos hy]
      refine ⟨fun t ht => ?_, fun h => ?_, by simpa using h3⟩
      · cases t with
        | zero => exact hy
        | succ t => rw [nth_succ]; exact h1 t (by simpa using ht)
      · rw [List.length_cons, nth_succ]; exact h2 (by simpa using h)
theorem pos_cut {ss L : List Int} {x : Int} (h : Desc ss L) : Cut ss L x (posO ss L x) := by
  obtain ⟨h1, h2, h3⟩ := while_at (fun y => decide (sv ss x ≤ sv ss y)) L
  refine ⟨h3, fun t ht => of_decide_eq_true (h1 t ht), fun t ht hl => ?_⟩
  have := of_decide_eq_false (h2 (Nat.lt_of_le_of_lt ht hl))
  have := h _ t ht hl
  unfold posO at *
  omega
theorem insAt_len (L : List Int) (x : Int) {j : Nat} (h : j ≤ L.length) : (insAt L x j).length = L.length + 1 := by simp [insAt]; omega
theorem insAt_nth {L : List Int} {x : Int} {j : Nat} (h : j ≤ L.length) (t : Nat) : nth (insAt L x j) t = if t < j then nth L t else if t = j then x else nth L (t - 1) := by
  unfold insAt nth
  simp only [List.getD]
  by_cases h1 : t < j
  · rw [if_pos h1, List.getElem?_append_left (by simp; omega), List.getElem?_take, if_pos h1]
  · rw [if_neg h1, List.getElem?_append_right (by simp; omega)]
    have e : (L.take j).length = j := by simp; omega
    rw [e]
    by_cases h2 : t = j
    · subst h2; rw [if_pos rfl, Nat.sub_self]; rfl
    · rw [if_neg h2, show t - j = (t - j - 1) + 1 by omega, List.getElem?_cons_succ, List.getElem?_drop]
      congr 2; omega
theorem desc_ins {ss L : List Int} {x : Int} {j : Nat} (h : Desc ss L) (hc : Cut ss L x j) : Desc ss (insAt L x j) := fun a b hab hb => by
  rw [insAt_len L x hc.1] at hb
  rw [insAt_nth hc.1, insAt_nth hc.1]
  by_cases hb1 : b < j
  · rw [if_pos hb1, if_pos (by omega)]; exact h a b hab (by have := hc.1; omega)
  · rw [if_neg hb1]
    by_cases hb2 : b = j
    · rw [if_pos hb2]
      by_cases ha : a < j
      · rw [if_pos ha]; exact hc.2.1 a ha
      · rw [if_neg ha, if_pos (by omega)]; exact Int.le_refl _
    · rw [if_neg hb2]
      by_cases ha : a < j
      · rw [if_pos ha]; exact h a (b - 1) (by omega) (by omega)
      · rw [if_neg ha]
        by_cases ha2 : a = j
        · rw [if_pos ha2]; have := hc.2.2 (b - 1) (by omega) (by omega); omega
        · rw [if_neg ha2]; exact h (a - 1) (b - 1) (by omega) (by omega)
theorem ordO_desc (ss : List Int) : ∀ i, Desc ss (ordO ss i)
  | 0 => fun a b _ hb => absurd hb (by simp [ordO])
  | i + 1 => desc_ins (ordO_desc ss i) (pos_cut (ordO_desc ss i))
theorem posO_le (ss L : List Int) (x : Int) : posO ss L x ≤ L.length := (while_at (fun y => decide (sv ss x ≤ sv ss y)) L).2.2
theorem ordO_len (ss : List Int) : ∀ i, (ordO ss i).length = i
  | 0 => rfl
  | i + 1 => by rw [ordO, insAt_len _ _ (posO_le _ _ _), ordO_len ss i]
theorem ordO_at (ss : List Int) : ∀ i t, t < i → 0 ≤ nth (ordO ss i) t ∧ nth (ordO ss i) t < i
  | 0, t, h => absurd h (by omega)
  | i + 1, t, h => by
    have hp := posO_le ss (ordO ss i) i
    rw [ordO_len] at hp
    rw [ordO, insAt_nth (by rw [ordO_len]; exact hp)]
    by_cases h1 : t < posO ss (ordO ss i) i
    · rw [if_pos h1]; have := ordO_at ss i t (by omega); omega
    · rw [if_neg h1]
      by_cases h2 : t = posO ss (ordO ss i) i
      · rw [if_pos h2]; omega
      · rw [if_neg h2]; have := ordO_at ss i (t - 1) (by omega); omega
/-- The step, at whatever place fits. -/
theorem ordO_step {ss : List Int} {i j : Nat} (h : Cut ss (ordO ss i) i j) : ordO ss (i + 1) = insAt (ordO ss i) i j := by rw [ordO, cut_pos h]

/-- The slice that is sorted, i placed, the next one at place j on its way. -/
def dataO (ss : List Int) (m i j : Nat) : List Int := insAt (ordO ss i) i j ++ (upTo m).drop (i + 1)
theorem drop_up_nth (m i t : Nat) (h : i + t < m) : nth ((upTo m).drop i) t = ((i + t : Nat) : Int) := by rw [nth_drop, nth_upTo h]
theorem dataO_len (ss : List Int) {m i j : Nat} (hj : j ≤ i) (hi : i < m) : (dataO ss m i j).length = m := by
  rw [dataO, List.length_append, insAt_len _ _ (by rw [ordO_len]; exact hj), ordO_len, List.length_drop, upTo_len]; omega
theorem nth_append_left {xs ys : List Int} {t : Nat} (h : t < xs.length) : nth (xs ++ ys) t = nth xs t := by
  unfold nth; simp only [List.getD]; rw [List.getElem?_append_left h]
theorem nth_append_right {xs ys : List Int} {t : Nat} (h : xs.length ≤ t) : nth (xs ++ ys) t = nth ys (t - xs.length) := by
  unfold nth; simp only [List.getD]; rw [List.getElem?_append_right h]
theorem dataO_nth {ss : List Int} {m i j : Nat} (hj : j ≤ i) (_hi : i < m) {t : Nat} (ht : t ≤ i) : nth (dataO ss m i j) t = if t < j then nth (ordO ss i) t else if t = j then (i : Int) else nth (ordO ss i) (t - 1) := by
  rw [dataO, nth_append_left (by rw [insAt_len _ _ (by rw [ordO_len]; exact hj), ordO_len]; omega), insAt_nth (by rw [ordO_len]; exact hj)]
theorem dataO_swap {ss : List Int} {m i q : Nat} (hq : q < i) (hi : i < m) : ((dataO ss m i (q + 1)).set (q + 1) (nth (dataO ss m i (q + 1)) q)).set q (nth (dataO ss m i (q + 1)) (q + 1)) = dataO ss m i q := by
  have l1 := dataO_len ss (j := q + 1) (by omega) hi
  have l2 := dataO_len ss (j := q) (by omega) hi
  apply ext_nth (by rw [List.length_set, List.length_set, l1, l2])
  intro t ht
  rw [List.length_set, List.length_set, l1] at ht
  rw [nth_set (by rw [List.length_set, l1]; omega), nth_set (by rw [l1]; omega), dataO_nth (by omega) hi (t := q + 1) (by omega), dataO_nth (by omega) hi (t := q) (by omega)]
  by_cases hti : t ≤ i
  · rw [dataO_nth (by omega) hi hti, dataO_nth (by omega) hi hti]
    by_cases e1 : t = q
    · subst e1; simp
    · rw [if_neg e1]
      by_cases e2 : t = q + 1
      · subst e2; rw [if_pos rfl, if_pos (by omega), if_neg (by omega), if_neg (by omega)]; congr 1
      · rw [if_neg e2]
        by_cases e3 : t < q
        · rw [if_pos (by omega), if_pos e3]
        · rw [if_neg (by omega), if_neg (by omega), if_neg e3, if_neg e1]
  · rw [if_neg (by omega), if_neg (by omega)]
    unfold dataO
    rw [nth_append_right (by rw [insAt_len _ _ (by rw [ordO_len]; omega), ordO_len]; omega), nth_append_right (by rw [insAt_len _ _ (by rw [ordO_len]; omega), ordO_len]; omega), insAt_len _ _ (by rw [ordO_len]; omega), insAt_len _ _ (by rw [ordO_len]; omega)]
theorem up_split {m i : Nat} (h : i < m) : (upTo m).drop i = (i : Int) :: (upTo m).drop (i + 1) := by
  rw [drop_cons (by rw [upTo_len]; exact h), nth_upTo h]
theorem dataO_start {ss : List Int} {m i : Nat} (h : i < m) : ordO ss i ++ (upTo m).drop i = dataO ss m i i := by
  have hl := ordO_len ss i
  rw [dataO, insAt, List.take_of_length_le (l := ordO ss i) (by omega), List.drop_eq_nil_of_le (show (ordO ss i).length ≤ i by omega), up_split h, List.append_assoc]
  rfl
theorem dataO_end {ss : List Int} {m i j : Nat} (h : Cut ss (ordO ss i) i j) : dataO ss m i j = ordO ss (i + 1) ++ (upTo m).drop (i + 1) := by rw [dataO, ordO_step h]
theorem ordO_one (ss : List Int) {m : Nat} (h : 0 < m) : ordO ss 1 ++ (upTo m).drop 1 = upTo m := by
  have e : ordO ss 1 = [0] := rfl
  rw [e]
  have := up_split (m := m) (i := 0) h
  simpa using this.symm
theorem ordO_all (ss : List Int) (m : Nat) : ordO ss m ++ (upTo m).drop m = ordO ss m := by
  rw [List.drop_eq_nil_of_le (by rw [upTo_len]; exact Nat.le_refl _), List.append_nil]
end Go.Proofs.Ytaclpilehlednaa
