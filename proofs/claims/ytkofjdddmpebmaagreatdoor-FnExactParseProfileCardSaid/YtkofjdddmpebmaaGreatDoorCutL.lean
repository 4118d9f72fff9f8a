/- A text cut at a sign: the pieces, in plain terms; what the library's and the program's own functions give are these. -/
import Derived.Test.YtkofjdddmpebmaaGreatDoorSplit
import Derived.Lib.SplitLaws
import Derived.Lib.Join
namespace Go.Proofs.YtkofjdddmpebmaaGreatDoor
open Go.RowKit

/-- The pieces between the signs. -/
def cutL (c : UInt8) : List UInt8 → List (List UInt8)
  | [] => [[]]
  | b :: l => if b = c then [] :: cutL c l else match cutL c l with
    | [] => [[b]]
    | p :: r => (b :: p) :: r
theorem cutL_nil (c : UInt8) : cutL c [] = [[]] := rfl
theorem cutL_sep (c : UInt8) (l : List UInt8) : cutL c (c :: l) = [] :: cutL c l := by rw [cutL, if_pos rfl]
theorem cutL_in {b c : UInt8} {l p : List UInt8} {r : List (List UInt8)} (h : b ≠ c) (e : cutL c l = p :: r) : cutL c (b :: l) = (b :: p) :: r := by rw [cutL, if_neg h, e]
theorem cutL_some (c : UInt8) : ∀ l, ∃ p r, cutL c l = p :: r
  | [] => ⟨[], [], rfl⟩
  | b :: l => by
    by_cases h : b = c
    · subst h; exact ⟨_, _, cutL_sep b l⟩
    · obtain ⟨p, r, e⟩ := cutL_some c l
      exact ⟨_, _, cutL_in h e⟩
theorem cutL_last (c : UInt8) (l : List UInt8) : ∃ ps q, cutL c l = ps ++ [q] := by
  obtain ⟨p, r, e⟩ := cutL_some c l
  exact ⟨(cutL c l).dropLast, (cutL c l).getLast (by rw [e]; simp), (List.dropLast_concat_getLast _).symm⟩
theorem cutL_snoc_sep (c : UInt8) : ∀ (l : List UInt8) (ps : List (List UInt8)) (q : List UInt8), cutL c l = ps ++ [q] → cutL c (l ++ [c]) = ps ++ [q] ++ [[]]
  | [], ps, q, h => by
    rw [cutL_nil] at h
    rw [← h, List.nil_append, cutL_sep, cutL_nil]
    rfl
  | b :: l, ps, q, h => by
    obtain ⟨ps', q', e⟩ := cutL_last c l
    have ih := cutL_snoc_sep c l ps' q' e
    rw [List.cons_append]
    by_cases hb : b = c
    · subst hb
      rw [cutL_sep, e, ← List.cons_append] at h
      obtain ⟨e1, e2⟩ := List.append_inj' h rfl
      rw [cutL_sep, ih, ← e1, ← e2]
      simp
    · cases ps' with
      | nil =>
        rw [List.nil_append] at e ih
        rw [cutL_in hb e] at h
        have h2 : ([] : List (List UInt8)) ++ [b :: q'] = ps ++ [q] := h
        obtain ⟨e1, e2⟩ := List.append_inj' h2 rfl
        rw [cutL_in hb (r := [[]]) (by rw [ih]; rfl), ← e1, ← e2]
        rfl
      | cons p r =>
        rw [List.cons_append] at e
        rw [List.cons_append, List.cons_append] at ih
        rw [cutL_in hb e, ← List.cons_append] at h
        obtain ⟨e1, e2⟩ := List.append_inj' h rfl
        rw [cutL_in hb ih, ← e1, ← e2]
        simp
theorem cutL_snoc_in {x c : UInt8} (hx : x ≠ c) : ∀ (l : List UInt8) (ps : List (List UInt8)) (q : List UInt8), cutL c l = ps ++ [q] → cutL c (l ++ [x]) = ps ++ [q ++ [x]]
  | [], ps, q, h => by
    rw [cutL_nil] at h
    have h2 : ([] : List (List UInt8)) ++ [[]] = ps ++ [q] := h
    obtain ⟨e1, e2⟩ := List.append_inj' h2 rfl
    rw [List.nil_append, cutL_in hx (cutL_nil c), ← e1]
    have e2 : q = [] := by simpa using e2.symm
    rw [e2]; rfl
  | b :: l, ps, q, h => by
    obtain ⟨ps', q', e⟩ := cutL_last c l
    have ih := cutL_snoc_in hx l ps' q' e
    rw [List.cons_append]
    by_cases hb : b = c
    · subst hb
      rw [cutL_sep, e, ← List.cons_append] at h
      obtain ⟨e1, e2⟩ := List.append_inj' h rfl
      have e2 : q' = q := by simpa using e2
      rw [cutL_sep, ih, ← e1, ← e2]
      rfl
    · cases ps' with
      | nil =>
        rw [List.nil_append] at e ih
        rw [cutL_in hb e] at h
        have h2 : ([] : List (List UInt8)) ++ [b :: q'] = ps ++ [q] := h
        obtain ⟨e1, e2⟩ := List.append_inj' h2 rfl
        have e2 : b :: q' = q := by simpa using e2
        rw [cutL_in hb (r := []) (by rw [ih]), ← e1, ← e2]
        rfl
      | cons p r =>
        rw [List.cons_append] at e ih
        rw [cutL_in hb e, ← List.cons_append] at h
        obtain ⟨e1, e2⟩ := List.append_inj' h rfl
        have e2 : q' = q := by simpa using e2
        rw [cutL_in hb ih, ← e1, ← e2]
        rfl

/-! ### The library's index -/
theorem index_cons (b c : UInt8) (l : List UInt8) : Lib.index (b :: l) [c] = if b = c then 0 else if Lib.index l [c] = -1 then -1 else Lib.index l [c] + 1 := by
  rw [Lib.index]
  by_cases h : b = c
  · subst h; simp [List.isPrefixOf]
  · have h2 : ¬ c = b := fun e => h e.symm
    simp [List.isPrefixOf, h, h2]
theorem cutL_miss {c : UInt8} : ∀ {l : List UInt8}, Lib.index l [c] = -1 → cutL c l = [l]
  | [], _ => rfl
  | b :: l, h => by
    rw [index_cons] at h
    by_cases hb : b = c
    · rw [if_pos hb] at h; exact absurd h (by decide)
    · rw [if_neg hb] at h
      have hg := Lib.index_ge l [c]
      by_cases h1 : Lib.index l [c] = -1
      · exact cutL_in hb (cutL_miss h1)
      · rw [if_neg h1] at h; omega
theorem cutL_hit {c : UInt8} : ∀ {l : List UInt8} {j : Nat}, Lib.index l [c] = j → cutL c l = l.take j :: cutL c (l.drop (j + 1)) ∧ l.take j ++ c :: l.drop (j + 1) = l ∧ j < l.length
  | [], j, h => by simp [Lib.index] at h
  | b :: l, j, h => by
    rw [index_cons] at h
    by_cases hb : b = c
    · rw [if_pos hb] at h
      obtain rfl : j = 0 := by omega
      subst hb
      exact ⟨by rw [cutL_sep]; rfl, rfl, by simp⟩
    · rw [if_neg hb] at h
      by_cases h1 : Lib.index l [c] = -1
      · rw [if_pos h1] at h; omega
      · rw [if_neg h1] at h
        have hg := Lib.index_ge l [c]
        obtain ⟨i, rfl⟩ : ∃ i, j = i + 1 := ⟨j - 1, by omega⟩
        obtain ⟨e1, e2, e3⟩ := cutL_hit (c := c) (l := l) (j := i) (by omega)
        refine ⟨?_, ?_, by simp; omega⟩
        · rw [cutL_in hb e1]; rfl
        · rw [List.take_succ_cons, List.drop_succ_cons, List.cons_append, e2]
theorem splitK_cut (c : UInt8) : ∀ (k : Nat) (l : List UInt8), Lib.count l [c] = k → Lib.splitK [c] 0 k l = cutL c l
  | 0, l, h => by
    rcases Lib.index_spec l [c] with ⟨h1, _⟩ | ⟨i, h1, _⟩
    · rw [cutL_miss h1]; rfl
    · rw [Lib.count_hit (by simp) h1] at h; omega
  | k + 1, l, h => by
    rcases Lib.index_spec l [c] with ⟨h1, _⟩ | ⟨i, h1, _⟩
    · rw [Lib.count_miss h1] at h; omega
    · have h2 := Lib.count_hit (sub := [c]) (by simp) h1
      have hm : ¬ (Lib.index l [c] == -1) = true := fun e => by have := beq_iff_eq.1 e; omega
      rw [Lib.splitK, if_neg hm, h1, Int.toNat_natCast, Nat.add_zero, (cutL_hit h1).1]
      rw [List.length_singleton] at h2 ⊢
      rw [splitK_cut c k _ (by omega)]
theorem map_data_inj : ∀ {a b : List ByteArray}, a.map (·.data.toList) = b.map (·.data.toList) → a = b
  | [], [], _ => rfl
  | [], _ :: _, h => by cases h
  | _ :: _, [], h => by cases h
  | x :: a, y :: b, h => by
    rw [List.map_cons, List.map_cons] at h
    injection h with h1 h2
    rw [map_data_inj h2, ByteArray.ext (Array.toList_inj.1 h1)]

/-! ### The pieces of SplitAny at one sign -/
theorem inBy_one (c x : UInt8) : inBy ⟨#[c]⟩ x = decide (x = c) := by
  show [c].contains x = _
  by_cases h : x = c
  · subst h; simp
  · simp [h]
theorem take_bnth {s : ByteArray} {k : Nat} (h : k < s.size) : s.data.toList.take (k + 1) = s.data.toList.take k ++ [bnth s k] := by
  have h2 : k < s.data.toList.length := by simpa using h
  rw [List.take_succ_eq_append_getElem h2, bnth, List.getD, List.getElem?_eq_getElem h2]; rfl
theorem extract_next {s : ByteArray} {f k : Nat} (hf : f ≤ k) (h : k < s.size) : (s.extract f (k + 1)).data.toList = (s.extract f k).data.toList ++ [bnth s k] := by
  have h2 : k < s.data.toList.length := by simpa using h
  rw [Lib.extract_data, Lib.extract_data, show k + 1 - f = (k - f) + 1 by omega]
  have h3 : k - f < (s.data.toList.drop f).length := by rw [List.length_drop]; omega
  rw [List.take_succ_eq_append_getElem h3]
  congr 1
  rw [List.getElem_drop, bnth, List.getD, List.getElem?_eq_getElem h2]
  simp only [Option.getD_some]
  congr 1
  congr 1
  omega
theorem sp_cut (c : UInt8) (s : ByteArray) : ∀ k, k ≤ s.size → cutL c (s.data.toList.take k) = (spK ⟨#[c]⟩ s k).1.map (·.data.toList) ++ [(s.extract (spK ⟨#[c]⟩ s k).2 k).data.toList]
  | 0, _ => by
    rw [List.take_zero, cutL_nil, Lib.extract_data]
    simp [spK]
  | k + 1, h => by
    have ih := sp_cut c s k (by omega)
    have hle := (sp_le ⟨#[c]⟩ s k).1
    rw [take_bnth (by omega)]
    by_cases hx : bnth s k = c
    · have hy : inBy ⟨#[c]⟩ (bnth s k) = true := by rw [inBy_one, decide_eq_true hx]
      rw [sp_yes hy, hx, cutL_snoc_sep c _ _ _ ih]
      simp
    · have hy : inBy ⟨#[c]⟩ (bnth s k) = false := by rw [inBy_one, decide_eq_false hx]
      rw [sp_no hy, cutL_snoc_in hx _ _ _ ih, extract_next hle (by omega)]
theorem spP_cut (c : UInt8) (s : ByteArray) : (spP ⟨#[c]⟩ s).map (·.data.toList) = cutL c s.data.toList := by
  have := sp_cut c s s.size (Nat.le_refl _)
  rw [List.take_of_length_le (by simp)] at this
  rw [this, spP, List.map_append]
  rfl
/-- The library's Split gives the same pieces. -/
theorem split_spP (c : UInt8) (s : ByteArray) : Lib.splitB ⟨#[c]⟩ 0 (Lib.countB s ⟨#[c]⟩) s = spP ⟨#[c]⟩ s := by
  apply map_data_inj
  rw [Lib.splitB_data, spP_cut]
  exact splitK_cut c _ _ rfl
theorem count_spP (c : UInt8) (s : ByteArray) : Lib.countB s ⟨#[c]⟩ + 1 = (spP ⟨#[c]⟩ s).length := by
  rw [← split_spP, Lib.splitB_all ⟨#[c]⟩ (Nat.le_refl _) 0 _ s rfl]
/-- Pieces hold no sign. -/
theorem cutL_free (c : UInt8) : ∀ (l : List UInt8) (p : List UInt8), p ∈ cutL c l → c ∉ p
  | [], p, h => by rw [cutL_nil, List.mem_singleton] at h; subst h; simp
  | b :: l, p, h => by
    by_cases hb : b = c
    · subst hb
      rw [cutL_sep, List.mem_cons] at h
      rcases h with rfl | h
      · simp
      · exact cutL_free b l p h
    · obtain ⟨q, r, e⟩ := cutL_some c l
      rw [cutL_in hb e, List.mem_cons] at h
      have ih := cutL_free c l
      rw [e] at ih
      rcases h with rfl | h
      · rw [List.mem_cons, not_or]
        exact ⟨fun x => hb x.symm, ih q List.mem_cons_self⟩
      · exact ih p (List.mem_cons_of_mem _ h)
/-- The pieces, joined, are the text. -/
theorem cutL_join (c : UInt8) : ∀ l : List UInt8, Lib.join (cutL c l) [c] = l
  | [] => by rw [cutL_nil, Lib.join_one]
  | b :: l => by
    have ih := cutL_join c l
    obtain ⟨p, r, e⟩ := cutL_some c l
    by_cases hb : b = c
    · subst hb
      rw [cutL_sep, Lib.join_cons]
      rw [e, Lib.join_cons] at ih
      rw [e, ← ih]
      simp [Lib.joinTail]
    · rw [cutL_in hb e, Lib.join_cons]
      rw [e, Lib.join_cons] at ih
      rw [List.cons_append, ih]
/-- The library's Cut. -/
theorem cut_miss {c : UInt8} {l : List UInt8} (h : Lib.index l [c] = -1) : Lib.cut l [c] = (l, [], false) := by
  rw [Lib.cut, if_neg (by omega)]
theorem cut_hit {c : UInt8} {l : List UInt8} {j : Nat} (h : Lib.index l [c] = j) : Lib.cut l [c] = (l.take j, l.drop (j + 1), true) := by
  rw [Lib.cut, if_pos (by omega), h]
  rfl
theorem index_free {c : UInt8} {l : List UInt8} (h : c ∉ l) : Lib.index l [c] = -1 := by
  rcases Lib.index_spec l [c] with ⟨h1, _⟩ | ⟨i, h1, _⟩
  · exact h1
  · have := (cutL_hit h1).2.1
    exact absurd (by rw [← this]; simp) h
theorem index_first {c : UInt8} {a b : List UInt8} (h : c ∉ a) : Lib.index (a ++ c :: b) [c] = a.length := by
  induction a with
  | nil => rw [List.nil_append, index_cons, if_pos rfl]; rfl
  | cons x a ih =>
    rw [List.mem_cons, not_or] at h
    have := ih h.2
    rw [List.cons_append, index_cons, if_neg (fun e => h.1 e.symm), this, if_neg (by omega)]
    simp
end Go.Proofs.YtkofjdddmpebmaaGreatDoor
