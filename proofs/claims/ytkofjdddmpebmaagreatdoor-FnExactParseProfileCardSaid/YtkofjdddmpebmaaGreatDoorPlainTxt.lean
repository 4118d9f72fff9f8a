/- Numbers, rankings and profiles as text, in plain terms: where two valid profiles have one text, they are the same profile. -/
import Derived.Test.YtkofjdddmpebmaaGreatDoorDec
import Derived.Test.YtkofjdddmpebmaaGreatDoorFormat
import Derived.Test.YtkofjdddmpebmaaGreatDoorJoinP
import Derived.Test.YtkofjdddmpebmaaGreatDoorPok
namespace Go.Proofs.YtkofjdddmpebmaaGreatDoor
open Go.RowKit

/-- Words joined by a blank. -/
def jI : List (List Int) → List Int
  | [] => []
  | w :: ws => w ++ (ws.map (fun x => 32 :: x)).flatten
theorem jI_two (w x : List Int) (ws : List (List Int)) : jI (w :: x :: ws) = w ++ 32 :: jI (x :: ws) := by simp [jI]
theorem jI_inj : ∀ (ws ws' : List (List Int)) (w w' : List Int), (∀ x ∈ w :: ws, (32 : Int) ∉ x) → (∀ x ∈ w' :: ws', (32 : Int) ∉ x) → jI (w :: ws) = jI (w' :: ws') → w :: ws = w' :: ws'
  | [], [], w, w', _, _, h => by simp [jI] at h; rw [h]
  | [], x :: xs, w, w', h1, _, h => by
    rw [jI_two] at h
    have : (32 : Int) ∈ w := by
      have e : jI [w] = w := by simp [jI]
      rw [e] at h
      rw [h]; simp
    exact absurd this (h1 w List.mem_cons_self)
  | x :: xs, [], w, w', _, h2, h => by
    rw [jI_two] at h
    have : (32 : Int) ∈ w' := by
      have e : jI [w'] = w' := by simp [jI]
      rw [e] at h
      rw [← h]; simp
    exact absurd this (h2 w' List.mem_cons_self)
  | x :: xs, y :: ys, w, w', h1, h2, h => by
    rw [jI_two, jI_two] at h
    obtain ⟨e1, e2⟩ := sep_inj (h1 w List.mem_cons_self) (h2 w' List.mem_cons_self) h
    have := jI_inj xs ys x y (fun z hz => h1 z (List.mem_cons_of_mem _ hz)) (fun z hz => h2 z (List.mem_cons_of_mem _ hz)) e2
    rw [e1, this]
theorem jI_snoc (ws : List (List Int)) (x : List Int) (h : ws ≠ []) : jI (ws ++ [x]) = jI ws ++ 32 :: x := by
  cases ws with
  | nil => exact absurd rfl h
  | cons w ws => simp [jI]
theorem jK_str (ls : List (List Int)) : ∀ k, k ≤ ls.length → jK (ls.map strOfNums) ⟨#[32]⟩ k = strOfNums (jI (ls.take k))
  | 0, _ => rfl
  | k + 1, h => by
    have ih := jK_str ls k (by omega)
    have hs : snth (ls.map strOfNums) k = strOfNums ls[k] := by simp [snth, List.getD, show k < ls.length by omega]
    by_cases e : k = 0
    · subst e
      rw [jK_first, hs]
      cases ls with
      | nil => simp at h
      | cons w ws => simp [jI]
    · rw [jK_next e, ih, hs, List.take_succ_eq_append_getElem (by omega), jI_snoc _ _ (by intro q; have := congrArg List.length q; rw [List.length_take, List.length_nil] at this; omega),
        show (⟨#[32]⟩ : ByteArray) = strOfNums [32] from rfl, strn_append, strn_append, List.append_assoc]
      rfl

/-! ### The text of a profile -/
/-- A vote's text. -/
def voteI (v : List Int × Int) : List Int := fmtI v.2 ++ 42 :: letters v.1 v.1.length
def textB (m : Int) (vs : List (List Int × Int)) : ByteArray :=
  if profP m vs then (if vs.length = 0 then strOfNums (45 :: fmtI m) else jK ((vs.map voteI).map strOfNums) ⟨#[32]⟩ vs.length) else ByteArray.empty
theorem text_no {m : Int} {vs : List (List Int × Int)} (h : profP m vs = false) : textB m vs = ByteArray.empty := by simp [textB, h]
theorem text_none {m : Int} {vs : List (List Int × Int)} (h : profP m vs = true) (h0 : vs.length = 0) : textB m vs = strOfNums (45 :: fmtI m) := by rw [textB, if_pos h, if_pos h0]
theorem text_some {m : Int} {vs : List (List Int × Int)} (h : profP m vs = true) (h0 : vs.length ≠ 0) : textB m vs = jK ((vs.map voteI).map strOfNums) ⟨#[32]⟩ vs.length := by rw [textB, if_pos h, if_neg h0]
theorem text_nums {m : Int} {vs : List (List Int × Int)} (h : profP m vs = true) (h0 : vs.length ≠ 0) : textB m vs = strOfNums (jI (vs.map voteI)) := by
  rw [text_some h h0, jK_str _ _ (by simp), List.take_of_length_le (by simp)]
theorem vote_in {m : Int} {vs : List (List Int × Int)} (h : profP m vs = true) {v : List Int × Int} (hv : v ∈ vs) : rankOkP m v.1 = true ∧ 1 ≤ v.2 ∧ v.2 ≤ 1000 := by
  obtain ⟨k, hk, he⟩ := List.getElem_of_mem hv
  have := of_votes (of_prof h).2.2 hk
  have e : vnth vs k = v := by simp [vnth, List.getD, hk, he]
  simp only [rk, ct, e] at this
  exact this
theorem letters_byte {m : Int} {xs : List Int} (h : rankOkP m xs = true) {x : Int} (hx : x ∈ letters xs xs.length) : 97 ≤ x ∧ x ≤ 101 := by
  obtain ⟨h1, h2, h3, _⟩ := of_rank h
  rw [letters, List.take_of_length_le (Nat.le_refl _), List.mem_map] at hx
  obtain ⟨y, hy, rfl⟩ := hx
  obtain ⟨k, hk, he⟩ := List.getElem_of_mem hy
  have := h3 k hk
  rw [nth_get hk, he] at this
  omega
theorem fmtI_count {c : Int} (h : 1 ≤ c) : fmtI c = decP c.natAbs := by rw [fmtI, if_neg (by omega)]
theorem voteI_byte {m : Int} {v : List Int × Int} (h : rankOkP m v.1 = true ∧ 1 ≤ v.2 ∧ v.2 ≤ 1000) {x : Int} (hx : x ∈ voteI v) : (48 ≤ x ∧ x ≤ 57) ∨ x = 42 ∨ (97 ≤ x ∧ x ≤ 101) := by
  rw [voteI, fmtI_count h.2.1, List.mem_append, List.mem_cons] at hx
  rcases hx with hx | hx | hx
  · exact Or.inl (decP_byte hx)
  · exact Or.inr (Or.inl hx)
  · exact Or.inr (Or.inr (letters_byte h.1 hx))
theorem voteI_inj {m m' : Int} {v v' : List Int × Int} (h : rankOkP m v.1 = true ∧ 1 ≤ v.2 ∧ v.2 ≤ 1000) (h' : rankOkP m' v'.1 = true ∧ 1 ≤ v'.2 ∧ v'.2 ≤ 1000) (e : voteI v = voteI v') : v = v' := by
  rw [voteI, voteI, fmtI_count h.2.1, fmtI_count h'.2.1] at e
  obtain ⟨e1, e2⟩ := sep_inj (fun hm => by have := decP_byte hm; omega) (fun hm => by have := decP_byte hm; omega) e
  have e3 := decP_inj e1
  rw [letters, letters, List.take_of_length_le (Nat.le_refl _), List.take_of_length_le (Nat.le_refl _)] at e2
  have e4 : v.1 = v'.1 := (List.map_inj_right (fun a b hab => by omega)).1 e2
  exact Prod.ext e4 (by omega)
theorem votes_inj : ∀ {m m' : Int} {vs vs' : List (List Int × Int)}, (∀ v ∈ vs, rankOkP m v.1 = true ∧ 1 ≤ v.2 ∧ v.2 ≤ 1000) → (∀ v ∈ vs', rankOkP m' v.1 = true ∧ 1 ≤ v.2 ∧ v.2 ≤ 1000) → vs.map voteI = vs'.map voteI → vs = vs'
  | _, _, [], [], _, _, _ => rfl
  | _, _, [], _ :: _, _, _, h => by cases h
  | _, _, _ :: _, [], _, _, h => by cases h
  | _, _, v :: vs, v' :: vs', h1, h2, h => by
    rw [List.map_cons, List.map_cons] at h
    injection h with h3 h4
    rw [voteI_inj (h1 v List.mem_cons_self) (h2 v' List.mem_cons_self) h3, votes_inj (fun z hz => h1 z (List.mem_cons_of_mem _ hz)) (fun z hz => h2 z (List.mem_cons_of_mem _ hz)) h4]
theorem jI_byte {ws : List (List Int)} {p : Int → Prop} (hp : p 32) (h : ∀ w ∈ ws, ∀ x ∈ w, p x) : ∀ x ∈ jI ws, p x := by
  intro x hx
  cases ws with
  | nil => cases hx
  | cons w ws =>
    rw [jI, List.mem_append, List.mem_flatten] at hx
    rcases hx with hx | ⟨l, hl, hx⟩
    · exact h w List.mem_cons_self x hx
    · rw [List.mem_map] at hl
      obtain ⟨u, hu, rfl⟩ := hl
      rw [List.mem_cons] at hx
      rcases hx with rfl | hx
      · exact hp
      · exact h u (List.mem_cons_of_mem _ hu) x hx
theorem some_bytes {m : Int} {vs : List (List Int × Int)} (h : profP m vs = true) : ∀ x ∈ jI (vs.map voteI), 0 ≤ x ∧ x < 256 := by
  apply jI_byte (p := fun x => 0 ≤ x ∧ x < 256) (by omega)
  intro w hw x hx
  rw [List.mem_map] at hw
  obtain ⟨v, hv, rfl⟩ := hw
  have := voteI_byte (vote_in h hv) hx
  omega
theorem none_bytes {m : Int} (h : 1 ≤ m ∧ m ≤ 5) : ∀ x ∈ (45 :: fmtI m : List Int), 0 ≤ x ∧ x < 256 := by
  intro x hx
  rw [fmtI_count h.1, List.mem_cons] at hx
  rcases hx with rfl | hx
  · omega
  · have := decP_byte hx; omega
theorem some_head {m : Int} {vs : List (List Int × Int)} (h : profP m vs = true) (h0 : vs.length ≠ 0) : ∃ d r, jI (vs.map voteI) = d :: r ∧ d ≠ 45 := by
  cases vs with
  | nil => exact absurd rfl h0
  | cons v vs =>
    have hv := vote_in h (v := v) List.mem_cons_self
    have hp := fmtI_pos v.2
    have e : fmtI v.2 = decP v.2.natAbs := fmtI_count hv.2.1
    cases hd : fmtI v.2 with
    | nil => rw [hd] at hp; simp at hp
    | cons d r =>
      refine ⟨d, _, by rw [List.map_cons, jI, voteI, hd]; rfl, ?_⟩
      have : d ∈ decP v.2.natAbs := by rw [← e, hd]; exact List.mem_cons_self
      have := decP_byte this
      omega
/-- Two valid profiles with one text are the same. -/
theorem text_inj {m m' : Int} {vs vs' : List (List Int × Int)} (h : profP m vs = true) (h' : profP m' vs' = true) (e : textB m vs = textB m' vs') : m = m' ∧ vs = vs' := by
  by_cases h0 : vs.length = 0
  · by_cases h1 : vs'.length = 0
    · rw [text_none h h0, text_none h' h1] at e
      have := strn_inj (none_bytes (of_prof h).1) (none_bytes (of_prof h').1) e
      injection this with _ e2
      rw [fmtI_count (of_prof h).1.1, fmtI_count (of_prof h').1.1] at e2
      have := decP_inj e2
      have hm := (of_prof h).1
      have hm' := (of_prof h').1
      refine ⟨by omega, ?_⟩
      rw [List.length_eq_zero_iff.1 h0, List.length_eq_zero_iff.1 h1]
    · rw [text_none h h0, text_nums h' h1] at e
      obtain ⟨d, r, hd, hne⟩ := some_head h' h1
      have := strn_inj (none_bytes (of_prof h).1) (some_bytes h') e
      rw [hd] at this
      injection this with e1 _
      exact absurd e1.symm hne
  · by_cases h1 : vs'.length = 0
    · rw [text_nums h h0, text_none h' h1] at e
      obtain ⟨d, r, hd, hne⟩ := some_head h h0
      have := strn_inj (some_bytes h) (none_bytes (of_prof h').1) e
      rw [hd] at this
      injection this with e1 _
      exact absurd e1 hne
    · rw [text_nums h h0, text_nums h' h1] at e
      have e2 := strn_inj (some_bytes h) (some_bytes h') e
      have hb : ∀ {m : Int} {vs : List (List Int × Int)}, profP m vs = true → ∀ w ∈ vs.map voteI, (32 : Int) ∉ w := fun hp w hw hm => by
        rw [List.mem_map] at hw
        obtain ⟨v, hv, rfl⟩ := hw
        have := voteI_byte (vote_in hp hv) hm
        omega
      have e3 : vs.map voteI = vs'.map voteI := by
        cases vs with
        | nil => exact absurd rfl h0
        | cons v vs =>
          cases vs' with
          | nil => exact absurd rfl h1
          | cons v' vs' =>
            have q1 := hb h
            have q2 := hb h'
            rw [List.map_cons] at q1 q2 e2 ⊢
            rw [List.map_cons] at e2 ⊢
            exact jI_inj _ _ _ _ q1 q2 e2
      have e4 := votes_inj (fun v hv => vote_in h hv) (fun v hv => vote_in h' hv) e3
      refine ⟨?_, e4⟩
      have hl : 0 < vs.length := by omega
      have r1 := (of_rank (of_votes (of_prof h).2.2 hl).1).2.1
      have r2 := (of_rank (of_votes (of_prof h').2.2 (k := 0) (by rw [← e4]; exact hl)).1).2.1
      rw [← e4] at r2
      omega
/-- The texts agree just where the profiles do. -/
theorem text_eq {m m' : Int} {vs vs' : List (List Int × Int)} (h : profP m vs = true) (h' : profP m' vs' = true) : decide (textB m vs = textB m' vs') = (decide (m = m') && decide (vs = vs')) := by
  by_cases e : textB m vs = textB m' vs'
  · obtain ⟨e1, e2⟩ := text_inj h h' e
    rw [decide_eq_true e, decide_eq_true e1, decide_eq_true e2]
    rfl
  · rw [decide_eq_false e]
    by_cases e1 : m = m'
    · by_cases e2 : vs = vs'
      · subst e1; subst e2; exact absurd rfl e
      · rw [decide_eq_false e2, Bool.and_false]
    · rw [decide_eq_false e1, Bool.false_and]
end Go.Proofs.YtkofjdddmpebmaaGreatDoor
