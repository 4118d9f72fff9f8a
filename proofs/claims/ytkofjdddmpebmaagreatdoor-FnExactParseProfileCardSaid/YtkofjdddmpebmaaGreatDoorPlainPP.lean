/- A profile read from a text: in plain terms. -/
import Derived.Test.YtkofjdddmpebmaaGreatDoorFmtd
import Derived.Test.YtkofjdddmpebmaaGreatDoorParse
import Derived.Test.YtkofjdddmpebmaaGreatDoorPlainPF
/-! A profile read from a text: in plain terms. -/
namespace Go.Proofs.YtkofjdddmpebmaaGreatDoor
open Go.RowKit

/-- The two halves of a word. -/
def wA (x : ByteArray) : ByteArray := ⟨(Lib.cut x.data.toList [42]).1.toArray⟩
def wB (x : ByteArray) : ByteArray := ⟨(Lib.cut x.data.toList [42]).2.1.toArray⟩
def wF (x : ByteArray) : Bool := (Lib.cut x.data.toList [42]).2.2
/-- The vote that a word says. -/
def voteW (x : ByteArray) : List Int × Int := (parseP (wB x), pV (wA x))
def negT (t : ByteArray) : Bool := Lib.hasPrefix t.data.toList [45]
def restT (t : ByteArray) : ByteArray := ⟨(t.data.toList.drop 1).toArray⟩
def ppV (t : ByteArray) : List (List Int × Int) := if negT t then [] else (spP ⟨#[32]⟩ t).map voteW
/-- The length of the last ranking. -/
def szV (vs : List (List Int × Int)) : Int := (rl vs (vs.length - 1) : Int)
def ppM (t : ByteArray) : Int := if negT t then pV (restT t) else szV (ppV t)
def ppOk (t : ByteArray) : Bool := fOk (ppM t) (ppV t) t
def ppRM (t : ByteArray) : Int := if ppOk t then ppM t else 0
def ppRV (t : ByteArray) : List (List Int × Int) := if ppOk t then ppV t else []
theorem pp_yes {t : ByteArray} (h : ppOk t = true) : ppRM t = ppM t ∧ ppRV t = ppV t := by rw [ppRM, ppRV, if_pos h, if_pos h]; exact ⟨rfl, rfl⟩
theorem pp_no {t : ByteArray} (h : ppOk t = false) : ppRM t = 0 ∧ ppRV t = [] := by rw [ppRM, ppRV, h]; exact ⟨rfl, rfl⟩
theorem pp_neg {t : ByteArray} (h : negT t = true) : ppM t = pV (restT t) ∧ ppV t = [] := by rw [ppM, ppV, if_pos h, if_pos h]; exact ⟨rfl, rfl⟩
theorem pp_pos {t : ByteArray} (h : negT t = false) : ppM t = szV ((spP ⟨#[32]⟩ t).map voteW) ∧ ppV t = (spP ⟨#[32]⟩ t).map voteW := by
  have : ¬ negT t = true := by rw [h]; decide
  rw [ppM, ppV, if_neg this, if_neg this]; exact ⟨rfl, rfl⟩
theorem pp_long {t : ByteArray} (h : negT t = false) (hl : 24 < (spP ⟨#[32]⟩ t).length) : ppOk t = false := by
  rw [ppOk]
  apply f_no1
  cases hp : profP (ppM t) (ppV t) with
  | false => rfl
  | true =>
    have := (of_prof hp).2.1
    rw [(pp_pos h).2, List.length_map] at this
    omega
theorem wA_le (x : ByteArray) : (wA x).size ≤ x.size := by
  apply piece_size
  rcases Lib.index_spec x.data.toList [42] with ⟨h, _⟩ | ⟨i, h, _⟩
  · rw [cut_miss h]; exact Nat.le_refl _
  · rw [cut_hit h, List.length_take]; omega
theorem wB_le (x : ByteArray) : (wB x).size ≤ x.size := by
  apply piece_size
  rcases Lib.index_spec x.data.toList [42] with ⟨h, _⟩ | ⟨i, h, _⟩
  · rw [cut_miss h]; exact Nat.zero_le _
  · rw [cut_hit h, List.length_drop]; omega
theorem piece_le {t : ByteArray} {c : UInt8} {x : ByteArray} (h : x ∈ spP ⟨#[c]⟩ t) : x.size ≤ t.size := by
  have h2 : x.data.toList ∈ cutL c t.data.toList := by rw [← spP_cut]; exact List.mem_map_of_mem h
  have e : ∀ (l p : List UInt8), p ∈ cutL c l → p.length ≤ l.length := by
    intro l
    induction l with
    | nil => intro p hp; rw [cutL_nil, List.mem_singleton] at hp; subst hp; exact Nat.le_refl _
    | cons b l ih =>
      intro p hp
      by_cases hb : b = c
      · subst hb
        rw [cutL_sep, List.mem_cons] at hp
        rcases hp with rfl | hp
        · exact Nat.zero_le _
        · have := ih p hp; rw [List.length_cons]; omega
      · obtain ⟨q, r, e⟩ := cutL_some c l
        rw [cutL_in hb e, List.mem_cons] at hp
        rcases hp with rfl | hp
        · have := ih q (by rw [e]; exact List.mem_cons_self); rw [List.length_cons, List.length_cons]; omega
        · have := ih p (by rw [e]; exact List.mem_cons_of_mem _ hp); rw [List.length_cons]; omega
  have := e _ _ h2
  simpa using this
theorem rest_le (t : ByteArray) : (restT t).size ≤ t.size := piece_size (by rw [List.length_drop]; omega)
theorem rl_word {pre : List ByteArray} {j : Nat} (hj : j < pre.length) : rl (pre.map voteW) j = (parseP (wB pre[j])).length := by
  simp [rl, rk, vnth, List.getD, hj]
  rfl
/-- A ranking read from a word of a text of at most 1048576 bytes. -/
theorem rl_small {t : ByteArray} (ht : t.size ≤ 1048576) {pre q : List ByteArray} (h : pre ++ q = spP ⟨#[32]⟩ t) (j : Nat) (hj : j < pre.length) : (rl (pre.map voteW) j : Int) ≤ 1048576 := by
  rw [rl_word hj]
  have h1 := parse_len (wB pre[j])
  have h2 := wB_le pre[j]
  have h3 := piece_le (c := 32) (t := t) (x := pre[j]) (by rw [← h]; exact List.mem_append_left _ (List.getElem_mem hj))
  omega
theorem szV_snoc (vs : List (List Int × Int)) (v : List Int × Int) : szV (vs ++ [v]) = (v.1.length : Int) := by
  rw [szV, List.length_append, List.length_singleton, Nat.add_sub_cancel]
  simp [rl, rk, vnth, List.getD]
end Go.Proofs.YtkofjdddmpebmaaGreatDoor

/-! A profile read from a text: where a word is no vote, the text is no profile's. -/
namespace Go.Proofs.YtkofjdddmpebmaaGreatDoor
open Go.RowKit

/-- The word is a vote's text, as the reference reads it. -/
def lvOk (x : ByteArray) : Bool := decide ((spP ⟨#[42]⟩ x).length = 2) && (pOk (wA x) && parseOk (wB x))
def bytL (l : List Int) : List UInt8 := l.map fun n => UInt8.ofNat n.toNat
theorem strn_data (l : List Int) : (strOfNums l).data.toList = bytL l := by simp [strOfNums, bytL]
theorem bytL_mem {l : List Int} {c : UInt8} (h : ∀ x ∈ l, 0 ≤ x ∧ x < 256 ∧ x ≠ (c.toNat : Int)) : c ∉ bytL l := fun hc => by
  rw [bytL, List.mem_map] at hc
  obtain ⟨y, hy, e⟩ := hc
  obtain ⟨h1, h2, h3⟩ := h y hy
  have := congrArg UInt8.toNat e
  rw [UInt8.toNat_ofNat'] at this
  omega
theorem nums_letters {xs : List Int} (h : ∀ x ∈ xs, 0 ≤ x ∧ x ≤ 4) : nums (strOfNums (letters xs xs.length)) (strOfNums (letters xs xs.length)).size = xs := by
  have hz : (strOfNums (letters xs xs.length)).data.toList.length = (strOfNums (letters xs xs.length)).size := by simp
  rw [nums, List.take_of_length_le (Nat.le_of_eq hz), strn_data, bytL, letters, List.take_of_length_le (Nat.le_refl _), List.map_map, List.map_map]
  conv => rhs; rw [← List.map_id xs]
  apply List.map_congr_left
  intro x hx
  have := h x hx
  simp only [Function.comp, id, UInt8.toNat_ofNat']
  omega
theorem cut_at {a b : List UInt8} {c : UInt8} (h : c ∉ a) : Lib.index (a ++ c :: b) [c] = a.length ∧ (a ++ c :: b).take a.length = a ∧ (a ++ c :: b).drop (a.length + 1) = b := by
  refine ⟨index_first h, by simp, ?_⟩
  rw [show a ++ c :: b = (a ++ [c]) ++ b by simp, show a.length + 1 = (a ++ [c]).length by simp, List.drop_left]
theorem good_word {m : Int} {v : List Int × Int} (h : rankOkP m v.1 = true ∧ 1 ≤ v.2 ∧ v.2 ≤ 1000) : lvOk (strOfNums (voteI v)) = true := by
  obtain ⟨r1, r2, r3, _⟩ := of_rank h.1
  have hx : (strOfNums (voteI v)).data.toList = bytL (fmtI v.2) ++ 42 :: bytL (letters v.1 v.1.length) := by
    rw [strn_data, voteI, bytL, List.map_append, List.map_cons]
    rfl
  have ha : (42 : UInt8) ∉ bytL (fmtI v.2) := bytL_mem fun x hx => by
    rw [fmtI_count h.2.1] at hx
    have := decP_byte hx
    refine ⟨by omega, by omega, ?_⟩
    show x ≠ ((42 : Nat) : Int)
    omega
  have hb : (42 : UInt8) ∉ bytL (letters v.1 v.1.length) := bytL_mem fun x hx => by
    have := letters_byte h.1 hx
    refine ⟨by omega, by omega, ?_⟩
    show x ≠ ((42 : Nat) : Int)
    omega
  obtain ⟨c1, c2, c3⟩ := cut_at (b := bytL (letters v.1 v.1.length)) ha
  rw [← hx] at c1 c2 c3
  have hp := pieces_two c1 (by rw [c3]; exact hb)
  have e1 : wA (strOfNums (voteI v)) = txt v.2 := by
    rw [wA, cut_hit c1]
    show (⟨((strOfNums (voteI v)).data.toList.take _).toArray⟩ : ByteArray) = _
    rw [c2, ← strn_data, bytes_back]
    rfl
  have e2 : wB (strOfNums (voteI v)) = strOfNums (letters v.1 v.1.length) := by
    rw [wB, cut_hit c1]
    show (⟨((strOfNums (voteI v)).data.toList.drop _).toArray⟩ : ByteArray) = _
    rw [c3, ← strn_data, bytes_back]
  have e3 : parseOk (strOfNums (letters v.1 v.1.length)) = true := by
    rw [parseOk, nums_letters, strOfNums_size, letters_len (Nat.le_refl _), r2]
    · exact h.1
    · intro x hx
      obtain ⟨k, hk, he⟩ := List.getElem_of_mem hx
      have := r3 k hk
      rw [nth_get hk, he] at this
      omega
  rw [lvOk, decide_eq_true hp.1, e1, e2, (pOk_txt (by omega) (by omega)).1, e3]
  rfl
theorem cut_jI : ∀ (ws : List (List Int)) (w : List Int), (∀ l ∈ w :: ws, ∀ x ∈ l, 0 ≤ x ∧ x < 256 ∧ x ≠ 32) → cutL 32 (bytL (jI (w :: ws))) = (w :: ws).map bytL
  | [], w, h => by
    have e : jI [w] = w := by simp [jI]
    have hf : (32 : UInt8) ∉ bytL w := bytL_mem (h w List.mem_cons_self)
    rw [e, cutL_miss (index_free hf)]
    rfl
  | x :: ws, w, h => by
    have hf : (32 : UInt8) ∉ bytL w := bytL_mem (h w List.mem_cons_self)
    have e : bytL (w ++ 32 :: jI (x :: ws)) = bytL w ++ 32 :: bytL (jI (x :: ws)) := by rw [bytL, List.map_append, List.map_cons]; rfl
    obtain ⟨c1, c2, c3⟩ := cut_at (b := bytL (jI (x :: ws))) hf
    rw [jI_two, e, (cutL_hit c1).1, c2, c3, cut_jI ws x (fun l hl => h l (List.mem_cons_of_mem _ hl))]
    rfl
theorem sp_some (t : ByteArray) (c : UInt8) : spP ⟨#[c]⟩ t ≠ [] := fun h => by
  obtain ⟨p, r, e⟩ := cutL_some c t.data.toList
  rw [← spP_cut, h] at e
  cases e
/-- A word that is no vote: the text is no profile's. -/
theorem word_bad {t x : ByteArray} (hneg : negT t = false) (hx : x ∈ spP ⟨#[32]⟩ t) (hbad : lvOk x = false) : ppOk t = false := by
  cases ho : ppOk t with
  | false => rfl
  | true =>
    exfalso
    rw [ppOk, fOk, Bool.and_eq_true, decide_eq_true_eq] at ho
    obtain ⟨h1, h2⟩ := ho
    have hv := (pp_pos hneg).2
    have h0 : (ppV t).length ≠ 0 := by
      rw [hv, List.length_map]
      intro e
      exact sp_some t 32 (List.length_eq_zero_iff.1 e)
    rw [text_nums h1 h0] at h2
    have hw : spP ⟨#[32]⟩ t = ((ppV t).map voteI).map strOfNums := by
      apply map_data_inj
      have e : t.data.toList = bytL (jI ((ppV t).map voteI)) := by rw [← strn_data, h2]
      rw [spP_cut, e]
      cases hl : (ppV t).map voteI with
      | nil => rw [List.map_eq_nil_iff] at hl; rw [hl] at h0; exact absurd rfl h0
      | cons w ws =>
        rw [cut_jI ws w (fun l hl2 y hy => ?_), List.map_map]
        · apply List.map_congr_left
          intro l _
          exact (strn_data l).symm
        · rw [← hl, List.mem_map] at hl2
          obtain ⟨v, hv2, rfl⟩ := hl2
          have := voteI_byte (vote_in h1 hv2) hy
          omega
    rw [hw, List.mem_map] at hx
    obtain ⟨l, hl, rfl⟩ := hx
    rw [List.mem_map] at hl
    obtain ⟨v, hv2, rfl⟩ := hl
    rw [good_word (vote_in h1 hv2)] at hbad
    cases hbad
end Go.Proofs.YtkofjdddmpebmaaGreatDoor
