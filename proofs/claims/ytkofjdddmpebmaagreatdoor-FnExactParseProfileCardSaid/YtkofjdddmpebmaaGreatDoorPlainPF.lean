/- A fraction read out of its text, in plain terms: the two functions' ways to say whether the text is a fraction's. -/
import Derived.Test.YtkofjdddmpebmaaGreatDoorCutL
import Derived.Test.YtkofjdddmpebmaaGreatDoorPlainInt
import Derived.Test.YtkofjdddmpebmaaGreatDoorFracT
namespace Go.Proofs.YtkofjdddmpebmaaGreatDoor
open Go.RowKit

/-- What the library's Cut gives at '/'. -/
def cutT (s : ByteArray) : List UInt8 × List UInt8 × Bool := Lib.cut s.data.toList [47]
def pfT (s : ByteArray) : Int := pV ⟨(cutT s).1.toArray⟩
def pfB (s : ByteArray) : Int := if (cutT s).2.2 then pV ⟨(cutT s).2.1.toArray⟩ else 1
def pfOk (s : ByteArray) : Bool := decide (s ≠ ByteArray.empty) && decide (fracT (pfT s) (pfB s) = s)
def pfX (s : ByteArray) : Int := if pfOk s then pfT s else 0
def pfY (s : ByteArray) : Int := if pfOk s then pfB s else 0
theorem bytes_back (s : ByteArray) : (⟨s.data.toList.toArray⟩ : ByteArray) = s := by cases s; simp
theorem dataL (l : List UInt8) : (⟨l.toArray⟩ : ByteArray).data.toList = l := by simp
theorem txt_bytes {n : Int} {x : UInt8} (h : x ∈ (txt n).data.toList) : x = 45 ∨ (48 ≤ x.toNat ∧ x.toNat ≤ 57) := by
  by_cases hn : n < 0
  · rw [txt_neg hn, List.mem_cons] at h
    rcases h with h | h
    · exact Or.inl h
    · have := dec_digB _ _ h
      simp only [digB, Bool.and_eq_true, decide_eq_true_eq] at this
      exact Or.inr (by omega)
  · rw [txt_pos hn] at h
    have := dec_digB _ _ h
    simp only [digB, Bool.and_eq_true, decide_eq_true_eq] at this
    exact Or.inr (by omega)
theorem txt_no47 (n : Int) : (47 : UInt8) ∉ (txt n).data.toList := fun h => by
  rcases txt_bytes h with e | ⟨h1, _⟩
  · exact absurd e (by decide)
  · exact absurd h1 (by decide)
theorem txt_ne (n : Int) : txt n ≠ ByteArray.empty := fun h => by
  have := congrArg ByteArray.size h
  rw [txt, strOfNums_size] at this
  have hp := fmtI_pos n
  rw [show ByteArray.empty.size = 0 from rfl] at this
  omega
theorem pOk_in {s : ByteArray} (h : (47 : UInt8) ∈ s.data.toList) : pOk s = false := by
  cases hp : pOk s with
  | false => rfl
  | true =>
    obtain ⟨n, _, e, _⟩ := of_pOk hp
    rw [e] at h
    exact absurd h (txt_no47 n)
theorem fracOk_zero (x : Int) : fracOkP x 0 = false := fracOk_no2 (by simp [inB])
/-- No '/': the whole text is a number's. -/
theorem pf_one {s : ByteArray} (h : Lib.index s.data.toList [47] = -1) : pfT s = pV s ∧ pfB s = 1 ∧ (pOk s = false → pfOk s = false) ∧ (pOk s = true → s ≠ ByteArray.empty) := by
  have hc : cutT s = (s.data.toList, [], false) := cut_miss h
  have e1 : pfT s = pV s := by rw [pfT, hc]
  have e2 : pfB s = 1 := by rw [pfB, hc]; rfl
  refine ⟨e1, e2, fun hp => ?_, fun hp => ?_⟩
  · rw [pfOk, e1, e2, pV_no hp]
    by_cases hs : fracT 0 1 = s
    · have e3 : fracT 0 1 = txt 0 := fracT_one (by decide) rfl
      have := (pOk_txt (n := 0) (by decide) (by decide)).1
      rw [← e3, hs, hp] at this
      cases this
    · rw [decide_eq_false hs, Bool.and_false]
  · obtain ⟨n, _, e, _⟩ := of_pOk hp
    rw [e]; exact txt_ne n
/-- One '/' at place j. -/
theorem pf_cut {s : ByteArray} {j : Nat} (h : Lib.index s.data.toList [47] = j) : pfT s = pV ⟨(s.data.toList.take j).toArray⟩ ∧ pfB s = pV ⟨(s.data.toList.drop (j + 1)).toArray⟩ ∧ s ≠ ByteArray.empty := by
  have hc : cutT s = (s.data.toList.take j, s.data.toList.drop (j + 1), true) := cut_hit h
  refine ⟨by rw [pfT, hc], by simp only [pfB, hc, if_true], fun e => ?_⟩
  have := (cutL_hit h).2.2
  rw [e] at this
  simp at this
/-- Where the fraction's text is the text, both its parts are numbers' texts. -/
theorem pf_both {s : ByteArray} {j : Nat} (h : Lib.index s.data.toList [47] = j) (he : fracT (pfT s) (pfB s) = s) : pOk ⟨(s.data.toList.take j).toArray⟩ = true ∧ pOk ⟨(s.data.toList.drop (j + 1)).toArray⟩ = true := by
  have hm := (cutL_hit h).2.1
  have hin : (47 : UInt8) ∈ s.data.toList := by rw [← hm]; simp
  have hne := (pf_cut h).2.2
  cases hf : fracOkP (pfT s) (pfB s) with
  | false => rw [fracT_no hf] at he; exact absurd he.symm hne
  | true =>
    by_cases h1 : pfB s = 1
    · rw [fracT_one hf h1] at he
      have : s = txt (pfT s) := he.symm
      rw [this] at hin
      exact absurd hin (txt_no47 _)
    · rw [fracT_two hf h1] at he
      have hl : s.data.toList = (txt (pfT s)).data.toList ++ 47 :: (txt (pfB s)).data.toList := by
        have e0 := congrArg (fun t : ByteArray => t.data.toList) he
        refine e0.symm.trans ?_
        simp [txt, ByteArray.data_append]
      have hi := index_first (b := (txt (pfB s)).data.toList) (txt_no47 (pfT s))
      rw [← hl, h] at hi
      have hj : j = (txt (pfT s)).data.toList.length := by omega
      have e1 : s.data.toList.take j = (txt (pfT s)).data.toList := by rw [hl, hj, List.take_left']; rfl
      have e2 : s.data.toList.drop (j + 1) = (txt (pfB s)).data.toList := by
        rw [hl, hj, show (txt (pfT s)).data.toList ++ 47 :: (txt (pfB s)).data.toList = ((txt (pfT s)).data.toList ++ [47]) ++ (txt (pfB s)).data.toList by simp, List.drop_left']
        simp
      obtain ⟨⟨b1, b2⟩, ⟨b3, b4⟩, _⟩ := of_fracOk hf
      rw [e1, e2, bytes_back, bytes_back]
      exact ⟨(pOk_txt (by omega) (by omega)).1, (pOk_txt (by omega) (by omega)).1⟩
/-- Two or more: no fraction's text. -/
theorem pf_many {s : ByteArray} {j : Nat} (h : Lib.index s.data.toList [47] = j) (h2 : (47 : UInt8) ∈ s.data.toList.drop (j + 1)) : pfOk s = false := by
  have hp : pOk ⟨(s.data.toList.drop (j + 1)).toArray⟩ = false := pOk_in (by rw [dataL]; exact h2)
  rw [pfOk]
  by_cases he : fracT (pfT s) (pfB s) = s
  · have := (pf_both h he).2
    rw [hp] at this; cases this
  · rw [decide_eq_false he, Bool.and_false]
theorem pfOk_eq {s : ByteArray} (h : s ≠ ByteArray.empty) : pfOk s = decide (fracT (pfT s) (pfB s) = s) := by rw [pfOk, decide_eq_true h, Bool.true_and]
theorem pf_yes {s : ByteArray} (h : pfOk s = true) : pfX s = pfT s ∧ pfY s = pfB s := by rw [pfX, pfY, if_pos h, if_pos h]; exact ⟨rfl, rfl⟩
theorem pf_no {s : ByteArray} (h : pfOk s = false) : pfX s = 0 ∧ pfY s = 0 := by rw [pfX, pfY, h]; exact ⟨rfl, rfl⟩
/-- The pieces: how many, and which. -/
theorem piece_at {s : ByteArray} {c : UInt8} {i : Nat} (h : i < (spP ⟨#[c]⟩ s).length) : some (snth (spP ⟨#[c]⟩ s) i).data.toList = (cutL c s.data.toList)[i]? := by
  rw [← spP_cut, List.getElem?_map, snth_get h, List.getElem?_eq_getElem h]
  rfl
theorem pieces_len {s : ByteArray} {c : UInt8} : (spP ⟨#[c]⟩ s).length = (cutL c s.data.toList).length := by rw [← spP_cut, List.length_map]
theorem pieces_one {s : ByteArray} {c : UInt8} (h : Lib.index s.data.toList [c] = -1) : (spP ⟨#[c]⟩ s).length = 1 ∧ snth (spP ⟨#[c]⟩ s) 0 = s := by
  have hl : (spP ⟨#[c]⟩ s).length = 1 := by rw [pieces_len, cutL_miss h]; rfl
  refine ⟨hl, ?_⟩
  have := piece_at (s := s) (c := c) (i := 0) (by omega)
  rw [cutL_miss h] at this
  injection this with this
  exact ByteArray.ext (Array.toList_inj.1 this)
theorem pieces_two {s : ByteArray} {c : UInt8} {j : Nat} (h : Lib.index s.data.toList [c] = j) (h2 : c ∉ s.data.toList.drop (j + 1)) : (spP ⟨#[c]⟩ s).length = 2 ∧ snth (spP ⟨#[c]⟩ s) 0 = ⟨(s.data.toList.take j).toArray⟩ ∧ snth (spP ⟨#[c]⟩ s) 1 = ⟨(s.data.toList.drop (j + 1)).toArray⟩ := by
  have hc : cutL c s.data.toList = [s.data.toList.take j, s.data.toList.drop (j + 1)] := by rw [(cutL_hit h).1, cutL_miss (index_free h2)]
  have hl : (spP ⟨#[c]⟩ s).length = 2 := by rw [pieces_len, hc]; rfl
  have e0 := piece_at (s := s) (c := c) (i := 0) (by omega)
  have e1 := piece_at (s := s) (c := c) (i := 1) (by omega)
  rw [hc] at e0 e1
  injection e0 with e0
  injection e1 with e1
  exact ⟨hl, ByteArray.ext (Array.toList_inj.1 (by rw [e0, dataL])), ByteArray.ext (Array.toList_inj.1 (by rw [e1, dataL]))⟩
theorem pieces_many {s : ByteArray} {c : UInt8} {j : Nat} (h : Lib.index s.data.toList [c] = j) (h2 : c ∈ s.data.toList.drop (j + 1)) : 2 < (spP ⟨#[c]⟩ s).length := by
  rw [pieces_len, (cutL_hit h).1]
  rcases Lib.index_spec (s.data.toList.drop (j + 1)) [c] with ⟨h1, _⟩ | ⟨i, h1, _⟩
  · have := cutL_free c (s.data.toList.drop (j + 1)) (s.data.toList.drop (j + 1)) (by rw [cutL_miss h1]; simp)
    exact absurd h2 this
  · rw [(cutL_hit h1).1]
    obtain ⟨p, r, e⟩ := cutL_some c ((s.data.toList.drop (j + 1)).drop (i + 1))
    rw [e]
    simp
theorem piece_size {s : ByteArray} {l : List UInt8} (h : l.length ≤ s.data.toList.length) : (⟨l.toArray⟩ : ByteArray).size ≤ s.size := by
  have e1 : (⟨l.toArray⟩ : ByteArray).size = l.length := by simp [ByteArray.size]
  have e2 : s.data.toList.length = s.size := by simp
  omega
end Go.Proofs.YtkofjdddmpebmaaGreatDoor
