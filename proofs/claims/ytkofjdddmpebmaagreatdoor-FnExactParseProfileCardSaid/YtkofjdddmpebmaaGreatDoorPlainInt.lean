/- What the functions that read a number out of its text compute, in plain terms: the number, where the string is its very text. -/
import Derived.Test.YtkofjdddmpebmaaGreatDoorText1
import Derived.Test.YtkofjdddmpebmaaGreatDoorDec
import Derived.Lib.AtoiAll
namespace Go.Proofs.YtkofjdddmpebmaaGreatDoor
open Go.RowKit

/-- A number's text. -/
def txt (n : Int) : ByteArray := strOfNums (fmtI n)
def byt (x : Int) : UInt8 := UInt8.ofNat x.toNat
theorem txt_data (n : Int) : (txt n).data.toList = (fmtI n).map byt := by
  rw [txt, strOfNums_data]
  exact List.map_congr_left (fun _ _ => rfl)
/-- What digits spell, behind what was spelled before. -/
def foldB (acc : Nat) (l : List UInt8) : Nat := l.foldl (fun a c => a * 10 + (c.toNat - 48)) acc
theorem foldB_cons (acc : Nat) (c : UInt8) (r : List UInt8) : foldB acc (c :: r) = foldB (acc * 10 + (c.toNat - 48)) r := by rw [foldB, List.foldl_cons, foldB]
theorem foldB_append (acc : Nat) (a b : List UInt8) : foldB acc (a ++ b) = foldB (foldB acc a) b := by simp [foldB]
theorem foldB_snoc (acc : Nat) (l : List UInt8) (c : UInt8) : foldB acc (l ++ [c]) = foldB acc l * 10 + (c.toNat - 48) := by rw [foldB_append]; rfl
theorem foldB_ge : ∀ (l : List UInt8) (acc : Nat), acc ≤ foldB acc l
  | [], _ => Nat.le_refl _
  | c :: r, acc => by
    have := foldB_ge r (acc * 10 + (c.toNat - 48))
    rw [foldB_cons]
    omega
theorem foldB_take (l : List UInt8) (k : Nat) : foldB 0 (l.take k) ≤ foldB 0 l := by
  have := foldB_ge (l.drop k) (foldB 0 (l.take k))
  rw [← foldB_append, List.take_append_drop] at this
  exact this
theorem parse_all : ∀ (l : List UInt8) (acc : Nat), (∀ c ∈ l, digB c = true) → foldB acc l < 18446744073709551616 → Lib.parseUint10 acc l = .ok (foldB acc l)
  | [], _, _, _ => rfl
  | c :: r, acc, h, hlt => by
    have hc := h c List.mem_cons_self
    have hd : 48 ≤ c.toNat ∧ c.toNat ≤ 57 := by
      simp only [digB, Bool.and_eq_true, decide_eq_true_eq] at hc
      omega
    rw [foldB_cons] at hlt ⊢
    have hge := foldB_ge r (acc * 10 + (c.toNat - 48))
    rw [Lib.parseUint10, if_pos hd, if_neg (by omega), if_neg (by omega)]
    exact parse_all r _ (fun x hx => h x (List.mem_cons_of_mem _ hx)) hlt
theorem byt_dig {x : Int} (h : 48 ≤ x ∧ x ≤ 57) : (byt x).toNat = x.toNat := by
  rw [byt, UInt8.toNat_ofNat_of_lt' (by show x.toNat < 256; omega)]
theorem digB_byt {x : Int} (h : 48 ≤ x ∧ x ≤ 57) : digB (byt x) = true := by
  have := byt_dig h
  simp only [digB, Bool.and_eq_true, decide_eq_true_eq]
  omega
theorem foldB_digs : ∀ n : Nat, foldB 0 ((digs n).map byt) = n := by
  intro n
  induction n using Nat.strongRecOn with
  | _ n ih =>
    by_cases h : n = 0
    · subst h; rw [digs_zero]; rfl
    · have hb : (byt (48 + ((n % 10 : Nat) : Int))).toNat = 48 + n % 10 := by rw [byt_dig (by omega)]; omega
      rw [digs_pos h, List.map_append, List.map_cons, List.map_nil, foldB_snoc, ih (n / 10) (by omega), hb]
      omega
theorem foldB_dec (n : Nat) : foldB 0 ((decP n).map byt) = n := by
  have hb : (byt (48 + ((n % 10 : Nat) : Int))).toNat = 48 + n % 10 := by rw [byt_dig (by omega)]; omega
  rw [decP, List.map_append, List.map_cons, List.map_nil, foldB_snoc, foldB_digs, hb]
  omega
theorem dec_digB (n : Nat) : ∀ c ∈ (decP n).map byt, digB c = true := by
  intro c hc
  rw [List.mem_map] at hc
  obtain ⟨x, hx, rfl⟩ := hc
  exact digB_byt (decP_byte hx)
theorem dec_cons (n : Nat) : ∃ c r, (decP n).map byt = c :: r ∧ 48 ≤ c.toNat ∧ c.toNat ≤ 57 := by
  cases h : (decP n).map byt with
  | nil => simp [decP] at h
  | cons c r =>
    have := dec_digB n c (by rw [h]; exact List.mem_cons_self)
    simp only [digB, Bool.and_eq_true, decide_eq_true_eq] at this
    exact ⟨c, r, rfl, by omega, by omega⟩
theorem txt_neg {n : Int} (h : n < 0) : (txt n).data.toList = 45 :: (decP n.natAbs).map byt := by rw [txt_data, fmtI, if_pos h]; rfl
theorem txt_pos {n : Int} (h : ¬ n < 0) : (txt n).data.toList = (decP n.natAbs).map byt := by rw [txt_data, fmtI, if_neg h]
/-- The library's function gives back the number of a text. -/
theorem atoi_txt {n : Int} (h1 : -9223372036854775808 ≤ n) (h2 : n ≤ 9223372036854775807) : Lib.atoiAll (txt n).data.toList = .ok n := by
  obtain ⟨c, r, hc, hc1, hc2⟩ := dec_cons n.natAbs
  have hp : Lib.parseMag ((decP n.natAbs).map byt) = .ok n.natAbs := by
    rw [Lib.parseMag, if_neg (by rw [hc]; simp), parse_all _ _ (dec_digB _) (by rw [foldB_dec]; omega), foldB_dec]
  by_cases h : n < 0
  · rw [txt_neg h, Lib.atoiAll]
    have e : (45 : UInt8).toNat = 45 := rfl
    simp only [e, or_true, if_true, not_true_eq_false, false_and, if_false, true_and, hp]
    rw [if_neg (by omega)]
    congr 1; omega
  · have hc43 : ¬ c.toNat = 43 := by omega
    have hc45 : ¬ c.toNat = 45 := by omega
    rw [hc] at hp
    rw [txt_pos h, hc, Lib.atoiAll]
    simp only [hc43, hc45, or_false, if_false, hp, not_false_eq_true, true_and, false_and]
    rw [if_neg (by omega)]
    congr 1; omega

/-- Whether the string is a number's text, and which number's. -/
def pOk (s : ByteArray) : Bool := match Lib.atoiAll s.data.toList with | .ok v => decide (txt v = s) | _ => false
def pV (s : ByteArray) : Int := match Lib.atoiAll s.data.toList with | .ok v => if txt v = s then v else 0 | _ => 0
theorem p_ok {s : ByteArray} {v : Int} (h : Lib.atoiAll s.data.toList = .ok v) : pOk s = decide (txt v = s) ∧ pV s = (if txt v = s then v else 0) := by
  rw [pOk, pV, h]; exact ⟨rfl, rfl⟩
theorem p_bad {s : ByteArray} (h : ∀ v, Lib.atoiAll s.data.toList ≠ .ok v) : pOk s = false ∧ pV s = 0 := by
  rw [pOk, pV]
  cases hq : Lib.atoiAll s.data.toList with
  | ok v => exact absurd hq (h v)
  | _ => exact ⟨rfl, rfl⟩
theorem pV_no {s : ByteArray} (h : pOk s = false) : pV s = 0 := by
  rw [pOk] at h; rw [pV]
  cases hq : Lib.atoiAll s.data.toList with
  | ok v =>
    rw [hq] at h
    simp only [decide_eq_false_iff_not] at h
    simp only [if_neg h]
  | _ => rfl
theorem pOk_txt {n : Int} (h1 : -9223372036854775808 ≤ n) (h2 : n ≤ 9223372036854775807) : pOk (txt n) = true ∧ pV (txt n) = n := by
  obtain ⟨e1, e2⟩ := p_ok (atoi_txt h1 h2)
  rw [e1, e2]
  simp
theorem atoi_bd {l : List UInt8} {v : Int} (h : Lib.atoiAll l = .ok v) : -9223372036854775808 ≤ v ∧ v ≤ 9223372036854775807 := by
  cases l with
  | nil => simp [Lib.atoiAll] at h
  | cons c r =>
    simp only [Lib.atoiAll] at h
    split at h
    · cases h
    · cases h
    · rename_i u _
      split at h
      · cases h
      · split at h
        · cases h
        · injection h with h
          split at h <;> omega
theorem of_pOk {s : ByteArray} (h : pOk s = true) : ∃ n : Int, (-9223372036854775808 ≤ n ∧ n ≤ 9223372036854775807) ∧ s = txt n ∧ pV s = n := by
  cases hq : Lib.atoiAll s.data.toList with
  | ok v =>
    obtain ⟨e1, e2⟩ := p_ok hq
    rw [e1, decide_eq_true_eq] at h
    exact ⟨v, atoi_bd hq, h.symm, by rw [e2, if_pos h]⟩
  | _ =>
    have := (p_bad (s := s) (fun v => by rw [hq]; intro e; cases e)).1
    rw [this] at h; cases h
theorem list_size (s : ByteArray) : s.data.toList.length = s.size := by simp
theorem pOk_neg {s : ByteArray} (h : pOk s = true) (h0 : 0 < s.size) (hn : (s[0].toNat : Int) = 45) :
    isDigitsP (s.extract 1 s.size).data.toList = true ∧ (s.extract 1 s.size).size ≤ 19 ∧ foldB 0 (s.extract 1 s.size).data.toList ≤ 9223372036854775808 ∧ s = txt (-(foldB 0 (s.extract 1 s.size).data.toList : Int)) := by
  obtain ⟨n, ⟨h1, h2⟩, hs, hv⟩ := of_pOk h
  have hh := head_eq s h0
  by_cases hneg : n < 0
  · have hd : (s.extract 1 s.size).data.toList = (decP n.natAbs).map byt := by
      rw [Lib.extract_data, hs, txt_neg hneg]
      rw [List.drop_succ_cons, List.drop_zero, List.take_of_length_le]
      have : (txt n).size = ((decP n.natAbs).map byt).length + 1 := by rw [← list_size, txt_neg hneg]; rfl
      omega
    have hz : (s.extract 1 s.size).size = (decP n.natAbs).length := by rw [← list_size, hd, List.length_map]
    refine ⟨?_, ?_, ?_, ?_⟩
    · rw [hd, isDigitsP]
      obtain ⟨c, r, hc, _⟩ := dec_cons n.natAbs
      rw [List.all_eq_true.2 (dec_digB n.natAbs), hc]
      simp
    · have := decP_len (n := n.natAbs) (by omega)
      omega
    · rw [hd, foldB_dec]; omega
    · rw [hd, foldB_dec, show -((n.natAbs : Nat) : Int) = n by omega]; exact hs
  · obtain ⟨c, r, hc, hc1, hc2⟩ := dec_cons n.natAbs
    have e1 : s.data.toList.headD 0 = c := by rw [hs, txt_pos hneg, hc]; rfl
    rw [e1] at hh
    rw [← hh] at hn
    omega
theorem pOk_pos {s : ByteArray} (h : pOk s = true) (hn : ∀ h0 : 0 < s.size, (s[0].toNat : Int) ≠ 45) :
    isDigitsP s.data.toList = true ∧ s.size ≤ 19 ∧ foldB 0 s.data.toList ≤ 9223372036854775807 ∧ s = txt (foldB 0 s.data.toList : Int) := by
  obtain ⟨n, ⟨h1, h2⟩, hs, hv⟩ := of_pOk h
  by_cases hneg : n < 0
  · have h0 : 0 < s.size := by
      rw [← list_size, hs, txt_neg hneg]; simp
    have hh := head_eq s h0
    have e : s.data.toList.headD 0 = 45 := by rw [hs, txt_neg hneg]; rfl
    rw [e] at hh
    exact absurd (by rw [← hh]; rfl) (hn h0)
  · have hd : s.data.toList = (decP n.natAbs).map byt := by rw [hs, txt_pos hneg]
    have hz : s.size = (decP n.natAbs).length := by rw [← list_size, hd, List.length_map]
    refine ⟨?_, ?_, ?_, ?_⟩
    · rw [hd, isDigitsP]
      obtain ⟨c, r, hc, _⟩ := dec_cons n.natAbs
      rw [List.all_eq_true.2 (dec_digB n.natAbs), hc]
      simp
    · have := decP_len (n := n.natAbs) (by omega)
      omega
    · rw [hd, foldB_dec]; omega
    · rw [hd, foldB_dec, show ((n.natAbs : Nat) : Int) = n by omega]; exact hs
theorem foldB_next (t : ByteArray) (k : Nat) (h : k < t.size) : foldB 0 (t.data.toList.take (k + 1)) = foldB 0 (t.data.toList.take k) * 10 + (t[k].toNat - 48) := by
  rw [take_snocB t k h, foldB_snoc]
theorem dig_at {t : ByteArray} (h : isDigitsP t.data.toList = true) {k : Nat} (hk : k < t.size) : 48 ≤ (t[k].toNat : Int) ∧ (t[k].toNat : Int) ≤ 57 := by
  rw [isDigitsP, Bool.and_eq_true] at h
  have := List.all_eq_true.1 h.1 t[k] (List.getElem_mem (by simpa using hk))
  simp only [digB, Bool.and_eq_true, decide_eq_true_eq] at this
  exact this
end Go.Proofs.YtkofjdddmpebmaaGreatDoor
