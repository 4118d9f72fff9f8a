/- A text split into lines: what the reference's and the program's functions compute. -/
import Derived.Test.YtfcbnpjfpeiheaaDoorCutL
import Derived.Test.YtfcbnpjfpeiheaaDoorRows
import Derived.Shelf.Vars
namespace Go.Proofs.YtfcbnpjfpeiheaaDoor
open Go.RowKit
set_option maxRecDepth 100000

set_option maxHeartbeats 1000000 in
theorem markStringSC (A : Option Addr) (n c d base : Nat) (vs : List Value) (m : Int) (w : World) (h : w.ownsRow base 9 1 (.slice A n c) n vs) (hn : (n : Int) ≤ 1099511627776) (hm : 0 ≤ m ∧ m ≤ 1152921504606846976) :
    Calls Tryd.prog 26 #[.slice A n d, .int .i64 m] w fun e w' => e = .returned (.int .i64 (m + n)) ∧ OwnS w' base A n c (mks m n) ∧ w.grownBy w' (A.map (·.block)) := by
  have hl : vs.length = n := by have := h.1; omega
  go_enter Tryd.func26, Tryd.ntmps26
  go_wp2_with fail
  go_loopw [1, 5] (fun u v wr => ∃ k : Nat, (k : Int) ≤ n ∧ u = .int .i64 (m + k) ∧ v = .int .i64 k ∧ wr.ownsRow base 9 1 (.slice A n c) n (markedS m k vs) ∧ w.grownBy wr (A.map (·.block))) (fun _ v _ => n - (intOf v).toNat)
  case atStart => exact ⟨0, by omega, by simp, rfl, by rw [markedS_zero]; exact h, World.grownBy.refl _ _⟩
  case round =>
    obtain ⟨k, hk, rfl, rfl, hown, hg⟩ := hrel
    by_cases hlt : (k : Int) < n
    · obtain ⟨g, rfl, hb, hgs⟩ := own_form hown (by omega)
      have hml := markedS_len m (k := k) (vs := vs) (by omega)
      go_wp2_with fail
      refine (lawMarkText (m + k) _ (by omega)).mono ?_; rintro e w1 ⟨rfl, b1⟩
      have hown1 := own_below hown b1 (Nat.le_refl _)
      have hg1 := grown_trans hg (grown_below' (row := some g) b1)
      have hc : w1.cell? ⟨g, k, none⟩ = some ((markedS m k vs)[k]'(by omega)) := by rw [hown1.cellAt k (by omega)]; exact List.getElem?_eq_getElem (by omega)
      have hf := hown1.frozenAt k
      have hs := hown1.stored k (.string (mtB (m + k)))
      rw [markedS_set m (by omega)] at hs
      have HS := Lib.hid hs; clear hs
      generalize (markedS m k vs)[k]'(by omega) = old at hc
      go_wp2_with fail
      go_roundw
      case rel => exact ⟨k + 1, by omega, by go_num, by go_num, HS.out.1, grown_trans hg1 HS.out.2⟩
      case measure => simp [intOf]; omega
    · go_wp2
      go_ret
      obtain rfl : k = n := by omega
      exact ⟨rfl, by rw [markedS_all m hl] at hown; exact hown, hg⟩


/-- The lines. -/
def slP (s : ByteArray) : List ByteArray := if snth (spP ⟨#[10]⟩ s) ((spP ⟨#[10]⟩ s).length - 1) = ByteArray.empty then (spP ⟨#[10]⟩ s).take ((spP ⟨#[10]⟩ s).length - 1) else spP ⟨#[10]⟩ s
theorem sl_yes {s : ByteArray} {k : Nat} (hl : (spP ⟨#[10]⟩ s).length = k + 1) (h : snth (spP ⟨#[10]⟩ s) k = ByteArray.empty) : slP s = (spP ⟨#[10]⟩ s).take k ∧ (slP s).length = k := by
  have e : slP s = (spP ⟨#[10]⟩ s).take k := by rw [slP, hl, Nat.add_sub_cancel, if_pos h]
  exact ⟨e, by rw [e, List.length_take]; omega⟩
theorem sl_no {s : ByteArray} {k : Nat} (hl : (spP ⟨#[10]⟩ s).length = k + 1) (h : snth (spP ⟨#[10]⟩ s) k ≠ ByteArray.empty) : slP s = spP ⟨#[10]⟩ s ∧ (slP s).length = k + 1 := by
  have e : slP s = spP ⟨#[10]⟩ s := by rw [slP, hl, Nat.add_sub_cancel, if_neg h]
  exact ⟨e, by rw [e, hl]⟩
theorem sp_pos (b s : ByteArray) : ∃ k, (spP b s).length = k + 1 := ⟨(spK b s s.size).1.length, by simp [spP]⟩
theorem sl_len (s : ByteArray) : (slP s).length ≤ s.size + 1 := by
  have h := sp_len ⟨#[10]⟩ s
  rw [slP]
  split
  · rw [List.length_take]; omega
  · exact h
theorem empty_yes {x : ByteArray} (h : x = ByteArray.empty) : x.toList.isEmpty = true ∧ (x.toList == (⟨#[]⟩ : ByteArray).toList) = true := by
  rw [h, ByteArray.toList_eq, ByteArray.toList_eq]; exact ⟨rfl, rfl⟩
theorem empty_no {x : ByteArray} (h : x ≠ ByteArray.empty) : x.toList.isEmpty = false ∧ (x.toList == (⟨#[]⟩ : ByteArray).toList) = false := by
  rw [ByteArray.toList_eq, ByteArray.toList_eq]
  cases hl : x.data.toList with
  | nil => exact absurd (ByteArray.ext (Array.toList_inj.1 (by rw [hl]; rfl))) h
  | cons _ _ => exact ⟨rfl, rfl⟩
theorem own_first {w : World} {base C : Nat} {A : Option Addr} {N : Nat} {ss : List ByteArray} (h : OwnS w base A N C ss) (n : Nat) (hn : n ≤ N) : OwnS w base A n C (ss.take n) := by
  have hl := ownS_len h
  obtain ⟨hx, h0 | ⟨g, cap, cur, hv, hb, hh, hc, hm, hs, ht⟩⟩ := h
  · obtain ⟨hv, rfl⟩ := h0
    obtain rfl : n = 0 := by omega
    injection hv with e1 _ e3
    subst e1; subst e3
    exact ⟨by simp [svs], .inl ⟨rfl, rfl⟩⟩
  · injection hv with e1 _ e3
    subst e1; subst e3
    refine ⟨by rw [svs_len, List.length_take]; omega, .inr ⟨g, C, cur, rfl, hb, hh, by omega, hm, hs, ?_⟩⟩
    rw [Nat.mul_one] at ht ⊢
    have e : cur.toList.take n = (cur.toList.take N).take n := by rw [List.take_take, Nat.min_eq_left hn]
    rw [e, ht, svs, svs, List.map_take]
/-- What the library's variable holds: some number. -/
def MaxC (w : World) : Prop := ∃ m, w.cell? ⟨0, 0, none⟩ = some (.int .i64 m)
theorem MaxC.on {w w' : World} (h : MaxC w) (b : Below w.heap.size w w') : MaxC w' := by
  obtain ⟨m, hm⟩ := h
  have hlt : 0 < w.heap.size := by
    rcases Nat.lt_or_ge 0 w.heap.size with h' | h'
    · exact h'
    · simp [World.cell?, Array.getElem?_eq_none h'] at hm
  exact ⟨m, (b.cell (p := ⟨0, 0, none⟩) hlt).trans hm⟩
theorem maxC_of {w : World} (h : w.ShapedOpen Tryd.prog) : MaxC w :=
  cell_of_shapedOpen_int (P := Tryd.prog) (t := 3) (zero := #[.int .i64 0]) h (of_decide_eq_true (by kernel_rfl)) (by kernel_rfl) rfl (by kernel_rfl) (by kernel_rfl) Tryd.underlying3

set_option maxHeartbeats 2000000 in
theorem specSplitLines (s : ByteArray) (w : World) (hs : s.size ≤ 1048576) :
    Calls Tryd.prog 24 #[.string s] w fun e w' => ∃ A' c', e = .returned (.slice A' (slP s).length c') ∧ OwnS w' w.heap.size A' (slP s).length c' (slP s) ∧ Below w.heap.size w w' := by
  have hsl := sp_len ⟨#[10]⟩ s
  obtain ⟨k, hk⟩ := sp_pos ⟨#[10]⟩ s
  go_enter Tryd.func24, Tryd.ntmps24
  go_wp2_with fail
  refine (specSplitAny s ⟨#[10]⟩ _ (by omega) (by decide)).mono ?_; rintro e w1 ⟨A1, c1, rfl, o1, b1⟩
  rw [hk] at o1 hsl ⊢
  have hS := Strs.of_own o1
  obtain ⟨b', o', rfl, hbs, hc⟩ := hS.at_ (k := k) (by omega)
  obtain ⟨g, hg, _, _⟩ := own_form o1 (by omega)
  injection hg with hg
  injection hg with hg1 hg2 _
  subst hg1; subst hg2
  rw [Nat.zero_add] at hc
  have hkc : (k + 1 : Nat) ≤ c1 := by
    obtain ⟨_, h0 | ⟨g1, cap1, cur1, hv1, _, _, hcc, _⟩⟩ := o1
    · exact absurd h0.2 (by omega)
    · injection hv1 with _ _ e3
      omega
  clear hS
  have O1 := Lib.hid o1; clear o1
  by_cases he : snth (spP ⟨#[10]⟩ s) k = ByteArray.empty
  · obtain ⟨e1, e2⟩ := sl_yes hk he
    obtain ⟨hq, hq2⟩ := empty_yes he
    have HE := Lib.hid e1; have HL := Lib.hid e2
    clear e1 e2 he hk
    go_wp2_with fail
    go_ret
    refine ⟨_, _, by rw [HL.out]; rfl, ?_, b1⟩
    rw [HL.out, HE.out]
    exact own_first O1.out k (by omega)
  · obtain ⟨e1, e2⟩ := sl_no hk he
    obtain ⟨hq, hq2⟩ := empty_no he
    have HE := Lib.hid e1; have HL := Lib.hid e2
    clear e1 e2 he hk
    go_wp2_with fail
    go_ret
    refine ⟨_, _, by rw [HL.out]; rfl, ?_, b1⟩
    rw [HL.out, HE.out]
    exact O1.out

theorem libClip (b n c : Nat) (w : World) (h : n ≤ c) (_hn : n ≤ 1048577) :
    Calls Tryd.prog 42 #[.slice (some ⟨b, 0, none⟩) n c] w fun e w' => e = .returned (.slice (some ⟨b, 0, none⟩) n n) ∧ w = w' := by
  have h1 : (n : Int) ≤ c := by omega
  go_enter Tryd.func42, Tryd.ntmps42
  go_wp2_with fail
  go_ret
  exact ⟨rfl, rfl⟩
set_option maxHeartbeats 2000000 in
theorem implSplitLines (s : ByteArray) (w : World) (hs : s.size ≤ 1048576) (hm : MaxC w) :
    Calls Tryd.prog 19 #[.string s] w fun e w' => ∃ A' c' d, e = .returned (.slice A' (slP s).length d) ∧ OwnS w' w.heap.size A' (slP s).length c' (slP s) ∧ Below w.heap.size w w' := by
  have hsl := sp_len ⟨#[10]⟩ s
  obtain ⟨k, hk⟩ := sp_pos ⟨#[10]⟩ s
  have hcn := count_spP 10 s
  rw [hk] at hcn
  obtain ⟨mx, hmx⟩ := hm
  have HC := Lib.hid (Tryd.strings_Split s ⟨#[10]⟩ mx w (by omega) hmx (Nat.le_refl _))
  have o1 : OwnS (w.alloc (.cells ((spP ⟨#[10]⟩ s).map Value.string).toArray 9)) w.heap.size (some ⟨w.heap.size, 0, none⟩) (k + 1) (k + 1) (spP ⟨#[10]⟩ s) := by
    have := World.ownsRow_lit (base := w.heap.size) (e := 9) (size := 1) w ((spP ⟨#[10]⟩ s).map Value.string).toArray (k + 1) (Nat.le_refl _) (by simp only [maxLen]; omega) (by simp [hk])
    simpa [OwnS, svs] using this
  have b1 : Below w.heap.size w (w.alloc (.cells ((spP ⟨#[10]⟩ s).map Value.string).toArray 9)) := (Below.refl _ _).alloc (Nat.le_refl _) _
  have HSP := Lib.hid (split_spP 10 s)
  have HCN := Lib.hid hcn; clear hcn
  go_enter Tryd.func19, Tryd.ntmps19
  go_wp2_with fail
  refine HC.out.mono ?_; rintro e w1 ⟨rfl, hw1⟩
  rw [HSP.out] at hw1
  subst hw1
  rw [HCN.out]
  rw [hk] at hsl
  have hS := Strs.of_own o1
  have hz : w.heap.size < (w.alloc (.cells ((spP ⟨#[10]⟩ s).map Value.string).toArray 9)).heap.size := by simp
  generalize w.alloc (.cells ((spP ⟨#[10]⟩ s).map Value.string).toArray 9) = W at *
  obtain ⟨b', o', hae, hbs, hc⟩ := hS.at_ (k := k) (by omega)
  injection hae with hae
  injection hae with hg1 hg2 _
  subst hg1; subst hg2
  rw [Nat.zero_add] at hc
  clear hS
  have O1 := Lib.hid o1; clear o1
  by_cases he : snth (spP ⟨#[10]⟩ s) k = ByteArray.empty
  · obtain ⟨e1, e2⟩ := sl_yes hk he
    obtain ⟨hq, hq2⟩ := empty_yes he
    have HE := Lib.hid e1; have HL := Lib.hid e2
    clear e1 e2 he hk
    go_wp2_with fail
    refine (libClip w.heap.size k (k + 1) _ (by omega) (by omega)).mono ?_; rintro e w2 ⟨rfl, rfl⟩
    go_wp2_with fail
    go_ret
    refine ⟨_, k + 1, _, by rw [HL.out]; rfl, ?_, b1⟩
    rw [HL.out, HE.out]
    exact own_first O1.out k (by omega)
  · obtain ⟨e1, e2⟩ := sl_no hk he
    obtain ⟨hq, hq2⟩ := empty_no he
    have HE := Lib.hid e1; have HL := Lib.hid e2
    clear e1 e2 he hk
    go_wp2_with fail
    refine (libClip w.heap.size (k + 1) (k + 1) _ (by omega) (by omega)).mono ?_; rintro e w2 ⟨rfl, rfl⟩
    go_wp2_with fail
    go_ret
    refine ⟨_, k + 1, _, by rw [HL.out]; rfl, ?_, b1⟩
    rw [HL.out, HE.out]
    exact O1.out
end Go.Proofs.YtfcbnpjfpeiheaaDoor
