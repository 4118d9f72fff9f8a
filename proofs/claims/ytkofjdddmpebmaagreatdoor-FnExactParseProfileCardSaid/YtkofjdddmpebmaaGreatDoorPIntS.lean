/- A number read out of its text: what the reference's function computes. -/
import Derived.Test.YtkofjdddmpebmaaGreatDoorPlainInt
import Derived.Test.YtkofjdddmpebmaaGreatDoorFmtS
namespace Go.Proofs.YtkofjdddmpebmaaGreatDoor
open Go.RowKit
set_option maxRecDepth 100000

theorem ret_p {s : ByteArray} {v : Int} {b : Bool} (h1 : pV s = v) (h2 : pOk s = b) : Ending.returned (.tuple #[.int .i64 v, .bool b]) = .returned (.tuple #[.int .i64 (pV s), .bool (pOk s)]) := by rw [h1, h2]

set_option maxHeartbeats 4000000 in
theorem specParseInt (s : ByteArray) (w : World) (hs : s.size ≤ 1048576) :
    Calls Tryz.prog 9 #[.string s] w fun e w' => e = .returned (.tuple #[.int .i64 (pV s), .bool (pOk s)]) ∧ Below w.heap.size w w' := by
  by_cases h0 : 0 < s.size
  · by_cases hn : (s[0].toNat : Int) = 45
    · have HA := Lib.hid (fun h => pOk_neg (s := s) h h0 hn)
      have hb : ((s[0].toNat : Int) == 45) = true := by rw [beq_iff_eq]; exact hn
      obtain ⟨t, ht⟩ : ∃ t, t = s.extract 1 s.size := ⟨_, rfl⟩
      have htz : t.size ≤ 1048576 := by rw [ht]; simp; omega
      rw [← ht] at HA
      have HT := Lib.hid ht; clear ht
      go_enter Tryz.func9, Tryz.ntmps9
      go_wp2_with fail
      rw [← HT.out]
      clear hb hn
      refine (specIsDigits t _ (by omega)).mono ?_; rintro e w1 ⟨rfl, rfl⟩
      cases hd : isDigitsP t.data.toList with
      | false =>
        have HF : Hid (pOk s = false) := by
          rw [Hid]
          cases hp : pOk s with
          | false => rfl
          | true => exact absurd (HA.out hp) (by intro hx; rw [hx.1] at hd; cases hd)
        go_wp2
        go_ret2
        exact ⟨ret_p (pV_no HF.out) HF.out, Below.refl _ _⟩
      | true =>
        have HD := Lib.hid hd; clear hd
        by_cases h19 : 19 < (t.size : Int)
        · have HF : Hid (pOk s = false) := by
            rw [Hid]
            cases hp : pOk s with
            | false => rfl
            | true => exact absurd (HA.out hp) (by intro hx; have := hx.2.1; omega)
          go_wp2
          go_ret2
          exact ⟨ret_p (pV_no HF.out) HF.out, Below.refl _ _⟩
        · go_wp2_with fail
          go_loop [6, 7] (fun u v => ∃ (k : Nat) (a : Int), k ≤ t.size ∧ u = .int .i64 a ∧ v = .int .i64 k ∧ Hid (a = -(foldB 0 (t.data.toList.take k) : Int)) ∧ -9223372036854775808 ≤ a ∧ a ≤ 0) (fun _ v => t.size - (intOf v).toNat)
          case atStart => exact ⟨0, 0, Nat.zero_le _, rfl, rfl, rfl, by omega, by omega⟩
          case round =>
            obtain ⟨k, a, hk, rfl, rfl, HAE, hlo, hhi⟩ := hrel
            by_cases hlt : k < t.size
            · obtain ⟨d1, d2⟩ := dig_at HD.out hlt
              have HN := Lib.hid (foldB_next t k hlt)
              have HK := Lib.hid (foldB_take t.data.toList (k + 1))
              have hT : (-9223372036854775808 + ((t[k].toNat : Int) - 48)).tdiv 10 = -((9223372036854775808 - ((t[k].toNat : Int) - 48)) / 10) := by
                rw [show -9223372036854775808 + ((t[k].toNat : Int) - 48) = -(9223372036854775808 - ((t[k].toNat : Int) - 48)) by omega, Int.neg_tdiv, Int.tdiv_eq_ediv_of_nonneg (by omega)]
              by_cases hov : a < -((9223372036854775808 - ((t[k].toNat : Int) - 48)) / 10)
              · have HF : Hid (pOk s = false) := by
                  rw [Hid]
                  cases hp : pOk s with
                  | false => rfl
                  | true => exact absurd (HA.out hp) (by intro hx; have h1 := hx.2.2.1; have h2 := HAE.out; have h3 := HN.out; have h4 := HK.out; omega)
                go_wp2
                go_ret2
                exact ⟨ret_p (pV_no HF.out) HF.out, Below.refl _ _⟩
              · have h10 : -9223372036854775808 ≤ a * 10 := by omega
                have h11 : -9223372036854775808 ≤ a * 10 - ((t[k].toNat : Int) - 48) := by omega
                go_wp2
                go_round
                case rel => exact ⟨k + 1, a * 10 - ((t[k].toNat : Int) - 48), by omega, rfl, by go_num, by rw [Hid, HN.out]; have := HAE.out; omega, h11, by omega⟩
                case measure => simp [intOf]; omega
            · have HAE : Hid (a = -(foldB 0 t.data.toList : Int)) := by
                rw [Hid, HAE.out, List.take_of_length_le (by rw [list_size]; omega)]
              go_wp2_with fail
              refine (specFormatInt a _ (by omega) (by omega)).mono ?_; rintro e w2 ⟨rfl, b2⟩
              by_cases he : txt a = s
              · have HP := pOk_txt (n := a) (by omega) (by omega)
                rw [he] at HP
                have HP := Lib.hid HP
                have hq : ((strOfNums (fmtI a)).toList == s.toList) = true := by
                  rw [beq_iff_eq]; exact congrArg ByteArray.toList he
                clear he
                go_wp2_with fail
                go_ret2
                exact ⟨ret_p HP.out.2 HP.out.1, b2⟩
              · have hq : ((strOfNums (fmtI a)).toList == s.toList) = false := by
                  rw [beq_eq_false_iff_ne, ByteArray.toList_eq, ByteArray.toList_eq]
                  intro e2
                  exact he (ByteArray.ext (Array.toList_inj.1 e2))
                have HF : Hid (pOk s = false) := by
                  rw [Hid]
                  cases hp : pOk s with
                  | false => rfl
                  | true => exact absurd (HA.out hp) (by intro hx; exact he (by rw [HAE.out]; first | exact hx.2.2.2.symm | (rw [Int.neg_neg]; exact hx.2.2.2.symm)))
                clear he
                go_wp2_with fail
                go_ret2
                exact ⟨ret_p (pV_no HF.out) HF.out, b2⟩
    · have HA := Lib.hid (fun h => pOk_pos (s := s) h (fun _ => hn))
      have hb : ((s[0].toNat : Int) == 45) = false := by rw [beq_eq_false_iff_ne]; exact hn
      go_enter Tryz.func9, Tryz.ntmps9
      go_wp2_with fail
      clear hb hn
      refine (specIsDigits s _ (by omega)).mono ?_; rintro e w1 ⟨rfl, rfl⟩
      cases hd : isDigitsP s.data.toList with
      | false =>
        have HF : Hid (pOk s = false) := by
          rw [Hid]
          cases hp : pOk s with
          | false => rfl
          | true => exact absurd (HA.out hp) (by intro hx; rw [hx.1] at hd; cases hd)
        go_wp2
        go_ret2
        exact ⟨ret_p (pV_no HF.out) HF.out, Below.refl _ _⟩
      | true =>
        have HD := Lib.hid hd; clear hd
        by_cases h19 : 19 < (s.size : Int)
        · have HF : Hid (pOk s = false) := by
            rw [Hid]
            cases hp : pOk s with
            | false => rfl
            | true => exact absurd (HA.out hp) (by intro hx; have := hx.2.1; omega)
          go_wp2
          go_ret2
          exact ⟨ret_p (pV_no HF.out) HF.out, Below.refl _ _⟩
        · go_wp2_with fail
          go_loop [6, 7] (fun u v => ∃ (k : Nat) (a : Int), k ≤ s.size ∧ u = .int .i64 a ∧ v = .int .i64 k ∧ Hid (a = -(foldB 0 (s.data.toList.take k) : Int)) ∧ -9223372036854775808 ≤ a ∧ a ≤ 0) (fun _ v => s.size - (intOf v).toNat)
          case atStart => exact ⟨0, 0, Nat.zero_le _, rfl, rfl, rfl, by omega, by omega⟩
          case round =>
            obtain ⟨k, a, hk, rfl, rfl, HAE, hlo, hhi⟩ := hrel
            by_cases hlt : k < s.size
            · obtain ⟨d1, d2⟩ := dig_at HD.out hlt
              have HN := Lib.hid (foldB_next s k hlt)
              have HK := Lib.hid (foldB_take s.data.toList (k + 1))
              have hT : (-9223372036854775808 + ((s[k].toNat : Int) - 48)).tdiv 10 = -((9223372036854775808 - ((s[k].toNat : Int) - 48)) / 10) := by
                rw [show -9223372036854775808 + ((s[k].toNat : Int) - 48) = -(9223372036854775808 - ((s[k].toNat : Int) - 48)) by omega, Int.neg_tdiv, Int.tdiv_eq_ediv_of_nonneg (by omega)]
              by_cases hov : a < -((9223372036854775808 - ((s[k].toNat : Int) - 48)) / 10)
              · have HF : Hid (pOk s = false) := by
                  rw [Hid]
                  cases hp : pOk s with
                  | false => rfl
                  | true => exact absurd (HA.out hp) (by intro hx; have h1 := hx.2.2.1; have h2 := HAE.out; have h3 := HN.out; have h4 := HK.out; omega)
                go_wp2
                go_ret2
                exact ⟨ret_p (pV_no HF.out) HF.out, Below.refl _ _⟩
              · have h10 : -9223372036854775808 ≤ a * 10 := by omega
                have h11 : -9223372036854775808 ≤ a * 10 - ((s[k].toNat : Int) - 48) := by omega
                go_wp2
                go_round
                case rel => exact ⟨k + 1, a * 10 - ((s[k].toNat : Int) - 48), by omega, rfl, by go_num, by rw [Hid, HN.out]; have := HAE.out; omega, h11, by omega⟩
                case measure => simp [intOf]; omega
            · have HAE : Hid (a = -(foldB 0 s.data.toList : Int)) := by
                rw [Hid, HAE.out, List.take_of_length_le (by rw [list_size]; omega)]
              by_cases hmin : a = -9223372036854775808
              · have hb : (a == -9223372036854775808) = true := by rw [beq_iff_eq]; exact hmin
                have HF : Hid (pOk s = false) := by
                  rw [Hid]
                  cases hp : pOk s with
                  | false => rfl
                  | true => exact absurd (HA.out hp) (by intro hx; have h1 := hx.2.2.1; have h2 := HAE.out; omega)
                clear hmin
                go_wp2
                go_ret2
                exact ⟨ret_p (pV_no HF.out) HF.out, Below.refl _ _⟩
              · have hb : (a == -9223372036854775808) = false := by rw [beq_eq_false_iff_ne]; exact hmin
                go_wp2_with fail
                refine (specFormatInt (-a) _ (by omega) (by omega)).mono ?_; rintro e w2 ⟨rfl, b2⟩
                by_cases he : txt (-a) = s
                · have HP := pOk_txt (n := (-a)) (by omega) (by omega)
                  rw [he] at HP
                  have HP := Lib.hid HP
                  have hq : ((strOfNums (fmtI (-a))).toList == s.toList) = true := by
                    rw [beq_iff_eq]; exact congrArg ByteArray.toList he
                  clear he
                  go_wp2_with fail
                  go_ret2
                  exact ⟨ret_p HP.out.2 HP.out.1, b2⟩
                · have hq : ((strOfNums (fmtI (-a))).toList == s.toList) = false := by
                    rw [beq_eq_false_iff_ne, ByteArray.toList_eq, ByteArray.toList_eq]
                    intro e2
                    exact he (ByteArray.ext (Array.toList_inj.1 e2))
                  have HF : Hid (pOk s = false) := by
                    rw [Hid]
                    cases hp : pOk s with
                    | false => rfl
                    | true => exact absurd (HA.out hp) (by intro hx; exact he (by rw [HAE.out]; first | exact hx.2.2.2.symm | (rw [Int.neg_neg]; exact hx.2.2.2.symm)))
                  clear he
                  go_wp2_with fail
                  go_ret2
                  exact ⟨ret_p (pV_no HF.out) HF.out, b2⟩
  · have hz : s.size = 0 := by omega
    have HA := Lib.hid (fun h => pOk_pos (s := s) h (fun h1 => absurd h1 h0))
    have hd : isDigitsP s.data.toList = false := by
      have : s.data.toList.length = 0 := by rw [list_size]; exact hz
      simp [isDigitsP, List.length_eq_zero_iff.1 this]
    have HF : Hid (pOk s = false) := by
      rw [Hid]
      cases hp : pOk s with
      | false => rfl
      | true => exact absurd (HA.out hp) (by intro hx; rw [hx.1] at hd; cases hd)
    have hz2 : (s.size : Int) = 0 := by omega
    go_enter Tryz.func9, Tryz.ntmps9
    go_wp2_with fail
    refine (specIsDigits s _ (by omega)).mono ?_; rintro e w1 ⟨rfl, rfl⟩
    rw [hd]
    go_wp2
    go_ret2
    exact ⟨ret_p (pV_no HF.out) HF.out, Below.refl _ _⟩
end Go.Proofs.YtkofjdddmpebmaaGreatDoor
