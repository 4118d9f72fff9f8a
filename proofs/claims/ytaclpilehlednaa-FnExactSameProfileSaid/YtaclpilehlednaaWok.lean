/- Whether weights are in order: what the program's and the reference's functions compute. -/
import Derived.Test.YtaclpilehlednaaRank2
import Derived.Test.YtaclpilehlednaaAppend
import Derived.Deep.QuietTactic
import Derived.BigQuiet
namespace Go.Proofs.Ytaclpilehlednaa
open Go.RowKit
set_option maxRecDepth 100000

/-! ### Plain -/
def allIn (xs : List Int) (lo hi : Int) : Bool := xs.all fun x => inB x lo hi
def descB (xs : List Int) : Bool := (List.range (xs.length - 1)).all fun i => decide (nth xs (i + 1) ≤ nth xs i)
def weightsP (m : Int) (xs : List Int) : Bool := inB m 1 5 && decide ((xs.length : Int) = m) && allIn xs 0 100 && descB xs
theorem allIn_yes {xs : List Int} {lo hi : Int} (h : ∀ k, k < xs.length → inB (nth xs k) lo hi = true) : allIn xs lo hi = true := by
  unfold allIn
  rw [List.all_eq_true]
  intro x hx
  obtain ⟨k, hk, rfl⟩ := mem_getD hx
  exact h k hk
theorem allIn_no {xs : List Int} {lo hi : Int} {k : Nat} (hk : k < xs.length) (h : inB (nth xs k) lo hi = false) : allIn xs lo hi = false := by
  unfold allIn
  rw [List.all_eq_false]
  exact ⟨nth xs k, getD_mem hk, by simp [h]⟩
theorem of_allIn {xs : List Int} {lo hi : Int} (h : allIn xs lo hi = true) {k : Nat} (hk : k < xs.length) : lo ≤ nth xs k ∧ nth xs k ≤ hi := by
  unfold allIn at h
  rw [List.all_eq_true] at h
  exact of_inB (h _ (getD_mem hk))
theorem desc_yes {xs : List Int} (h : ∀ i, i + 1 < xs.length → nth xs (i + 1) ≤ nth xs i) : descB xs = true := by
  unfold descB
  rw [List.all_eq_true]
  intro i hi
  rw [List.mem_range] at hi
  simpa using h i (by omega)
theorem desc_no {xs : List Int} {i : Nat} (hi : i + 1 < xs.length) (h : nth xs i < nth xs (i + 1)) : descB xs = false := by
  unfold descB
  rw [List.all_eq_false]
  exact ⟨i, List.mem_range.2 (by omega), by simpa using h⟩
theorem w_no1 {m : Int} {xs : List Int} (h : inB m 1 5 = false) : weightsP m xs = false := by simp [weightsP, h]
theorem w_no2 {m : Int} {xs : List Int} (h : (xs.length : Int) ≠ m) : weightsP m xs = false := by simp [weightsP, h]
theorem w_no3 {m : Int} {xs : List Int} (h : allIn xs 0 100 = false) : weightsP m xs = false := by simp [weightsP, h]
theorem w_no4 {m : Int} {xs : List Int} (h : descB xs = false) : weightsP m xs = false := by simp [weightsP, h]
theorem w_yes {m : Int} {xs : List Int} (h1 : inB m 1 5 = true) (h2 : (xs.length : Int) = m) (h3 : allIn xs 0 100 = true) : weightsP m xs = descB xs := by simp [weightsP, h1, h2, h3]

/-! ### The program -/
set_option maxHeartbeats 400000 in
theorem allClo (x lo hi : Int) (b d : Nat) (w : World) (h1 : w.cell? ⟨b, 0, none⟩ = some (.int .i64 lo)) (h2 : w.cell? ⟨d, 0, none⟩ = some (.int .i64 hi)) :
    Calls Try.prog 116 #[.int .i64 x, .pointer (some ⟨b, 0, none⟩), .pointer (some ⟨d, 0, none⟩)] w fun e w' => e = .returned (.bool (!inB x lo hi)) ∧ w = w' := by
  go_enter Try.func116, Try.ntmps116
  go_wp2_with fail
  refine (implWithin _ _ _ _).mono ?_; rintro e w1 ⟨rfl, rfl⟩
  go_wp2_with fail
  go_ret
  exact ⟨rfl, rfl⟩

set_option maxHeartbeats 1000000 in
theorem allIdx (A : Option Addr) (n c : Nat) (xs : List Int) (lo hi : Int) (b d : Nat) (w : World) (h : Ints w A n xs) (hn : (n : Int) ≤ 1048576) (h1 : w.cell? ⟨b, 0, none⟩ = some (.int .i64 lo)) (h2 : w.cell? ⟨d, 0, none⟩ = some (.int .i64 hi)) :
    Calls Try.prog 118 #[.slice A n c, .func (.func 116) #[] #[.pointer (some ⟨b, 0, none⟩), .pointer (some ⟨d, 0, none⟩)]] w fun e w' => (∃ r : Int, e = .returned (.int .i64 r) ∧ ((r < 0 ∧ allIn xs lo hi = true) ∨ (0 ≤ r ∧ allIn xs lo hi = false))) ∧ w = w' := by
  have HL := Lib.hid h.1
  have H1 := Lib.hid h1
  have H2 := Lib.hid h2
  clear h1 h2
  go_enter Try.func118, Try.ntmps118
  go_wp2
  go_loop [8] (fun u => ∃ k : Nat, (k : Int) ≤ n ∧ u = .int .i64 k ∧ ∀ j, j < k → inB (nth xs j) lo hi = true) (fun u => n - (intOf u).toNat)
  case atStart => exact ⟨0, by omega, rfl, fun j hj => absurd hj (by omega)⟩
  case round =>
    obtain ⟨k, hk, rfl, hno⟩ := hrel
    have HN := Lib.hid hno; clear hno
    by_cases hlt : (k : Int) < n
    · obtain ⟨b', o, rfl, hb, hc⟩ := h.at_ (k := k) (by omega)
      cases hx : inB (nth xs k) lo hi with
      | false =>
        have HF := Lib.hid (allIn_no (xs := xs) (k := k) (by rw [HL.out]; omega) hx)
        go_wp2_with fail
        refine (allClo _ lo hi b d _ H1.out H2.out).mono ?_; rintro e w1 ⟨rfl, rfl⟩
        go_wp2_with fail
        go_ret
        exact ⟨⟨k, rfl, .inr ⟨by omega, HF.out⟩⟩, rfl⟩
      | true =>
        have HX := Lib.hid hx
        go_wp2_with fail
        refine (allClo _ lo hi b d _ H1.out H2.out).mono ?_; rintro e w1 ⟨rfl, rfl⟩
        go_wp2_with fail
        go_round
        case rel =>
          refine ⟨k + 1, by omega, by go_num, fun j hj => ?_⟩
          by_cases hjk : j = k
          · subst hjk; exact HX.out
          · exact HN.out j (by omega)
        case measure => simp [intOf]; omega
    · have HF := Lib.hid (allIn_yes (xs := xs) (lo := lo) (hi := hi) (fun j hj => HN.out j (by rw [HL.out] at hj; omega)))
      go_wp2
      go_ret
      exact ⟨⟨-1, rfl, .inl ⟨by omega, HF.out⟩⟩, rfl⟩

set_option maxHeartbeats 1000000 in
theorem implAllWithin (A : Option Addr) (n c : Nat) (xs : List Int) (lo hi : Int) (w : World) (h : Ints w A n xs) (hn : (n : Int) ≤ 1048576) :
    Calls Try.prog 109 #[.slice A n c, .int .i64 lo, .int .i64 hi] w fun e w' => e = .returned (.bool (allIn xs lo hi)) ∧ Below w.heap.size w w' := by
  have bl : Below w.heap.size w ((w.alloc (.cells #[.int .i64 lo] 3)).alloc (.cells #[.int .i64 hi] 3)) := ((Below.refl _ _).alloc (Nat.le_refl _) _).alloc (by simp) _
  have q1 : ((w.alloc (.cells #[.int .i64 lo] 3)).alloc (.cells #[.int .i64 hi] 3)).cell? ⟨w.heap.size, 0, none⟩ = some (.int .i64 lo) := by simp [go_sem]
  have q2 : ((w.alloc (.cells #[.int .i64 lo] 3)).alloc (.cells #[.int .i64 hi] 3)).cell? ⟨w.heap.size + 1, 0, none⟩ = some (.int .i64 hi) := by simp [go_sem]
  have h2 := (h.alloc (.cells #[.int .i64 lo] 3)).alloc (.cells #[.int .i64 hi] 3)
  go_enter Try.func109, Try.ntmps109
  go_wp2_with fail
  generalize (w.alloc (.cells #[.int .i64 lo] 3)).alloc (.cells #[.int .i64 hi] 3) = W at *
  go_in
  go_wp2_with fail
  refine (allIdx A n c xs lo hi w.heap.size (w.heap.size + 1) W h2 hn q1 q2).mono ?_
  rintro e w1 ⟨⟨r, rfl, hr⟩, rfl⟩
  rcases hr with ⟨r1, r2⟩ | ⟨r1, r2⟩
  · have R := Lib.hid r2; clear r2
    go_wp2_with fail
    go_ret
    exact ⟨ret_bool (by first | exact R.out.symm | (rw [R.out]; simp; omega)), bl⟩
  · have R := Lib.hid r2; clear r2
    go_wp2_with fail
    go_ret
    exact ⟨ret_bool (by first | exact R.out.symm | (rw [R.out]; simp; omega)), bl⟩

set_option maxHeartbeats 400000 in
theorem cmpClo (x y : Int) (w : World) (hx : 0 ≤ x ∧ x ≤ 100) (hy : 0 ≤ y ∧ y ≤ 100) :
    Calls Try.prog 111 #[.int .i64 x, .int .i64 y] w fun e w' => e = .returned (.int .i64 (y - x)) ∧ w' = w := by
  go_enter Try.func111, Try.ntmps111
  go_wp2
  go_ret
  exact ⟨rfl, rfl⟩

set_option maxHeartbeats 2000000 in
theorem libIsSorted (A : Option Addr) (n c : Nat) (xs : List Int) (w : World) (h : Ints w A n xs) (hn : (n : Int) ≤ 5) (hall : allIn xs 0 100 = true) :
    Calls Try.prog 110 #[.slice A n c, .func (.func 111) #[] #[]] w fun e w' => e = .returned (.bool (descB xs)) ∧ Below w.heap.size w w' := by
  have HL := Lib.hid h.1
  have HA := Lib.hid (fun k hk => of_allIn hall (k := k) hk)
  clear hall
  rcases n with _ | m
  · have HF : Hid (descB xs = true) := by rw [h.empty]; rfl
    go_enter Try.func110, Try.ntmps110
    go_wp2
    go_loop [5] (fun u => u = .int .i64 (-1)) (fun _ => 0)
    case atStart => rfl
    case round =>
      obtain rfl := hrel
      go_wp2
      go_ret
      exact ⟨ret_bool HF.out.symm, Below.refl _ _⟩
  · go_enter Try.func110, Try.ntmps110
    go_wp2
    go_loopw [5] (fun u wr => ∃ k : Nat, (k : Int) ≤ m ∧ u = .int .i64 k ∧ (∀ j, k ≤ j → j < m → nth xs (j + 1) ≤ nth xs j) ∧ Below w.heap.size w wr) (fun u _ => (intOf u).toNat)
    case atStart => exact ⟨m, by omega, by simp, fun j h1 h2 => absurd h1 (by omega), Below.refl _ _⟩
    case round =>
      obtain ⟨k, hk, rfl, hno, hb⟩ := hrel
      have HN := Lib.hid hno; clear hno
      rcases k with _ | p
      · have HF := Lib.hid (desc_yes (xs := xs) fun i hi => HN.out i (by omega) (by rw [HL.out] at hi; omega))
        go_wp2
        go_ret
        exact ⟨ret_bool HF.out.symm, hb⟩
      · obtain ⟨b, o, rfl, hbs, hc1⟩ := (h.on hb).at_ (k := p + 1) (by omega)
        obtain ⟨b', o', he, hbs', hc2⟩ := (h.on hb).at_ (k := p) (by omega)
        cases he
        have u1 := HA.out (p + 1) (by rw [HL.out]; omega)
        have u2 := HA.out p (by rw [HL.out]; omega)
        have hp1 : (p : Int) + 1 < (m : Int) + 1 := by omega
        have hp2 : (p : Int) < (m : Int) + 1 := by omega
        by_cases hlt : nth xs p < nth xs (p + 1)
        · have HF := Lib.hid (desc_no (xs := xs) (i := p) (by rw [HL.out]; omega) hlt)
          have t : nth xs p - nth xs (p + 1) < 0 := by omega
          go_wp2
          go_quiet ((go_at_call 111; exact Calls.quiet_of_same (cmpClo _ _ _ u1 u2)))
          go_wp2
          go_ret
          exact ⟨ret_bool HF.out.symm, below_drewN hb _⟩
        · have HX := Lib.hid hlt
          have t : ¬ nth xs p - nth xs (p + 1) < 0 := by omega
          go_wp2
          go_quiet ((go_at_call 111; exact Calls.quiet_of_same (cmpClo _ _ _ u1 u2)))
          go_wp2
          go_roundw
          case rel =>
            refine ⟨p, by omega, by go_num, fun j h1 h2 => ?_, below_drewN hb _⟩
            by_cases e : j = p
            · subst e; have := HX.out; omega
            · exact HN.out j (by omega) h2
          case measure => simp [intOf]

set_option maxHeartbeats 2000000 in
theorem implWeightsOk (m : Int) (A : Option Addr) (n c : Nat) (xs : List Int) (w : World) (h : Ints w A n xs) (hn : (n : Int) ≤ 1048576) :
    Calls Try.prog 99 #[.int .i64 m, .slice A n c] w fun e w' => e = .returned (.bool (weightsP m xs)) ∧ Below w.heap.size w w' := by
  have hl := h.1
  cases h1 : inB m 1 5 with
  | false =>
    have HF := Lib.hid (w_no1 (xs := xs) h1)
    clear hl
    go_enter Try.func99, Try.ntmps99
    go_wp2_with fail
    refine (implWithin _ _ _ _).mono ?_; rintro e w1 ⟨rfl, rfl⟩
    go_wp2_with fail
    go_ret
    exact ⟨ret_bool HF.out.symm, Below.refl _ _⟩
  | true =>
    cases h2 : ((n : Int) != m) with
    | true =>
      have HF := Lib.hid (w_no2 (xs := xs) (m := m) (by rw [hl]; simpa using h2))
      clear hl
      go_enter Try.func99, Try.ntmps99
      go_wp2_with fail
      refine (implWithin _ _ _ _).mono ?_; rintro e w1 ⟨rfl, rfl⟩
      go_wp2_with fail
      go_ret
      exact ⟨ret_bool HF.out.symm, Below.refl _ _⟩
    | false =>
      have hm : (n : Int) = m := by simpa using h2
      have n5 := of_inB h1
      cases h3 : allIn xs 0 100 with
      | false =>
        have HF := Lib.hid (w_no3 (m := m) h3)
        clear hl hm
        go_enter Try.func99, Try.ntmps99
        go_wp2_with fail
        refine (implWithin _ _ _ _).mono ?_; rintro e w1 ⟨rfl, rfl⟩
        go_wp2_with fail
        refine (implAllWithin _ _ _ xs _ _ _ h hn).mono ?_; rintro e w1 ⟨rfl, b1⟩
        go_wp2_with fail
        go_ret
        exact ⟨ret_bool HF.out.symm, b1⟩
      | true =>
        have HF := Lib.hid (w_yes h1 (by rw [hl]; exact hm) h3)
        have hn5 : (n : Int) ≤ 5 := by omega
        have H3 := Lib.hid h3
        clear hl hm
        go_enter Try.func99, Try.ntmps99
        go_wp2_with fail
        refine (implWithin _ _ _ _).mono ?_; rintro e w1 ⟨rfl, rfl⟩
        go_wp2_with fail
        refine (implAllWithin _ _ _ xs _ _ _ h hn).mono ?_; rintro e w1 ⟨rfl, b1⟩
        have h := h.on b1
        go_wp2_with fail
        refine (libIsSorted _ _ _ xs _ h hn5 H3.out).mono ?_; rintro e w2 ⟨rfl, b2⟩
        go_wp2_with fail
        go_ret
        exact ⟨ret_bool HF.out.symm, Below.on b1 b2⟩

/-! ### The reference -/
set_option maxHeartbeats 2000000 in
theorem specWeightsOk (m : Int) (A : Option Addr) (n c : Nat) (xs : List Int) (w : World) (h : Ints w A n xs) (hn : (n : Int) ≤ 1048576) :
    Calls Try.prog 98 #[.int .i64 m, .slice A n c] w fun e w' => e = .returned (.bool (weightsP m xs)) ∧ w = w' := by
  have hl := h.1
  cases h1 : inB m 1 5 with
  | false =>
    have HF := Lib.hid (w_no1 (xs := xs) h1)
    clear hl
    go_enter Try.func98, Try.ntmps98
    go_wp2_with fail
    refine (specIn _ _ _ _).mono ?_; rintro e w1 ⟨rfl, rfl⟩
    go_wp2_with fail
    go_ret
    exact ⟨ret_bool HF.out.symm, rfl⟩
  | true =>
    cases h2 : ((n : Int) != m) with
    | true =>
      have HF := Lib.hid (w_no2 (xs := xs) (m := m) (by rw [hl]; simpa using h2))
      clear hl
      go_enter Try.func98, Try.ntmps98
      go_wp2_with fail
      refine (specIn _ _ _ _).mono ?_; rintro e w1 ⟨rfl, rfl⟩
      go_wp2_with fail
      go_ret
      exact ⟨ret_bool HF.out.symm, rfl⟩
    | false =>
      have hm : (n : Int) = m := by simpa using h2
      have H1 := Lib.hid h1
      have HM := Lib.hid hm
      have HL := Lib.hid hl
      clear hl hm
      go_enter Try.func98, Try.ntmps98
      go_wp2_with fail
      refine (specIn _ _ _ _).mono ?_; rintro e w1 ⟨rfl, rfl⟩
      go_wp2_with fail
      go_loop [18] (fun u => ∃ k : Nat, (k : Int) ≤ n ∧ u = .int .i64 k ∧ (∀ j, j < k → inB (nth xs j) 0 100 = true) ∧ (∀ j, j + 1 < k → nth xs (j + 1) ≤ nth xs j)) (fun u => n - (intOf u).toNat)
      case atStart => exact ⟨0, by omega, rfl, fun j hj => absurd hj (by omega), fun j hj => absurd hj (by omega)⟩
      case round =>
        obtain ⟨k, hk, rfl, hin, hde⟩ := hrel
        have HN := Lib.hid hin; clear hin
        have HD := Lib.hid hde; clear hde
        by_cases hlt : (k : Int) < n
        · obtain ⟨b, o, rfl, hb, hc⟩ := h.at_ (k := k) (by omega)
          cases hx : inB (nth xs k) 0 100 with
          | false =>
            have HF := Lib.hid (w_no3 (m := m) (allIn_no (xs := xs) (k := k) (by rw [HL.out]; omega) hx))
            go_wp2_with fail
            refine (specIn _ _ _ _).mono ?_; rintro e w1 ⟨rfl, rfl⟩
            go_wp2_with fail
            go_ret
            exact ⟨ret_bool HF.out.symm, rfl⟩
          | true =>
            have HX := Lib.hid hx
            rcases k with _ | p
            · rw [Nat.add_zero] at hc
              go_wp2_with fail
              refine (specIn _ _ _ _).mono ?_; rintro e w1 ⟨rfl, rfl⟩
              go_wp2_with fail
              go_round
              case rel =>
                refine ⟨1, by omega, by simp, fun j hj => ?_, fun j hj => absurd hj (by omega)⟩
                obtain rfl : j = 0 := by omega
                exact HX.out
              case measure => simp [intOf]; omega
            · obtain ⟨b', o', he, hb', hc'⟩ := h.at_ (k := p) (by omega)
              cases he
              have hp2 : (p : Int) < n := by omega
              by_cases hgt : nth xs p < nth xs (p + 1)
              · have HF := Lib.hid (w_no4 (m := m) (desc_no (xs := xs) (i := p) (by rw [HL.out]; omega) hgt))
                go_wp2_with fail
                refine (specIn _ _ _ _).mono ?_; rintro e w1 ⟨rfl, rfl⟩
                go_wp2_with fail
                go_ret
                exact ⟨ret_bool HF.out.symm, rfl⟩
              · have HG := Lib.hid hgt
                go_wp2_with fail
                refine (specIn _ _ _ _).mono ?_; rintro e w1 ⟨rfl, rfl⟩
                go_wp2_with fail
                go_round
                case rel =>
                  refine ⟨p + 1 + 1, by omega, by go_num, fun j hj => ?_, fun j hj => ?_⟩
                  · by_cases e : j = p + 1
                    · subst e; exact HX.out
                    · exact HN.out j (by omega)
                  · by_cases e : j = p
                    · subst e; have := HG.out; omega
                    · exact HD.out j (by omega)
                case measure => simp [intOf]; omega
        · obtain rfl : k = n := by omega
          have HF : Hid (weightsP m xs = true) := by
            rw [Hid, w_yes H1.out (by rw [HL.out]; exact HM.out) (allIn_yes fun j hj => HN.out j (by rw [HL.out] at hj; exact hj))]
            exact desc_yes fun i hi => HD.out i (by rw [HL.out] at hi; exact hi)
          go_wp2
          go_ret
          exact ⟨ret_bool HF.out.symm, rfl⟩
end Go.Proofs.Ytaclpilehlednaa
