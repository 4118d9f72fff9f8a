/- The number of a ranking: what the program's and the reference's functions compute. -/
import Derived.Test.YtaclpilehlednaaPlainNum
import Derived.Test.YtaclpilehlednaaPlainSwap
import Derived.Test.YtaclpilehlednaaOrders
import Derived.Test.YtaclpilehlednaaIsRank
import Derived.Deep.QuietTactic
import Derived.BigQuiet
namespace Go.Proofs.Ytaclpilehlednaa
open Go.RowKit
set_option maxRecDepth 100000

theorem eqP_len {xs ys : List Int} (h : xs.length ≠ ys.length) : decide (xs = ys) = false := decide_eq_false fun e => h (by rw [e])
theorem eqP_no {xs ys : List Int} {k : Nat} (h : nth xs k ≠ nth ys k) : decide (xs = ys) = false := decide_eq_false fun e => h (by rw [e])
theorem eqP_yes {xs ys : List Int} (hl : xs.length = ys.length) (h : ∀ j, j < xs.length → nth xs j = nth ys j) : decide (xs = ys) = true := by
  refine decide_eq_true ?_
  apply List.ext_getElem hl
  intro t h1 h2
  have := h t h1
  rwa [nth_get h1, nth_get h2] at this

set_option maxHeartbeats 1000000 in
theorem libEqual (A B : Option Addr) (n c m d : Nat) (xs ys : List Int) (w : World) (h : Ints w A n xs) (h' : Ints w B m ys) (hn : (n : Int) ≤ 1048576) (hm : (m : Int) ≤ 1048576) :
    Calls Try.prog 46 #[.slice A n c, .slice B m d] w fun e w' => e = .returned (.bool (decide (xs = ys))) ∧ Below w.heap.size w w' := by
  have HL := Lib.hid h.1
  have HM := Lib.hid h'.1
  cases hnm : ((n : Int) != (m : Int)) with
  | true =>
    have HF := Lib.hid (eqP_len (xs := xs) (ys := ys) (by rw [HL.out, HM.out]; simp at hnm; omega))
    go_enter Try.func46, Try.ntmps46
    go_wp2
    go_ret
    exact ⟨ret_bool HF.out.symm, Below.refl _ _⟩
  | false =>
    obtain rfl : m = n := by simp at hnm; omega
    go_enter Try.func46, Try.ntmps46
    go_wp2
    go_loopw [13] (fun u wr => ∃ k : Nat, (k : Int) ≤ m ∧ u = .int .i64 k ∧ (∀ j, j < k → nth xs j = nth ys j) ∧ Below w.heap.size w wr) (fun u _ => m - (intOf u).toNat)
    case atStart => exact ⟨0, by omega, rfl, fun j hj => absurd hj (by omega), Below.refl _ _⟩
    case round =>
      obtain ⟨k, hk, rfl, hall, hb⟩ := hrel
      have HA := Lib.hid hall; clear hall
      by_cases hlt : (k : Int) < m
      · obtain ⟨b, o, rfl, hbs, hc⟩ := (h.on hb).at_ (k := k) (by omega)
        obtain ⟨b', o', rfl, hbs', hc'⟩ := (h'.on hb).at_ (k := k) (by omega)
        cases hx : (nth xs k != nth ys k) with
        | true =>
          have HF := Lib.hid (eqP_no (xs := xs) (ys := ys) (k := k) (by simpa using hx))
          go_wp2
          go_quiet (fail)
          go_wp2
          go_ret
          exact ⟨ret_bool HF.out.symm, below_drewN hb _⟩
        | false =>
          have HX := Lib.hid (show nth xs k = nth ys k by simpa using hx)
          go_wp2
          go_quiet (fail)
          go_wp2
          go_roundw
          case rel =>
            refine ⟨k + 1, by omega, by go_num, fun j hj => ?_, below_drewN hb _⟩
            by_cases e : j = k
            · subst e; exact HX.out
            · exact HA.out j (by omega)
          case measure => simp [intOf]; omega
      · have HF := Lib.hid (eqP_yes (xs := xs) (ys := ys) (by rw [HL.out, HM.out]) (fun j hj => HA.out j (by rw [HL.out] at hj; omega)))
        go_wp2
        go_ret
        exact ⟨ret_bool HF.out.symm, hb⟩

set_option maxHeartbeats 400000 in
theorem numClo (Ao : Option Addr) (no co : Nat) (zs : List Int) (A : Option Addr) (n c : Nat) (xs : List Int) (b : Nat) (w : World) (h : Ints w Ao no zs) (h' : Ints w A n xs) (hno : (no : Int) ≤ 1048576) (hn : (n : Int) ≤ 1048576) (hc : w.cell? ⟨b, 0, none⟩ = some (.slice A n c)) :
    Calls Try.prog 45 #[.slice Ao no co, .pointer (some ⟨b, 0, none⟩)] w fun e w' => e = .returned (.bool (decide (zs = xs))) ∧ Below w.heap.size w w' := by
  go_enter Try.func45, Try.ntmps45
  go_wp2_with fail
  refine (libEqual _ _ _ _ _ _ zs xs _ h h' hno hn).mono ?_; rintro e w1 ⟨rfl, b1⟩
  go_wp2_with fail
  go_ret
  exact ⟨rfl, b1⟩

set_option maxHeartbeats 1000000 in
theorem numIdx (Al : Option Addr) (nl cl : Nat) (hs : List Hd) (A : Option Addr) (n c : Nat) (xs : List Int) (b : Nat) (w : World) (h : Lists w Al nl hs) (h' : Ints w A n xs) (hnl : (nl : Int) ≤ 1048576) (hbd : ∀ k, k < nl → (hl hs k : Int) ≤ 1048576) (hn : (n : Int) ≤ 1048576) (hb0 : b < w.heap.size) (hc : w.cell? ⟨b, 0, none⟩ = some (.slice A n c)) :
    Calls Try.prog 44 #[.slice Al nl cl, .func (.func 45) #[] #[.pointer (some ⟨b, 0, none⟩)]] w fun e w' => e = .returned (.int .i64 (idxL (cont hs) xs)) ∧ Below w.heap.size w w' := by
  have HL := Lib.hid h.1
  have HB := Lib.hid hbd
  clear hbd
  go_enter Try.func44, Try.ntmps44
  go_wp2
  go_loopw [8] (fun u wr => ∃ k : Nat, (k : Int) ≤ nl ∧ u = .int .i64 k ∧ (∀ j, j < k → (cont hs)[j]? ≠ some xs) ∧ Below w.heap.size w wr) (fun u _ => nl - (intOf u).toNat)
  case atStart => exact ⟨0, by omega, rfl, fun j hj => absurd hj (by omega), Below.refl _ _⟩
  case round =>
    obtain ⟨k, hk, rfl, hno, hb⟩ := hrel
    have HN := Lib.hid hno; clear hno
    by_cases hlt : (k : Int) < nl
    · obtain ⟨b1, o1, rfl, hbs, hck, hlc, hlm, hI⟩ := (h.on hb).at_ (k := k) (by omega)
      have hcb := (hb.cell (p := ⟨b, 0, none⟩) hb0).trans hc
      have hxs := h'.on hb
      have hlk := HB.out k (by omega)
      have HCK := Lib.hid (cont_nth (hs := hs) (k := k) (by rw [HL.out]; omega))
      cases hx : decide (hx hs k = xs) with
      | true =>
        have HF := Lib.hid (idxL_found (ls := cont hs) (a := xs) (k := k) (by rw [HCK.out, of_decide_eq_true hx]) HN.out)
        have HX := Lib.hid hx; clear hx
        go_wp2_with fail
        refine (numClo _ _ _ (hx hs k) A n c xs b _ hI hxs hlk hn hcb).mono ?_; rintro e w1 ⟨rfl, q⟩
        rw [HX.out]
        go_wp2_with fail
        go_ret
        exact ⟨ret_int HF.out.symm, Below.on hb q⟩
      | false =>
        have HX := Lib.hid hx; clear hx
        go_wp2_with fail
        refine (numClo _ _ _ (hx hs k) A n c xs b _ hI hxs hlk hn hcb).mono ?_; rintro e w1 ⟨rfl, q⟩
        rw [HX.out]
        go_wp2_with fail
        go_roundw
        case rel =>
          refine ⟨k + 1, by omega, by go_num, fun j hj => ?_, Below.on hb q⟩
          by_cases e : j = k
          · subst e; rw [HCK.out]; intro e2; injection e2 with e2; exact of_decide_eq_false HX.out e2
          · exact HN.out j (by omega)
        case measure => simp [intOf]; omega
    · have HF := Lib.hid (idxL_none (ls := cont hs) (a := xs) (fun j hj => HN.out j (by rw [cont_len, HL.out] at hj; omega)))
      go_wp2
      go_ret
      exact ⟨ret_int HF.out.symm, hb⟩
/-! ### The number -/
set_option maxHeartbeats 1000000 in
theorem implRankingNumber (A : Option Addr) (n c : Nat) (xs : List Int) (w : World) (h : Ints w A n xs) (hn : (n : Int) ≤ 1048576) :
    Calls Try.prog 12 #[.slice A n c] w fun e w' => e = .returned (.int .i64 (numP xs)) ∧ Below w.heap.size w w' := by
  have HF : Hid (idxL (ranksP (n : Int)) xs = numP xs) := by rw [← h.1]; exact num_idx xs
  have bl : Below w.heap.size w (w.alloc (.cells #[.slice A n c] 22)) := (Below.refl _ _).alloc (Nat.le_refl _) _
  go_enter Try.func12, Try.ntmps12
  go_wp2_with fail
  refine (implAllRankings n _).mono ?_; rintro e w1 ⟨A1, n1, c1, rfl, hs, o1, cont1, b1⟩
  have C1 := Lib.hid cont1; clear cont1
  have s1 : w.heap.size + 1 ≤ w1.heap.size := by have := b1.size; simp at this; omega
  have k1 : w1.cell? ⟨w.heap.size, 0, none⟩ = some (.slice A n c) := (b1.cell (p := ⟨w.heap.size, 0, none⟩) (by simp)).trans (by simp [go_sem])
  have bl1 := Below.on bl b1
  have hI := h.on bl1
  have hsl := ranks_len (n : Int)
  have hn1 : (n1 : Int) ≤ 1048576 := by rw [← o1.len, ← cont_len, C1.out]; omega
  have HB : Hid (∀ k, k < n1 → (hl hs k : Int) ≤ 1048576) := fun k hk => by
    have h1 := cont_nth (hs := hs) (k := k) (by rw [o1.len]; exact hk)
    rw [C1.out] at h1
    have := (of_rank (ranks_mem (List.mem_of_getElem? h1)))
    have h2 := this.2.1
    have h3 := this.1
    unfold hl
    omega
  clear hsl
  go_wp2_with fail
  refine (numIdx A1 n1 c1 hs A n c xs w.heap.size _ o1.lists hI hn1 HB.out hn (by omega) k1).mono ?_; rintro e w2 ⟨rfl, b2⟩
  rw [C1.out, HF.out]
  go_wp2_with fail
  go_ret
  exact ⟨rfl, Below.on bl1 b2⟩

/-- How large the number can be behind k rounds. -/
def numB : Nat → Int
  | 0 => 0
  | k + 1 => 5 * numB k + 5
theorem numB_le {k : Nat} (h : k ≤ 5) : 0 ≤ numB k ∧ numB k ≤ 3905 := by
  have : k = 0 ∨ k = 1 ∨ k = 2 ∨ k = 3 ∨ k = 4 ∨ k = 5 := by omega
  rcases this with rfl | rfl | rfl | rfl | rfl | rfl <;> decide
theorem num_yes {n : Nat} {xs : List Int} (hl : xs.length = n) (h : rankOkP n xs = true) : numP xs = lehS xs 0 := by subst hl; rw [numP, if_pos h]
theorem num_no {n : Nat} {xs : List Int} (hl : xs.length = n) (h : rankOkP n xs = false) : numP xs = -1 := by subst hl; rw [numP, if_neg (by simp [h])]
theorem leh_all {xs : List Int} {n : Nat} (hl : xs.length = n) (a : Int) : lehS (xs.drop n) a = a := by rw [List.drop_eq_nil_of_le (by omega)]; rfl
theorem num_room {a : Int} {n k : Nat} {b : Int} (h0 : 0 ≤ a) (h1 : a ≤ b) (hk : k < n) (hn : n ≤ 5) : 0 ≤ a * ((n : Int) - (k : Int)) ∧ a * ((n : Int) - (k : Int)) ≤ 5 * b := by
  refine ⟨Int.mul_nonneg h0 (by omega), ?_⟩
  have := Int.mul_le_mul_of_nonneg_left (show (n : Int) - (k : Int) ≤ 5 by omega) h0
  omega

set_option maxHeartbeats 4000000 in
theorem specRankingNumber (A : Option Addr) (n c : Nat) (xs : List Int) (w : World) (h : Ints w A n xs) (hn : (n : Int) ≤ 1048576) (hcap : (n : Int) ≤ c) (hx : I64 xs) :
    Calls Try.prog 10 #[.slice A n c] w fun e w' => e = .returned (.int .i64 (numP xs)) ∧ Below w.heap.size w w' := by
  have hl := h.1
  have HX := Lib.hid hx; clear hx
  cases h1 : rankOkP n xs with
  | false =>
    have HF := Lib.hid (num_no hl h1)
    clear hl
    go_enter Try.func10, Try.ntmps10
    go_wp2_with fail
    refine (specRankingOk _ _ _ _ xs _ h hn).mono ?_; rintro e w1 ⟨rfl, b1⟩
    rw [h1]
    go_wp2_with fail
    go_ret
    exact ⟨ret_int HF.out.symm, b1⟩
  | true =>
    have HF := Lib.hid (num_yes hl h1)
    have n5 := (of_rank h1).1
    have HL := Lib.hid hl; clear hl
    have H1 := Lib.hid h1; clear h1
    go_enter Try.func10, Try.ntmps10
    go_wp2_with fail
    refine (specRankingOk _ _ _ _ xs _ h hn).mono ?_; rintro e w1 ⟨rfl, b1⟩
    rw [H1.out]
    have h := h.on b1
    go_wp2_with fail
    go_loop [3, 16] (fun u v => ∃ (k : Nat) (a : Int), (k : Int) ≤ n ∧ 0 ≤ a ∧ a ≤ numB k ∧ u = .int .i64 a ∧ v = .int .i64 k ∧ lehS (xs.drop k) a = lehS xs 0) (fun _ v => n - (intOf v).toNat)
    case atStart => exact ⟨0, 0, by omega, by omega, by simp [numB], rfl, rfl, rfl⟩
    case round =>
      obtain ⟨k, a, hk, ha0, ha1, rfl, rfl, hsum⟩ := hrel
      have HS := Lib.hid hsum; clear hsum
      by_cases hlt : (k : Int) < n
      · have hcut := h.cut (k := k + 1) (cap := c) (by omega) (by omega)
        obtain ⟨b, o, rfl, hb, hc⟩ := h.at_ (k := k) (by omega)
        have k1 : (k : Int) + 1 ≤ n := by omega
        have k2 : (k : Int) + 1 ≤ c := by omega
        have nb := numB_le (k := k) (by omega)
        have hmul := num_room ha0 ha1 (show k < n by omega) (by omega)
        have HST : Hid (lehS (xs.drop k) a = lehS (xs.drop (k + 1)) (a * ((n : Int) - (k : Int)) + less (nth xs k) (xs.drop (k + 1)))) := by
          have := leh_step (xs := xs) (k := k) (by rw [HL.out]; omega) a
          rwa [HL.out] at this
        have xk := HX.out k
        obtain ⟨P, hP⟩ : ∃ P, P = a * ((n : Int) - (k : Int)) := ⟨_, rfl⟩
        have HNB : Hid (numB (k + 1) = 5 * numB k + 5) := rfl
        by_cases hc1 : c = k + 1
        · have hcut : Ints w1 (some ⟨b, o, none⟩) (n - (k + 1)) (xs.drop (k + 1)) := by rw [if_pos hc1] at hcut; exact hcut
          go_wp2_with fail
          go_loop [6, 26] (fun u v => ∃ j : Nat, (j : Int) ≤ ((n - (k + 1) : Nat) : Int) ∧ u = .int .i64 (less (nth xs k) ((xs.drop (k + 1)).take j)) ∧ v = .int .i64 j) (fun _ v => n - (intOf v).toNat)
          case atStart => exact ⟨0, by omega, by simp [less_nil], rfl⟩
          case round =>
            obtain ⟨j, hj, rfl, rfl⟩ := hrel
            have lb := less_bd (nth xs k) ((xs.drop (k + 1)).take j)
            have ll : (((xs.drop (k + 1)).take j).length : Int) ≤ j := by rw [List.length_take]; omega
            by_cases hlt2 : (j : Int) < ((n - (k + 1) : Nat) : Int)
            · obtain ⟨b2, o2, he, hb2, hc2⟩ := hcut.at_ (k := j) (by omega)
              cases he
              rw [nth_drop] at hc2
              have HT := Lib.hid (drop_take xs (k + 1) j)
              have hq : k + 1 + j < xs.length := by rw [HL.out]; omega
              have HQ := Lib.hid hq; clear hq
              have xj := HX.out (k + 1 + j)
              obtain ⟨L, hL⟩ : ∃ L, L = less (nth xs k) ((xs.drop (k + 1)).take j) := ⟨_, rfl⟩
              rw [← hL] at lb ⊢
              have HLe := Lib.hid hL; clear hL
              by_cases hpq : nth xs (k + 1 + j) < nth xs k
              · have HN : Hid (less (nth xs k) ((xs.drop (k + 1)).take (j + 1)) = L + 1) := by rw [HT.out, if_pos HQ.out, less_snoc, if_pos hpq, ← HLe.out]; exact rfl
                go_wp2_with fail
                go_round
                case rel => exact ⟨j + 1, by omega, by rw [HN.out], by go_num⟩
                case measure => simp [intOf]; omega
              · have HN : Hid (less (nth xs k) ((xs.drop (k + 1)).take (j + 1)) = L) := by rw [HT.out, if_pos HQ.out, less_snoc, if_neg hpq, ← HLe.out, Int.add_zero]; exact rfl
                go_wp2_with fail
                go_round
                case rel => exact ⟨j + 1, by omega, by rw [HN.out], by go_num⟩
                case measure => simp [intOf]; omega
            · obtain rfl : j = n - (k + 1) := by omega
              have HT : Hid ((xs.drop (k + 1)).take (n - (k + 1)) = xs.drop (k + 1)) := by rw [Hid, List.take_of_length_le (by rw [List.length_drop, HL.out]; exact Nat.le_refl _)]
              rw [HT.out] at lb ll ⊢
              rw [← hP] at hmul
              have HP := Lib.hid hP
              obtain ⟨L, hL⟩ : ∃ L, L = less (nth xs k) (xs.drop (k + 1)) := ⟨_, rfl⟩
              rw [← hL] at lb ⊢
              have HLe := Lib.hid hL; clear hL
              have L5 : L ≤ 5 := by omega
              have hPP : a * ((n : Int) - (k : Int)) = P := HP.out.symm
              clear hP
              go_wp2
              go_round
              case rel => first | exact ⟨_, _, _, _, _, _, ⟨k + 1, by omega, P + L, by omega, by rw [HNB.out]; omega, rfl, by go_num, by rw [HP.out, HLe.out, ← HST.out, HS.out]⟩, rfl, rfl, rfl, rfl, rfl, rfl⟩ | exact ⟨k + 1, P + L, by omega, by omega, by rw [HNB.out]; omega, rfl, by go_num, by rw [HP.out, HLe.out, ← HST.out, HS.out]⟩ | exact ⟨k + 1, by omega, P + L, by omega, by rw [HNB.out]; omega, rfl, by go_num, by rw [HP.out, HLe.out, ← HST.out, HS.out]⟩
              case measure => simp [intOf]; omega
        · have hcut : Ints w1 (some ⟨b, o + (k + 1), none⟩) (n - (k + 1)) (xs.drop (k + 1)) := by rw [if_neg hc1] at hcut; simpa [Addr.add_lit] using hcut
          go_wp2_with fail
          go_loop [6, 26] (fun u v => ∃ j : Nat, (j : Int) ≤ ((n - (k + 1) : Nat) : Int) ∧ u = .int .i64 (less (nth xs k) ((xs.drop (k + 1)).take j)) ∧ v = .int .i64 j) (fun _ v => n - (intOf v).toNat)
          case atStart => exact ⟨0, by omega, by simp [less_nil], rfl⟩
          case round =>
            obtain ⟨j, hj, rfl, rfl⟩ := hrel
            have lb := less_bd (nth xs k) ((xs.drop (k + 1)).take j)
            have ll : (((xs.drop (k + 1)).take j).length : Int) ≤ j := by rw [List.length_take]; omega
            by_cases hlt2 : (j : Int) < ((n - (k + 1) : Nat) : Int)
            · obtain ⟨b2, o2, he, hb2, hc2⟩ := hcut.at_ (k := j) (by omega)
              cases he
              rw [nth_drop] at hc2
              have HT := Lib.hid (drop_take xs (k + 1) j)
              have hq : k + 1 + j < xs.length := by rw [HL.out]; omega
              have HQ := Lib.hid hq; clear hq
              have xj := HX.out (k + 1 + j)
              obtain ⟨L, hL⟩ : ∃ L, L = less (nth xs k) ((xs.drop (k + 1)).take j) := ⟨_, rfl⟩
              rw [← hL] at lb ⊢
              have HLe := Lib.hid hL; clear hL
              by_cases hpq : nth xs (k + 1 + j) < nth xs k
              · have HN : Hid (less (nth xs k) ((xs.drop (k + 1)).take (j + 1)) = L + 1) := by rw [HT.out, if_pos HQ.out, less_snoc, if_pos hpq, ← HLe.out]; exact rfl
                go_wp2_with fail
                go_round
                case rel => exact ⟨j + 1, by omega, by rw [HN.out], by go_num⟩
                case measure => simp [intOf]; omega
              · have HN : Hid (less (nth xs k) ((xs.drop (k + 1)).take (j + 1)) = L) := by rw [HT.out, if_pos HQ.out, less_snoc, if_neg hpq, ← HLe.out, Int.add_zero]; exact rfl
                go_wp2_with fail
                go_round
                case rel => exact ⟨j + 1, by omega, by rw [HN.out], by go_num⟩
                case measure => simp [intOf]; omega
            · obtain rfl : j = n - (k + 1) := by omega
              have HT : Hid ((xs.drop (k + 1)).take (n - (k + 1)) = xs.drop (k + 1)) := by rw [Hid, List.take_of_length_le (by rw [List.length_drop, HL.out]; exact Nat.le_refl _)]
              rw [HT.out] at lb ll ⊢
              rw [← hP] at hmul
              have HP := Lib.hid hP
              obtain ⟨L, hL⟩ : ∃ L, L = less (nth xs k) (xs.drop (k + 1)) := ⟨_, rfl⟩
              rw [← hL] at lb ⊢
              have HLe := Lib.hid hL; clear hL
              have L5 : L ≤ 5 := by omega
              have hPP : a * ((n : Int) - (k : Int)) = P := HP.out.symm
              clear hP
              go_wp2
              go_round
              case rel => first | exact ⟨_, _, _, _, _, _, ⟨k + 1, by omega, P + L, by omega, by rw [HNB.out]; omega, rfl, by go_num, by rw [HP.out, HLe.out, ← HST.out, HS.out]⟩, rfl, rfl, rfl, rfl, rfl, rfl⟩ | exact ⟨k + 1, P + L, by omega, by omega, by rw [HNB.out]; omega, rfl, by go_num, by rw [HP.out, HLe.out, ← HST.out, HS.out]⟩ | exact ⟨k + 1, by omega, P + L, by omega, by rw [HNB.out]; omega, rfl, by go_num, by rw [HP.out, HLe.out, ← HST.out, HS.out]⟩
              case measure => simp [intOf]; omega
      · obtain rfl : k = n := by omega
        have HA : Hid (lehS (xs.drop k) a = a) := leh_all HL.out a
        have HV : Hid (a = numP xs) := by rw [Hid, HF.out, ← HS.out, HA.out]
        go_wp2
        go_ret
        exact ⟨ret_int HV.out, b1⟩
end Go.Proofs.Ytaclpilehlednaa
