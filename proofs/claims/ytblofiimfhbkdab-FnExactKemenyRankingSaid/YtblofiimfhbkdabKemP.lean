/- The Kemeny score: plain facts, the program's function and the reference's inner one. -/
import Derived.Test.YtblofiimfhbkdabPok
import Derived.Test.YtblofiimfhbkdabSwap
import Derived.Test.YtblofiimfhbkdabSwapS
import Derived.Deep.QuietTactic
import Derived.BigQuiet
namespace Go.Proofs.Ytblofiimfhbkdab
open Go.RowKit

theorem quiet_left {P : Program} {f : FuncId} {args : Array Value} {w : World} {n : Nat} {v : Value}
    (h : Calls P f args (w.drewN n) fun e w' => e = .returned v ∧ w.drewN n = w') : Calls P f args (w.drewN n) fun e w'' => e = .returned v ∧ ∃ m, w'' = w.drewN m :=
  h.mono fun _ _ ⟨he, hm⟩ => ⟨he, n, hm.symm⟩
theorem specSwapsQ (A : Option Addr) (n c : Nat) (xs : List Int) (B : Option Addr) (d : Nat) (ys : List Int) (w : World) (t : Nat) (h : Ints (w.drewN t) A n xs) (h' : Ints (w.drewN t) B n ys) (hcap : (n : Int) ≤ c) (h1 : rankOkP n xs = true) (h2 : rankOkP n ys = true) :
    Calls Try.prog 110 #[.slice A n c, .slice B n d] (w.drewN t) fun e w'' => e = .returned (.int .i64 (swapP xs ys)) ∧ ∃ m, w'' = w.drewN m := by
  rw [swap_yes2 h.1 h1 h2]
  exact quiet_left (specSwaps A n c xs B d ys _ h h' hcap h1 h2)
def kemS (vs : List (List Int × Int)) (ax : List Int) (k : Nat) : Int := ((List.range k).map fun i => ct vs i * swapP (rk vs i) ax).sum
theorem kemS_succ (vs : List (List Int × Int)) (ax : List Int) (k : Nat) : kemS vs ax (k + 1) = kemS vs ax k + ct vs k * swapP (rk vs k) ax := by
  simp [kemS, List.range_succ]
def kemP (m : Int) (vs : List (List Int × Int)) (ax : List Int) : Int := if profP m vs && rankOkP m ax then kemS vs ax vs.length else -1
theorem kem_no1 {m : Int} {vs : List (List Int × Int)} {ax : List Int} (h : profP m vs = false) : kemP m vs ax = -1 := by simp [kemP, h]
theorem kem_no2 {m : Int} {vs : List (List Int × Int)} {ax : List Int} (h : rankOkP m ax = false) : kemP m vs ax = -1 := by simp [kemP, h]
theorem kem_yes {m : Int} {n : Nat} {vs : List (List Int × Int)} {ax : List Int} (hl : vs.length = n) (h : profP m vs = true) (h' : rankOkP m ax = true) : kemP m vs ax = kemS vs ax n := by simp [kemP, h, h', hl]
theorem swap_bd {m : Int} {xs ax : List Int} (h1 : rankOkP m xs = true) (h2 : rankOkP m ax = true) : 0 ≤ swapP xs ax ∧ swapP xs ax ≤ 25 := by
  obtain ⟨a1, a2, _, _⟩ := of_rank h1
  have e : (m.toNat : Int) = m := by omega
  have hl : xs.length = m.toNat := by omega
  rw [← e] at h1 h2
  rw [swap_yes hl h1 h2, ← swF_all (n := m.toNat) (by rw [places_len]; exact hl)]
  have := swF_bd (places ax xs) m.toNat (by rw [places_len]; omega)
  omega
theorem mul_small {a b : Int} (ha : 1 ≤ a ∧ a ≤ 1000) (hb : 0 ≤ b ∧ b ≤ 25) : 0 ≤ a * b ∧ a * b ≤ 25000 := by
  have h : (a * b).natAbs = a.natAbs * b.natAbs := Int.natAbs_mul a b
  have h1 : a.natAbs * b.natAbs ≤ 1000 * 25 := Nat.mul_le_mul (by omega) (by omega)
  have h2 : 0 ≤ a * b := Int.mul_nonneg (by omega) hb.1
  omega
theorem kem_bd {m : Int} {vs : List (List Int × Int)} {ax : List Int} (h : ∀ k, k < vs.length → rankOkP m (rk vs k) = true ∧ (1 ≤ ct vs k ∧ ct vs k ≤ 1000)) (h2 : rankOkP m ax = true) : ∀ k, k ≤ vs.length → 0 ≤ kemS vs ax k ∧ kemS vs ax k ≤ 25000 * k
  | 0, _ => by simp [kemS]
  | k + 1, hk => by
    have h3 := kem_bd h h2 k (by omega)
    have h4 := h k (by omega)
    have h5 := mul_small h4.2 (swap_bd h4.1 h2)
    rw [kemS_succ]
    omega

set_option maxHeartbeats 4000000 in
theorem implKemenyScore (m : Int) (A : Option Addr) (n c : Nat) (vs : List (List Int × Int)) (C : Option Addr) (n1 c1 : Nat) (ax : List Int) (w : World) (h : Votes w A n vs) (hn : (n : Int) ≤ 1048576) (hm : ∀ j, j < n → (rl vs j : Int) ≤ 1048576) (h' : Ints w C n1 ax) (hn1 : (n1 : Int) ≤ 1048576) (hc1 : (n1 : Int) ≤ c1) :
    Calls Try.prog 59 #[.agg #[.int .i64 m, .slice A n c], .slice C n1 c1] w fun e w' => e = .returned (.int .i64 (kemP m vs ax)) ∧ Below w.heap.size w w' := by
  have bl : Below w.heap.size w (w.alloc (.cells #[.int .i64 m, .slice A n c] 30)) := (Below.refl _ _).alloc (Nat.le_refl _) _
  have k0 : (w.alloc (.cells #[.int .i64 m, .slice A n c] 30)).cell? ⟨w.heap.size, 0, none⟩ = some (.int .i64 m) := by simp
  have k1 : (w.alloc (.cells #[.int .i64 m, .slice A n c] 30)).cell? ⟨w.heap.size, 1, none⟩ = some (.slice A n c) := by simp
  have sW : w.heap.size < (w.alloc (.cells #[.int .i64 m, .slice A n c] 30)).heap.size := by simp
  have hV := h.on bl
  have hI := h'.on bl
  have HM := Lib.hid hm; clear hm
  have HL := Lib.hid h.1
  cases h1 : profP m vs with
  | false =>
    have HF := Lib.hid (kem_no1 (ax := ax) h1)
    go_enter Try.func59, Try.ntmps59
    go_wp2_with fail
    refine (implProfileOk m A n c vs _ hV hn HM.out).mono ?_; rintro e w1 ⟨rfl, b1⟩
    have bl1 := Below.on bl b1
    go_wp2_with fail
    go_ret
    exact ⟨ret_int HF.out.symm, bl1⟩
  | true =>
    cases h2 : rankOkP m ax with
    | false =>
      have HF := Lib.hid (kem_no2 (vs := vs) h2)
      go_enter Try.func59, Try.ntmps59
      go_wp2_with fail
      refine (implProfileOk m A n c vs _ hV hn HM.out).mono ?_; rintro e w1 ⟨rfl, b1⟩
      have bl1 := Below.on bl b1
      have hI := hI.on b1
      have k0 := (b1.cell (p := ⟨w.heap.size, 0, none⟩) sW).trans k0
      go_wp2_with fail
      refine (implRankingOk m C n1 c1 ax _ hI hn1 hc1).mono ?_; rintro e w2 ⟨rfl, rfl⟩
      go_wp2_with fail
      go_ret
      exact ⟨ret_int HF.out.symm, bl1⟩
    | true =>
      have HF := Lib.hid (kem_yes HL.out h1 h2)
      have hall := (of_prof h1).2.2
      have hn24 := (of_prof h1).2.1
      have HRK : Hid (∀ k, k < n → rankOkP m (rk vs k) = true ∧ (1 ≤ ct vs k ∧ ct vs k ≤ 1000)) := fun k hk => of_votes hall (by rw [HL.out]; exact hk)
      have HKB : Hid (∀ k, k ≤ n → 0 ≤ kemS vs ax k ∧ kemS vs ax k ≤ 25000 * k) := fun k hk => kem_bd (m := m) (fun j hj => HRK.out j (by rw [← HL.out]; exact hj)) h2 k (by rw [HL.out]; exact hk)
      have hn25 : (n : Int) ≤ 24 := by rw [HL.out] at hn24; omega
      have H2 := Lib.hid h2
      clear hall hn24
      go_enter Try.func59, Try.ntmps59
      go_wp2_with fail
      refine (implProfileOk m A n c vs _ hV hn HM.out).mono ?_; rintro e W ⟨rfl, b1⟩
      have bl1 := Below.on bl b1
      have hIW := hI.on b1
      have hVW := hV.on b1
      have k0 := (b1.cell (p := ⟨w.heap.size, 0, none⟩) sW).trans k0
      have k1 := (b1.cell (p := ⟨w.heap.size, 1, none⟩) sW).trans k1
      go_wp2_with fail
      refine (implRankingOk m C n1 c1 ax _ hIW hn1 hc1).mono ?_; rintro e w2 ⟨rfl, rfl⟩
      go_wp2_with fail
      go_loopw [5, 21] (fun u v wr => ∃ k : Nat, (k : Int) ≤ n ∧ u = .int .i64 (kemS vs ax k) ∧ v = .int .i64 k ∧ Below W.heap.size W wr) (fun _ v _ => n - (intOf v).toNat)
      case atStart => exact ⟨0, by omega, rfl, rfl, Below.refl _ _⟩
      case round =>
        obtain ⟨k, hk, rfl, rfl, hb⟩ := hrel
        by_cases hlt : (k : Int) < n
        · obtain ⟨b, ob, rfl, hbs, ⟨B, d, q1, q2, q3, q4, q5⟩⟩ := (hVW.on hb).at_ (k := k) (by omega)
          have hlb := HM.out k (by omega)
          have q2' : (rl vs k : Int) ≤ d := by omega
          have hax := hIW.on hb
          have hrk := HRK.out k (by omega)
          have sb := swap_bd hrk.1 H2.out
          have mb := mul_small hrk.2 sb
          have kb := HKB.out k (by omega)
          have HST := Lib.hid (kemS_succ vs ax k)
          have bA : Below wr.heap.size wr (wr.alloc (.cells #[.slice B (rl vs k) d, .int .i64 (ct vs k)] 63)) := (Below.refl _ _).alloc (Nat.le_refl _) _
          have hR := Lib.hid hrk; clear hrk
          generalize hKS : kemS vs ax k = KS at *
          go_wp2_with fail
          go_quiet ((go_at_call 90; exact quiet_left (implSwapDistance B (rl vs k) d (rk vs k) C n1 c1 ax _ ((q4.on bA).drewN _) hlb ((hax.on bA).drewN _) hn1 q2' hc1)))
          go_wp2
          go_roundw
          case rel => exact ⟨k + 1, by omega, by rw [HST.out], by go_num, below_drewN (Below.on hb bA) _⟩
          case measure => simp [intOf]; omega
        · obtain rfl : k = n := by omega
          go_wp2
          go_ret
          exact ⟨ret_int HF.out.symm, Below.on bl1 hb⟩

set_option maxHeartbeats 4000000 in
theorem specKemeny (m : Int) (A : Option Addr) (n c : Nat) (vs : List (List Int × Int)) (C : Option Addr) (n1 c1 : Nat) (ax : List Int) (w : World) (h : Votes w A n vs) (hn25 : (n : Int) ≤ 24) (HM : Hid (∀ j, j < n → (rl vs j : Int) ≤ 1048576)) (h' : Ints w C n1 ax) (_hn1 : (n1 : Int) ≤ 1048576)
    (HRK : Hid (∀ k, k < n → rankOkP m (rk vs k) = true ∧ (1 ≤ ct vs k ∧ ct vs k ≤ 1000))) (HKB : Hid (∀ k, k ≤ n → 0 ≤ kemS vs ax k ∧ kemS vs ax k ≤ 25000 * k)) (H2 : Hid (rankOkP m ax = true)) :
    Calls Try.prog 89 #[.agg #[.int .i64 m, .slice A n c], .slice C n1 c1] w fun e w' => e = .returned (.int .i64 (kemS vs ax n)) ∧ Below w.heap.size w w' := by
      have bl : Below w.heap.size w (w.alloc (.cells #[.int .i64 m, .slice A n c] 30)) := (Below.refl _ _).alloc (Nat.le_refl _) _
      have hVW := h.on bl
      have hIW := h'.on bl
      go_enter Try.func89, Try.ntmps89
      go_wp2_with fail
      generalize w.alloc (.cells #[.int .i64 m, .slice A n c] 30) = W at *
      go_loopw [5, 11] (fun u v wr => ∃ k : Nat, (k : Int) ≤ n ∧ u = .int .i64 (kemS vs ax k) ∧ v = .int .i64 k ∧ Below W.heap.size W wr) (fun _ v _ => n - (intOf v).toNat)
      case atStart => exact ⟨0, by omega, rfl, rfl, Below.refl _ _⟩
      case round =>
        obtain ⟨k, hk, rfl, rfl, hb⟩ := hrel
        by_cases hlt : (k : Int) < n
        · obtain ⟨b, ob, rfl, hbs, ⟨B, d, q1, q2, q3, q4, q5⟩⟩ := (hVW.on hb).at_ (k := k) (by omega)
          have hlb := HM.out k (by omega)
          have q2' : (rl vs k : Int) ≤ d := by omega
          have hax := hIW.on hb
          have hrk := HRK.out k (by omega)
          have sb := swap_bd hrk.1 H2.out
          have mb := mul_small hrk.2 sb
          have kb := HKB.out k (by omega)
          have HST := Lib.hid (kemS_succ vs ax k)
          have e1 : rl vs k = n1 := by have := of_rank hrk.1; have := of_rank H2.out; have := hax.1; unfold rl; omega
          rw [e1] at q1 q4 q2'
          have em : m = (n1 : Int) := by have := of_rank H2.out; have := hax.1; omega
          have hrk1 : rankOkP n1 (rk vs k) = true := by rw [← em]; exact hrk.1
          have hax1 : rankOkP n1 ax = true := by rw [← em]; exact H2.out
          clear e1 em
          have bA : Below wr.heap.size wr (wr.alloc (.cells #[.slice B n1 d, .int .i64 (ct vs k)] 63)) := (Below.refl _ _).alloc (Nat.le_refl _) _
          have hR := Lib.hid hrk; clear hrk
          generalize hKS : kemS vs ax k = KS at *
          go_wp2_with fail
          go_quiet ((go_at_call 110; exact specSwapsQ B n1 d (rk vs k) C c1 ax _ _ ((q4.on bA).drewN _) ((hax.on bA).drewN _) q2' hrk1 hax1))
          go_wp2
          go_roundw
          case rel => exact ⟨k + 1, by omega, by rw [HST.out], by go_num, below_drewN (Below.on hb bA) _⟩
          case measure => simp [intOf]; omega
        · obtain rfl : k = n := by omega
          go_wp2
          go_ret
          exact ⟨rfl, Below.on bl hb⟩

end Go.Proofs.Ytblofiimfhbkdab
