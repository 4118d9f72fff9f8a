/- A drawn ranking: whatever the code's bytes, it is a ranking. -/
import Derived.Test.YtaclpilehlednaaCursor
import Derived.Test.YtaclpilehlednaaAppend
import Derived.Test.YtaclpilehlednaaOrders
import Derived.Test.YtaclpilehlednaaRev
import Derived.Test.YtaclpilehlednaaPlainSwap
namespace Go.Proofs.Ytaclpilehlednaa
open Go.RowKit
set_option maxRecDepth 100000

theorem rank_upTo : ∀ m : Nat, m < 6 → 1 ≤ m → rankOkP m (upTo m) = true := by decide +kernel
theorem upTo_succ (m : Nat) : upTo (m + 1) = upTo m ++ [(m : Int)] := by simp [upTo, List.range_succ]
theorem rank_swap0 : allRank (fun m xs => (List.range m).all fun i => (List.range m).all fun k => rankOkP m ((xs.set i (nth xs k)).set k (nth xs i))) = true := by decide +kernel
theorem rank_swap {m i k : Nat} {xs : List Int} (h : rankOkP m xs = true) (hi : i < m) (hk : k < m) : rankOkP m ((xs.set i (nth xs k)).set k (nth xs i)) = true := by
  have := of_allRank rank_swap0 h
  rw [List.all_eq_true] at this
  have := this i (List.mem_range.2 hi)
  rw [List.all_eq_true] at this
  exact this k (List.mem_range.2 hk)

set_option maxHeartbeats 4000000 in
theorem specDraw (B P m : Nat) (w : World) (h : Cur w B P) (hB : B ≤ w.heap.size) (hm1 : 1 ≤ (m : Int)) (hm5 : (m : Int) ≤ 5) :
    Calls Try.prog 54 #[.pointer (some ⟨P, 0, none⟩), .int .i64 (m : Int)] w fun e w' => ∃ (A' : Option Addr) (c' : Nat), e = .returned (.slice A' m c') ∧ ∃ xs : List Int, rankOkP m xs = true ∧ Own w' w.heap.size A' m c' xs ∧ Below B w w' := by
  have hPw := h.2.1
  have HU := Lib.hid (rank_upTo m (by omega) (by omega))
  go_enter Try.func54, Try.ntmps54
  go_wp2_with fail
  go_loopw [5, 6] (fun u v wr => ∃ (k : Nat) (A' : Option Addr) (d : Nat), (k : Int) ≤ m ∧ u = .slice A' k d ∧ v = .int .i64 k ∧ Own wr w.heap.size A' k d (upTo k) ∧ Below w.heap.size w wr) (fun _ v _ => m - (intOf v).toNat)
  case atStart => exact ⟨0, some ⟨w.heap.size, 0, none⟩, 0, by omega, rfl, rfl, own_empty _ (Nat.le_refl _), (Below.refl _ _).alloc (Nat.le_refl _) _⟩
  case round =>
    obtain ⟨k, A', d, hk, rfl, rfl, hown, hb⟩ := hrel
    by_cases hlt : (k : Int) < m
    · have HS := Lib.hid (upTo_succ k)
      have hm1' : k + 1 ≤ 1099511627776 := by omega
      go_wp2_with (first | (at_builtin; refine wpList_ap _ rfl _ _ rfl w.heap.size A' k d (upTo k) rfl (own_alloc hown _) (some ⟨wr.heap.size, 0, none⟩) 1 1 [(k : Int)] rfl (ints_one wr _ _) hm1' (by simp; have := hb.size; omega) ?_; intro B2 d2 w2 o2 hg2 hblk2))
      go_roundw
      case rel => exact ⟨k + 1, B2, d2, by omega, rfl, by go_num, by rw [HS.out]; exact o2, below_ap (hb.alloc hb.size _) (own_alloc hown _) hg2 (by simp; have := hb.size; omega)⟩
      case measure => simp [intOf]; omega
    · obtain rfl : k = m := by omega
      obtain ⟨W, rfl⟩ : ∃ W, W = wr := ⟨_, rfl⟩
      obtain ⟨g, rfl, hg0, hg1⟩ := own_form hown (by omega)
      have hC := h.on hb
      have hbz := hb.size
      go_wp2_with fail
      go_loopw [7] (fun v wr => ∃ (j : Nat) (xs : List Int), j < k ∧ v = .int .i64 j ∧ rankOkP k xs = true ∧ Own wr w.heap.size (some ⟨g, 0, none⟩) k d xs ∧ Cur wr B P ∧ Below B w wr) (fun v _ => (intOf v).toNat)
      case atStart => exact ⟨k - 1, upTo k, by omega, by first | rfl | (congr 1; omega), HU.out, hown, hC, hb.mono hB⟩
      case round =>
        obtain ⟨j, xs, hj, rfl, hr, ho, hcur, hbl⟩ := hrel
        have HR := Lib.hid hr; clear hr
        by_cases hj0 : (0 : Int) < (j : Int)
        · go_wp2_with fail
          refine (specBelow B P _ _ hcur (by omega)).mono ?_; rintro e w1 ⟨r, rfl, r1, r2, c1, g1⟩
          have r3 := r2 (by omega)
          obtain ⟨q, rfl⟩ : ∃ q : Nat, r = (q : Int) := ⟨r.toNat, by omega⟩
          have ho1 := own_grown ho g1 (fun a ha he => by injection ha with ha; subst ha; injection he with he; simp at he; omega)
          have hbl1 := hbl.grown g1 (Nat.le_trans hB hbl.size) (fun z hz => by injection hz with hz; have := h.1; omega)
          have q1 := own_cell ho1 (k := j) hj
          have q2 := own_cell ho1 (k := q) (by omega)
          have f1 := own_frozen ho1 j
          have f2 := own_frozen ho1 q
          have s1 := own_store ho1 j (nth xs q)
          have s2 := own_store s1.1 q (nth xs j)
          have HS := Lib.hid (rank_swap HR.out (show j < k by omega) (show q < k by omega))
          have hc2 := (c1.grown s1.2 (fun z hz => by injection hz with hz; omega)).grown s2.2 (fun z hz => by injection hz with hz; omega)
          have hbl2 := (hbl1.setCell (p := ⟨g, j, none⟩) (by simp; omega) (.int .i64 (nth xs q))).setCell (p := ⟨g, q, none⟩) (by simp; omega) (.int .i64 (nth xs j))
          clear r2 s1
          have S2 := Lib.hid s2.1; clear s2
          by_cases e : j = q
          · subst e
            go_wp2
            go_roundw
            case rel => exact ⟨j - 1, _, by omega, by first | rfl | (congr 1; omega), HS.out, S2.out, hc2, hbl2⟩
            case measure => simp [intOf]; omega
          · go_wp2
            go_roundw
            case rel => exact ⟨j - 1, _, by omega, by first | rfl | (congr 1; omega), HS.out, S2.out, hc2, hbl2⟩
            case measure => simp [intOf]; omega
        · go_wp2
          go_ret
          exact ⟨some ⟨g, 0, none⟩, d, rfl, xs, HR.out, ho, hbl⟩

set_option maxHeartbeats 1000000 in
theorem specMakeRanking (A : Option Addr) (n c : Nat) (q : Int) (m : Nat) (w : World) (h : Byts w w.heap.size A n) (hn : (n : Int) ≤ 1048576) (hq : 0 ≤ q ∧ q ≤ 1000) (hm1 : 1 ≤ (m : Int)) (hm5 : (m : Int) ≤ 5) :
    Calls Try.prog 19 #[.slice A n c, .int .i64 q, .int .i64 (m : Int)] w fun e w' => ∃ (A' : Option Addr) (c' : Nat), e = .returned (.slice A' m c') ∧ ∃ xs : List Int, rankOkP m xs = true ∧ Own w' w.heap.size A' m c' xs ∧ Below w.heap.size w w' := by
  go_enter Try.func19, Try.ntmps19
  go_wp2_with fail
  refine (specNewN A n c q _ h hn hq).mono ?_; rintro e w1 ⟨rfl, c1, b1⟩
  go_wp2_with fail
  rw [show max (1 : Int) (min (m : Int) 5) = (m : Int) by omega]
  refine (specDraw _ _ m _ c1 b1.size hm1 hm5).mono ?_; rintro e w2 ⟨A', c', rfl, xs, hr, o2, b2⟩
  have HR := Lib.hid hr; clear hr
  go_wp2_with fail
  go_ret
  exact ⟨A', c', rfl, xs, HR.out, own_mono o2 b1.size, b1.trans b2⟩
end Go.Proofs.Ytaclpilehlednaa
