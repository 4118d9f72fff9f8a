/- Slices of slices of integers: what the laws' own helpers compute on them. -/
import Derived.Test.YtgonkppphaoapaaHeads
namespace Go.Proofs.Ytgonkppphaoapaa
open Go.RowKit
set_option maxRecDepth 100000

theorem drewN_more {w wr : World} (h : ∃ m, wr = w.drewN m) (k : Nat) : Hid (∃ m, wr.drewN k = w.drewN m) := by
  obtain ⟨m, rfl⟩ := h
  exact ⟨m + k, by rw [World.drewN_drewN]⟩
set_option maxHeartbeats 1000000 in
/-- Equality of two slices of numbers draws alone. -/
theorem eqIntSq (A B : Option Addr) (n c d : Nat) (xs : List Int) (w : World) (h : Ints w A n xs) (h' : Ints w B n xs) (hn : (n : Int) ≤ 1048576) :
    Calls Try.prog 25 #[.slice A n c, .slice B n d] w fun e w' => e = .returned (.bool true) ∧ ∃ m, w' = w.drewN m := by
  have hne : ((n : Int) != (n : Int)) = false := by simp
  go_enter Try.func25, Try.ntmps25
  go_wp2
  go_loopw [5] (fun u wr => ∃ k : Nat, (k : Int) ≤ n ∧ u = .int .i64 k ∧ Hid (∃ m, wr = w.drewN m)) (fun u _ => n - (intOf u).toNat)
  case atStart => exact ⟨0, by omega, rfl, ⟨0, rfl⟩⟩
  case round =>
    obtain ⟨k, hk, rfl, HW⟩ := hrel
    have h1 : Ints wr A n xs := by obtain ⟨m, e⟩ := HW.out; rw [e]; exact h.drewN m
    have h2 : Ints wr B n xs := by obtain ⟨m, e⟩ := HW.out; rw [e]; exact h'.drewN m
    by_cases hlt : (k : Int) < n
    · obtain ⟨b, o, rfl, hbs, hc⟩ := h1.at_ (k := k) (by omega)
      obtain ⟨b', o', rfl, hbs', hc'⟩ := h2.at_ (k := k) (by omega)
      have hn2 : (nth xs k != nth xs k) = false := by simp
      go_wp2
      go_quiet (fail)
      go_wp2
      go_roundw
      case rel => exact ⟨k + 1, by omega, by go_num, drewN_more HW.out _⟩
      case measure => simp [intOf]; omega
    · go_wp2
      go_ret
      exact ⟨rfl, HW.out⟩

set_option maxHeartbeats 1000000 in
theorem eqIntSS (A B : Option Addr) (n c d : Nat) (hs ks : List Hd) (w : World) (h : Lists w A n hs) (h' : Lists w B n ks) (hn : (n : Int) ≤ 1048576) (he : cont hs = cont ks) (hb : ∀ k, k < n → (hl hs k : Int) ≤ 1048576) :
    Calls Try.prog 58 #[.slice A n c, .slice B n d] w fun e w' => e = .returned (.bool true) ∧ Below w.heap.size w w' := by
  have hne : ((n : Int) != (n : Int)) = false := by simp
  have HE : Hid (∀ k, k < n → hx hs k = hx ks k) := fun k hk => cont_eq he (by rw [h.1]; exact hk)
  have HB := Lib.hid hb
  clear he hb
  go_enter Try.func58, Try.ntmps58
  go_wp2
  go_loopw [5] (fun u wr => ∃ k : Nat, (k : Int) ≤ n ∧ u = .int .i64 k ∧ Hid (∃ m, wr = w.drewN m)) (fun u _ => n - (intOf u).toNat)
  case atStart => exact ⟨0, by omega, rfl, ⟨0, rfl⟩⟩
  case round =>
    obtain ⟨k, hk, rfl, HW⟩ := hrel
    have q1 : Lists wr A n hs := by obtain ⟨m, e⟩ := HW.out; rw [e]; exact h.on (below_drewN (Below.refl _ _) m)
    have q2 : Lists wr B n ks := by obtain ⟨m, e⟩ := HW.out; rw [e]; exact h'.on (below_drewN (Below.refl _ _) m)
    by_cases hlt : (k : Int) < n
    · obtain ⟨b, o, rfl, hbs, h1, h2, h3, h4⟩ := q1.at_ (k := k) (by omega)
      obtain ⟨b', o', rfl, hbs', g1, g2, g3, g4⟩ := q2.at_ (k := k) (by omega)
      have e1 := HE.out k (by omega)
      have e2 : hl ks k = hl hs k := by simp [hl, e1]
      rw [e2] at g1 g4
      rw [← e1] at g4
      have hlb := HB.out k (by omega)
      clear e1 e2
      go_wp2
      go_quiet ((go_at_call 25; exact Calls.quiet_of (eqIntSq _ _ _ _ _ (hx hs k) _ (h4.drewN _) (g4.drewN _) hlb)))
      go_wp2
      go_roundw
      case rel => exact ⟨k + 1, by omega, by go_num, drewN_more HW.out _⟩
      case measure => simp [intOf]; omega
    · go_wp2
      go_ret
      obtain ⟨m, e⟩ := HW.out
      exact ⟨rfl, by rw [e]; exact below_drewN (Below.refl _ _) m⟩

set_option maxHeartbeats 2000000 in
theorem markIntSS (A : Option Addr) (n c base : Nat) (hs : List Hd) (w : World) (h : OwnL w base A n c hs) (hn : (n : Int) ≤ 1048576) (hb : ∀ k, k < n → (hl hs k : Int) ≤ 1048576) (hbase : base ≤ w.heap.size) :
    Calls Try.prog 59 #[.slice A n c, .int .i64 1] w fun e w' => e = .returned (.int .i64 (1 + (pre hs n : Int))) ∧ w'.ownsRow base 22 1 (.slice A n c) n (hvs hs) ∧ (∀ k, k < n → Own w' base (hA hs k) (hl hs k) (hc hs k) (markd hs 1 n k)) ∧ Below base w w' := by
  have HB := Lib.hid hb
  have HP := Lib.hid (pre_le hs n hb)
  clear hb
  go_enter Try.func59, Try.ntmps59
  go_wp2
  go_loopw [1, 5] (fun u v wr => ∃ k : Nat, (k : Int) ≤ n ∧ u = .int .i64 (1 + (pre hs k : Int)) ∧ v = .int .i64 k ∧ wr.ownsRow base 22 1 (.slice A n c) n (hvs hs) ∧ (∀ j, j < n → Own wr base (hA hs j) (hl hs j) (hc hs j) (markd hs 1 k j)) ∧ Below base w wr) (fun _ v _ => n - (intOf v).toNat)
  case atStart => exact ⟨0, by omega, by simp [pre], rfl, h.row, fun j hj => by have := h.each j (by rw [h.len]; exact hj); simpa [markd] using this, Below.refl _ _⟩
  case round =>
    obtain ⟨k, hk, rfl, rfl, hrow, heach, hbl⟩ := hrel
    have hbs := hbl.size
    by_cases hlt : (k : Int) < n
    · have hkn : k < hs.length := by rw [h.len]; omega
      obtain ⟨g, hAg, hg0, hg1⟩ := own_form hrow (by omega)
      have hcell : wr.cell? ⟨g, k, none⟩ = some (.slice (hA hs k) (hl hs k) (hc hs k)) := by
        subst hAg
        rw [hrow.cellAt k (by omega)]
        exact hvs_nth hkn
      have hap := Lib.hid h.apart
      have hof := Lib.hid h.off
      have hln := Lib.hid h.len
      have HAg := Lib.hid hAg
      have hlb := HB.out k (by omega)
      have hpb := HP.out k (by omega)
      have hek := heach k (by omega)
      subst hAg
      go_wp2_with fail
      refine (markIntS _ _ _ _ _ (1 + (pre hs k : Int)) _ hek hlb ⟨by omega, by omega⟩).mono ?_; rintro e w1 ⟨rfl, o1, gr⟩
      go_wp2_with fail
      go_roundw
      case rel =>
        refine ⟨k + 1, by omega, by simp only [pre]; rw [Int.natCast_add, Int.add_assoc], by go_num, ?_, ?_, ?_⟩
        · refine own_grown hrow gr (fun a ha => ?_)
          intro he
          obtain ⟨a1, ha1, he1⟩ := map_block he
          exact hof.out k (by rw [hln.out]; omega) a1 a ha1 (by rw [ha]) he1
        · intro j hj
          by_cases e : j = k
          · subst e
            have : markd hs 1 (j + 1) j = marks (1 + (pre hs j : Int)) (hl hs j) := by simp [markd]
            rw [this]; exact o1
          · have : markd hs 1 (k + 1) j = markd hs 1 k j := by
              unfold markd
              by_cases e2 : j < k
              · rw [if_pos e2, if_pos (by omega)]
              · rw [if_neg e2, if_neg (by omega)]
            rw [this]
            refine own_grown (heach j hj) gr (fun a ha => ?_)
            intro he
            obtain ⟨a1, ha1, he1⟩ := map_block he
            rcases Nat.lt_or_gt_of_ne e with e3 | e3
            · exact hap.out j k e3 (by rw [hln.out]; omega) a a1 ha ha1 he1.symm
            · exact hap.out k j e3 (by rw [hln.out]; omega) a1 a ha1 ha he1
        · exact hbl.grown gr (by omega) (fun q hq => by obtain ⟨a1, ha1, he1⟩ := map_block hq.symm; have := (own_ge hek a1 ha1).1; omega)
      case measure => simp [intOf]; omega
    · obtain rfl : k = n := by omega
      go_wp2
      go_ret
      exact ⟨rfl, hrow, heach, hbl⟩

set_option maxHeartbeats 2000000 in
theorem heldIntSS (A : Option Addr) (n c base : Nat) (hs : List Hd) (w : World) (hlen : hs.length = n) (hrow : w.ownsRow base 22 1 (.slice A n c) n (hvs hs)) (heach : ∀ k, k < n → Own w base (hA hs k) (hl hs k) (hc hs k) (markd hs 1 n k)) (hn : (n : Int) ≤ 1048576) (hb : ∀ k, k < n → (hl hs k : Int) ≤ 1048576) :
    Calls Try.prog 60 #[.slice A n c, .int .i64 1] w fun e w' => e = .returned (.int .i64 (1 + (pre hs n : Int))) ∧ w = w' := by
  have HB := Lib.hid hb
  have HP := Lib.hid (pre_le hs n hb)
  have HL := Lib.hid hlen
  have HE := Lib.hid heach
  clear hb hlen heach
  go_enter Try.func60, Try.ntmps60
  go_wp2
  go_loop [1, 5] (fun u v => ∃ k : Nat, (k : Int) ≤ n ∧ u = .int .i64 (1 + (pre hs k : Int)) ∧ v = .int .i64 k) (fun _ v => n - (intOf v).toNat)
  case atStart => exact ⟨0, by omega, by simp [pre], rfl⟩
  case round =>
    obtain ⟨k, hk, rfl, rfl⟩ := hrel
    by_cases hlt : (k : Int) < n
    · have hkn : k < hs.length := by rw [HL.out]; omega
      obtain ⟨g, hAg, hg0, hg1⟩ := own_form hrow (by omega)
      have hcell : w.cell? ⟨g, k, none⟩ = some (.slice (hA hs k) (hl hs k) (hc hs k)) := by
        subst hAg
        rw [hrow.cellAt k (by omega)]
        exact hvs_nth hkn
      have hlb := HB.out k (by omega)
      have hpb := HP.out k (by omega)
      have hek : Ints w (hA hs k) (hl hs k) (marks (1 + (pre hs k : Int)) (hl hs k)) := by
        have := Ints.of_own (HE.out k (by omega))
        rwa [markd, if_pos (by omega)] at this
      subst hAg
      go_wp2_with fail
      refine (heldIntS _ _ _ (1 + (pre hs k : Int)) _ hek hlb ⟨by omega, by omega⟩).mono ?_; rintro e w1 ⟨rfl, rfl⟩
      go_wp2_with fail
      go_round
      case rel => exact ⟨k + 1, by omega, by simp only [pre]; rw [Int.natCast_add, Int.add_assoc], by go_num⟩
      case measure => simp [intOf]; omega
    · obtain rfl : k = n := by omega
      go_wp2
      go_ret
      exact ⟨rfl, rfl⟩
end Go.Proofs.Ytgonkppphaoapaa
