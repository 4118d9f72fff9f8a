/- A candidate raised by one place: what the program's and the reference's functions compute. -/
import Derived.Test.YtaclpilehlednaaIsRank
import Derived.Test.YtaclpilehlednaaRev
namespace Go.Proofs.Ytaclpilehlednaa
open Go.RowKit

def raiseOk (xs : List Int) (a : Int) : Bool := rankOkP xs.length xs && decide (1 ≤ idxP xs a)
def raiseP (xs : List Int) (a : Int) : List Int := if raiseOk xs a then (xs.set (idxP xs a).toNat (nth xs ((idxP xs a).toNat - 1))).set ((idxP xs a).toNat - 1) a else []
theorem raise_len (xs : List Int) (a : Int) : (raiseP xs a).length ≤ xs.length := by
  unfold raiseP; split <;> simp
theorem raise_no1 {n : Nat} {xs : List Int} {a : Int} (h : xs.length = n) (h1 : rankOkP n xs = false) : raiseOk xs a = false ∧ raiseP xs a = [] := by
  have e : raiseOk xs a = false := by simp [raiseOk, h, h1]
  exact ⟨e, by simp [raiseP, e]⟩
theorem raise_no2 {xs : List Int} {a : Int} (h1 : idxP xs a < 1) : raiseOk xs a = false ∧ raiseP xs a = [] := by
  have e : raiseOk xs a = false := by simp [raiseOk]; intro _; omega
  exact ⟨e, by simp [raiseP, e]⟩
theorem raise_yes {n p : Nat} {xs : List Int} {a : Int} (h : xs.length = n) (h1 : rankOkP n xs = true) (hp : idxP xs a = (p : Int) + 1) : raiseOk xs a = true ∧ raiseP xs a = (xs.set (p + 1) (nth xs p)).set p a ∧ nth xs (p + 1) = a ∧ p + 1 < n := by
  have e : raiseOk xs a = true := by simp [raiseOk, h, h1]; omega
  have hb := idx_bd xs a
  have hm := hb.2.2.1 (by omega)
  have ha := idx_at hm
  have ht : (idxP xs a).toNat = p + 1 := by omega
  rw [ht] at ha
  exact ⟨e, by simp [raiseP, e, ht], ha, by omega⟩

set_option maxHeartbeats 4000000 in
theorem implRaiseIn (A : Option Addr) (n c : Nat) (xs : List Int) (a : Int) (w : World) (h : Ints w A n xs) (hn : (n : Int) ≤ 1048576) (hcap : (n : Int) ≤ c) :
    Calls Try.prog 24 #[.slice A n c, .int .i64 a] w fun e w' => ∃ A' c', e = .returned (.tuple #[.slice A' (raiseP xs a).length c', .bool (raiseOk xs a)]) ∧ Own w' w.heap.size A' (raiseP xs a).length c' (raiseP xs a) ∧ Below w.heap.size w w' := by
  have hl := h.1
  cases h1 : rankOkP n xs with
  | false =>
    obtain ⟨e1, e2⟩ := raise_no1 (a := a) hl h1
    rw [e1, e2]
    clear hl e1 e2
    go_enter Try.func24, Try.ntmps24
    go_wp2_with fail
    refine (implPlaceOf _ _ _ xs _ _ h hn).mono ?_; rintro e w1 ⟨rfl, rfl⟩
    go_wp2_with fail
    refine (implIsRanking _ _ _ xs _ h hn hcap).mono ?_; rintro e w1 ⟨rfl, rfl⟩
    go_wp2_with fail
    go_ret2
    exact ⟨none, 0, rfl, own_nil _ _, Below.refl _ _⟩
  | true =>
    by_cases h2 : idxP xs a < 1
    · obtain ⟨e1, e2⟩ := raise_no2 h2
      rw [e1, e2]
      clear hl e1 e2
      go_enter Try.func24, Try.ntmps24
      go_wp2_with fail
      refine (implPlaceOf _ _ _ xs _ _ h hn).mono ?_; rintro e w1 ⟨rfl, rfl⟩
      go_wp2_with fail
      refine (implIsRanking _ _ _ xs _ h hn hcap).mono ?_; rintro e w1 ⟨rfl, rfl⟩
      go_wp2_with fail
      go_ret2
      exact ⟨none, 0, rfl, own_nil _ _, Below.refl _ _⟩
    · obtain ⟨p, hp⟩ : ∃ p : Nat, idxP xs a = (p : Int) + 1 := ⟨(idxP xs a - 1).toNat, by omega⟩
      obtain ⟨e1, e2, ha, hpn⟩ := raise_yes hl h1 hp
      have HLn : Hid ((raiseP xs a).length = n) := by rw [e2]; simpa [Hid] using hl
      rw [HLn.out]
      rw [e1]
      have HE := Lib.hid e2; clear e1 e2
      have HA := Lib.hid ha; clear ha
      have HP := Lib.hid hp
      have HL := Lib.hid hl
      clear hl h2 hp
      go_enter Try.func24, Try.ntmps24
      go_wp2_with fail
      refine (implPlaceOf _ _ _ xs _ _ h hn).mono ?_; rintro e w1 ⟨rfl, rfl⟩
      rw [HP.out]
      go_wp2_with fail
      refine (implIsRanking _ _ _ xs _ h hn hcap).mono ?_; rintro e w1 ⟨rfl, rfl⟩
      go_wp2_with fail
      refine (libClone _ _ _ xs _ h hn).mono ?_; rintro e w1 ⟨A1, c1, rfl, o1, b1⟩
      obtain ⟨g, rfl, hg0, hg1⟩ := own_form o1 (by omega)
      have q1 := own_cell o1 (k := p) (by omega)
      have q2 := own_cell o1 (k := p + 1) (by omega)
      have f1 := own_frozen o1 p
      have f2 := own_frozen o1 (p + 1)
      have hp1 : (p : Int) + 1 < n := by omega
      go_wp2_with fail
      go_region
      go_wp2
      go_ret2
      have s1 := own_store o1 p (nth xs (p + 1))
      have s2 := own_store s1.1 (p + 1) (nth xs p)
      have hL : (xs.set p (nth xs (p + 1))).set (p + 1) (nth xs p) = raiseP xs a := by rw [HE.out, HA.out, List.set_comm _ _ (by omega)]
      rw [hL] at s2
      exact ⟨some ⟨g, 0, none⟩, c1, rfl, own_drew s2.1, ((b1.setCell (p := ⟨g, p, none⟩) hg0 _).setCell (p := ⟨g, p + 1, none⟩) hg0 _).drew⟩

end Go.Proofs.Ytaclpilehlednaa
