/- Peaks of an axis: what the program's and the reference's functions compute. -/
import Derived.Test.YtblofiimfhbkdabFirstPl
import Derived.Test.YtblofiimfhbkdabPpk
import Derived.Test.YtblofiimfhbkdabPlainV
namespace Go.Proofs.Ytblofiimfhbkdab
open Go.RowKit
set_option maxRecDepth 100000

theorem pk_snoc {ys xs : List Int} {k : Nat} (h : k < xs.length) : (byName ys xs).take (k + 1) = (byName ys xs).take k ++ [nth ys (nth xs k).toNat] := by
  have hb : k < (byName ys xs).length := by rw [byName_len]; exact h
  rw [List.take_succ_eq_append_getElem hb, nth_get h]
  simp [byName]
/-- Of each candidate of the axis, how many have it first. -/
def pkL (m : Int) (vs : List (List Int × Int)) (ax : List Int) : List Int := if ppkP m vs ax then byName (colP m vs false) ax else []
theorem pkL_no {m : Int} {vs : List (List Int × Int)} {ax : List Int} (h : ppkP m vs ax = false) : pkL m vs ax = [] := by simp [pkL, h]
theorem pkL_yes {m : Int} {vs : List (List Int × Int)} {ax : List Int} (h : ppkP m vs ax = true) : pkL m vs ax = byName (colP m vs false) ax := by simp [pkL, h]
theorem of_ppk {m : Int} {vs : List (List Int × Int)} {ax : List Int} (h : ppkP m vs ax = true) : profP m vs = true ∧ rankOkP m ax = true := by
  simp only [ppkP, Bool.and_eq_true] at h
  exact h.1
theorem pk_facts {m : Int} {vs : List (List Int × Int)} {ax : List Int} {n1 : Nat} (h : ppkP m vs ax = true) (hl : ax.length = n1) : n1 ≤ 5 ∧ ∀ i, i < n1 → 0 ≤ nth ax i ∧ nth ax i < (colP m vs false).length := by
  obtain ⟨h1, h2⟩ := of_ppk h
  have h3 := of_rank h2
  have h4 : ((colP m vs false).length : Int) = m := by
    have := of_prof h1
    unfold colP
    rw [if_pos h1, plCol_len]; omega
  refine ⟨by omega, fun i hi => ?_⟩
  have := h3.2.2.1 i (by omega)
  omega
theorem pkL_len {m : Int} {vs : List (List Int × Int)} {ax : List Int} : (pkL m vs ax).length ≤ 5 := by
  cases h : ppkP m vs ax with
  | false => rw [pkL_no h]; simp
  | true =>
    have := (pk_facts h rfl).1
    rw [pkL_yes h, byName_len]
    exact this

set_option maxHeartbeats 4000000 in
theorem specPeaksOf (m : Int) (A : Option Addr) (n c : Nat) (vs : List (List Int × Int)) (D : Option Addr) (n1 c1 : Nat) (xs : List Int) (w : World) (h : Votes w A n vs) (hn : (n : Int) ≤ 1048576) (hm : ∀ j, j < n → (rl vs j : Int) ≤ 1048576) (hx : Ints w D n1 xs) (hn1 : (n1 : Int) ≤ 1048576) :
    Calls Try.prog 28 #[.agg #[.int .i64 m, .slice A n c], .slice D n1 c1] w fun e w' => ∃ A' c', e = .returned (.slice A' (pkL m vs xs).length c') ∧ Own w' w.heap.size A' (pkL m vs xs).length c' (pkL m vs xs) ∧ Below w.heap.size w w' := by
  have bl : Below w.heap.size w (w.alloc (.cells #[.int .i64 m, .slice A n c] 30)) := (Below.refl _ _).alloc (Nat.le_refl _) _
  have k0 : (w.alloc (.cells #[.int .i64 m, .slice A n c] 30)).cell? ⟨w.heap.size, 0, none⟩ = some (.int .i64 m) := by simp
  have k1 : (w.alloc (.cells #[.int .i64 m, .slice A n c] 30)).cell? ⟨w.heap.size, 1, none⟩ = some (.slice A n c) := by simp
  have sW : w.heap.size < (w.alloc (.cells #[.int .i64 m, .slice A n c] 30)).heap.size := by simp
  have hV := h.on bl
  have hX := hx.on bl
  have HM := Lib.hid hm; clear hm
  have HLX := Lib.hid hx.1
  cases hp : ppkP m vs xs with
  | false =>
    have HP := Lib.hid hp
    rw [pkL_no hp]
    go_enter Try.func28, Try.ntmps28
    go_wp2_with fail
    refine (specIsPeakedProfile m A n c vs D n1 c1 xs _ hV hn HM.out hX hn1).mono ?_; rintro e w1 ⟨rfl, b1⟩
    rw [HP.out]
    have bl1 := Below.on bl b1
    go_wp2_with fail
    go_ret
    exact ⟨none, 0, rfl, own_nil _ _, bl1⟩
  | true =>
    have HP := Lib.hid hp
    rw [pkL_yes hp, byName_len, HLX.out]
    obtain ⟨hn5, hix⟩ := pk_facts hp HLX.out
    have HIX := Lib.hid hix; clear hix hp
    obtain ⟨ys, hys⟩ : ∃ ys, ys = colP m vs false := ⟨_, rfl⟩
    have HYE := Lib.hid hys
    rw [← hys] at HIX ⊢
    clear hys
    go_enter Try.func28, Try.ntmps28
    go_wp2_with fail
    refine (specIsPeakedProfile m A n c vs D n1 c1 xs _ hV hn HM.out hX hn1).mono ?_; rintro e w1 ⟨rfl, b1⟩
    rw [HP.out]
    have bl1 := Below.on bl b1
    replace k0 := (b1.cell (p := ⟨w.heap.size, 0, none⟩) sW).trans k0
    replace k1 := (b1.cell (p := ⟨w.heap.size, 1, none⟩) sW).trans k1
    have s1 := Nat.lt_of_lt_of_le sW b1.size
    have hV1 := hV.on b1
    have hX1 := hX.on b1
    clear b1 sW hV hX
    go_wp2_with fail
    refine (specFirstPlaces m A n c vs _ hV1 hn HM.out).mono ?_; rintro e w2 ⟨E2, d2, rfl, oy, b2⟩
    rw [← HYE.out] at oy ⊢
    have bl2 := Below.on bl1 b2
    have hYS := Ints.of_own oy
    have hX2 := hX1.on b2
    have s2 : w.heap.size ≤ w2.heap.size := bl2.size
    clear bl1 b2 k0 k1 s1 hV1 hX1 oy
    go_wp2_with fail
    go_loopw [6, 18] (fun v u wr => ∃ (i : Nat) (E : Option Addr) (f : Nat), (i : Int) ≤ n1 ∧ v = .slice E i f ∧ u = .int .i64 i ∧ Own wr w2.heap.size E i f ((byName ys xs).take i) ∧ Below w2.heap.size w2 wr) (fun _ u _ => n1 - (intOf u).toNat)
    case atStart => exact ⟨0, some ⟨w2.heap.size, 0, none⟩, 0, by omega, rfl, rfl, own_empty w2 (Nat.le_refl _), (Below.refl _ _).alloc (Nat.le_refl _) _⟩
    case round =>
      obtain ⟨i, E, f, hi, rfl, rfl, hown, hbi⟩ := hrel
      obtain ⟨wi, rfl⟩ : ∃ wi : World, wi = wr := ⟨_, rfl⟩
      by_cases hlt2 : (i : Int) < n1
      · obtain ⟨b4, o4, rfl, hbs4, hx4⟩ := (hX2.on hbi).at_ (k := i) (by omega)
        have hix := HIX.out i (by omega)
        have HSN := Lib.hid (pk_snoc (ys := ys) (xs := xs) (k := i) (by rw [HLX.out]; omega))
        obtain ⟨a, ha⟩ : ∃ a : Nat, nth xs i = (a : Int) := ⟨(nth xs i).toNat, by omega⟩
        rw [ha] at hx4 hix
        have hsn2 : (byName ys xs).take (i + 1) = (byName ys xs).take i ++ [nth ys a] := by rw [HSN.out, ha]; simp
        have HSN2 := Lib.hid hsn2
        clear ha hsn2
        obtain ⟨b5, o5, rfl, hbs5, hx5⟩ := (hYS.on hbi).at_ (k := a) (by omega)
        have hbz := hbi.size
        have HOW := Lib.hid hown; clear hown
        go_wp2_with (first | (at_builtin; refine wpList_ap _ rfl _ _ rfl w2.heap.size E i f ((byName ys xs).take i) rfl (own_alloc HOW.out _) (some ⟨wi.heap.size, 0, none⟩) 1 1 [nth ys a] rfl (ints_one wi _ _) (by omega) (by simp; omega) ?_; intro E' f' w9 hown' hg hblk))
        rw [← HSN2.out] at hown'
        go_roundw
        case rel => exact ⟨i + 1, E', f', by omega, rfl, by go_num, hown', below_ap (hbi.alloc hbz _) (own_alloc HOW.out _) hg (by simp; omega)⟩
        case measure => simp [intOf]; omega
      · obtain rfl : i = n1 := by omega
        go_wp2_with fail
        go_ret
        rw [List.take_of_length_le (by rw [byName_len, HLX.out]; exact Nat.le_refl _)] at hown
        exact ⟨E, f, rfl, own_mono hown s2, Below.on bl2 hbi⟩

set_option maxHeartbeats 4000000 in
theorem implPeaksOf (m : Int) (A : Option Addr) (n c : Nat) (vs : List (List Int × Int)) (D : Option Addr) (n1 c1 : Nat) (xs : List Int) (w : World) (h : Votes w A n vs) (hn : (n : Int) ≤ 1048576) (hm : ∀ j, j < n → (rl vs j : Int) ≤ 1048576) (hx : Ints w D n1 xs) (hn1 : (n1 : Int) ≤ 1048576) (hc1 : (n1 : Int) ≤ c1) :
    Calls Try.prog 29 #[.agg #[.int .i64 m, .slice A n c], .slice D n1 c1] w fun e w' => ∃ A' c', e = .returned (.slice A' (pkL m vs xs).length c') ∧ Own w' w.heap.size A' (pkL m vs xs).length c' (pkL m vs xs) ∧ Below w.heap.size w w' := by
  have bl : Below w.heap.size w (w.alloc (.cells #[.int .i64 m, .slice A n c] 30)) := (Below.refl _ _).alloc (Nat.le_refl _) _
  have k0 : (w.alloc (.cells #[.int .i64 m, .slice A n c] 30)).cell? ⟨w.heap.size, 0, none⟩ = some (.int .i64 m) := by simp
  have k1 : (w.alloc (.cells #[.int .i64 m, .slice A n c] 30)).cell? ⟨w.heap.size, 1, none⟩ = some (.slice A n c) := by simp
  have sW : w.heap.size < (w.alloc (.cells #[.int .i64 m, .slice A n c] 30)).heap.size := by simp
  have hV := h.on bl
  have hX := hx.on bl
  have HM := Lib.hid hm; clear hm
  have HLX := Lib.hid hx.1
  cases hp : ppkP m vs xs with
  | false =>
    have HP := Lib.hid hp
    rw [pkL_no hp]
    go_enter Try.func29, Try.ntmps29
    go_wp2_with fail
    refine (implIsPeakedProfile m A n c vs D n1 c1 xs _ hV hn HM.out hX hn1 hc1).mono ?_; rintro e w1 ⟨rfl, b1⟩
    rw [HP.out]
    have bl1 := Below.on bl b1
    go_wp2_with fail
    go_ret
    exact ⟨none, 0, rfl, own_nil _ _, bl1⟩
  | true =>
    have HP := Lib.hid hp
    rw [pkL_yes hp, byName_len, HLX.out]
    obtain ⟨hn5, hix⟩ := pk_facts hp HLX.out
    have HIX := Lib.hid hix; clear hix hp
    obtain ⟨ys, hys⟩ : ∃ ys, ys = colP m vs false := ⟨_, rfl⟩
    have HYE := Lib.hid hys
    rw [← hys] at HIX ⊢
    clear hys
    go_enter Try.func29, Try.ntmps29
    go_wp2_with fail
    refine (implIsPeakedProfile m A n c vs D n1 c1 xs _ hV hn HM.out hX hn1 hc1).mono ?_; rintro e w2 ⟨rfl, b1⟩
    rw [HP.out]
    have bl2 := Below.on bl b1
    replace k0 := (b1.cell (p := ⟨w.heap.size, 0, none⟩) sW).trans k0
    replace k1 := (b1.cell (p := ⟨w.heap.size, 1, none⟩) sW).trans k1
    have s1 := Nat.lt_of_lt_of_le sW b1.size
    have hV2 := hV.on b1
    have hX2 := hX.on b1
    have s2 : w.heap.size ≤ w2.heap.size := bl2.size
    clear b1 sW hV hX
    go_wp2_with fail
    go_loopw [5, 14] (fun v u wr => ∃ (i : Nat) (E : Option Addr) (f : Nat), (i : Int) ≤ n1 ∧ v = .slice E i f ∧ u = .int .i64 i ∧ Own wr w2.heap.size E i f ((byName ys xs).take i) ∧ Below w2.heap.size w2 wr) (fun _ u _ => n1 - (intOf u).toNat)
    case atStart => exact ⟨0, none, 0, by omega, rfl, rfl, own_nil _ _, Below.refl _ _⟩
    case round =>
      obtain ⟨i, E, f, hi, rfl, rfl, hown, hbi⟩ := hrel
      obtain ⟨wi, rfl⟩ : ∃ wi : World, wi = wr := ⟨_, rfl⟩
      by_cases hlt2 : (i : Int) < n1
      · obtain ⟨b4, o4, rfl, hbs4, hx4⟩ := (hX2.on hbi).at_ (k := i) (by omega)
        have hix := HIX.out i (by omega)
        have HSN := Lib.hid (pk_snoc (ys := ys) (xs := xs) (k := i) (by rw [HLX.out]; omega))
        obtain ⟨a, ha⟩ : ∃ a : Nat, nth xs i = (a : Int) := ⟨(nth xs i).toNat, by omega⟩
        rw [ha] at hx4 hix
        have hsn2 : (byName ys xs).take (i + 1) = (byName ys xs).take i ++ [nth ys a] := by rw [HSN.out, ha]; simp
        have HSN2 := Lib.hid hsn2
        clear ha hsn2
        have hbz := hbi.size
        have HOW := Lib.hid hown; clear hown
        have HVI := Lib.hid (hV2.on hbi)
        have k0i := (hbi.cell (p := ⟨w.heap.size, 0, none⟩) s1).trans k0
        have k1i := (hbi.cell (p := ⟨w.heap.size, 1, none⟩) s1).trans k1
        go_wp2_with fail
        refine (implFirstPlaces m A n c vs _ HVI.out hn HM.out).mono ?_; rintro e w5 ⟨E5, d5, rfl, oy, b5⟩
        rw [← HYE.out] at oy ⊢
        obtain ⟨b6, o6, rfl, hbs6, hx6⟩ := (Ints.of_own oy).at_ (k := a) (by omega)
        have HO5 := Lib.hid (own_below HOW.out b5 (Nat.le_refl _))
        have hb5 := Below.on hbi b5
        have hbz5 := hb5.size
        clear oy k0i k1i
        go_wp2_with (first | (at_builtin; refine wpList_ap _ rfl _ _ rfl w2.heap.size E i f ((byName ys xs).take i) rfl (own_alloc HO5.out _) (some ⟨w5.heap.size, 0, none⟩) 1 1 [nth ys a] rfl (ints_one w5 _ _) (by omega) (by simp; omega) ?_; intro E' f' w9 hown' hg hblk))
        rw [← HSN2.out] at hown'
        go_roundw
        case rel => exact ⟨i + 1, E', f', by omega, rfl, by go_num, hown', below_ap (hb5.alloc hbz5 _) (own_alloc HO5.out _) hg (by simp; omega)⟩
        case measure => simp [intOf]; omega
      · obtain rfl : i = n1 := by omega
        go_wp2_with fail
        go_ret
        rw [List.take_of_length_le (by rw [byName_len, HLX.out]; exact Nat.le_refl _)] at hown
        exact ⟨E, f, rfl, own_mono hown s2, Below.on bl2 hbi⟩
end Go.Proofs.Ytblofiimfhbkdab
