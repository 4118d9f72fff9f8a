/- A ranking without one of its candidates: what the program's and the reference's functions compute. -/
import Derived.Test.YtaclpilehlednaaIsRank
import Derived.Test.YtaclpilehlednaaRev
import Derived.Test.YtaclpilehlednaaDelete
namespace Go.Proofs.Ytaclpilehlednaa
open Go.RowKit

/-- A candidate's number when a has gone. -/
def dropOne (a x : Int) : Int := if a < x then x - 1 else x
/-- What the reference gathers. -/
def woS (a : Int) (xs : List Int) : List Int := xs.filterMap fun x => if x < a then some x else if a < x then some (x - 1) else none
def woOk (xs : List Int) (a : Int) : Bool := rankOkP xs.length xs && !(decide (xs.length = 1)) && decide (0 ≤ idxP xs a)
def woP (xs : List Int) (a : Int) : List Int := if woOk xs a then woS a xs else []
theorem woS_map {a : Int} : ∀ {ys : List Int}, a ∉ ys → woS a ys = ys.map (dropOne a)
  | [], _ => rfl
  | y :: ys, h => by
    have h1 : a ≠ y := fun e => h (by simp [e])
    have h2 : a ∉ ys := fun e => h (by simp [e])
    have ih := woS_map h2
    unfold woS at ih ⊢
    rw [List.filterMap_cons, List.map_cons, ← ih]
    by_cases e : y < a
    · rw [if_pos e, dropOne, if_neg (by omega)]
    · rw [if_neg e, if_pos (by omega), dropOne, if_pos (by omega)]
theorem woS_append (a : Int) (xs ys : List Int) : woS a (xs ++ ys) = woS a xs ++ woS a ys := by simp [woS]
theorem woS_len (a : Int) (xs : List Int) : (woS a xs).length ≤ xs.length := List.length_filterMap_le _ _
theorem wo_len (xs : List Int) (a : Int) : (woP xs a).length ≤ xs.length := by
  unfold woP; split
  · exact woS_len a xs
  · simp
theorem wo_no {xs : List Int} {a : Int} (h : woOk xs a = false) : woP xs a = [] := by simp [woP, h]
theorem wo_no1 {n : Nat} {xs : List Int} {a : Int} (hl : xs.length = n) (h : rankOkP n xs = false) : woOk xs a = false := by subst hl; simp [woOk, h]
theorem wo_no2 {xs : List Int} {a : Int} (h : xs.length = 1) : woOk xs a = false := by simp [woOk, h]
theorem wo_no3 {xs : List Int} {a : Int} (h : idxP xs a < 0) : woOk xs a = false := by
  unfold woOk
  rw [show decide (0 ≤ idxP xs a) = false by simpa using h, Bool.and_false]
theorem wo_yes {n : Nat} {xs : List Int} {a : Int} (hl : xs.length = n) (h1 : rankOkP n xs = true) (h2 : n ≠ 1) (h3 : 0 ≤ idxP xs a) : woOk xs a = true := by
  subst hl
  simp [woOk, h1, h2, h3]
/-- Without the one at place p. -/
theorem wo_at {n p : Nat} {xs : List Int} {a : Int} (h1 : rankOkP n xs = true) (hp : idxP xs a = p) : p < xs.length ∧ woS a xs = (xs.take p ++ xs.drop (p + 1)).map (dropOne a) := by
  have hb := idx_bd xs a
  have hm := hb.2.2.1 (by omega)
  have ha := idx_at hm
  rw [hp, Int.toNat_natCast] at ha
  have hlt : p < xs.length := by omega
  have hnd := (of_rank h1).2.2.2
  have e : xs = xs.take p ++ a :: xs.drop (p + 1) := by
    conv => lhs; rw [← List.take_append_drop p xs]
    rw [List.drop_eq_getElem_cons hlt, ← nth_get hlt, ha]
  rw [e] at hnd
  rw [List.nodup_append] at hnd
  obtain ⟨_, n2, n3⟩ := hnd
  have h4 : a ∉ xs.take p := fun hc => n3 a hc a (by simp) rfl
  have h5 : a ∉ xs.drop (p + 1) := (List.nodup_cons.1 n2).1
  refine ⟨hlt, ?_⟩
  conv => lhs; rw [e]
  rw [woS_append, woS_map h4, List.map_append]
  congr 1
  rw [show a :: xs.drop (p + 1) = [a] ++ xs.drop (p + 1) from rfl, woS_append, woS_map h5]
  simp [woS]
theorem woS_take {a : Int} {xs : List Int} {k : Nat} (hk : k < xs.length) : woS a (xs.take (k + 1)) = woS a (xs.take k) ++ woS a [nth xs k] := by
  rw [List.take_succ_eq_append_getElem hk, woS_append, nth_get hk]
theorem woS_lt {a x : Int} (h : x < a) : woS a [x] = [x] := by simp [woS, h]
theorem woS_gt {a x : Int} (h : a < x) : woS a [x] = [x - 1] := by simp [woS, h, show ¬ x < a by omega]
theorem woS_eq {a x : Int} (h1 : ¬ x < a) (h2 : ¬ a < x) : woS a [x] = [] := by simp [woS, h1, h2]
theorem woS_take_len (a : Int) (xs : List Int) (k : Nat) : (woS a (xs.take k)).length ≤ k := Nat.le_trans (woS_len _ _) (List.length_take_le _ _)

theorem rank_nn {m : Int} {xs : List Int} (h : rankOkP m xs = true) : ∀ j, 0 ≤ nth xs j ∧ nth xs j ≤ 5 := fun j => by
  obtain ⟨h1, _, h3, _⟩ := of_rank h
  by_cases hj : j < xs.length
  · have := h3 j hj; omega
  · have e : nth xs j = 0 := by simp [nth, List.getD, hj]
    rw [e]; omega

set_option maxHeartbeats 4000000 in
theorem specWithout (A : Option Addr) (n c : Nat) (xs : List Int) (a : Int) (w : World) (h : Ints w A n xs) (hn : (n : Int) ≤ 1048576) (hx : ∀ j, 0 ≤ nth xs j ∧ nth xs j ≤ 5) :
    Calls Try.prog 48 #[.slice A n c, .int .i64 a] w fun e w' => ∃ A' c', e = .returned (.slice A' (woS a xs).length c') ∧ Own w' w.heap.size A' (woS a xs).length c' (woS a xs) ∧ Below w.heap.size w w' := by
  have HL := Lib.hid h.1
  have HX := Lib.hid hx; clear hx
  go_enter Try.func48, Try.ntmps48
  go_wp2_with fail
  go_loopw [5, 11] (fun u v wr => ∃ (k m : Nat) (B : Option Addr) (d : Nat), (k : Int) ≤ n ∧ m ≤ k ∧ u = .slice B m d ∧ v = .int .i64 k ∧ Own wr w.heap.size B m d (woS a (xs.take k)) ∧ Below w.heap.size w wr) (fun _ v _ => n - (intOf v).toNat)
  case atStart => exact ⟨0, 0, some ⟨w.heap.size, 0, none⟩, 0, by omega, by omega, rfl, rfl, own_empty _ (Nat.le_refl _), (Below.refl _ _).alloc (Nat.le_refl _) _⟩
  case round =>
    obtain ⟨k, m, B, d, hk, hm, rfl, rfl, hown, hb⟩ := hrel
    by_cases hlt : (k : Int) < n
    · obtain ⟨b, o, rfl, hbs, hc⟩ := (h.on hb).at_ (k := k) (by omega)
      have xk := HX.out k
      have HT := Lib.hid (woS_take (a := a) (xs := xs) (k := k) (by rw [HL.out]; omega))
      have hm1 : m + 1 ≤ 1099511627776 := by omega
      by_cases h1 : nth xs k < a
      · have HE := Lib.hid (woS_lt h1)
        go_wp2_with (first | (at_builtin; refine wpList_ap _ rfl _ _ rfl w.heap.size B m d (woS a (xs.take k)) rfl (own_alloc hown _) (some ⟨wr.heap.size, 0, none⟩) 1 1 [nth xs k] rfl (ints_one wr _ _) hm1 (by simp; have := hb.size; omega) ?_; intro B2 d2 w2 o2 hg2 hblk2))
        go_roundw
        case rel => exact ⟨k + 1, m + 1, B2, d2, by omega, by omega, rfl, by go_num, by rw [HT.out, HE.out]; exact o2, below_ap (hb.alloc hb.size _) (own_alloc hown _) hg2 (by simp; have := hb.size; omega)⟩
        case measure => simp [intOf]; omega
      · by_cases h2 : a < nth xs k
        · have HE := Lib.hid (woS_gt h2)
          go_wp2_with (first | (at_builtin; refine wpList_ap _ rfl _ _ rfl w.heap.size B m d (woS a (xs.take k)) rfl (own_alloc hown _) (some ⟨wr.heap.size, 0, none⟩) 1 1 [nth xs k - 1] rfl (ints_one wr _ _) hm1 (by simp; have := hb.size; omega) ?_; intro B2 d2 w2 o2 hg2 hblk2))
          go_roundw
          case rel => exact ⟨k + 1, m + 1, B2, d2, by omega, by omega, rfl, by go_num, by rw [HT.out, HE.out]; exact o2, below_ap (hb.alloc hb.size _) (own_alloc hown _) hg2 (by simp; have := hb.size; omega)⟩
          case measure => simp [intOf]; omega
        · have HE := Lib.hid (woS_eq h1 h2)
          go_wp2
          go_roundw
          case rel => exact ⟨k + 1, m, B, d, by omega, by omega, rfl, by go_num, by rw [HT.out, HE.out, List.append_nil]; exact hown, hb⟩
          case measure => simp [intOf]; omega
    · have hfin : xs.take k = xs := List.take_of_length_le (by rw [HL.out]; omega)
      rw [hfin] at hown
      have hml := own_len hown
      subst hml
      go_wp2
      go_ret
      exact ⟨B, d, rfl, hown, hb⟩

set_option maxHeartbeats 4000000 in
theorem specWithoutCandidate (A : Option Addr) (n c : Nat) (xs : List Int) (a : Int) (w : World) (h : Ints w A n xs) (hn : (n : Int) ≤ 1048576) :
    Calls Try.prog 14 #[.slice A n c, .int .i64 a] w fun e w' => ∃ A' c', e = .returned (.tuple #[.slice A' (woP xs a).length c', .bool (woOk xs a)]) ∧ Own w' w.heap.size A' (woP xs a).length c' (woP xs a) ∧ Below w.heap.size w w' := by
  have hl := h.1
  cases h1 : rankOkP n xs with
  | false =>
    have e1 := wo_no1 (a := a) hl h1
    rw [wo_no e1, e1]
    clear hl e1
    go_enter Try.func14, Try.ntmps14
    go_wp2_with fail
    refine (specRankingOk _ _ _ _ xs _ h hn).mono ?_; rintro e w1 ⟨rfl, b1⟩
    rw [h1]
    go_wp2_with fail
    go_ret2
    exact ⟨none, 0, rfl, own_nil _ _, b1⟩
  | true =>
    cases h2 : ((n : Int) == 1) with
    | true =>
      have e1 := wo_no2 (xs := xs) (a := a) (by have : (n : Int) = 1 := (by simpa using h2); omega)
      rw [wo_no e1, e1]
      clear hl e1
      go_enter Try.func14, Try.ntmps14
      go_wp2_with fail
      refine (specRankingOk _ _ _ _ xs _ h hn).mono ?_; rintro e w1 ⟨rfl, b1⟩
      rw [h1]
      go_wp2_with fail
      go_ret2
      exact ⟨none, 0, rfl, own_nil _ _, b1⟩
    | false =>
      by_cases h3 : idxP xs a < 0
      · have e1 := wo_no3 h3
        rw [wo_no e1, e1]
        clear hl e1
        go_enter Try.func14, Try.ntmps14
        go_wp2_with fail
        refine (specRankingOk _ _ _ _ xs _ h hn).mono ?_; rintro e w1 ⟨rfl, b1⟩
        rw [h1]
        have h := h.on b1
        go_wp2_with fail
        refine (specPlaceOf _ _ _ xs _ _ h hn).mono ?_; rintro e w2 ⟨rfl, rfl⟩
        go_wp2_with fail
        go_ret2
        exact ⟨none, 0, rfl, own_nil _ _, b1⟩
      · have e1 := wo_yes (a := a) hl h1 (by simp at h2; omega) (by omega)
        have e2 : woP xs a = woS a xs := by rw [woP, if_pos e1]
        rw [e1, e2]
        clear hl e1 e2
        have H1 := Lib.hid h1; clear h1
        go_enter Try.func14, Try.ntmps14
        go_wp2_with fail
        refine (specRankingOk _ _ _ _ xs _ h hn).mono ?_; rintro e w1 ⟨rfl, b1⟩
        rw [H1.out]
        have h := h.on b1
        go_wp2_with fail
        refine (specPlaceOf _ _ _ xs _ _ h hn).mono ?_; rintro e w2 ⟨rfl, rfl⟩
        go_wp2_with fail
        refine (specWithout _ _ _ xs _ _ h hn (rank_nn H1.out)).mono ?_; rintro e w2 ⟨A2, c2, rfl, o2, b2⟩
        go_wp2_with fail
        go_ret2
        exact ⟨A2, c2, rfl, own_mono o2 b1.size, Below.on b1 b2⟩

/-- The first k renumbered. -/
def woK (a : Int) (ys : List Int) (k : Nat) : List Int := (ys.take k).map (dropOne a) ++ ys.drop k
theorem woK_len (a : Int) (ys : List Int) (k : Nat) : (woK a ys k).length = ys.length := by simp [woK]; omega
theorem woK_zero (a : Int) (ys : List Int) : woK a ys 0 = ys := by simp [woK]
theorem woK_all {a : Int} {ys : List Int} {k : Nat} (h : ys.length ≤ k) : woK a ys k = ys.map (dropOne a) := by simp [woK, List.take_of_length_le h, List.drop_eq_nil_of_le h]
theorem woK_at {a : Int} {ys : List Int} {k : Nat} (h : k < ys.length) : nth (woK a ys k) k = nth ys k := by
  rw [nth_get (by rw [woK_len]; exact h), nth_get h]
  unfold woK
  rw [List.getElem_append_right (by simp; omega)]
  simp [show min k ys.length = k by omega]
theorem woK_set {a : Int} {ys : List Int} {k : Nat} (h : k < ys.length) : (woK a ys k).set k (dropOne a (nth ys k)) = woK a ys (k + 1) := by
  unfold woK
  rw [List.set_append_right _ _ (by simp; exact Nat.min_le_left _ _), List.drop_eq_getElem_cons h, List.take_succ_eq_append_getElem h]
  have e : k - ((ys.take k).map (dropOne a)).length = 0 := by simp; omega
  rw [e, List.set_cons_zero, nth_get h, List.map_append, List.append_assoc]
  rfl
theorem woK_skip {a : Int} {ys : List Int} {k : Nat} (h : k < ys.length) (h2 : ¬ a < nth ys k) : woK a ys (k + 1) = woK a ys k := by
  rw [← woK_set h, dropOne, if_neg h2, ← woK_at (a := a) h, nth_get (by rw [woK_len]; exact h), List.set_getElem_self]
theorem nth_cut {xs : List Int} {p : Nat} (hp : p < xs.length) (j : Nat) : nth (xs.take p ++ xs.drop (p + 1)) j = nth xs (if j < p then j else j + 1) := by
  unfold nth
  simp only [List.getD]
  by_cases h : j < p
  · rw [if_pos h, List.getElem?_append_left (by simp; omega), List.getElem?_take, if_pos h]
  · rw [if_neg h, List.getElem?_append_right (by simp; omega), List.getElem?_drop]
    congr 2
    simp; omega

set_option maxHeartbeats 4000000 in
theorem implWithoutCandidate (A : Option Addr) (n c : Nat) (xs : List Int) (a : Int) (w : World) (h : Ints w A n xs) (hn : (n : Int) ≤ 1048576) (hcap : (n : Int) ≤ c) :
    Calls Try.prog 15 #[.slice A n c, .int .i64 a] w fun e w' => ∃ A' c', e = .returned (.tuple #[.slice A' (woP xs a).length c', .bool (woOk xs a)]) ∧ Own w' w.heap.size A' (woP xs a).length c' (woP xs a) ∧ Below w.heap.size w w' := by
  have hl := h.1
  cases h1 : rankOkP n xs with
  | false =>
    have e1 := wo_no1 (a := a) hl h1
    rw [wo_no e1, e1]
    clear hl e1
    go_enter Try.func15, Try.ntmps15
    go_wp2_with fail
    refine (implPlaceOf _ _ _ xs _ _ h hn).mono ?_; rintro e w1 ⟨rfl, rfl⟩
    go_wp2_with fail
    refine (implIsRanking _ _ _ xs _ h hn hcap).mono ?_; rintro e w1 ⟨rfl, rfl⟩
    rw [h1]
    go_wp2_with fail
    go_ret2
    exact ⟨none, 0, rfl, own_nil _ _, Below.refl _ _⟩
  | true =>
    cases h2 : ((n : Int) == 1) with
    | true =>
      have e1 := wo_no2 (xs := xs) (a := a) (by have : (n : Int) = 1 := (by simpa using h2); omega)
      rw [wo_no e1, e1]
      clear hl e1
      go_enter Try.func15, Try.ntmps15
      go_wp2_with fail
      refine (implPlaceOf _ _ _ xs _ _ h hn).mono ?_; rintro e w1 ⟨rfl, rfl⟩
      go_wp2_with fail
      refine (implIsRanking _ _ _ xs _ h hn hcap).mono ?_; rintro e w1 ⟨rfl, rfl⟩
      rw [h1]
      go_wp2_with fail
      go_ret2
      exact ⟨none, 0, rfl, own_nil _ _, Below.refl _ _⟩
    | false =>
      by_cases h3 : idxP xs a < 0
      · have e1 := wo_no3 h3
        rw [wo_no e1, e1]
        clear hl e1
        go_enter Try.func15, Try.ntmps15
        go_wp2_with fail
        refine (implPlaceOf _ _ _ xs _ _ h hn).mono ?_; rintro e w1 ⟨rfl, rfl⟩
        go_wp2_with fail
        refine (implIsRanking _ _ _ xs _ h hn hcap).mono ?_; rintro e w1 ⟨rfl, rfl⟩
        rw [h1]
        go_wp2_with fail
        go_ret2
        exact ⟨none, 0, rfl, own_nil _ _, Below.refl _ _⟩
      · obtain ⟨p, hp⟩ : ∃ p : Nat, idxP xs a = (p : Int) := ⟨(idxP xs a).toNat, by omega⟩
        have e1 := wo_yes (a := a) hl h1 (by simp at h2; omega) (by omega)
        obtain ⟨hpl, e3⟩ := wo_at h1 hp
        have e2 : woP xs a = (xs.take p ++ xs.drop (p + 1)).map (dropOne a) := by rw [woP, if_pos e1, e3]
        have hyl : (xs.take p ++ xs.drop (p + 1)).length = n - 1 := by simp; omega
        have hpn : p < n := by omega
        have HLn : Hid ((woP xs a).length = n - 1) := by rw [Hid, e2, List.length_map, hyl]
        rw [HLn.out, e1]
        have HE := Lib.hid e2
        have HP := Lib.hid hp
        have H1 := Lib.hid h1
        have HY : Hid (∀ j, 0 ≤ nth (xs.take p ++ xs.drop (p + 1)) j ∧ nth (xs.take p ++ xs.drop (p + 1)) j ≤ 5) := fun j => by rw [nth_cut hpl]; exact rank_nn h1 _
        clear h1 e1 e2 e3 hl h3 hp hpl
        obtain ⟨ys, hys⟩ : ∃ ys, ys = xs.take p ++ xs.drop (p + 1) := ⟨_, rfl⟩
        have HYS := Lib.hid hys
        rw [← hys] at HE HY hyl
        clear hys
        have HYL := Lib.hid hyl; clear hyl
        go_enter Try.func15, Try.ntmps15
        go_wp2_with fail
        refine (implPlaceOf _ _ _ xs _ _ h hn).mono ?_; rintro e w1 ⟨rfl, rfl⟩
        rw [HP.out]
        go_wp2_with fail
        refine (implIsRanking _ _ _ xs _ h hn hcap).mono ?_; rintro e w1 ⟨rfl, rfl⟩
        rw [H1.out]
        go_wp2_with fail
        refine (libClone _ _ _ xs _ h hn).mono ?_; rintro e w1 ⟨A1, c1, rfl, o1, b1⟩
        go_wp2_with fail
        refine (libDelete _ _ _ _ xs p _ o1 hn hpn).mono ?_; rintro e w2 ⟨rfl, o2, g2⟩
        rw [← HYS.out] at o2
        have b2 := below_ap b1 o1 g2 b1.size
        obtain ⟨g, rfl, hg0, hg1⟩ := own_form o1 (by omega)
        have hnz : ((n - 1 : Nat) : Int) ≤ n := by omega
        obtain ⟨q, hq⟩ : ∃ q, q = n - 1 := ⟨_, rfl⟩
        rw [← hq] at o2 hnz HYL ⊢
        have HQ := Lib.hid hq; clear hq
        go_wp2_with fail
        go_loopw [33] (fun v wr => ∃ k : Nat, (k : Int) ≤ q ∧ v = .int .i64 k ∧ Own wr w.heap.size (some ⟨g, 0, none⟩) q c1 (woK a ys k) ∧ Below w.heap.size w wr) (fun v _ => q - (intOf v).toNat)
        case atStart => exact ⟨0, by omega, rfl, by rw [woK_zero]; exact o2, b2⟩
        case round =>
          obtain ⟨k, hk, rfl, hown, hb⟩ := hrel
          by_cases hlt : (k : Int) < q
          · have hkl : k < ys.length := by rw [HYL.out]; omega
            have HK := Lib.hid hkl; clear hkl
            have c0 := own_cell hown (k := k) (by omega)
            rw [woK_at HK.out] at c0
            have f0 := own_frozen hown k
            have xk := HY.out k
            by_cases hgt : a < nth ys k
            · have hst := own_store hown k (nth ys k - 1)
              have hse := woK_set (a := a) HK.out
              rw [dropOne, if_pos hgt] at hse
              rw [hse] at hst
              have HS := Lib.hid hst
              clear hst hse
              go_wp2
              go_roundw
              case rel => exact ⟨k + 1, by omega, by go_num, HS.out.1, hb.setCell (p := ⟨g, k, none⟩) hg0 _⟩
              case measure => simp [intOf]; omega
            · have HS := Lib.hid (woK_skip HK.out hgt)
              go_wp2
              go_roundw
              case rel => exact ⟨k + 1, by omega, by go_num, by rw [HS.out]; exact hown, hb⟩
              case measure => simp [intOf]; omega
          · have hfin := woK_all (a := a) (ys := ys) (k := k) (by rw [HYL.out]; omega)
            rw [hfin, ← HE.out] at hown
            go_wp2
            go_ret2
            exact ⟨some ⟨g, 0, none⟩, c1, by rw [HQ.out]; rfl, by rw [← HQ.out]; exact hown, hb⟩
end Go.Proofs.Ytaclpilehlednaa
