/- The first axis on which a profile is single-peaked: what the program's and the reference's functions compute. -/
import Derived.Test.YtblofiimfhbkdabAllS
import Derived.Test.YtblofiimfhbkdabPpk
namespace Go.Proofs.Ytblofiimfhbkdab
open Go.RowKit
set_option maxRecDepth 100000

theorem cont_rank {hs : List Hd} {m : Int} (h : cont hs = ranksP m) {k : Nat} (hk : k < hs.length) : rankOkP m (hx hs k) = true ∧ (hl hs k : Int) = m ∧ m ≤ 5 := by
  have h1 := cont_nth hk
  rw [h] at h1
  have hmem : hx hs k ∈ ranksP m := List.mem_of_getElem? h1
  by_cases hm : 1 ≤ m ∧ m ≤ 5
  · obtain ⟨q, rfl⟩ : ∃ q : Nat, m = (q : Int) := ⟨m.toNat, by omega⟩
    rw [ranks_yes hm] at hmem
    have h2 := ranks_rank0 q (by omega) (by omega)
    rw [List.all_eq_true] at h2
    have h3 := h2 _ hmem
    have h4 := of_rank h3
    have h5 : (hx hs k).length = hl hs k := rfl
    exact ⟨h3, by omega, by omega⟩
  · rw [ranks_no hm] at hmem
    cases hmem
theorem cont_len' {hs : List Hd} {m : Int} (h : cont hs = ranksP m) : hs.length ≤ 120 := by
  have := ranks_len m
  rw [← h, cont_len] at this
  exact this
/-- The first axis, and whether there is one. -/
def axF (m : Int) (vs : List (List Int × Int)) : Option (List Int) := (ranksP m).find? fun r => ppkP m vs r
def axL (m : Int) (vs : List (List Int × Int)) : List Int := (axF m vs).getD []
def axOk (m : Int) (vs : List (List Int × Int)) : Bool := (axF m vs).isSome
theorem ax_some {m : Int} {vs : List (List Int × Int)} {hs : List Hd} {k : Nat} (h : cont hs = ranksP m) (hk : k < hs.length) (hno : ∀ j, j < k → ppkP m vs (hx hs j) = false) (hy : ppkP m vs (hx hs k) = true) : axL m vs = hx hs k ∧ axOk m vs = true := by
  have e : axF m vs = some (hx hs k) := by
    unfold axF
    rw [← h, List.find?_eq_some_iff_getElem]
    refine ⟨hy, k, by rw [cont_len]; exact hk, ?_, fun j hj => ?_⟩
    · have := cont_nth hk
      exact (List.getElem?_eq_some_iff.1 this).2
    · have hj2 : j < hs.length := by omega
      have := (List.getElem?_eq_some_iff.1 (cont_nth hj2)).2
      rw [this, hno j hj]
      rfl
  exact ⟨by unfold axL; rw [e]; rfl, by unfold axOk; rw [e]; rfl⟩
theorem ax_none {m : Int} {vs : List (List Int × Int)} {hs : List Hd} (h : cont hs = ranksP m) (hno : ∀ j, j < hs.length → ppkP m vs (hx hs j) = false) : axL m vs = [] ∧ axOk m vs = false := by
  have e : axF m vs = none := by
    unfold axF
    rw [← h, List.find?_eq_none]
    intro r hr
    obtain ⟨j, hj, e⟩ := List.mem_iff_getElem.1 hr
    rw [cont_len] at hj
    have := (List.getElem?_eq_some_iff.1 (cont_nth hj)).2
    rw [this] at e
    rw [← e, hno j hj]
    simp
  exact ⟨by unfold axL; rw [e]; rfl, by unfold axOk; rw [e]; rfl⟩
theorem ax_no {m : Int} {vs : List (List Int × Int)} (h : profP m vs = false) : axL m vs = [] ∧ axOk m vs = false := by
  have e : axF m vs = none := by
    unfold axF
    rw [List.find?_eq_none]
    intro r _
    rw [ppk_no1 h]
    simp
  exact ⟨by unfold axL; rw [e]; rfl, by unfold axOk; rw [e]; rfl⟩
theorem axL_len {m : Int} {vs : List (List Int × Int)} : (axL m vs).length ≤ 5 := by
  cases h : axF m vs with
  | none => unfold axL; rw [h]; simp
  | some r =>
    have e : axL m vs = r := by unfold axL; rw [h]; rfl
    have hp := List.find?_some h
    have h1 : rankOkP m r = true := by
      simp only [ppkP, Bool.and_eq_true] at hp
      exact hp.1.2
    have h2 := of_rank h1
    rw [e]
    omega

set_option maxHeartbeats 4000000 in
theorem specAxisOf (m : Int) (A : Option Addr) (n c : Nat) (vs : List (List Int × Int)) (w : World) (h : Votes w A n vs) (hn : (n : Int) ≤ 1048576) (hm : ∀ j, j < n → (rl vs j : Int) ≤ 1048576) :
    Calls Try.prog 24 #[.agg #[.int .i64 m, .slice A n c]] w fun e w' => ∃ A' c', e = .returned (.tuple #[.slice A' (axL m vs).length c', .bool (axOk m vs)]) ∧ Own w' w.heap.size A' (axL m vs).length c' (axL m vs) ∧ Below w.heap.size w w' := by
  have bl : Below w.heap.size w (w.alloc (.cells #[.int .i64 m, .slice A n c] 30)) := (Below.refl _ _).alloc (Nat.le_refl _) _
  have k0 : (w.alloc (.cells #[.int .i64 m, .slice A n c] 30)).cell? ⟨w.heap.size, 0, none⟩ = some (.int .i64 m) := by simp
  have k1 : (w.alloc (.cells #[.int .i64 m, .slice A n c] 30)).cell? ⟨w.heap.size, 1, none⟩ = some (.slice A n c) := by simp
  have sW : w.heap.size < (w.alloc (.cells #[.int .i64 m, .slice A n c] 30)).heap.size := by simp
  have hV := h.on bl
  have HM := Lib.hid hm; clear hm
  go_enter Try.func24, Try.ntmps24
  go_wp2_with fail
  refine (specAllRankings m _).mono ?_; rintro e w1 ⟨A1, n1, c1, rfl, hs, hL, hcont, b1⟩
  have bl1 := Below.on bl b1
  have hs0 : w.heap.size ≤ (w.alloc (.cells #[.int .i64 m, .slice A n c] 30)).heap.size := by omega
  replace k0 := (b1.cell (p := ⟨w.heap.size, 0, none⟩) sW).trans k0
  replace k1 := (b1.cell (p := ⟨w.heap.size, 1, none⟩) sW).trans k1
  have s1 := Nat.lt_of_lt_of_le sW b1.size
  have hV1 := hV.on b1
  have hL1 := hL.mono hs0
  have HL := Lib.hid hL1
  have HC := Lib.hid hcont
  have hln : hs.length = n1 := hL.len
  have h120 : n1 ≤ 120 := by have := cont_len' hcont; omega
  have HLN := Lib.hid hln
  have h120' : (n1 : Int) ≤ 120 := by omega
  clear hL hL1 hcont b1 hV hln sW hs0
  go_wp2_with fail
  go_loopw [10] (fun u wr => ∃ k : Nat, (k : Int) ≤ n1 ∧ u = .int .i64 k ∧ (∀ j, j < k → ppkP m vs (hx hs j) = false) ∧ Below w1.heap.size w1 wr) (fun u _ => n1 - (intOf u).toNat)
  case atStart => exact ⟨0, by omega, rfl, fun j hj => absurd hj (by omega), Below.refl _ _⟩
  case round =>
    obtain ⟨k, hk, rfl, hno, hb⟩ := hrel
    obtain ⟨wo, rfl⟩ : ∃ wo : World, wo = wr := ⟨_, rfl⟩
    have HN := Lib.hid hno; clear hno
    by_cases hlt : (k : Int) < n1
    · have hLo := HL.out.below hb (Nat.le_refl _)
      obtain ⟨b, o, rfl, hbs, hcl, hcap, hmx, hI⟩ := hLo.lists.at_ (k := k) (by omega)
      obtain ⟨hrk, hlk, hm5⟩ := cont_rank HC.out (k := k) (by rw [HLN.out]; omega)
      have hl5 : (hl hs k : Int) ≤ 1048576 := by omega
      have HLO := Lib.hid (hLo.each k (by rw [HLN.out]; omega)); clear hLo
      have HVO := Lib.hid (hV1.on hb)
      have HI := Lib.hid hI; clear hI
      have k0o := (hb.cell (p := ⟨w.heap.size, 0, none⟩) s1).trans k0
      have k1o := (hb.cell (p := ⟨w.heap.size, 1, none⟩) s1).trans k1
      clear hrk hlk hm5
      cases hp : ppkP m vs (hx hs k) with
      | true =>
        obtain ⟨e1, e2⟩ := ax_some HC.out (by rw [HLN.out]; omega) HN.out hp
        have HP := Lib.hid hp
        have HE1 := Lib.hid e1; have HE2 := Lib.hid e2
        clear e1 e2 hp
        go_wp2_with fail
        refine (specIsPeakedProfile m A n c vs _ _ _ (hx hs k) _ HVO.out hn HM.out HI.out hl5).mono ?_; rintro e w2 ⟨rfl, b2⟩
        rw [HP.out]
        go_wp2_with fail
        go_ret2
        rw [HE1.out, HE2.out]
        exact ⟨_, _, rfl, own_below HLO.out b2 (Nat.le_refl _), Below.on (Below.on bl1 hb) b2⟩
      | false =>
        have HP := Lib.hid hp
        clear hp
        go_wp2_with fail
        refine (specIsPeakedProfile m A n c vs _ _ _ (hx hs k) _ HVO.out hn HM.out HI.out hl5).mono ?_; rintro e w2 ⟨rfl, b2⟩
        rw [HP.out]
        have hb2 := Below.on hb b2
        clear b2
        go_wp2_with fail
        go_roundw
        case rel =>
          refine ⟨k + 1, by omega, by go_num, fun j hj => ?_, hb2⟩
          by_cases e : j = k
          · subst e; exact HP.out
          · exact HN.out j (by omega)
        case measure => simp [intOf]; omega
    · obtain rfl : k = n1 := by omega
      obtain ⟨e1, e2⟩ := ax_none HC.out (fun j hj => HN.out j (by rw [HLN.out] at hj; exact hj))
      have HE1 := Lib.hid e1; have HE2 := Lib.hid e2
      clear e1 e2
      go_wp2_with fail
      go_ret2
      rw [HE1.out, HE2.out]
      exact ⟨none, 0, rfl, own_nil _ _, Below.on bl1 hb⟩

set_option maxHeartbeats 4000000 in
theorem implAxisOf (m : Int) (A : Option Addr) (n c : Nat) (vs : List (List Int × Int)) (w : World) (h : Votes w A n vs) (hn : (n : Int) ≤ 1048576) (hm : ∀ j, j < n → (rl vs j : Int) ≤ 1048576) :
    Calls Try.prog 25 #[.agg #[.int .i64 m, .slice A n c]] w fun e w' => ∃ A' c', e = .returned (.tuple #[.slice A' (axL m vs).length c', .bool (axOk m vs)]) ∧ Own w' w.heap.size A' (axL m vs).length c' (axL m vs) ∧ Below w.heap.size w w' := by
  have bl : Below w.heap.size w (w.alloc (.cells #[.int .i64 m, .slice A n c] 30)) := (Below.refl _ _).alloc (Nat.le_refl _) _
  have k0 : (w.alloc (.cells #[.int .i64 m, .slice A n c] 30)).cell? ⟨w.heap.size, 0, none⟩ = some (.int .i64 m) := by simp
  have k1 : (w.alloc (.cells #[.int .i64 m, .slice A n c] 30)).cell? ⟨w.heap.size, 1, none⟩ = some (.slice A n c) := by simp
  have sW : w.heap.size < (w.alloc (.cells #[.int .i64 m, .slice A n c] 30)).heap.size := by simp
  have hV := h.on bl
  have HM := Lib.hid hm; clear hm
  cases hpr : profP m vs with
  | false =>
    have HPR := Lib.hid hpr
    obtain ⟨e1, e2⟩ := ax_no hpr
    rw [e1, e2]
    clear e1 e2 hpr
    go_enter Try.func25, Try.ntmps25
    go_wp2_with fail
    refine (implProfileOk m A n c vs _ hV hn HM.out).mono ?_; rintro e w1 ⟨rfl, b1⟩
    rw [HPR.out]
    go_wp2_with fail
    go_ret2
    exact ⟨none, 0, rfl, own_nil _ _, Below.on bl b1⟩
  | true =>
    have HPR := Lib.hid hpr
    clear hpr
    go_enter Try.func25, Try.ntmps25
    go_wp2_with fail
    refine (implProfileOk m A n c vs _ hV hn HM.out).mono ?_; rintro e w0 ⟨rfl, b0⟩
    rw [HPR.out]
    have bl0 := Below.on bl b0
    replace k0 := (b0.cell (p := ⟨w.heap.size, 0, none⟩) sW).trans k0
    replace k1 := (b0.cell (p := ⟨w.heap.size, 1, none⟩) sW).trans k1
    have s0 := Nat.lt_of_lt_of_le sW b0.size
    have hV0 := hV.on b0
    clear b0 hV sW bl
    go_wp2_with fail
    refine (implAllRankings m _).mono ?_; rintro e w1 ⟨A1, n1, c1, rfl, hs, hL, hcont, b1⟩
    have bl1 := Below.on bl0 b1
    have hs0 : w.heap.size ≤ w0.heap.size := by omega
    replace k0 := (b1.cell (p := ⟨w.heap.size, 0, none⟩) s0).trans k0
    replace k1 := (b1.cell (p := ⟨w.heap.size, 1, none⟩) s0).trans k1
    have s1 := Nat.lt_of_lt_of_le s0 b1.size
    have hV1 := hV0.on b1
    have hL1 := hL.mono hs0
    have HL := Lib.hid hL1
    have HC := Lib.hid hcont
    have hln : hs.length = n1 := hL.len
    have h120 : n1 ≤ 120 := by have := cont_len' hcont; omega
    have HLN := Lib.hid hln
    have h120' : (n1 : Int) ≤ 120 := by omega
    clear hL hL1 hcont b1 hV0 hln s0 hs0 bl0
    go_wp2_with fail
    go_loopw [13] (fun u wr => ∃ k : Nat, (k : Int) ≤ n1 ∧ u = .int .i64 k ∧ (∀ j, j < k → ppkP m vs (hx hs j) = false) ∧ Below w1.heap.size w1 wr) (fun u _ => n1 - (intOf u).toNat)
    case atStart => exact ⟨0, by omega, rfl, fun j hj => absurd hj (by omega), Below.refl _ _⟩
    case round =>
      obtain ⟨k, hk, rfl, hno, hb⟩ := hrel
      obtain ⟨wo, rfl⟩ : ∃ wo : World, wo = wr := ⟨_, rfl⟩
      have HN := Lib.hid hno; clear hno
      by_cases hlt : (k : Int) < n1
      · have hLo := HL.out.below hb (Nat.le_refl _)
        obtain ⟨b, o, rfl, hbs, hcl, hcap, hmx, hI⟩ := hLo.lists.at_ (k := k) (by omega)
        obtain ⟨hrk, hlk, hm5⟩ := cont_rank HC.out (k := k) (by rw [HLN.out]; omega)
        have hl5 : (hl hs k : Int) ≤ 1048576 := by omega
        have hlc : (hl hs k : Int) ≤ hc hs k := by omega
        have HLO := Lib.hid (hLo.each k (by rw [HLN.out]; omega)); clear hLo
        have HVO := Lib.hid (hV1.on hb)
        have HI := Lib.hid hI; clear hI
        have k0o := (hb.cell (p := ⟨w.heap.size, 0, none⟩) s1).trans k0
        have k1o := (hb.cell (p := ⟨w.heap.size, 1, none⟩) s1).trans k1
        clear hrk hlk hm5
        cases hp : ppkP m vs (hx hs k) with
        | true =>
          obtain ⟨e1, e2⟩ := ax_some HC.out (by rw [HLN.out]; omega) HN.out hp
          have HP := Lib.hid hp
          have HE1 := Lib.hid e1; have HE2 := Lib.hid e2
          clear e1 e2 hp
          go_wp2_with fail
          refine (implIsPeakedProfile m A n c vs _ _ _ (hx hs k) _ HVO.out hn HM.out HI.out hl5 hlc).mono ?_; rintro e w2 ⟨rfl, b2⟩
          rw [HP.out]
          go_wp2_with fail
          go_ret2
          rw [HE1.out, HE2.out]
          exact ⟨_, _, rfl, own_below HLO.out b2 (Nat.le_refl _), Below.on (Below.on bl1 hb) b2⟩
        | false =>
          have HP := Lib.hid hp
          clear hp
          go_wp2_with fail
          refine (implIsPeakedProfile m A n c vs _ _ _ (hx hs k) _ HVO.out hn HM.out HI.out hl5 hlc).mono ?_; rintro e w2 ⟨rfl, b2⟩
          rw [HP.out]
          have hb2 := Below.on hb b2
          clear b2
          go_wp2_with fail
          go_roundw
          case rel =>
            refine ⟨k + 1, by omega, by go_num, fun j hj => ?_, hb2⟩
            by_cases e : j = k
            · subst e; exact HP.out
            · exact HN.out j (by omega)
          case measure => simp [intOf]; omega
      · obtain rfl : k = n1 := by omega
        obtain ⟨e1, e2⟩ := ax_none HC.out (fun j hj => HN.out j (by rw [HLN.out] at hj; exact hj))
        have HE1 := Lib.hid e1; have HE2 := Lib.hid e2
        clear e1 e2
        go_wp2_with fail
        go_ret2
        rw [HE1.out, HE2.out]
        exact ⟨none, 0, rfl, own_nil _ _, Below.on bl1 hb⟩
end Go.Proofs.Ytblofiimfhbkdab
