/- The text of a profile: what the program's function computes, where the library's table of powers of ten reads as it was laid. -/
import Derived.Test.YtkofjdddmpebmaaGreatDoorFmtProfS
import Derived.Test.YtkofjdddmpebmaaGreatDoorItoa
import Derived.Test.YtkofjdddmpebmaaGreatDoorFormat
import Derived.Test.YtkofjdddmpebmaaGreatDoorJoin
import Derived.Test.YtkofjdddmpebmaaGreatDoorPok
namespace Go.Proofs.YtkofjdddmpebmaaGreatDoor
open Go.RowKit
set_option maxRecDepth 100000

theorem ownS_le {w : World} {base c n : Nat} {A : Option Addr} {ss : List ByteArray} (h : OwnS w base A n c ss) (h0 : 0 < n) : n ≤ c := by
  obtain ⟨_, h1 | ⟨g1, cap1, cur1, hv1, _, _, hcc, _⟩⟩ := h
  · omega
  · injection hv1 with _ _ e3
    omega

set_option maxHeartbeats 4000000 in
theorem implFormatProfile (m : Int) (A : Option Addr) (n c : Nat) (vs : List (List Int × Int)) (w : World) (h : Votes w A n vs) (hn : (n : Int) ≤ 1048576) (hm : ∀ j, j < n → (rl vs j : Int) ≤ 1048576) (hpw : Pow w) :
    Calls Tryz.prog 34 #[.agg #[.int .i64 m, .slice A n c]] w fun e w' => e = .returned (.string (textB m vs)) ∧ Below w.heap.size w w' := by
  have HM := Lib.hid hm; clear hm
  have HPW := Lib.hid hpw; clear hpw
  have bl : Below w.heap.size w (w.alloc (.cells #[.int .i64 m, .slice A n c] 24)) := (Below.refl _ _).alloc (Nat.le_refl _) _
  have k0 : (w.alloc (.cells #[.int .i64 m, .slice A n c] 24)).cell? ⟨w.heap.size, 0, none⟩ = some (.int .i64 m) := by simp
  have k1 : (w.alloc (.cells #[.int .i64 m, .slice A n c] 24)).cell? ⟨w.heap.size, 1, none⟩ = some (.slice A n c) := by simp
  have sk : w.heap.size < (w.alloc (.cells #[.int .i64 m, .slice A n c] 24)).heap.size := by simp
  have hV := h.on bl
  cases hp : profP m vs with
  | false =>
    have HF := Lib.hid (text_no hp)
    go_enter Tryz.func34, Tryz.ntmps34
    go_wp2_with fail
    refine (implProfileOk m A n c vs _ hV hn HM.out).mono ?_; rintro e w1 ⟨rfl, b1⟩
    rw [hp]
    go_wp2_with fail
    go_ret
    exact ⟨ret_stringF HF.out.symm, Below.on bl b1⟩
  | true =>
    have HP : Hid (profP m vs = true) := hp
    have hn24 := (of_prof hp).2.1
    have hm5 := (of_prof hp).1
    have hvl := h.1
    rw [hvl] at hn24
    have HVL := Lib.hid hvl; clear hvl
    go_enter Tryz.func34, Tryz.ntmps34
    go_wp2_with fail
    generalize w.alloc (.cells #[.int .i64 m, .slice A n c] 24) = W at *
    refine (implProfileOk m A n c vs _ hV hn HM.out).mono ?_; rintro e w1 ⟨rfl, b1⟩
    rw [hp]
    clear hp
    have bl1 := Below.on bl b1
    replace k0 := (b1.cell (p := ⟨w.heap.size, 0, none⟩) sk).trans k0
    replace k1 := (b1.cell (p := ⟨w.heap.size, 1, none⟩) sk).trans k1
    replace sk := Nat.lt_of_lt_of_le sk b1.size
    clear b1 hV bl
    by_cases h0 : n = 0
    · subst h0
      have HF := Lib.hid (text_none HP.out HVL.out)
      have hfl := fmtI_len (n := m) (by omega) (by omega)
      have hz : (strOfNums (fmtI m)).size ≤ 30 := by rw [strOfNums_size]; omega
      have hzI : ((strOfNums (fmtI m)).size : Int) ≤ 30 := by omega
      go_wp2_with fail
      refine (implFormatInt m _ (by omega) (by omega) (HPW.out.on bl1)).mono ?_; rintro e w5 ⟨rfl, b5⟩
      go_wp2_with fail
      go_ret
      exact ⟨ret_stringF (by rw [HF.out]; exact strn_append [45] _), Below.on bl1 b5⟩
    have hk0 : ((n : Int) == 0) = false := by rw [beq_eq_false_iff_ne]; omega
    have hpw1 := HPW.out.on bl1
    have hal : Below w1.heap.size w1 (w1.alloc (.cells #[] 9)) := (Below.refl _ _).alloc (Nat.le_refl _) _
    have hst := ownS_nil w1 w1.heap.size
    have q0 := k0
    have q1 := k1
    go_wp2_with fail
    generalize hss : wordsV vs = ss at *
    have hsl : ss.length = n := by rw [← hss, wordsV_len]; exact HVL.out
    have HSS := Lib.hid hss; clear hss
    have HSL := Lib.hid hsl; clear hsl
    clear hal
    go_loopw [3, 20] (fun u v wr => ∃ (k : Nat) (A' : Option Addr) (c' : Nat), (k : Int) ≤ n ∧ u = .slice A' k c' ∧ v = .int .i64 k ∧ OwnS wr w1.heap.size A' k c' (ss.take k) ∧ Below w1.heap.size w1 wr) (fun _ v _ => n - (intOf v).toNat)
    case atStart => exact ⟨0, _, _, by omega, rfl, rfl, hst, Below.refl _ _⟩
    case round =>
      obtain ⟨k, A', c', hk, rfl, rfl, hown, hb⟩ := hrel
      obtain ⟨wi, rfl⟩ : ∃ wi : World, wi = wr := ⟨_, rfl⟩
      have hVo := h.on (Below.on bl1 hb)
      by_cases hlt : (k : Int) < n
      · obtain ⟨b', ob', rfl, hbs', ⟨B, d, v1, v2, v3, v4, v5⟩⟩ := hVo.at_ (k := k) (by omega)
        have hvt := of_votes (of_prof HP.out).2.2 (k := k) (by rw [HVL.out]; omega)
        have hct := hvt.2
        have hrl := HM.out k (by omega)
        have hr5 := of_rank hvt.1
        have hz1 := fmtI_len (n := ct vs k) (by omega) (by omega)
        have HX := Lib.hid (word_text HP.out (k := k) (by rw [HVL.out]; omega))
        have hws := word_size HP.out (k := k) (by rw [HVL.out]; omega)
        rw [← HX.out, ByteArray.size_append, ByteArray.size_append] at hws
        have HWS := Lib.hid hws; clear hws
        have hz2 : (strOfNums (fmtI (ct vs k))).size ≤ 30 := by have := HWS.out; omega
        have hz3 : (fmtP (rk vs k)).size ≤ 30 := by have := HWS.out; omega
        have hcat1 : ¬ 9223372036854775807 < (strOfNums (fmtI (ct vs k))).size + 1 := by omega
        have hcat2 : ¬ 9223372036854775807 < (strOfNums (fmtI (ct vs k))).size + 1 + (fmtP (rk vs k)).size := by omega
        have hcat3 : ¬ 9223372036854775807 < (strOfNums (fmtI (ct vs k)) ++ (⟨#[42]⟩ : ByteArray)).size + (fmtP (rk vs k)).size := by rw [ByteArray.size_append]; have := HWS.out; omega
        have HTK : Hid (ss.take (k + 1) = ss.take k ++ [strOfNums (voteI (vnth vs k))]) := by rw [Hid, ← HSS.out]; exact wordsV_take (by rw [HVL.out]; omega)
        clear hvt hr5
        have hal2 : Below wi.heap.size wi (wi.alloc (.cells #[.slice B (rl vs k) d, .int .i64 (ct vs k)] 36)) := (Below.refl _ _).alloc (Nat.le_refl _) _
        have x0 : (wi.alloc (.cells #[.slice B (rl vs k) d, .int .i64 (ct vs k)] 36)).cell? ⟨wi.heap.size, 0, none⟩ = some (.slice B (rl vs k) d) := by simp
        have x1 : (wi.alloc (.cells #[.slice B (rl vs k) d, .int .i64 (ct vs k)] 36)).cell? ⟨wi.heap.size, 1, none⟩ = some (.int .i64 (ct vs k)) := by simp
        have sV : wi.heap.size < (wi.alloc (.cells #[.slice B (rl vs k) d, .int .i64 (ct vs k)] 36)).heap.size := by simp
        have hbA := hb.trans (hal2.mono hb.size)
        have hIA := v4.on hal2
        have ownA := ownS_on hown hal2
        have hPW := (hpw1.on hb).on hal2
        have hbz := hb.size
        have HAZ := Lib.hid (fun (a : Addr) (ha : A' = some a) => Nat.ne_of_lt (own_ge hown a ha).2)
        clear hown
        go_wp2_with fail
        generalize wi.alloc (.cells #[.slice B (rl vs k) d, .int .i64 (ct vs k)] 36) = V at *
        generalize wi.heap.size = z at *
        refine wp_region_held_drew (S := (fun w' => w'.cell? ⟨z, 0, none⟩ = some (.slice B (rl vs k) d) ∧ w'.cell? ⟨z, 1, none⟩ = some (.int .i64 (ct vs k)))) (by kernel_rfl) ?_ (fun hHeld => ?_)
        · (try dsimp only); go_keep
        refine wpAnyH_take (i := 0) (v := ?_) rfl (by kernel_rfl) (by kernel_rfl) (by kernel_rfl) (fun _ _ _ h => h) (Or.inl ⟨by rfl, ?_⟩) (by assumption) ?_
        rotate_left
        · intro wq hSw; (try dsimp only at hSw); go_simp; (try with_reducible rfl)
        simp only [Act.put]
        refine wpAnyH_take (i := 1) (v := ?_) rfl (by kernel_rfl) (by kernel_rfl) (by kernel_rfl) (fun _ _ _ h => h) (Or.inl ⟨by rfl, ?_⟩) (by assumption) ?_
        rotate_left
        · intro wq hSw; (try dsimp only at hSw); go_simp; (try with_reducible rfl)
        simp only [Act.put]
        refine wpAnyH_take (i := 2) (v := ?_) rfl (by kernel_rfl) (by kernel_rfl) (by kernel_rfl) (fun _ _ _ h => h) (Or.inl ⟨by rfl, ?_⟩) (by assumption) ?_
        rotate_left
        · intro wq hSw; (try dsimp only at hSw); go_simp; (try with_reducible rfl)
        simp only [Act.put]
        refine wpAnyH_take (i := 5) (v := ?_) rfl (by kernel_rfl) (by kernel_rfl) (by kernel_rfl) (fun _ _ _ h => h) (Or.inl ⟨by rfl, ?_⟩) (by assumption) ?_
        rotate_left
        · intro wq hSw; (try dsimp only at hSw); go_simp; (try with_reducible rfl)
        simp only [Act.put]
        refine wpAnyH_take (i := 6) (v := ?_) rfl (by kernel_rfl) (by kernel_rfl) (by kernel_rfl) (fun _ _ _ h => h) (Or.inl ⟨by rfl, ?_⟩) (by assumption) ?_
        rotate_left
        · intro wq hSw; (try dsimp only at hSw); go_simp; (try with_reducible rfl)
        simp only [Act.put]
        refine wpAnyH_ready (rs := [3]) (by kernel_rfl) (by simp) ?_
        refine AllReadyH.cons rfl (fun K hK => ?_) ?_
        · skip
          go_simp
          go_at_call 32; refine (implFormatInt (ct vs k) _ (by omega) (by omega) (hPW.on (Below.drew (Below.refl _ _)))).mono ?_; rintro e w4 ⟨rfl, b4⟩
          have bV : Below V.heap.size V w4 := (Below.drew (Below.refl _ _)).trans b4
          have e0 := (bV.cell (p := ⟨z, 0, none⟩) sV).trans x0
          have e1 := (bV.cell (p := ⟨z, 1, none⟩) sV).trans x1
          clear b4
          refine hK.out _ _ ?_ (fun hHeld => ?_)
          · (try dsimp only); go_keep
          clear hK K
          refine wpAnyH_ready (rs := [4, 7]) (by kernel_rfl) (by simp) ?_
          refine AllReadyH.cons rfl (fun K hK => ?_) ?_
          · skip
            go_simp
            refine hK.out _ _ ?_ (fun hHeld => ?_)
            · (try dsimp only); go_keep
            clear hK K
            refine wpAnyH_ready (rs := [7]) (by kernel_rfl) (by simp) ?_
            refine AllReadyH.cons rfl (fun K hK => ?_) ?_
            · skip
              go_simp
              go_at_call 50; refine (implFormatRanking B (rl vs k) d (rk vs k) _ (hIA.on bV) hrl (by omega)).mono ?_; rintro e w5 ⟨rfl, b5⟩
              have bV5 := Below.on bV b5
              have e0 := (bV5.cell (p := ⟨z, 0, none⟩) sV).trans x0
              have e1 := (bV5.cell (p := ⟨z, 1, none⟩) sV).trans x1
              have s5 := bV5.size
              have sz5 : z < w5.heap.size := by omega
              have ho5 := ownS_on ownA bV5
              clear b5
              refine hK.out _ _ ?_ (fun hHeld => ?_)
              · (try dsimp only); go_keep
              clear hK K
              refine wpAnyH_ready (rs := [8]) (by kernel_rfl) (by simp) ?_
              refine AllReadyH.cons rfl (fun K hK => ?_) ?_
              · skip
                go_simp
                refine hK.out _ _ ?_ (fun hHeld => ?_)
                · (try dsimp only); go_keep
                clear hK K
                refine wpAnyH_ready (rs := [9]) (by kernel_rfl) (by simp) ?_
                refine AllReadyH.cons rfl (fun K hK => ?_) ?_
                · skip
                  go_simp
                  refine hK.out _ _ ?_ (fun hHeld => ?_)
                  · (try dsimp only); go_keep
                  clear hK K
                  refine wpAnyH_ready (rs := [10]) (by kernel_rfl) (by simp) ?_
                  refine AllReadyH.cons rfl (fun K hK => ?_) ?_
                  · skip
                    refine step_apS (w5.alloc (.cells #[.string (strOfNums (fmtI (ct vs k)) ++ (⟨#[42]⟩ : ByteArray) ++ fmtP (rk vs k))] 9)) rfl (.tmp 24) (.tmp 33) rfl w1.heap.size A' k c' (ss.take k) rfl (ownS_alloc ho5 (.cells #[.string (strOfNums (fmtI (ct vs k)) ++ (⟨#[42]⟩ : ByteArray) ++ fmtP (rk vs k))] 9)) ⟨w5.heap.size, 0, none⟩ 1 1 [(strOfNums (fmtI (ct vs k)) ++ (⟨#[42]⟩ : ByteArray) ++ fmtP (rk vs k))] rfl (strs_one w5 _ _) (by omega) (by simp; omega) ?_
                    intro A2 c2 w6 o6 g6 _p6
                    have gb := below_apS ((Below.on hbA bV5).alloc (by omega) (.cells #[.string (strOfNums (fmtI (ct vs k)) ++ (⟨#[42]⟩ : ByteArray) ++ fmtP (rk vs k))] 9)) (ownS_alloc ho5 (.cells #[.string (strOfNums (fmtI (ct vs k)) ++ (⟨#[42]⟩ : ByteArray) ++ fmtP (rk vs k))] 9)) g6 (by simp; omega)
                    have e0 := far_cellS g6 (by simp; omega) HAZ.out ((World.cell?_alloc_past (w := w5) (.cells #[.string (strOfNums (fmtI (ct vs k)) ++ (⟨#[42]⟩ : ByteArray) ++ fmtP (rk vs k))] 9) z 0 sz5).trans e0)
                    have e1 := far_cellS g6 (by simp; omega) HAZ.out ((World.cell?_alloc_past (w := w5) (.cells #[.string (strOfNums (fmtI (ct vs k)) ++ (⟨#[42]⟩ : ByteArray) ++ fmtP (rk vs k))] 9) z 1 sz5).trans e1)
                    have O6 := Lib.hid o6; have GB := Lib.hid gb
                    clear o6 g6 gb
                    refine hK.out _ _ ?_ (fun hHeld => ?_)
                    · (try dsimp only); go_keep
                    clear hK K
                    refine wpAnyH_ready (rs := [11]) (by kernel_rfl) (by simp) ?_
                    refine AllReadyH.cons rfl (fun K hK => ?_) ?_
                    · skip
                      go_simp
                      refine hK.out _ _ ?_ (fun hHeld => ?_)
                      · (try dsimp only); go_keep
                      clear hK K
                      refine wpAnyH_done (by kernel_rfl) ?_ _
                      go_simp
                      go_wp2_with fail
                      go_roundw
                      case rel => exact ⟨k + 1, A2, c2, by omega, rfl, by go_num, by have h := O6.out; rw [HX.out, ← HTK.out] at h; exact h, GB.out⟩
                      case measure => simp [intOf]; omega
                    exact AllReadyH.nil
                  exact AllReadyH.nil
                exact AllReadyH.nil
              exact AllReadyH.nil
            exact AllReadyH.nil
          refine AllReadyH.cons rfl (fun K hK => ?_) ?_
          · skip
            go_simp
            go_at_call 50; refine (implFormatRanking B (rl vs k) d (rk vs k) _ (hIA.on bV) hrl (by omega)).mono ?_; rintro e w5 ⟨rfl, b5⟩
            have bV5 := Below.on bV b5
            have e0 := (bV5.cell (p := ⟨z, 0, none⟩) sV).trans x0
            have e1 := (bV5.cell (p := ⟨z, 1, none⟩) sV).trans x1
            have s5 := bV5.size
            have sz5 : z < w5.heap.size := by omega
            have ho5 := ownS_on ownA bV5
            clear b5
            refine hK.out _ _ ?_ (fun hHeld => ?_)
            · (try dsimp only); go_keep
            clear hK K
            refine wpAnyH_ready (rs := [4]) (by kernel_rfl) (by simp) ?_
            refine AllReadyH.cons rfl (fun K hK => ?_) ?_
            · skip
              go_simp
              refine hK.out _ _ ?_ (fun hHeld => ?_)
              · (try dsimp only); go_keep
              clear hK K
              refine wpAnyH_ready (rs := [8]) (by kernel_rfl) (by simp) ?_
              refine AllReadyH.cons rfl (fun K hK => ?_) ?_
              · skip
                go_simp
                refine hK.out _ _ ?_ (fun hHeld => ?_)
                · (try dsimp only); go_keep
                clear hK K
                refine wpAnyH_ready (rs := [9]) (by kernel_rfl) (by simp) ?_
                refine AllReadyH.cons rfl (fun K hK => ?_) ?_
                · skip
                  go_simp
                  refine hK.out _ _ ?_ (fun hHeld => ?_)
                  · (try dsimp only); go_keep
                  clear hK K
                  refine wpAnyH_ready (rs := [10]) (by kernel_rfl) (by simp) ?_
                  refine AllReadyH.cons rfl (fun K hK => ?_) ?_
                  · skip
                    refine step_apS (w5.alloc (.cells #[.string (strOfNums (fmtI (ct vs k)) ++ (⟨#[42]⟩ : ByteArray) ++ fmtP (rk vs k))] 9)) rfl (.tmp 24) (.tmp 33) rfl w1.heap.size A' k c' (ss.take k) rfl (ownS_alloc ho5 (.cells #[.string (strOfNums (fmtI (ct vs k)) ++ (⟨#[42]⟩ : ByteArray) ++ fmtP (rk vs k))] 9)) ⟨w5.heap.size, 0, none⟩ 1 1 [(strOfNums (fmtI (ct vs k)) ++ (⟨#[42]⟩ : ByteArray) ++ fmtP (rk vs k))] rfl (strs_one w5 _ _) (by omega) (by simp; omega) ?_
                    intro A2 c2 w6 o6 g6 _p6
                    have gb := below_apS ((Below.on hbA bV5).alloc (by omega) (.cells #[.string (strOfNums (fmtI (ct vs k)) ++ (⟨#[42]⟩ : ByteArray) ++ fmtP (rk vs k))] 9)) (ownS_alloc ho5 (.cells #[.string (strOfNums (fmtI (ct vs k)) ++ (⟨#[42]⟩ : ByteArray) ++ fmtP (rk vs k))] 9)) g6 (by simp; omega)
                    have e0 := far_cellS g6 (by simp; omega) HAZ.out ((World.cell?_alloc_past (w := w5) (.cells #[.string (strOfNums (fmtI (ct vs k)) ++ (⟨#[42]⟩ : ByteArray) ++ fmtP (rk vs k))] 9) z 0 sz5).trans e0)
                    have e1 := far_cellS g6 (by simp; omega) HAZ.out ((World.cell?_alloc_past (w := w5) (.cells #[.string (strOfNums (fmtI (ct vs k)) ++ (⟨#[42]⟩ : ByteArray) ++ fmtP (rk vs k))] 9) z 1 sz5).trans e1)
                    have O6 := Lib.hid o6; have GB := Lib.hid gb
                    clear o6 g6 gb
                    refine hK.out _ _ ?_ (fun hHeld => ?_)
                    · (try dsimp only); go_keep
                    clear hK K
                    refine wpAnyH_ready (rs := [11]) (by kernel_rfl) (by simp) ?_
                    refine AllReadyH.cons rfl (fun K hK => ?_) ?_
                    · skip
                      go_simp
                      refine hK.out _ _ ?_ (fun hHeld => ?_)
                      · (try dsimp only); go_keep
                      clear hK K
                      refine wpAnyH_done (by kernel_rfl) ?_ _
                      go_simp
                      go_wp2_with fail
                      go_roundw
                      case rel => exact ⟨k + 1, A2, c2, by omega, rfl, by go_num, by have h := O6.out; rw [HX.out, ← HTK.out] at h; exact h, GB.out⟩
                      case measure => simp [intOf]; omega
                    exact AllReadyH.nil
                  exact AllReadyH.nil
                exact AllReadyH.nil
              exact AllReadyH.nil
            exact AllReadyH.nil
          exact AllReadyH.nil
        exact AllReadyH.nil
      · obtain rfl : k = n := by omega
        have hown2 := hown
        rw [List.take_of_length_le (by rw [HSL.out]; omega)] at hown2
        have hS := Strs.of_own hown2
        have bw := Below.on bl1 hb
        have hcap := ownS_le hown (by omega)
        clear hown hown2
        have HF := Lib.hid (text_some HP.out (by rw [HVL.out]; exact h0))
        have hsum : sumSz ss k ≤ 1048576 := by
          have := sumSz_le (ss := ss) (b := 30) k (fun j hj => by rw [← HSS.out, wordsV_at (by rw [HVL.out]; exact hj)]; exact word_size HP.out (by rw [HVL.out]; exact hj))
          omega
        have HSM := Lib.hid hsum; clear hsum
        go_wp2_with fail
        refine (implJoin A' k c' ss ⟨#[32]⟩ _ hS (by omega) hcap HSM.out (by decide)).mono ?_; rintro e w5 ⟨rfl, b5⟩
        go_wp2_with fail
        go_ret
        exact ⟨ret_stringF (by rw [HF.out, HVL.out, ← HSS.out]; rfl), Below.on bw b5⟩
end Go.Proofs.YtkofjdddmpebmaaGreatDoor
