/- The text of a profile: what the reference's function computes. -/
import Derived.Test.YtkofjdddmpebmaaGreatDoorFmtS
import Derived.Test.YtkofjdddmpebmaaGreatDoorPlainTxt
import Derived.Test.YtkofjdddmpebmaaGreatDoorStepV
namespace Go.Proofs.YtkofjdddmpebmaaGreatDoor
open Go.RowKit
set_option maxRecDepth 100000

theorem ownS_on {w w' : World} {base : Nat} {A : Option Addr} {n c : Nat} {ss : List ByteArray} (h : OwnS w base A n c ss) (b : Below w.heap.size w w') : OwnS w' base A n c ss := own_below h b (Nat.le_refl _)
/-- A cell of another block than the row of strings that grew. -/
theorem far_cellS {w w' : World} {A : Option Addr} (hg : w.grownBy w' (A.map (·.block))) {b o : Nat} {v : Value} (hb : b < w.heap.size) (hne : ∀ a, A = some a → a.block ≠ b) (h : w.cell? ⟨b, o, none⟩ = some v) : w'.cell? ⟨b, o, none⟩ = some v :=
  far_cell hg hb hne h
theorem step_apS (w : World) {ops : Array Oper} {o : Oper} {a : Act} {K : Act → World → Prop} {Q : Exit → Act → World → Prop} {E : Prop} (hgd : o.guard = none) (s x : Operand)
    (ho : o.op = .call { callee := .builtin .append, args := #[s, x], argTypes := #[32, 32] })
    (base : Nat) (A : Option Addr) (n c : Nat) (ss : List ByteArray) (hs : a.eval s = .slice A n c) (hown : OwnS w base A n c ss)
    (ad : Addr) (m d : Nat) (ts : List ByteArray) (hx : a.eval x = .slice (some ad) m d) (hr : Strs w (some ad) m ts)
    (hlen : n + m ≤ 1099511627776) (hbase : base ≤ w.heap.size)
    (hK : ∀ A' c' w', OwnS w' base A' (n + m) c' (ss ++ ts) → w.grownBy w' (A.map (·.block)) → (A'.map (·.block) = A.map (·.block) ∨ A'.map (·.block) = some w.heap.size) → K (a.put o.dst (.slice A' (n + m) c')) w') :
    if Region.wanted o (yielded ops a.tmps) = true then Oper.wp Tryz.prog o a w K Q else E := by
  have hw : Region.wanted o (yielded ops a.tmps) = true := by simp [Region.wanted, hgd]
  rw [if_pos hw]
  obtain ⟨A', c', w', h1, h2, h3, h4⟩ := run_apS hown (d := d) hr o.type hlen hbase
  unfold Oper.wp execOp
  simp only [ho, resolve, invoke, builtin, Sem.run_bind, Sem.run_pure, Result.andThen_ok, List.map_toArray, List.map_cons, List.map_nil, hs, hx, h1]
  exact hK A' c' w' h2 h3 h4
theorem sumSz_le {ss : List ByteArray} {b : Nat} : ∀ n, (∀ j, j < n → (snth ss j).size ≤ b) → sumSz ss n ≤ n * b
  | 0, _ => by simp [sumSz]
  | n + 1, h => by
    have h1 := sumSz_le n (fun j hj => h j (by omega))
    have h2 := h n (by omega)
    rw [sumSz_succ, Nat.add_mul]
    omega
/-- The votes' texts. -/
def wordsV (vs : List (List Int × Int)) : List ByteArray := (vs.map voteI).map strOfNums
theorem wordsV_len (vs : List (List Int × Int)) : (wordsV vs).length = vs.length := by simp [wordsV]
theorem wordsV_at {vs : List (List Int × Int)} {k : Nat} (hk : k < vs.length) : snth (wordsV vs) k = strOfNums (voteI (vnth vs k)) := by simp [wordsV, snth, vnth, List.getD, hk]
theorem wordsV_take {vs : List (List Int × Int)} {k : Nat} (hk : k < vs.length) : (wordsV vs).take (k + 1) = (wordsV vs).take k ++ [strOfNums (voteI (vnth vs k))] := by
  rw [List.take_succ_eq_append_getElem (by rw [wordsV_len]; exact hk), ← snth_get (by rw [wordsV_len]; exact hk), wordsV_at hk]
theorem word_text {m : Int} {vs : List (List Int × Int)} (h : profP m vs = true) {k : Nat} (hk : k < vs.length) : strOfNums (fmtI (ct vs k)) ++ (⟨#[42]⟩ : ByteArray) ++ fmtP (rk vs k) = strOfNums (voteI (vnth vs k)) := by
  have hv := of_votes (of_prof h).2.2 hk
  have hl := (of_rank hv.1).2.1
  have e : rankOkP ((rk vs k).length : Int) (rk vs k) = true := by rw [hl]; exact hv.1
  rw [fmt_yes (n := (rk vs k).length) rfl e, show (⟨#[42]⟩ : ByteArray) = strOfNums [42] from rfl, strn_append, strn_append, List.append_assoc]
  rfl
theorem word_size {m : Int} {vs : List (List Int × Int)} (h : profP m vs = true) {k : Nat} (hk : k < vs.length) : (strOfNums (voteI (vnth vs k))).size ≤ 30 := by
  have hv := of_votes (of_prof h).2.2 hk
  have hl := (of_rank hv.1)
  have h2 := fmtI_len (n := ct vs k) (by omega) (by omega)
  rw [strOfNums_size, voteI, List.length_append, List.length_cons, letters_len (Nat.le_refl _)]
  have : (vnth vs k).1.length = (rk vs k).length := rfl
  have : (fmtI (vnth vs k).2).length = (fmtI (ct vs k)).length := rfl
  omega

set_option maxHeartbeats 4000000 in
theorem specFormatProfile (m : Int) (A : Option Addr) (n c : Nat) (vs : List (List Int × Int)) (w : World) (h : Votes w A n vs) (hn : (n : Int) ≤ 1048576) (hm : ∀ j, j < n → (rl vs j : Int) ≤ 1048576) :
    Calls Tryz.prog 13 #[.agg #[.int .i64 m, .slice A n c]] w fun e w' => e = .returned (.string (textB m vs)) ∧ Below w.heap.size w w' := by
  have HM := Lib.hid hm; clear hm
  have bl : Below w.heap.size w (w.alloc (.cells #[.int .i64 m, .slice A n c] 24)) := (Below.refl _ _).alloc (Nat.le_refl _) _
  have k0 : (w.alloc (.cells #[.int .i64 m, .slice A n c] 24)).cell? ⟨w.heap.size, 0, none⟩ = some (.int .i64 m) := by simp
  have k1 : (w.alloc (.cells #[.int .i64 m, .slice A n c] 24)).cell? ⟨w.heap.size, 1, none⟩ = some (.slice A n c) := by simp
  have sk : w.heap.size < (w.alloc (.cells #[.int .i64 m, .slice A n c] 24)).heap.size := by simp
  have hV := h.on bl
  cases hp : profP m vs with
  | false =>
    have HF := Lib.hid (text_no hp)
    go_enter Tryz.func13, Tryz.ntmps13
    go_wp2_with fail
    refine (specProfileOk m A n c vs _ hV hn HM.out).mono ?_; rintro e w1 ⟨rfl, b1⟩
    rw [hp]
    go_wp2_with fail
    go_ret
    exact ⟨ret_stringF HF.out.symm, Below.on bl b1⟩
  | true =>
    have HP : Hid (profP m vs = true) := hp
    have hn24 := (of_prof hp).2.1
    have hm5 := (of_prof hp).1
    have hvl := h.1
    rw [hvl] at hn24
    have HVL := Lib.hid hvl; clear hvl
    go_enter Tryz.func13, Tryz.ntmps13
    go_wp2_with fail
    generalize w.alloc (.cells #[.int .i64 m, .slice A n c] 24) = W at *
    refine (specProfileOk m A n c vs _ hV hn HM.out).mono ?_; rintro e w1 ⟨rfl, b1⟩
    rw [hp]
    clear hp
    have bl1 := Below.on bl b1
    replace k0 := (b1.cell (p := ⟨w.heap.size, 0, none⟩) sk).trans k0
    replace k1 := (b1.cell (p := ⟨w.heap.size, 1, none⟩) sk).trans k1
    replace sk := Nat.lt_of_lt_of_le sk b1.size
    clear b1 hV bl
    have hal : Below w1.heap.size w1 (w1.alloc (.cells #[] 9)) := (Below.refl _ _).alloc (Nat.le_refl _) _
    have hst := ownS_empty w1 (Nat.le_refl w1.heap.size)
    have q0 := (hal.cell (p := ⟨w.heap.size, 0, none⟩) sk).trans k0
    have q1 := (hal.cell (p := ⟨w.heap.size, 1, none⟩) sk).trans k1
    go_wp2_with fail
    generalize hss : wordsV vs = ss at *
    have hsl : ss.length = n := by rw [← hss, wordsV_len]; exact HVL.out
    have HSS := Lib.hid hss; clear hss
    have HSL := Lib.hid hsl; clear hsl
    generalize w1.alloc (.cells #[] 9) = W0 at *
    go_loopw [3, 13] (fun u v wr => ∃ (k : Nat) (A' : Option Addr) (c' : Nat), (k : Int) ≤ n ∧ u = .slice A' k c' ∧ v = .int .i64 k ∧ OwnS wr w1.heap.size A' k c' (ss.take k) ∧ Below w1.heap.size w1 wr) (fun _ v _ => n - (intOf v).toNat)
    case atStart => exact ⟨0, _, _, by omega, rfl, rfl, hst, hal⟩
    case round =>
      obtain ⟨k, A', c', hk, rfl, rfl, hown, hb⟩ := hrel
      obtain ⟨wi, rfl⟩ : ∃ wi : World, wi = wr := ⟨_, rfl⟩
      have hVo := h.on (Below.on bl1 hb)
      by_cases hlt : (k : Int) < n
      · obtain ⟨b', ob', rfl, hbs', ⟨B, d, v1, v2, v3, v4, v5⟩⟩ := hVo.at_ (k := k) (by omega)
        have hvt := of_votes (of_prof HP.out).2.2 (k := k) (by rw [HVL.out]; omega)
        have hct := hvt.2
        have hrl := HM.out k (by omega)
        have hr5 := of_rank hvt.1
        have hz1 := fmtI_len (n := ct vs k) (by omega) (by omega)
        have HX := Lib.hid (word_text HP.out (k := k) (by rw [HVL.out]; omega))
        have hws := word_size HP.out (k := k) (by rw [HVL.out]; omega)
        rw [← HX.out, ByteArray.size_append, ByteArray.size_append] at hws
        have HWS := Lib.hid hws; clear hws
        have hz2 : (strOfNums (fmtI (ct vs k))).size ≤ 30 := by have := HWS.out; omega
        have hz3 : (fmtP (rk vs k)).size ≤ 30 := by have := HWS.out; omega
        have hcat1 : ¬ 9223372036854775807 < (strOfNums (fmtI (ct vs k))).size + 1 := by omega
        have hcat2 : ¬ 9223372036854775807 < (strOfNums (fmtI (ct vs k))).size + 1 + (fmtP (rk vs k)).size := by omega
        have hcat3 : ¬ 9223372036854775807 < (strOfNums (fmtI (ct vs k)) ++ (⟨#[42]⟩ : ByteArray)).size + (fmtP (rk vs k)).size := by rw [ByteArray.size_append]; have := HWS.out; omega
        have HTK : Hid (ss.take (k + 1) = ss.take k ++ [strOfNums (voteI (vnth vs k))]) := by rw [Hid, ← HSS.out]; exact wordsV_take (by rw [HVL.out]; omega)
        clear hvt hr5
        have hal2 : Below wi.heap.size wi (wi.alloc (.cells #[.slice B (rl vs k) d, .int .i64 (ct vs k)] 36)) := (Below.refl _ _).alloc (Nat.le_refl _) _
        have x0 : (wi.alloc (.cells #[.slice B (rl vs k) d, .int .i64 (ct vs k)] 36)).cell? ⟨wi.heap.size, 0, none⟩ = some (.slice B (rl vs k) d) := by simp
        have x1 : (wi.alloc (.cells #[.slice B (rl vs k) d, .int .i64 (ct vs k)] 36)).cell? ⟨wi.heap.size, 1, none⟩ = some (.int .i64 (ct vs k)) := by simp
        have sV : wi.heap.size < (wi.alloc (.cells #[.slice B (rl vs k) d, .int .i64 (ct vs k)] 36)).heap.size := by simp
        have hbA := hb.trans (hal2.mono hb.size)
        have hIA := v4.on hal2
        have ownA := ownS_on hown hal2
        have hbz := hb.size
        have HAZ := Lib.hid (fun (a : Addr) (ha : A' = some a) => Nat.ne_of_lt (own_ge hown a ha).2)
        clear hown
        go_wp2_with fail
        generalize wi.alloc (.cells #[.slice B (rl vs k) d, .int .i64 (ct vs k)] 36) = V at *
        generalize wi.heap.size = z at *
        refine wp_region_held_drew (S := (fun w' => w'.cell? ⟨z, 0, none⟩ = some (.slice B (rl vs k) d) ∧ w'.cell? ⟨z, 1, none⟩ = some (.int .i64 (ct vs k)))) (by kernel_rfl) ?_ (fun hHeld => ?_)
        · (try dsimp only); go_keep
        refine wpAnyH_take (i := 0) (v := ?_) rfl (by kernel_rfl) (by kernel_rfl) (by kernel_rfl) (fun _ _ _ h => h) (Or.inl ⟨by rfl, ?_⟩) (by assumption) ?_
        rotate_left
        · intro wq hSw; (try dsimp only at hSw); go_simp; (try with_reducible rfl)
        simp only [Act.put]
        refine wpAnyH_take (i := 1) (v := ?_) rfl (by kernel_rfl) (by kernel_rfl) (by kernel_rfl) (fun _ _ _ h => h) (Or.inl ⟨by rfl, ?_⟩) (by assumption) ?_
        rotate_left
        · intro wq hSw; (try dsimp only at hSw); go_simp; (try with_reducible rfl)
        simp only [Act.put]
        refine wpAnyH_take (i := 2) (v := ?_) rfl (by kernel_rfl) (by kernel_rfl) (by kernel_rfl) (fun _ _ _ h => h) (Or.inl ⟨by rfl, ?_⟩) (by assumption) ?_
        rotate_left
        · intro wq hSw; (try dsimp only at hSw); go_simp; (try with_reducible rfl)
        simp only [Act.put]
        refine wpAnyH_take (i := 5) (v := ?_) rfl (by kernel_rfl) (by kernel_rfl) (by kernel_rfl) (fun _ _ _ h => h) (Or.inl ⟨by rfl, ?_⟩) (by assumption) ?_
        rotate_left
        · intro wq hSw; (try dsimp only at hSw); go_simp; (try with_reducible rfl)
        simp only [Act.put]
        refine wpAnyH_take (i := 6) (v := ?_) rfl (by kernel_rfl) (by kernel_rfl) (by kernel_rfl) (fun _ _ _ h => h) (Or.inl ⟨by rfl, ?_⟩) (by assumption) ?_
        rotate_left
        · intro wq hSw; (try dsimp only at hSw); go_simp; (try with_reducible rfl)
        simp only [Act.put]
        refine wpAnyH_ready (rs := [3]) (by kernel_rfl) (by simp) ?_
        refine AllReadyH.cons rfl (fun K hK => ?_) ?_
        · skip
          go_simp
          go_at_call 24; refine (specFormatInt (ct vs k) _ (by omega) (by omega)).mono ?_; rintro e w4 ⟨rfl, b4⟩
          have bV : Below V.heap.size V w4 := (Below.drew (Below.refl _ _)).trans b4
          have e0 := (bV.cell (p := ⟨z, 0, none⟩) sV).trans x0
          have e1 := (bV.cell (p := ⟨z, 1, none⟩) sV).trans x1
          clear b4
          refine hK.out _ _ ?_ (fun hHeld => ?_)
          · (try dsimp only); go_keep
          clear hK K
          refine wpAnyH_ready (rs := [4, 7]) (by kernel_rfl) (by simp) ?_
          refine AllReadyH.cons rfl (fun K hK => ?_) ?_
          · skip
            go_simp
            refine hK.out _ _ ?_ (fun hHeld => ?_)
            · (try dsimp only); go_keep
            clear hK K
            refine wpAnyH_ready (rs := [7]) (by kernel_rfl) (by simp) ?_
            refine AllReadyH.cons rfl (fun K hK => ?_) ?_
            · skip
              go_simp
              go_at_call 28; refine (specFormatRanking B (rl vs k) d (rk vs k) _ (hIA.on bV) hrl).mono ?_; rintro e w5 ⟨rfl, b5⟩
              have bV5 := Below.on bV b5
              have e0 := (bV5.cell (p := ⟨z, 0, none⟩) sV).trans x0
              have e1 := (bV5.cell (p := ⟨z, 1, none⟩) sV).trans x1
              have s5 := bV5.size
              have sz5 : z < w5.heap.size := by omega
              have ho5 := ownS_on ownA bV5
              clear b5
              refine hK.out _ _ ?_ (fun hHeld => ?_)
              · (try dsimp only); go_keep
              clear hK K
              refine wpAnyH_ready (rs := [8]) (by kernel_rfl) (by simp) ?_
              refine AllReadyH.cons rfl (fun K hK => ?_) ?_
              · skip
                go_simp
                refine hK.out _ _ ?_ (fun hHeld => ?_)
                · (try dsimp only); go_keep
                clear hK K
                refine wpAnyH_ready (rs := [9]) (by kernel_rfl) (by simp) ?_
                refine AllReadyH.cons rfl (fun K hK => ?_) ?_
                · skip
                  go_simp
                  refine hK.out _ _ ?_ (fun hHeld => ?_)
                  · (try dsimp only); go_keep
                  clear hK K
                  refine wpAnyH_ready (rs := [10]) (by kernel_rfl) (by simp) ?_
                  refine AllReadyH.cons rfl (fun K hK => ?_) ?_
                  · skip
                    refine step_apS (w5.alloc (.cells #[.string (strOfNums (fmtI (ct vs k)) ++ (⟨#[42]⟩ : ByteArray) ++ fmtP (rk vs k))] 9)) rfl (.tmp 17) (.tmp 26) rfl w1.heap.size A' k c' (ss.take k) rfl (ownS_alloc ho5 (.cells #[.string (strOfNums (fmtI (ct vs k)) ++ (⟨#[42]⟩ : ByteArray) ++ fmtP (rk vs k))] 9)) ⟨w5.heap.size, 0, none⟩ 1 1 [(strOfNums (fmtI (ct vs k)) ++ (⟨#[42]⟩ : ByteArray) ++ fmtP (rk vs k))] rfl (strs_one w5 _ _) (by omega) (by simp; omega) ?_
                    intro A2 c2 w6 o6 g6 _p6
                    have gb := below_apS ((Below.on hbA bV5).alloc (by omega) (.cells #[.string (strOfNums (fmtI (ct vs k)) ++ (⟨#[42]⟩ : ByteArray) ++ fmtP (rk vs k))] 9)) (ownS_alloc ho5 (.cells #[.string (strOfNums (fmtI (ct vs k)) ++ (⟨#[42]⟩ : ByteArray) ++ fmtP (rk vs k))] 9)) g6 (by simp; omega)
                    have e0 := far_cellS g6 (by simp; omega) HAZ.out ((World.cell?_alloc_past (w := w5) (.cells #[.string (strOfNums (fmtI (ct vs k)) ++ (⟨#[42]⟩ : ByteArray) ++ fmtP (rk vs k))] 9) z 0 sz5).trans e0)
                    have e1 := far_cellS g6 (by simp; omega) HAZ.out ((World.cell?_alloc_past (w := w5) (.cells #[.string (strOfNums (fmtI (ct vs k)) ++ (⟨#[42]⟩ : ByteArray) ++ fmtP (rk vs k))] 9) z 1 sz5).trans e1)
                    have O6 := Lib.hid o6; have GB := Lib.hid gb
                    clear o6 g6 gb
                    refine hK.out _ _ ?_ (fun hHeld => ?_)
                    · (try dsimp only); go_keep
                    clear hK K
                    refine wpAnyH_ready (rs := [11]) (by kernel_rfl) (by simp) ?_
                    refine AllReadyH.cons rfl (fun K hK => ?_) ?_
                    · skip
                      go_simp
                      refine hK.out _ _ ?_ (fun hHeld => ?_)
                      · (try dsimp only); go_keep
                      clear hK K
                      refine wpAnyH_done (by kernel_rfl) ?_ _
                      go_simp
                      go_wp2_with fail
                      go_roundw
                      case rel => exact ⟨k + 1, A2, c2, by omega, rfl, by go_num, by have h := O6.out; rw [HX.out, ← HTK.out] at h; exact h, GB.out⟩
                      case measure => simp [intOf]; omega
                    exact AllReadyH.nil
                  exact AllReadyH.nil
                exact AllReadyH.nil
              exact AllReadyH.nil
            exact AllReadyH.nil
          refine AllReadyH.cons rfl (fun K hK => ?_) ?_
          · skip
            go_simp
            go_at_call 28; refine (specFormatRanking B (rl vs k) d (rk vs k) _ (hIA.on bV) hrl).mono ?_; rintro e w5 ⟨rfl, b5⟩
            have bV5 := Below.on bV b5
            have e0 := (bV5.cell (p := ⟨z, 0, none⟩) sV).trans x0
            have e1 := (bV5.cell (p := ⟨z, 1, none⟩) sV).trans x1
            have s5 := bV5.size
            have sz5 : z < w5.heap.size := by omega
            have ho5 := ownS_on ownA bV5
            clear b5
            refine hK.out _ _ ?_ (fun hHeld => ?_)
            · (try dsimp only); go_keep
            clear hK K
            refine wpAnyH_ready (rs := [4]) (by kernel_rfl) (by simp) ?_
            refine AllReadyH.cons rfl (fun K hK => ?_) ?_
            · skip
              go_simp
              refine hK.out _ _ ?_ (fun hHeld => ?_)
              · (try dsimp only); go_keep
              clear hK K
              refine wpAnyH_ready (rs := [8]) (by kernel_rfl) (by simp) ?_
              refine AllReadyH.cons rfl (fun K hK => ?_) ?_
              · skip
                go_simp
                refine hK.out _ _ ?_ (fun hHeld => ?_)
                · (try dsimp only); go_keep
                clear hK K
                refine wpAnyH_ready (rs := [9]) (by kernel_rfl) (by simp) ?_
                refine AllReadyH.cons rfl (fun K hK => ?_) ?_
                · skip
                  go_simp
                  refine hK.out _ _ ?_ (fun hHeld => ?_)
                  · (try dsimp only); go_keep
                  clear hK K
                  refine wpAnyH_ready (rs := [10]) (by kernel_rfl) (by simp) ?_
                  refine AllReadyH.cons rfl (fun K hK => ?_) ?_
                  · skip
                    refine step_apS (w5.alloc (.cells #[.string (strOfNums (fmtI (ct vs k)) ++ (⟨#[42]⟩ : ByteArray) ++ fmtP (rk vs k))] 9)) rfl (.tmp 17) (.tmp 26) rfl w1.heap.size A' k c' (ss.take k) rfl (ownS_alloc ho5 (.cells #[.string (strOfNums (fmtI (ct vs k)) ++ (⟨#[42]⟩ : ByteArray) ++ fmtP (rk vs k))] 9)) ⟨w5.heap.size, 0, none⟩ 1 1 [(strOfNums (fmtI (ct vs k)) ++ (⟨#[42]⟩ : ByteArray) ++ fmtP (rk vs k))] rfl (strs_one w5 _ _) (by omega) (by simp; omega) ?_
                    intro A2 c2 w6 o6 g6 _p6
                    have gb := below_apS ((Below.on hbA bV5).alloc (by omega) (.cells #[.string (strOfNums (fmtI (ct vs k)) ++ (⟨#[42]⟩ : ByteArray) ++ fmtP (rk vs k))] 9)) (ownS_alloc ho5 (.cells #[.string (strOfNums (fmtI (ct vs k)) ++ (⟨#[42]⟩ : ByteArray) ++ fmtP (rk vs k))] 9)) g6 (by simp; omega)
                    have e0 := far_cellS g6 (by simp; omega) HAZ.out ((World.cell?_alloc_past (w := w5) (.cells #[.string (strOfNums (fmtI (ct vs k)) ++ (⟨#[42]⟩ : ByteArray) ++ fmtP (rk vs k))] 9) z 0 sz5).trans e0)
                    have e1 := far_cellS g6 (by simp; omega) HAZ.out ((World.cell?_alloc_past (w := w5) (.cells #[.string (strOfNums (fmtI (ct vs k)) ++ (⟨#[42]⟩ : ByteArray) ++ fmtP (rk vs k))] 9) z 1 sz5).trans e1)
                    have O6 := Lib.hid o6; have GB := Lib.hid gb
                    clear o6 g6 gb
                    refine hK.out _ _ ?_ (fun hHeld => ?_)
                    · (try dsimp only); go_keep
                    clear hK K
                    refine wpAnyH_ready (rs := [11]) (by kernel_rfl) (by simp) ?_
                    refine AllReadyH.cons rfl (fun K hK => ?_) ?_
                    · skip
                      go_simp
                      refine hK.out _ _ ?_ (fun hHeld => ?_)
                      · (try dsimp only); go_keep
                      clear hK K
                      refine wpAnyH_done (by kernel_rfl) ?_ _
                      go_simp
                      go_wp2_with fail
                      go_roundw
                      case rel => exact ⟨k + 1, A2, c2, by omega, rfl, by go_num, by have h := O6.out; rw [HX.out, ← HTK.out] at h; exact h, GB.out⟩
                      case measure => simp [intOf]; omega
                    exact AllReadyH.nil
                  exact AllReadyH.nil
                exact AllReadyH.nil
              exact AllReadyH.nil
            exact AllReadyH.nil
          exact AllReadyH.nil
        exact AllReadyH.nil
      · obtain rfl : k = n := by omega
        have hown2 := hown
        rw [List.take_of_length_le (by rw [HSL.out]; omega)] at hown2
        have hS := Strs.of_own hown2
        have e0 := (hb.cell (p := ⟨w.heap.size, 0, none⟩) sk).trans k0
        have bw := Below.on bl1 hb
        clear hown hown2
        by_cases h0 : k = 0
        · subst h0
          have HF := Lib.hid (text_none HP.out HVL.out)
          have hfl := fmtI_len (n := m) (by omega) (by omega)
          have hz : (strOfNums (fmtI m)).size ≤ 30 := by rw [strOfNums_size]; omega
          have hzI : ((strOfNums (fmtI m)).size : Int) ≤ 30 := by omega
          go_wp2_with fail
          refine (specFormatInt m _ (by omega) (by omega)).mono ?_; rintro e w5 ⟨rfl, b5⟩
          go_wp2_with fail
          go_ret
          exact ⟨ret_stringF (by rw [HF.out]; exact strn_append [45] _), Below.on bw b5⟩
        · have HF := Lib.hid (text_some HP.out (by rw [HVL.out]; exact h0))
          have hk0 : ((k : Int) == 0) = false := by rw [beq_eq_false_iff_ne]; omega
          have hsum : sumSz ss k ≤ 1048576 := by
            have := sumSz_le (ss := ss) (b := 30) k (fun j hj => by rw [← HSS.out, wordsV_at (by rw [HVL.out]; exact hj)]; exact word_size HP.out (by rw [HVL.out]; exact hj))
            omega
          have HSM := Lib.hid hsum; clear hsum
          go_wp2_with fail
          refine (specJoin A' k c' ss ⟨#[32]⟩ _ hS (by omega) HSM.out (by decide)).mono ?_; rintro e w5 ⟨rfl, rfl⟩
          go_wp2_with fail
          go_ret
          exact ⟨ret_stringF (by rw [HF.out, HVL.out, ← HSS.out]; rfl), bw⟩
end Go.Proofs.YtkofjdddmpebmaaGreatDoor
