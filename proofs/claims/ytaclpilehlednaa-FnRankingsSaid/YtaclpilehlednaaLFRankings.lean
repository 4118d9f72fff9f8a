/- 'FnRankings': for every input the law returns true, and each argument reads behind the call as before it. No condition. -/
import Derived.Test.YtaclpilehlednaaRows
import Derived.Test.YtaclpilehlednaaFrame
import Derived.Test.YtaclpilehlednaaFrameBytes
import Derived.Test.YtaclpilehlednaaPlainFnR
import Derived.Test.YtaclpilehlednaaDraw
import Derived.Test.YtaclpilehlednaaSwap
import Derived.Test.YtaclpilehlednaaSwapT
namespace Go.Proofs.Ytaclpilehlednaa.fnRankings
open Go.ChangeShapes Go.WideShapes Go.ChangeAt Go.RowKit Go.Joins Go.Deep
open Go.ChangeMaps (open_string shut_string)
set_option linter.unusedVariables false

set_option maxHeartbeats 1000000 in
theorem lawSame (A B : Option Addr) (n c m d : Nat) (xs ys : List Int) (w : World) (h : Ints w A n xs) (h' : Ints w B m ys) (hn : (n : Int) ≤ 1048576) (hm : (m : Int) ≤ 1048576) :
    Calls Try.prog 22 #[.slice A n c, .slice B m d] w fun e w' => e = .returned (.bool (decide (xs = ys))) ∧ w = w' := by
  have HL := Lib.hid h.1
  have HM := Lib.hid h'.1
  cases hnm : ((n : Int) != (m : Int)) with
  | true =>
    have HF := Lib.hid (eqP_len (xs := xs) (ys := ys) (by rw [HL.out, HM.out]; simp at hnm; omega))
    go_enter Try.func22, Try.ntmps22
    go_wp2
    go_ret
    exact ⟨ret_bool HF.out.symm, rfl⟩
  | false =>
    obtain rfl : m = n := by simp at hnm; omega
    go_enter Try.func22, Try.ntmps22
    go_wp2
    go_loop [14] (fun u => ∃ k : Nat, (k : Int) ≤ m ∧ u = .int .i64 k ∧ (∀ j, j < k → nth xs j = nth ys j)) (fun u => m - (intOf u).toNat)
    case atStart => exact ⟨0, by omega, rfl, fun j hj => absurd hj (by omega)⟩
    case round =>
      obtain ⟨k, hk, rfl, hall⟩ := hrel
      have HA := Lib.hid hall; clear hall
      by_cases hlt : (k : Int) < m
      · obtain ⟨b, o, rfl, hbs, hc⟩ := h.at_ (k := k) (by omega)
        obtain ⟨b', o', rfl, hbs', hc'⟩ := h'.at_ (k := k) (by omega)
        cases hx : (nth xs k != nth ys k) with
        | true =>
          have HF := Lib.hid (eqP_no (xs := xs) (ys := ys) (k := k) (by simpa using hx))
          go_wp2
          go_ret
          exact ⟨ret_bool HF.out.symm, rfl⟩
        | false =>
          have HX := Lib.hid (show nth xs k = nth ys k by simpa using hx)
          go_wp2
          go_round
          case rel =>
            refine ⟨k + 1, by omega, by go_num, fun j hj => ?_⟩
            by_cases e : j = k
            · subst e; exact HX.out
            · exact HA.out j (by omega)
          case measure => simp [intOf]; omega
      · have HF := Lib.hid (eqP_yes (xs := xs) (ys := ys) (by rw [HL.out, HM.out]) (fun j hj => HA.out j (by rw [HL.out] at hj; omega)))
        go_wp2
        go_ret
        exact ⟨ret_bool HF.out.symm, rfl⟩

set_option maxRecDepth 100000 in
set_option maxHeartbeats 8000000 in
theorem walk (A : Option Addr) (n c : Nat) (z : Unit) (w : World) (hw : Byts w w.heap.size A n ∧ n ≤ c ∧ c ≤ maxLen) :
    Calls Try.prog 5 #[.slice A n c] w fun e w' => e = .returned (.bool true) ∧ Below w.heap.size w w' := by
  obtain ⟨h, hnc, hcm⟩ := hw
  have hcm' : (n : Int) ≤ 9223372036854775807 := by have : maxLen = 9223372036854775807 := rfl; omega
  by_cases hbig : 1048576 < (n : Int)
  · go_enter Try.func5, Try.ntmps5
    go_wp2
    go_ret
    exact ⟨rfl, Below.refl _ _⟩
  have hn : (n : Int) ≤ 1048576 := by omega
  go_enter Try.func5, Try.ntmps5
  go_wp2_with fail
  refine (specMakeNum A n c 0 _ h hn (by omega)).mono ?_; rintro e w1 ⟨r, rfl, r1, r2, b⟩
  have bl := b
  have h := h.on b
  clear b
  obtain ⟨m, hm⟩ : ∃ m : Nat, (m : Int) = 1 + r % 5 := ⟨(1 + r % 5).toNat, by omega⟩
  have hm1 : 1 ≤ (m : Int) := by omega
  have hm5 : (m : Int) ≤ 5 := by omega
  have HM := Lib.hid hm
  clear hm
  go_wp2_with fail
  rw [← HM.out]
  refine (specMakeRanking A n c 2 m _ h hn (by omega) hm1 hm5).mono ?_; rintro e w2 ⟨Aa, ca, rfl, xa, ra, oa, b⟩
  have Ra := Lib.hid ra; clear ra
  have bl := Below.on bl b
  have h := h.on b
  clear b
  go_wp2_with fail
  refine (specMakeRanking A n c 12 m _ h hn (by omega) hm1 hm5).mono ?_; rintro e w3 ⟨Ab, cb, rfl, xb, rb, ob, b⟩
  have Rb := Lib.hid rb; clear rb
  have bl := Below.on bl b
  have h := h.on b
  have oa := own_below oa b (Nat.le_refl _)
  clear b
  go_wp2_with fail
  refine (specMakeRanking A n c 22 m _ h hn (by omega) hm1 hm5).mono ?_; rintro e w4 ⟨Ac, cc, rfl, xc, rc, oc, b⟩
  have Rc := Lib.hid rc; clear rc
  have bl := Below.on bl b
  have h := h.on b
  have oa := own_below oa b (Nat.le_refl _)
  have ob := own_below ob b (Nat.le_refl _)
  clear b
  have hmn : (m : Int) ≤ 1048576 := by omega
  have ka : (m : Int) ≤ ca := by have := (own_cap oa).1; omega
  have kb : (m : Int) ≤ cb := by have := (own_cap ob).1; omega
  have kc : (m : Int) ≤ cc := by have := (own_cap oc).1; omega
  have S := Lib.hid (swapP_sym Ra.out Rb.out)
  have S0 := swapP_nonneg Ra.out Rb.out
  have SZ := Lib.hid (swapP_zero Ra.out Rb.out)
  have ST := swapP_tri Ra.out Rb.out Rc.out
  have SB := swapP_bd Ra.out Rb.out
  have SB2 := swapP_bd Rb.out Rc.out
  have SB3 := swapP_nonneg Rb.out Rc.out
  have SR := Lib.hid (swapP_rev Ra.out Rb.out)
  have SR1 := swapP_nonneg (rev_rank Ra.out).1 Rb.out
  have SR2 := swapP_bd (rev_rank Ra.out).1 Rb.out
  have NA := num_at Ra.out
  obtain ⟨NA1, NA2, NA3⟩ := NA
  have NA3 := Lib.hid NA3
  obtain ⟨ab, hab⟩ : ∃ ab, ab = swapP xa xb := ⟨_, rfl⟩
  rw [← hab] at S0 SZ ST SB S SR
  have HAB := Lib.hid hab; clear hab
  obtain ⟨bc, hbc⟩ : ∃ bc, bc = swapP xb xc := ⟨_, rfl⟩
  rw [← hbc] at ST SB2 SB3
  have HBC := Lib.hid hbc; clear hbc
  obtain ⟨ac, hac⟩ : ∃ ac, ac = swapP xa xc := ⟨_, rfl⟩
  rw [← hac] at ST
  have HAC := Lib.hid hac; clear hac
  obtain ⟨rb, hrb⟩ : ∃ rb, rb = swapP xa.reverse xb := ⟨_, rfl⟩
  rw [← hrb] at SR SR1 SR2
  have HRB := Lib.hid hrb; clear hrb
  obtain ⟨nu, hnu⟩ : ∃ nu, nu = numP xa := ⟨_, rfl⟩
  rw [← hnu] at NA1 NA2 NA3
  have HNU := Lib.hid hnu; clear hnu
  go_wp2_with fail
  refine (implSwapDistance _ _ _ xa _ _ _ xb _ (Ints.of_own oa) hmn (Ints.of_own ob) hmn ka kb).mono ?_; rintro e w' ⟨rfl, rfl⟩
  rw [← HAB.out]
  go_wp2_with fail
  refine (implAllRankings m _).mono ?_; rintro e w5 ⟨L, nL, cL, rfl, hs, oL, contL, b⟩
  have CL := Lib.hid contL; clear contL
  have hnL : (nL : Int) = (ranksP m).length := by rw [← oL.len, ← cont_len, CL.out]
  have hnL2 : (nL : Int) ≤ 1048576 := by rw [hnL]; have := ranks_len (m : Int); omega
  have bl := Below.on bl b
  have h := h.on b
  have oa := own_below oa b (Nat.le_refl _)
  have ob := own_below ob b (Nat.le_refl _)
  have oc := own_below oc b (Nat.le_refl _)
  clear b
  go_wp2_with fail
  refine (implRankingNumber _ _ _ xa _ (Ints.of_own oa) hmn).mono ?_; rintro e w6 ⟨rfl, b⟩
  rw [← HNU.out]
  have bl := Below.on bl b
  have h := h.on b
  have oa := own_below oa b (Nat.le_refl _)
  have ob := own_below ob b (Nat.le_refl _)
  have oc := own_below oc b (Nat.le_refl _)
  have oL := oL.below b (Nat.le_refl _)
  clear b
  have u1 : (ab != ab) = false := by simp
  have u0 : decide (ab < 0) = false := by simp; omega
  go_wp2_with fail
  refine (implSwapDistance _ _ _ xb _ _ _ xa _ (Ints.of_own ob) hmn (Ints.of_own oa) hmn kb ka).mono ?_; rintro e w' ⟨rfl, rfl⟩
  rw [S.out]
  go_wp2_with fail
  refine (lawSame _ _ _ _ _ _ xa xb _ (Ints.of_own oa) (Ints.of_own ob) hmn hmn).mono ?_; rintro e w' ⟨rfl, rfl⟩
  rw [← SZ.out]
  have u2 : ((ab == 0) != (ab == 0)) = false := by simp
  go_wp2_with fail
  refine (implSwapDistance _ _ _ xa _ _ _ xc _ (Ints.of_own oa) hmn (Ints.of_own oc) hmn ka kc).mono ?_; rintro e w' ⟨rfl, rfl⟩
  rw [← HAC.out]
  go_wp2_with fail
  refine (implSwapDistance _ _ _ xb _ _ _ xc _ (Ints.of_own ob) hmn (Ints.of_own oc) hmn kb kc).mono ?_; rintro e w' ⟨rfl, rfl⟩
  rw [← HBC.out]
  have u3 : decide (ab + bc < ac) = false := by simp; omega
  go_wp2_with fail
  refine (implReverseRanking _ _ _ xa _ (Ints.of_own oa) hmn).mono ?_; rintro e w7 ⟨Av, cv, rfl, ov, b⟩
  have bl := Below.on bl b
  have h := h.on b
  have oa := own_below oa b (Nat.le_refl _)
  have ob := own_below ob b (Nat.le_refl _)
  have oc := own_below oc b (Nat.le_refl _)
  have oL := oL.below b (Nat.le_refl _)
  clear b
  have kv : (m : Int) ≤ cv := by have := (own_cap ov).1; omega
  go_wp2_with fail
  refine (implSwapDistance _ _ _ xa.reverse _ _ _ xb _ (Ints.of_own ov) hmn (Ints.of_own ob) hmn kv kb).mono ?_; rintro e w' ⟨rfl, rfl⟩
  rw [← HRB.out]
  have hP : 0 ≤ (m : Int) * ((m : Int) - 1) ∧ (m : Int) * ((m : Int) - 1) ≤ 20 := by
    have : m = 1 ∨ m = 2 ∨ m = 3 ∨ m = 4 ∨ m = 5 := by omega
    rcases this with rfl | rfl | rfl | rfl | rfl <;> decide
  have u4 : (ab + rb != (m : Int) * ((m : Int) - 1) / 2) = false := by rw [SR.out]; simp
  have u5 : decide (nu < 0) = false := by simp; omega
  have u6 : decide ((nL : Int) ≤ nu) = false := by simp; omega
  obtain ⟨q, hq⟩ : ∃ q : Nat, nu = (q : Int) := ⟨nu.toNat, by omega⟩
  subst hq
  have hqL : q < nL := by omega
  have hck := cont_nth (hs := hs) (k := q) (by rw [oL.len]; omega)
  rw [CL.out, ← Int.toNat_natCast (q), NA3.out] at hck
  have HX : Hid (hx hs q = xa) := by rw [Hid]; injection hck with e; simpa using e.symm
  clear hck
  obtain ⟨bq, oq, rfl, hbq, g1, g2, g3, g4⟩ := oL.lists.at_ (k := q) hqL
  have hlq : (hl hs q : Int) ≤ 1048576 := by rw [hl, HX.out, rank_len Ra.out]; exact hmn
  go_wp2_with fail
  refine (lawSame _ _ _ _ _ _ (hx hs q) xa _ g4 (Ints.of_own oa) hlq hmn).mono ?_; rintro e w' ⟨rfl, rfl⟩
  rw [show decide (hx hs q = xa) = true by rw [HX.out]; simp]
  clear u0 u1 u2 u3 u4 u5 u6 hbq g1 g2 g3 g4 hlq ov kv
  go_wp2_with fail
  refine (specMakeNum A n c 40 _ h hn (by omega)).mono ?_; rintro e w20 ⟨r4, rfl, r41, r42, b⟩
  have bl := Below.on bl b
  have oa := own_below oa b (Nat.le_refl _)
  clear b
  have hx0 := Int.emod_nonneg r4 (show (m : Int) ≠ 0 by omega)
  have hx1 := Int.emod_lt_of_pos r4 (show 0 < (m : Int) by omega)
  obtain ⟨x, hx⟩ : ∃ x, x = r4 % (m : Int) := ⟨_, rfl⟩
  rw [← hx] at hx0 hx1
  have HXX := Lib.hid hx; clear hx
  obtain ⟨F1, F2, F3, F4⟩ := raise_facts Ra.out hx0 hx1
  have F1 := Lib.hid F1
  have F2 := Lib.hid F2
  have F3 := Lib.hid F3
  have F4 := Lib.hid F4
  have hib := (idx_bd xa x).1
  have hib2 := (idx_bd xa x).2.1
  have hra : xa.length = m := rank_len Ra.out
  obtain ⟨i, hi⟩ : ∃ i, i = idxP xa x := ⟨_, rfl⟩
  rw [← hi] at F1 F2 hib hib2
  rw [hra] at hib2
  have HI := Lib.hid hi; clear hi
  have HRA := Lib.hid hra; clear hra
  go_wp2_with fail
  rw [← HXX.out]
  refine (implRaiseIn _ _ _ xa _ _ (Ints.of_own oa) hmn ka).mono ?_; rintro e w21 ⟨Ar, cr, rfl, or, b⟩
  rw [F1.out]
  have hrl : ((raiseP xa x).length : Int) ≤ 1048576 := by have := raise_len xa x; rw [HRA.out] at this; omega
  have kr : ((raiseP xa x).length : Int) ≤ cr := by have := (own_cap or).1; omega
  have bl := Below.on bl b
  have oa := own_below oa b (Nat.le_refl _)
  clear b
  go_wp2_with fail
  refine (implWithoutCandidate _ _ _ xa _ _ (Ints.of_own oa) hmn ka).mono ?_; rintro e w22 ⟨Aw, cw, rfl, ow, b⟩
  rw [F3.out]
  have hwl : ((woP xa x).length : Int) ≤ 1048576 := by have := wo_len xa x; rw [HRA.out] at this; omega
  have kw : ((woP xa x).length : Int) ≤ cw := by have := (own_cap ow).1; omega
  have bl := Below.on bl b
  have oa := own_below oa b (Nat.le_refl _)
  have or := own_below or b (Nat.le_refl _)
  clear b
  go_wp2_with fail
  refine (implPlaceOf _ _ _ xa _ _ (Ints.of_own oa) hmn).mono ?_; rintro e w' ⟨rfl, rfl⟩
  rw [← HI.out]
  have u9 : (decide (1 < (m : Int)) == decide (1 < (m : Int))) = true := by simp
  by_cases hpos : 0 < i
  · obtain ⟨G1, G2⟩ := F2.out (by rw [F1.out]; simpa using hpos)
    have G1 := Lib.hid G1
    have G2 := Lib.hid G2
    have v1 : (i - 1 != i - 1) = false := by simp
    go_wp2_with fail
    refine (implSwapDistance _ _ _ xa _ _ _ (raiseP xa x) _ (Ints.of_own oa) hmn (Ints.of_own or) hrl ka kr).mono ?_; rintro e w' ⟨rfl, rfl⟩
    rw [G1.out]
    go_wp2_with fail
    refine (implPlaceOf _ _ _ (raiseP xa x) _ _ (Ints.of_own or) hrl).mono ?_; rintro e w' ⟨rfl, rfl⟩
    rw [G2.out]
    by_cases hm2 : 1 < (m : Int)
    · have W := Lib.hid (F4.out hm2)
      go_wp2_with fail
      refine (implRankingOk _ _ _ _ (woP xa x) _ (Ints.of_own ow) hwl kw).mono ?_; rintro e w' ⟨rfl, rfl⟩
      rw [W.out]
      go_wp2_with fail
      refine (implRankingOk _ _ _ _ xa _ (Ints.of_own oa) hmn ka).mono ?_; rintro e w' ⟨rfl, rfl⟩
      rw [Ra.out]
      go_wp2_with fail
      go_ret
      exact ⟨rfl, bl⟩
    · exfalso; omega
  · by_cases hm2 : 1 < (m : Int)
    · have W := Lib.hid (F4.out hm2)
      go_wp2_with fail
      refine (implRankingOk _ _ _ _ (woP xa x) _ (Ints.of_own ow) hwl kw).mono ?_; rintro e w' ⟨rfl, rfl⟩
      rw [W.out]
      go_wp2_with fail
      refine (implRankingOk _ _ _ _ xa _ (Ints.of_own oa) hmn ka).mono ?_; rintro e w' ⟨rfl, rfl⟩
      rw [Ra.out]
      go_wp2_with fail
      go_ret
      exact ⟨rfl, bl⟩
    · go_wp2_with fail
      refine (implRankingOk _ _ _ _ xa _ (Ints.of_own oa) hmn ka).mono ?_; rintro e w' ⟨rfl, rfl⟩
      rw [Ra.out]
      go_wp2_with fail
      go_ret
      exact ⟨rfl, bl⟩

set_option maxRecDepth 100000 in
theorem lifted (os : Os) (started : os.Started) (H : Type) (enc : TypeId × Value → H) :
    ReturnsInHanded {} Try.checked os 5 .any (Rows.fnRankingsSpec.pre6 enc Try.prog Try.f5 Rows.fnRankingsRow.domain false) (Rows.fnRankingsSpec.post enc Try.prog Try.f5 false true false false) := by
  refine returnsInHanded_of_change (C := Try.checked) own started (by kernel_rfl) Try.func5
    (ChangeSpec.witness6 (enc := enc) (C := Try.checked) false ⟨#[], #[.slice none 0 0], []⟩ 8 (by kernel_rfl) (by kernel_rfl) (by kernel_rfl) (by kernel_rfl)) ?_
  intro W base args ds gs before hval0 hW hcnd _
  have hval : ∀ (j : Nat) t v, Try.f5.params[j]? = some t → args[j]? = some v → Value.okWide Try.prog W .any base t v := hval0
  have hW' := hW
  obtain ⟨p, q, hA0, hV, rfl, hfz, hnd⟩ := hW
  have hA : DataW.TrodAll enc Try.prog W 0 (fun _ => true) true Try.f5.params.toList args.toList ds p := hA0
  rw [Try.params5] at hA hval
  obtain ⟨v0, vs0, d0, ds0, p0, q0, hargs, rfl, rfl, h0, r0⟩ := trodAll_cons hA
  obtain ⟨rfl, rfl, rfl⟩ := trodAll_nil r0
  obtain rfl : args = #[v0] := by cases args; simp_all
  obtain ⟨rfl, rfl⟩ := trodVars_none hV
  have k0 := h0
  have lt0 : ∀ x ∈ p0, x.block < W.heap.size := by obtain ⟨m, hm⟩ := k0; exact DataW.trod_lt m _ _ _ hm
  obtain ⟨A0, n0, c0, z0, rfl, w0⟩ := open_bytes_arg (hval 0 31 v0 rfl rfl) h0
  clear hA0 hval0
  refine (walk A0 n0 c0 z0 W w0).mono fun e W' ⟨he, bel⟩ => ?_
  subst he
  exact ⟨_, rfl, _, _, _, [], _, [], hW', trodAll_mk1 (shut_bool Try.underlying4 _), (trodAll_cons_mk (Below.trod laidOut (by kernel_rfl) (of_decide_eq_true (by kernel_rfl)) k0 bel lt0) trodAll_mk0), rfl, bel.frame _, fun h => by cases h⟩

theorem over : Rows.fnRankingsRow.holds Try.pinned (OpenSpec.ofChange Rows.fnRankingsSpec) :=
  OpenClaim.holds_of_wide 5 Try.f5 rfl rfl rfl rfl rfl rfl rfl ⟨rfl, rfl, rfl, rfl, rfl⟩ rfl rfl rfl rfl rfl (by kernel_rfl) Try.func5
    (joined_by _ _ _ _ _ (by kernel_rfl) laidOut mapsRowedYes (by kernel_rfl) (by kernel_rfl) (by kernel_rfl) stopsNone (by kernel_rfl) knobsNone (by kernel_rfl) (by kernel_rfl) (by kernel_rfl) (by kernel_rfl) (by kernel_rfl) (by kernel_rfl) (by kernel_rfl) (by kernel_rfl) (by kernel_rfl) (by kernel_rfl) (by kernel_rfl) (by kernel_rfl) (by kernel_rfl)
      (keys_fit _ _ keysPlain rfl) rfl heard mayEnterYes (lifted_fits _ _ liftsNo rfl) (make_fits _ _ makeCut rfl) rfl rfl (by kernel_rfl) (by kernel_rfl) (by kernel_rfl))
    (of_decide_eq_true (by kernel_rfl)) (by unfold Func.isWrapper; first | (rw [if_pos (by decide +kernel)]; kernel_rfl) | (rw [if_neg (by decide +kernel)]; exact ⟨rfl, rfl⟩))
    (fun os started H enc _ => lifted os started H enc)

theorem proved : Rows.FnRankingsSaid := over
end Go.Proofs.Ytaclpilehlednaa.fnRankings
