/- The candidates in order of their scores: what the program's and the reference's functions compute. -/
import Derived.Test.YtaclpilehlednaaSort
import Derived.Test.YtaclpilehlednaaScores
import Derived.Lib.SliceRun
namespace Go.Proofs.Ytaclpilehlednaa
open Go.RowKit
set_option maxRecDepth 100000

def srP (m : Int) (vs : List (List Int × Int)) (ws : List Int) : List Int := if scOk m vs ws then ordO (scoresP m vs ws) m.toNat else []
theorem sr_no {m : Int} {vs : List (List Int × Int)} {ws : List Int} (h : scOk m vs ws = false) : srP m vs ws = [] := by simp [srP, h]
theorem sr_yes {q : Nat} {vs : List (List Int × Int)} {ws : List Int} (h : scOk q vs ws = true) : srP q vs ws = ordO (scoresP q vs ws) q := by simp [srP, h]
theorem sr_len (m : Int) (vs : List (List Int × Int)) (ws : List Int) : (srP m vs ws).length ≤ 5 := by
  unfold srP
  cases h : scOk m vs ws with
  | false => simp
  | true =>
    simp only [scOk, Bool.and_eq_true] at h
    have := (of_prof h.1).1
    rw [if_pos rfl, ordO_len]; omega
theorem scOk_of {m : Int} {vs : List (List Int × Int)} {ws : List Int} (h : scOk m vs ws = true) : profP m vs = true ∧ weightsP m ws = true := by simpa [scOk] using h
/-- Scores are small. -/
theorem sc_small {n q : Nat} {vs : List (List Int × Int)} {ws : List Int} (hl : vs.length = n) (h : scOk q vs ws = true) : ∀ j, 0 ≤ nth (scL vs ws n q) j ∧ nth (scL vs ws n q) j ≤ 100000000 := fun j => by
  obtain ⟨h1, h2⟩ := scOk_of h
  obtain ⟨hq, hn, hw, hf⟩ := sc_facts hl h1 h2
  by_cases hj : j < q
  · rw [scL_nth hj]
    have := scT_bd (vs := vs) (ws := ws) j n (fun k hk => by
      obtain ⟨e, _, _, e2⟩ := hf k hk
      exact ⟨by omega, fun i hi => e2 i (by omega)⟩)
    omega
  · have e : nth (scL vs ws n q) j = 0 := by
      unfold nth
      simp only [List.getD]
      rw [List.getElem?_eq_none (by rw [scL_len]; omega)]; rfl
    rw [e]; omega

set_option maxHeartbeats 4000000 in
theorem implScoreRanking (m : Int) (A : Option Addr) (n c : Nat) (vs : List (List Int × Int)) (C : Option Addr) (n1 c1 : Nat) (ws : List Int) (w : World) (h : Votes w A n vs) (hn : (n : Int) ≤ 1048576) (hm : ∀ j, j < n → (rl vs j : Int) ≤ 1048576) (h' : Ints w C n1 ws) (hn1 : (n1 : Int) ≤ 1048576) :
    Calls Try.prog 40 #[.agg #[.int .i64 m, .slice A n c], .slice C n1 c1] w fun e w' => ∃ A' c', e = .returned (.slice A' (srP m vs ws).length c') ∧ Own w' w.heap.size A' (srP m vs ws).length c' (srP m vs ws) ∧ Below w.heap.size w w' := by
  have bl : Below w.heap.size w (w.alloc (.cells #[.int .i64 m, .slice A n c] 56)) := (Below.refl _ _).alloc (Nat.le_refl _) _
  have k0 : (w.alloc (.cells #[.int .i64 m, .slice A n c] 56)).cell? ⟨w.heap.size, 0, none⟩ = some (.int .i64 m) := by simp
  have sW : w.heap.size < (w.alloc (.cells #[.int .i64 m, .slice A n c] 56)).heap.size := by simp
  have hV := h.on bl
  have hI := h'.on bl
  have HM := Lib.hid hm; clear hm
  have HL := Lib.hid h.1
  cases hok : scOk m vs ws with
  | false =>
    rw [sr_no hok]
    have HS : Hid ((scoresP m vs ws).length = 0) := by rw [Hid, sc_no hok]; rfl
    have HO := Lib.hid hok; clear hok
    go_enter Try.func40, Try.ntmps40
    go_wp2_with fail
    refine (implScoresOf m A n c vs C n1 c1 ws _ hV hn HM.out hI hn1).mono ?_; rintro e w1 ⟨A1, c1', rfl, hs, o1, b1⟩
    rw [HO.out] at hs
    obtain rfl : A1 = none := by cases A1 with | none => rfl | some a => cases hs
    rw [HS.out]
    clear hs o1
    have bl1 := Below.on bl b1
    have hq := Lib.run_eql_slice_nil (P := Try.prog) (w1.alloc (.cells #[.slice none 0 c1'] 22)) 22 3 none 0 c1' 0 0 Try.underlying22
    go_wp2_with fail
    go_ret
    exact ⟨none, 0, rfl, own_nil _ _, bl1.alloc bl1.size _⟩
  | true =>
    obtain ⟨h1, h2⟩ := scOk_of hok
    obtain ⟨q, rfl⟩ : ∃ q : Nat, m = (q : Int) := ⟨m.toNat, by have := (of_prof h1).1; omega⟩
    have hq15 := (of_prof h1).1
    have hsy := sc_yes HL.out hok
    have hsl : (scoresP q vs ws).length = q := by rw [hsy, scL_len]
    have HSS : Hid (∀ j, 0 ≤ nth (scoresP q vs ws) j ∧ nth (scoresP q vs ws) j ≤ 100000000) := by rw [Hid, hsy]; exact sc_small HL.out hok
    have HY := Lib.hid (sr_yes hok)
    have HYL : Hid ((srP q vs ws).length = q) := by rw [Hid, HY.out, ordO_len]
    rw [HYL.out]
    have HSL := Lib.hid hsl
    have HO := Lib.hid hok
    clear hok h1 h2 hsl hsy
    go_enter Try.func40, Try.ntmps40
    go_wp2_with fail
    refine (implScoresOf q A n c vs C n1 c1 ws _ hV hn HM.out hI hn1).mono ?_; rintro e w1 ⟨A1, c1', rfl, hs, o1, b1⟩
    rw [HO.out] at hs
    obtain ⟨ad, rfl⟩ : ∃ ad, A1 = some ad := by cases A1 with | none => cases hs | some a => exact ⟨a, rfl⟩
    rw [HSL.out] at o1 ⊢
    clear hs
    have bl1 := Below.on bl b1
    have k1 := (b1.cell (p := ⟨w.heap.size, 0, none⟩) sW).trans k0
    have s1 : w.heap.size < w1.heap.size := Nat.lt_of_lt_of_le sW b1.size
    have bx : Below w1.heap.size w1 (w1.alloc (.cells #[.slice (some ad) q c1'] 22)) := (Below.refl _ _).alloc (Nat.le_refl _) _
    have hsc := (Ints.of_own o1).on bx
    have kP : (w1.alloc (.cells #[.slice (some ad) q c1'] 22)).cell? ⟨w1.heap.size, 0, none⟩ = some (.slice (some ad) q c1') := by simp
    have sP : w1.heap.size < (w1.alloc (.cells #[.slice (some ad) q c1'] 22)).heap.size := by simp
    have bl2 := Below.on bl1 bx
    have hq := Lib.run_eql_slice_nil (P := Try.prog) (w1.alloc (.cells #[.slice (some ad) q c1'] 22)) 22 3 (some ad) q c1' 0 0 Try.underlying22
    go_wp2_with fail
    clear hq
    refine (implIndices q _ (by omega)).mono ?_; rintro e w2 ⟨A2, c2, rfl, o2, b2⟩
    have bl3 := Below.on bl2 b2
    have hsc2 := hsc.on b2
    have kP2 := (b2.cell (p := ⟨w1.heap.size, 0, none⟩) sP).trans kP
    have hin := hsc.in_
    obtain ⟨g, rfl, hg0, hg1⟩ := own_form o2 (by omega)
    go_wp2_with fail
    refine (libSortStable _ g c2 q (some ad) c1' w1.heap.size (scoresP q vs ws) _ (by omega) (by omega) o2 kP2 sP hsc2 hin b2.size HSS.out).mono ?_; rintro e w3 ⟨rfl, o3, g3⟩
    rw [← HY.out] at o3
    go_wp2_with fail
    go_ret
    have hw0 : w.heap.size ≤ (w1.alloc (.cells #[.slice (some ad) q c1'] 22)).heap.size := by simp; omega
    exact ⟨some ⟨g, 0, none⟩, c2, rfl, own_mono o3 hw0, bl3.grown g3 bl3.size (fun j hj => by injection hj with hj; omega)⟩

set_option maxHeartbeats 8000000 in
theorem specScoreRanking (m : Int) (A : Option Addr) (n c : Nat) (vs : List (List Int × Int)) (C : Option Addr) (n1 c1 : Nat) (ws : List Int) (w : World) (h : Votes w A n vs) (hn : (n : Int) ≤ 1048576) (hm : ∀ j, j < n → (rl vs j : Int) ≤ 1048576) (h' : Ints w C n1 ws) (hn1 : (n1 : Int) ≤ 1048576) :
    Calls Try.prog 39 #[.agg #[.int .i64 m, .slice A n c], .slice C n1 c1] w fun e w' => ∃ A' c', e = .returned (.slice A' (srP m vs ws).length c') ∧ Own w' w.heap.size A' (srP m vs ws).length c' (srP m vs ws) ∧ Below w.heap.size w w' := by
  have bl : Below w.heap.size w (w.alloc (.cells #[.int .i64 m, .slice A n c] 56)) := (Below.refl _ _).alloc (Nat.le_refl _) _
  have k0 : (w.alloc (.cells #[.int .i64 m, .slice A n c] 56)).cell? ⟨w.heap.size, 0, none⟩ = some (.int .i64 m) := by simp
  have k1 : (w.alloc (.cells #[.int .i64 m, .slice A n c] 56)).cell? ⟨w.heap.size, 1, none⟩ = some (.slice A n c) := by simp
  have sW : w.heap.size < (w.alloc (.cells #[.int .i64 m, .slice A n c] 56)).heap.size := by simp
  have hV := h.on bl
  have hI := h'.on bl
  have HM := Lib.hid hm; clear hm
  have HL := Lib.hid h.1
  cases hok : scOk m vs ws with
  | false =>
    rw [sr_no hok]
    have HO := Lib.hid hok; clear hok
    go_enter Try.func39, Try.ntmps39
    go_wp2_with fail
    refine (specL05Ok m A n c vs C n1 c1 ws _ hV hn HM.out hI hn1).mono ?_; rintro e w1 ⟨rfl, b1⟩
    rw [HO.out]
    have bl1 := Below.on bl b1
    go_wp2_with fail
    go_ret
    exact ⟨none, 0, rfl, own_nil _ _, bl1⟩
  | true =>
    obtain ⟨h1, h2⟩ := scOk_of hok
    obtain ⟨q, rfl⟩ : ∃ q : Nat, m = (q : Int) := ⟨m.toNat, by have := (of_prof h1).1; omega⟩
    have hq15 := (of_prof h1).1
    have hsy := sc_yes HL.out hok
    have hss : ∀ j, 0 ≤ nth (scL vs ws n q) j ∧ nth (scL vs ws n q) j ≤ 100000000 := sc_small HL.out hok
    have HY := Lib.hid (sr_yes hok)
    have HYL : Hid ((srP q vs ws).length = q) := by rw [Hid, HY.out, ordO_len]
    rw [HYL.out]
    have hy2 := HY.out
    rw [hsy] at hy2
    obtain ⟨ss, hss2⟩ : ∃ ss, ss = scL vs ws n q := ⟨_, rfl⟩
    rw [← hss2] at hss hy2
    have HSS := Lib.hid hss
    have HS2 := Lib.hid hss2
    have HY2 := Lib.hid hy2
    have HO := Lib.hid hok
    have H1 := Lib.hid h1
    have H2 := Lib.hid h2
    clear hok h1 h2 hsy hss hss2 hy2 HY
    go_enter Try.func39, Try.ntmps39
    go_wp2_with fail
    refine (specL05Ok q A n c vs C n1 c1 ws _ hV hn HM.out hI hn1).mono ?_; rintro e w1 ⟨rfl, b1⟩
    rw [HO.out]
    have bl1 := Below.on bl b1
    have hV1 := hV.on b1
    have hI1 := hI.on b1
    have k01 := (b1.cell (p := ⟨w.heap.size, 0, none⟩) sW).trans k0
    have k11 := (b1.cell (p := ⟨w.heap.size, 1, none⟩) sW).trans k1
    go_wp2_with fail
    refine (specL05Scores q A n c vs C n1 c1 ws _ hV1 hI1 H1.out H2.out).mono ?_; rintro e w2 ⟨g, rfl, o2, b2⟩
    rw [← HS2.out] at o2
    have bl2 := Below.on bl1 b2
    have hb0 : Below w2.heap.size w2 (w2.alloc (.cells #[] 3)) := (Below.refl _ _).alloc (Nat.le_refl _) _
    have he0 := own_empty w2 (Nat.le_refl w2.heap.size)
    have hS := Ints.of_own o2
    go_wp2_with fail
    go_loopw [6, 20] (fun u v wr => ∃ (a gp : Nat) (d : Nat), (a : Int) ≤ q ∧ u = .slice (some ⟨gp, 0, none⟩) a d ∧ v = .int .i64 a ∧ Own wr w2.heap.size (some ⟨gp, 0, none⟩) a d (ordO ss a) ∧ Below w2.heap.size w2 wr) (fun _ v _ => q - (intOf v).toNat)
    case atStart => exact ⟨0, w2.heap.size, 0, by omega, rfl, rfl, he0, hb0⟩
    case round =>
      obtain ⟨a, gp, d, ha, rfl, rfl, hown, hb⟩ := hrel
      obtain ⟨wo, rfl⟩ : ∃ wo : World, wo = wr := ⟨_, rfl⟩
      by_cases hlt : (a : Int) < q
      · have hSo := hS.on hb
        have hOI := Ints.of_own hown
        have HLa := Lib.hid (ordO_len ss a)
        have HAT := Lib.hid (ordO_at ss a)
        have HD := Lib.hid (ordO_desc ss a)
        have hcap := own_cap hown
        have hcap1 : (a : Int) ≤ d := by omega
        obtain ⟨bs, os, hes, hbs, hsa⟩ := hSo.at_ (k := a) (by omega)
        injection hes with hes
        injection hes with hes1 hes2 _
        subst hes1
        subst hes2
        rw [Nat.zero_add] at hsa
        go_wp2_with fail
        go_loopw [8] (fun u wi => ∃ k : Nat, (k : Int) ≤ a ∧ u = .int .i64 k ∧ (∀ t, t < k → sv ss a ≤ sv ss (nth (ordO ss a) t)) ∧ ∃ z, wi = wo.drewN z) (fun u _ => a - (intOf u).toNat)
        case atStart => exact ⟨0, by omega, rfl, fun t ht => absurd ht (by omega), 0, rfl⟩
        case round =>
          obtain ⟨k, hk, rfl, hall, z, rfl⟩ := hrel
          have HA := Lib.hid hall; clear hall
          by_cases hka : (k : Int) < a
          · obtain ⟨bo, oo, heo, hbo, hox⟩ := hOI.at_ (k := k) (by omega)
            injection heo with heo
            injection heo with heo1 heo2 _
            subst heo1
            subst heo2
            rw [Nat.zero_add] at hox
            have hyb := HAT.out k (by omega)
            obtain ⟨y, hy⟩ : ∃ y : Nat, nth (ordO ss a) k = (y : Int) := ⟨(nth (ordO ss a) k).toNat, by omega⟩
            rw [hy] at hox hyb
            have HYY := Lib.hid hy; clear hy
            obtain ⟨by', oy, hey, hby, hsy⟩ := hSo.at_ (k := y) (by omega)
            injection hey with hey
            injection hey with hey1 hey2 _
            subst hey1
            subst hey2
            rw [Nat.zero_add] at hsy
            have hyq : (y : Int) < q := by omega
            have SY : Hid (sv ss (nth (ordO ss a) k) = nth ss y) := by rw [Hid, HYY.out]; rfl
            have SA : Hid (sv ss (a : Int) = nth ss a) := rfl
            by_cases hge : nth ss a ≤ nth ss y
            · go_wp2_with fail
              go_quiet (fail)
              go_wp2_with fail
              go_roundw
              case rel =>
                refine ⟨k + 1, by omega, by go_num, fun t ht => ?_, z + nq, by first | rfl | rw [World.drewN_drewN]⟩
                by_cases e : t = k
                · subst e; rw [SY.out, SA.out]; exact hge
                · exact HA.out t (by omega)
              case measure => simp [intOf]; omega
            · go_wp2_with fail
              go_quiet (fail)
              have hcz : Cut ss (ordO ss a) a k := ⟨by rw [HLa.out]; omega, HA.out, fun t h1 ht => by have := HD.out k t h1 ht; rw [SY.out] at this; rw [SA.out]; omega⟩
              have hka : k ≤ a := by omega
              have bW := below_drewN (below_drewN hb z) nq
              have hOW : Ints ((wo.drewN z).drewN nq) (some ⟨gp, 0, none⟩) a (ordO ss a) := hOI
              have hsW : Ints ((wo.drewN z).drewN nq) (some ⟨g, 0, none⟩) q ss := hSo
              generalize (wo.drewN z).drewN nq = W at *
              have htk := hOW.take (k := k) hka
              have hcut := hOW.cut (k := k) (cap := d) hka (by omega)
              have hE := Lib.hid ((ordO_step hcz).symm)
              clear hcz
              have hgW := hown.lt
              have hWs := bW.size
              have hk1 : (k : Int) ≤ d := by omega
              have hk2 : (k : Int) ≤ a := by omega
              by_cases hd : d = k
              · exfalso; omega
              · have hcut : Ints W (some ⟨gp, k, none⟩) (a - k) ((ordO ss a).drop k) := by rw [if_neg hd] at hcut; simpa [Addr.add_lit] using hcut
                go_wp2_with (first | (at_builtin; refine wpList_apnew _ rfl _ _ rfl rfl (some ⟨gp, 0, none⟩) k d ((ordO ss a).take k) rfl htk (by omega) ?_; intro A1 c1' w3 o3 b3; have hcut3 := hcut.on b3) | (at_builtin; refine wpList_ap _ rfl _ _ rfl W.heap.size A1 k c1' ((ordO ss a).take k) rfl (own_alloc o3 _) (some ⟨w3.heap.size, 0, none⟩) 1 1 [(a : Int)] rfl (ints_one w3 _ _) (by omega) (by simp; have := b3.size; omega) ?_; intro A2 c2' w4 o4 g4 hblk4; have b4 := below_ap (b3.alloc b3.size _) (own_alloc o3 _) g4 (by simp; have := b3.size; omega); have hcut4 := hcut.on b4) | (at_builtin; refine wpList_ap _ rfl _ _ rfl W.heap.size A2 (k + 1) c2' ((ordO ss a).take k ++ [(a : Int)]) rfl o4 (some ⟨gp, k, none⟩) (a - k) (d - k) ((ordO ss a).drop k) rfl hcut4 (by omega) b4.size ?_; intro A3 c3 w5 o5 g5 hblk5; have b5 := below_ap b4 o4 g5 b4.size))
                have hnn : k + 1 + (a - k) = a + 1 := by omega
                rw [hnn] at o5
                obtain ⟨g5', rfl, _, _⟩ := own_form o5 (by omega)
                go_roundw
                case rel => first | exact ⟨a + 1, g5', c3, by omega, by rw [hnn], by go_num, by rw [← hE.out, insAt, ← List.singleton_append, ← List.append_assoc]; exact own_mono o5 hWs, bW.trans (b5.mono hWs)⟩ | exact ⟨_, _, _, _, _, _, _, _, _, _, _, _, _, _, _, _, ⟨a + 1, g5', c3, by omega, by rw [hnn], by go_num, by rw [← hE.out, insAt, ← List.singleton_append, ← List.append_assoc]; exact own_mono o5 hWs, bW.trans (b5.mono hWs)⟩, rfl, rfl, rfl, rfl, rfl, rfl, rfl, rfl, rfl, rfl, rfl, rfl, rfl, rfl, rfl, rfl⟩
                case measure => simp [intOf]; omega
          · have hcz : Cut ss (ordO ss a) a k := ⟨by rw [HLa.out]; omega, HA.out, fun t h1 ht => by rw [HLa.out] at ht; omega⟩
            have hz : decide (k < a) = false := decide_eq_false (by omega)
            go_wp2_with fail
            go_quiet (fail)
            have hka : k ≤ a := by omega
            have bW := below_drewN (below_drewN hb z) nq
            have hOW : Ints ((wo.drewN z).drewN nq) (some ⟨gp, 0, none⟩) a (ordO ss a) := hOI
            have hsW : Ints ((wo.drewN z).drewN nq) (some ⟨g, 0, none⟩) q ss := hSo
            generalize (wo.drewN z).drewN nq = W at *
            have htk := hOW.take (k := k) hka
            have hcut := hOW.cut (k := k) (cap := d) hka (by omega)
            have hE := Lib.hid ((ordO_step hcz).symm)
            clear hcz
            have hgW := hown.lt
            have hWs := bW.size
            have hk1 : (k : Int) ≤ d := by omega
            have hk2 : (k : Int) ≤ a := by omega
            by_cases hd : d = k
            · have hcut : Ints W (some ⟨gp, 0, none⟩) (a - k) ((ordO ss a).drop k) := by rw [if_pos hd] at hcut; exact hcut
              go_wp2_with (first | (at_builtin; refine wpList_apnew _ rfl _ _ rfl rfl (some ⟨gp, 0, none⟩) k k ((ordO ss a).take k) rfl htk (by omega) ?_; intro A1 c1' w3 o3 b3; have hcut3 := hcut.on b3) | (at_builtin; refine wpList_ap _ rfl _ _ rfl W.heap.size A1 k c1' ((ordO ss a).take k) rfl (own_alloc o3 _) (some ⟨w3.heap.size, 0, none⟩) 1 1 [(a : Int)] rfl (ints_one w3 _ _) (by omega) (by simp; have := b3.size; omega) ?_; intro A2 c2' w4 o4 g4 hblk4; have b4 := below_ap (b3.alloc b3.size _) (own_alloc o3 _) g4 (by simp; have := b3.size; omega); have hcut4 := hcut.on b4) | (at_builtin; refine wpList_ap _ rfl _ _ rfl W.heap.size A2 (k + 1) c2' ((ordO ss a).take k ++ [(a : Int)]) rfl o4 (some ⟨gp, 0, none⟩) (a - k) 0 ((ordO ss a).drop k) rfl hcut4 (by omega) b4.size ?_; intro A3 c3 w5 o5 g5 hblk5; have b5 := below_ap b4 o4 g5 b4.size))
              have hnn : k + 1 + (a - k) = a + 1 := by omega
              rw [hnn] at o5
              obtain ⟨g5', rfl, _, _⟩ := own_form o5 (by omega)
              go_roundw
              case rel => first | exact ⟨a + 1, g5', c3, by omega, by rw [hnn], by go_num, by rw [← hE.out, insAt, ← List.singleton_append, ← List.append_assoc]; exact own_mono o5 hWs, bW.trans (b5.mono hWs)⟩ | exact ⟨_, _, _, _, _, _, _, _, _, _, _, _, _, _, _, _, ⟨a + 1, g5', c3, by omega, by rw [hnn], by go_num, by rw [← hE.out, insAt, ← List.singleton_append, ← List.append_assoc]; exact own_mono o5 hWs, bW.trans (b5.mono hWs)⟩, rfl, rfl, rfl, rfl, rfl, rfl, rfl, rfl, rfl, rfl, rfl, rfl, rfl, rfl, rfl, rfl⟩
              case measure => simp [intOf]; omega
            · have hcut : Ints W (some ⟨gp, k, none⟩) (a - k) ((ordO ss a).drop k) := by rw [if_neg hd] at hcut; simpa [Addr.add_lit] using hcut
              go_wp2_with (first | (at_builtin; refine wpList_apnew _ rfl _ _ rfl rfl (some ⟨gp, 0, none⟩) k d ((ordO ss a).take k) rfl htk (by omega) ?_; intro A1 c1' w3 o3 b3; have hcut3 := hcut.on b3) | (at_builtin; refine wpList_ap _ rfl _ _ rfl W.heap.size A1 k c1' ((ordO ss a).take k) rfl (own_alloc o3 _) (some ⟨w3.heap.size, 0, none⟩) 1 1 [(a : Int)] rfl (ints_one w3 _ _) (by omega) (by simp; have := b3.size; omega) ?_; intro A2 c2' w4 o4 g4 hblk4; have b4 := below_ap (b3.alloc b3.size _) (own_alloc o3 _) g4 (by simp; have := b3.size; omega); have hcut4 := hcut.on b4) | (at_builtin; refine wpList_ap _ rfl _ _ rfl W.heap.size A2 (k + 1) c2' ((ordO ss a).take k ++ [(a : Int)]) rfl o4 (some ⟨gp, k, none⟩) (a - k) (d - k) ((ordO ss a).drop k) rfl hcut4 (by omega) b4.size ?_; intro A3 c3 w5 o5 g5 hblk5; have b5 := below_ap b4 o4 g5 b4.size))
              have hnn : k + 1 + (a - k) = a + 1 := by omega
              rw [hnn] at o5
              obtain ⟨g5', rfl, _, _⟩ := own_form o5 (by omega)
              go_roundw
              case rel => first | exact ⟨a + 1, g5', c3, by omega, by rw [hnn], by go_num, by rw [← hE.out, insAt, ← List.singleton_append, ← List.append_assoc]; exact own_mono o5 hWs, bW.trans (b5.mono hWs)⟩ | exact ⟨_, _, _, _, _, _, _, _, _, _, _, _, _, _, _, _, ⟨a + 1, g5', c3, by omega, by rw [hnn], by go_num, by rw [← hE.out, insAt, ← List.singleton_append, ← List.append_assoc]; exact own_mono o5 hWs, bW.trans (b5.mono hWs)⟩, rfl, rfl, rfl, rfl, rfl, rfl, rfl, rfl, rfl, rfl, rfl, rfl, rfl, rfl, rfl, rfl⟩
              case measure => simp [intOf]; omega
      · obtain rfl : a = q := by omega
        go_wp2_with fail
        go_ret
        exact ⟨some ⟨gp, 0, none⟩, d, rfl, by rw [HY2.out]; exact own_mono hown bl2.size, bl2.trans (hb.mono bl2.size)⟩
end Go.Proofs.Ytaclpilehlednaa
