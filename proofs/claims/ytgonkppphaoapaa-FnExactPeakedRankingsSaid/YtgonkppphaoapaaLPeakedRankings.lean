/- 'FnExactPeakedRankings': for every input the law returns true, and each argument reads behind the call as before it. No condition. -/
import Derived.Test.YtgonkppphaoapaaRows
import Derived.Test.YtgonkppphaoapaaFrame
import Derived.Test.YtgonkppphaoapaaPeakedR
import Derived.Test.YtgonkppphaoapaaLists
import Derived.Test.YtgonkppphaoapaaFrameInts
namespace Go.Proofs.Ytgonkppphaoapaa.fnExactPeakedRankings
open Go.ChangeShapes Go.WideShapes Go.ChangeAt Go.RowKit Go.Joins Go.Deep
open Go.ChangeMaps (open_string shut_string)
set_option linter.unusedVariables false

theorem cont_n {hs : List Hd} {ax : List Int} (h : cont hs = pkR ax) : hs.length ≤ 120 := by
  rw [← cont_len, h]; exact (pkR_small ax).1
theorem cont_b {hs : List Hd} {ax : List Int} (h : cont hs = pkR ax) {k : Nat} (hk : k < hs.length) : (hl hs k : Int) ≤ 5 := by
  have h1 := cont_nth hk
  rw [h] at h1
  have := (pkR_small ax).2 _ (List.mem_of_getElem? h1)
  have h2 : (hx hs k).length = hl hs k := rfl
  omega
theorem same_n {hs ks : List Hd} {ax : List Int} (h : cont hs = pkR ax) (h' : cont ks = pkR ax) : hs.length = ks.length := by
  rw [← cont_len, h, ← h', cont_len]
set_option maxHeartbeats 4000000 in
theorem walk (A0 : Option Addr) (n0 c0 : Nat) (z0 : List Int) (w : World) (hw0 : Ints w A0 n0 z0 ∧ n0 ≤ c0 ∧ c0 ≤ maxLen ∧ I64 z0) :
    Calls Try.prog 20 #[.slice A0 n0 c0] w fun e w' => e = .returned (.bool true) ∧ Below w.heap.size w w' := by
  obtain ⟨h0, _hnc0, _hcm0, hi0⟩ := hw0
  clear hi0
  by_cases hn0 : 1048576 < (n0 : Int)
  · go_enter Try.func20, Try.ntmps20
    go_wp2
    go_ret
    exact ⟨rfl, Below.refl _ _⟩
  have hn0 : (n0 : Int) ≤ 1048576 := by omega
  go_enter Try.func20, Try.ntmps20
  go_wp2_with fail
  refine (toIntS A0 n0 c0 z0 _ h0 hn0).mono ?_; rintro e w1 ⟨rfl, q0, bl1⟩
  have s1 := bl1.size
  go_wp2_with fail
  refine (specPeakedRankings _ n0 _ z0 _ (Ints.of_own q0) hn0).mono ?_; rintro e w2 ⟨Ar, nr, cr, rfl, hr, r, er, b2⟩
  have ER := Lib.hid er; clear er q0
  have hnr : nr = hr.length := r.len.symm
  have bnr : (nr : Int) ≤ 1048576 := by have := cont_n ER.out; omega
  have inr := r.inn
  have bbr : Hid (∀ k, k < nr → (hl hr k : Int) ≤ 1048576) := fun k hk => by have := cont_b ER.out (k := k) (by omega); omega
  have HNR := Lib.hid hnr; clear hnr
  have s2 := b2.size
  have bl2 := Below.on bl1 b2
  clear b2
  go_wp2_with fail
  refine (toIntS A0 n0 c0 z0 _ (h0.on bl2) hn0).mono ?_; rintro e w3 ⟨rfl, x3, b3⟩
  have lx := (own_ge x3 _ rfl).2
  have r3 := r.below b3 (Nat.le_refl _)
  have s3 := b3.size
  have bl3 := Below.on bl2 b3
  clear b3 r
  go_wp2_with fail
  refine (implPeakedRankings _ n0 n0 z0 _ (Ints.of_own x3) hn0 (Int.le_refl _)).mono ?_; rintro e w4 ⟨Ag, ng, cg, rfl, hg, g, eg, b4⟩
  have EG := Lib.hid eg; clear eg
  obtain rfl : ng = nr := by rw [← g.len, HNR.out]; exact same_n EG.out ER.out
  have bbg : Hid (∀ k, k < ng → (hl hg k : Int) ≤ 1048576) := fun k hk => by have := cont_b EG.out (k := k) (by rw [g.len]; exact hk); omega
  have r4 := r3.below b4 (Nat.le_refl _)
  have x4 := own_below x3 b4 (Nat.le_refl _)
  have ing := g.inn
  have s4 := b4.size
  have bl4 := Below.on bl3 b4
  clear b4 r3 x3
  go_wp2_with fail
  refine (eqIntSS _ _ _ _ _ hg hr _ g.lists r4.lists bnr (EG.out.trans ER.out.symm) bbg.out).mono ?_; rintro e w5 ⟨rfl, b5⟩
  have g5 := g.below b5 (Nat.le_refl _)
  have r5 := r4.below b5 (Nat.le_refl _)
  have x5 := own_below x4 b5 (Nat.le_refl _)
  have s5 := b5.size
  have bl5 := Below.on bl4 b5
  clear b5 r4 x4 g
  go_wp2_with fail
  refine (toIntS A0 n0 c0 z0 _ (h0.on bl5) hn0).mono ?_; rintro e w6 ⟨rfl, y6, b6⟩
  have g6 := g5.below b6 (Nat.le_refl _)
  have r6 := r5.below b6 (Nat.le_refl _)
  have x6 := own_below x5 b6 (Nat.le_refl _)
  have s6 := b6.size
  have bl6 := Below.on bl5 b6
  clear b6 r5 x5 g5
  go_wp2_with fail
  refine (eqIntS _ _ _ _ _ _ _ (Ints.of_own x6) (Ints.of_own y6) hn0).mono ?_; rintro e w7 ⟨rfl, b7⟩
  have g7 := g6.below b7 (Nat.le_refl _)
  have r7 := r6.below b7 (Nat.le_refl _)
  have x7 := own_below x6 b7 (Nat.le_refl _)
  have s7 := b7.size
  have bl7 := Below.on bl6 b7
  clear b7 r6 x6 g6 y6
  go_wp2_with fail
  refine (markIntS _ _ _ _ _ 1 _ x7 hn0 (by omega)).mono ?_; rintro e w8 ⟨rfl, _, grw⟩
  have r8 := r7.far grw inr (fun q hq => by injection hq with hq; subst hq; right; exact Nat.le_refl _)
  have g8 := g7.far grw ing (fun q hq => by injection hq with hq; subst hq; left; exact lx)
  have bl8 := Below.grown bl7 grw (by omega) (fun k hk => by injection hk with hk; subst hk; show w.heap.size ≤ w2.heap.size; omega)
  have s8 := grw.size
  clear grw r7 g7 x7
  go_wp2_with fail
  refine (eqIntSS _ _ _ _ _ hg hr _ g8.lists r8.lists bnr (EG.out.trans ER.out.symm) bbg.out).mono ?_; rintro e w9 ⟨rfl, b9⟩
  have g9 := g8.below b9 (Nat.le_refl _)
  have r9 := r8.below b9 (Nat.le_refl _)
  have s9 := b9.size
  have bl9 := Below.on bl8 b9
  clear b9 r8 g8
  go_wp2_with fail
  refine (markIntSS _ _ _ _ hg _ g9 bnr bbg.out (by omega)).mono ?_; rintro e w10 ⟨rfl, row4, each4, b10⟩
  have r10 := r9.belowIn b10 (inr.mono s3)
  have bl10 := bl9.trans (b10.mono (by omega))
  have s10 := b10.size
  have hlg := g9.len
  have HLG := Lib.hid hlg; clear hlg
  have E4 := Lib.hid each4; clear each4
  have hp := pre_le hg ng bbg.out ng (Nat.le_refl _)
  clear b10 r9 g9
  go_wp2_with fail
  refine (heldIntSS _ _ _ _ hg _ HLG.out row4 E4.out bnr bbg.out).mono ?_; rintro e w' ⟨rfl, rfl⟩
  go_wp2_with fail
  refine (toIntS A0 n0 c0 z0 _ (h0.on bl10) hn0).mono ?_; rintro e w11 ⟨rfl, k11, b11⟩
  have r11 := r10.below b11 (Nat.le_refl _)
  have row11 := own_below row4 b11 (Nat.le_refl _)
  have E11 : Hid (∀ k, k < ng → Own w11 w3.heap.size (hA hg k) (hl hg k) (hc hg k) (markd hg 1 ng k)) := fun k hk => own_below (E4.out k hk) b11 (Nat.le_refl _)
  have bl11 := Below.on bl10 b11
  clear b11 r10 row4
  go_wp2_with fail
  refine (implPeakedRankings _ n0 n0 z0 _ (Ints.of_own k11) hn0 (Int.le_refl _)).mono ?_; rintro e w12 ⟨Ah, nh, ch, rfl, hh, h, eh, b12⟩
  have EH := Lib.hid eh; clear eh
  obtain rfl : nh = ng := by rw [← h.len, HNR.out]; exact same_n EH.out ER.out
  have bbh : Hid (∀ k, k < nh → (hl hh k : Int) ≤ 1048576) := fun k hk => by have := cont_b EH.out (k := k) (by rw [h.len]; exact hk); omega
  have r12 := r11.below b12 (Nat.le_refl _)
  have row12 := own_below row11 b12 (Nat.le_refl _)
  have E12 : Hid (∀ k, k < nh → Own w12 w3.heap.size (hA hg k) (hl hg k) (hc hg k) (markd hg 1 nh k)) := fun k hk => own_below (E11.out k hk) b12 (Nat.le_refl _)
  have bl12 := Below.on bl11 b12
  clear b12 r11 row11 k11
  go_wp2_with fail
  refine (eqIntSS _ _ _ _ _ hh hr _ h.lists r12.lists bnr (EH.out.trans ER.out.symm) bbh.out).mono ?_; rintro e w13 ⟨rfl, b13⟩
  have row13 := own_below row12 b13 (Nat.le_refl _)
  have E13 : Hid (∀ k, k < nh → Own w13 w3.heap.size (hA hg k) (hl hg k) (hc hg k) (markd hg 1 nh k)) := fun k hk => own_below (E12.out k hk) b13 (Nat.le_refl _)
  have bl13 := Below.on bl12 b13
  go_wp2_with fail
  refine (heldIntSS _ _ _ _ hg _ HLG.out row13 E13.out bnr bbg.out).mono ?_; rintro e w' ⟨rfl, rfl⟩
  go_wp2_with fail
  go_ret
  exact ⟨rfl, bl13⟩

set_option maxRecDepth 100000 in
theorem lifted (os : Os) (started : os.Started) (H : Type) (enc : TypeId × Value → H) :
    ReturnsInHanded {} Try.checked os 20 .any (Rows.fnExactPeakedRankingsSpec.pre6 enc Try.prog Try.f20 Rows.fnExactPeakedRankingsRow.domain false) (Rows.fnExactPeakedRankingsSpec.post enc Try.prog Try.f20 false true false false) := by
  refine returnsInHanded_of_change (C := Try.checked) own started (by kernel_rfl) Try.func20
    (ChangeSpec.witness6 (enc := enc) (C := Try.checked) false ⟨#[], #[.slice none 0 0], []⟩ 8 (by kernel_rfl) (by kernel_rfl) (by kernel_rfl) (by kernel_rfl)) ?_
  intro W base args ds gs before hval0 hW hcnd _
  have hval : ∀ (j : Nat) t v, Try.f20.params[j]? = some t → args[j]? = some v → Value.okWide Try.prog W .any base t v := hval0
  have hW' := hW
  obtain ⟨p, q, hA0, hV, rfl, hfz, hnd⟩ := hW
  have hA : DataW.TrodAll enc Try.prog W 0 (fun _ => true) true Try.f20.params.toList args.toList ds p := hA0
  rw [Try.params20] at hA hval
  obtain ⟨v0, vs0, d0, ds0, p0, q0, hargs, rfl, rfl, h0, r0⟩ := trodAll_cons hA
  obtain ⟨rfl, rfl, rfl⟩ := trodAll_nil r0
  obtain rfl : args = #[v0] := by cases args; simp_all
  obtain ⟨rfl, rfl⟩ := trodVars_none hV
  have k0 := h0
  have lt0 : ∀ x ∈ p0, x.block < W.heap.size := by obtain ⟨m, hm⟩ := k0; exact DataW.trod_lt m _ _ _ hm
  obtain ⟨A0, n0, c0, z0, rfl, w0⟩ := open_ints_arg (hval 0 22 v0 rfl rfl) h0
  clear hA0 hval0
  refine (walk A0 n0 c0 z0 W w0).mono fun e W' ⟨he, bel⟩ => ?_
  subst he
  exact ⟨_, rfl, _, _, _, [], _, [], hW', trodAll_mk1 (shut_bool Try.underlying4 _), (trodAll_cons_mk (Below.trod laidOut (by kernel_rfl) (of_decide_eq_true (by kernel_rfl)) k0 bel lt0) trodAll_mk0), rfl, bel.frame _, fun h => by cases h⟩

theorem over : Rows.fnExactPeakedRankingsRow.holds Try.pinned (OpenSpec.ofChange Rows.fnExactPeakedRankingsSpec) :=
  OpenClaim.holds_of_wide 20 Try.f20 rfl rfl rfl rfl rfl rfl rfl ⟨rfl, rfl, rfl, rfl, rfl⟩ rfl rfl rfl rfl rfl (by kernel_rfl) Try.func20
    (joined_by _ _ _ _ _ (by kernel_rfl) laidOut mapsRowedYes (by kernel_rfl) (by kernel_rfl) (by kernel_rfl) stopsNone (by kernel_rfl) knobsNone (by kernel_rfl) (by kernel_rfl) (by kernel_rfl) (by kernel_rfl) (by kernel_rfl) (by kernel_rfl) (by kernel_rfl) (by kernel_rfl) (by kernel_rfl) (by kernel_rfl) (by kernel_rfl) (by kernel_rfl) (by kernel_rfl)
      (keys_fit _ _ keysPlain rfl) rfl heard mayEnterYes (lifted_fits _ _ liftsNo rfl) (make_fits _ _ makeCut rfl) rfl rfl (by kernel_rfl) (by kernel_rfl) (by kernel_rfl))
    (of_decide_eq_true (by kernel_rfl)) (by unfold Func.isWrapper; first | (rw [if_pos (by decide +kernel)]; kernel_rfl) | (rw [if_neg (by decide +kernel)]; exact ⟨rfl, rfl⟩))
    (fun os started H enc _ => lifted os started H enc)

theorem proved : Rows.FnExactPeakedRankingsSaid := over
end Go.Proofs.Ytgonkppphaoapaa.fnExactPeakedRankings
