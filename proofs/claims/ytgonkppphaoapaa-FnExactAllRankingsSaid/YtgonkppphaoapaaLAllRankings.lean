/- 'FnExactAllRankings': for every input the law returns true, and each argument reads behind the call as before it. No condition. -/
import Derived.Test.YtgonkppphaoapaaRows
import Derived.Test.YtgonkppphaoapaaFrame
import Derived.Test.YtgonkppphaoapaaAllS
import Derived.Test.YtgonkppphaoapaaFrameInts
namespace Go.Proofs.Ytgonkppphaoapaa.fnExactAllRankings
open Go.ChangeShapes Go.WideShapes Go.ChangeAt Go.RowKit Go.Joins Go.Deep
open Go.ChangeMaps (open_string shut_string)
set_option linter.unusedVariables false

theorem cont_n {hs : List Hd} {m : Int} (h : cont hs = ranksP m) : hs.length ≤ 120 := by
  rw [← cont_len, h]; exact ranks_len m
theorem cont_b {hs : List Hd} {m : Int} (h : cont hs = ranksP m) {k : Nat} (hk : k < hs.length) : (hl hs k : Int) ≤ 5 := by
  have h1 := cont_nth hk
  rw [h] at h1
  have h2 := List.mem_of_getElem? h1
  unfold ranksP at h2
  split at h2
  · rw [hl, ord_each _ _ _ h2]; omega
  · simp at h2
theorem same_n {hs ks : List Hd} {m : Int} (h : cont hs = ranksP m) (h' : cont ks = ranksP m) : hs.length = ks.length := by
  rw [← cont_len, h, ← h', cont_len]
set_option maxHeartbeats 2000000 in
theorem walk (m : Int) (w : World) (_hbm : -9223372036854775808 ≤ m ∧ m ≤ 9223372036854775807) :
    Calls Try.prog 18 #[.int .i64 m] w fun e w' => e = .returned (.bool true) ∧ Below w.heap.size w w' := by
  go_enter Try.func18, Try.ntmps18
  go_wp2_with fail
  refine (specAllRankings m _).mono ?_; rintro e w1 ⟨Ar, nr, cr, rfl, hr, r, er, b1⟩
  have ER := Lib.hid er; clear er
  have hnr : nr = hr.length := r.len.symm
  have bnr : (nr : Int) ≤ 1048576 := by have := cont_n ER.out; omega
  have inr := r.inn
  have bbr : Hid (∀ k, k < nr → (hl hr k : Int) ≤ 1048576) := fun k hk => by have := cont_b ER.out (k := k) (by omega); omega
  have HNR := Lib.hid hnr; clear hnr
  go_wp2_with fail
  refine (implAllRankings m _).mono ?_; rintro e w2 ⟨Ag, ng, cg, rfl, hg, g, eg, b2⟩
  have EG := Lib.hid eg; clear eg
  obtain rfl : ng = nr := by rw [← g.len, HNR.out]; exact same_n EG.out ER.out
  have bbg : Hid (∀ k, k < ng → (hl hg k : Int) ≤ 1048576) := fun k hk => by have := cont_b EG.out (k := k) (by rw [g.len]; exact hk); omega
  have r2 := r.below b2 (Nat.le_refl _)
  have bl2 := Below.on b1 b2
  have s1 := b1.size
  have s2 := b2.size
  go_wp2_with fail
  refine (eqIntSS _ _ _ _ _ hg hr _ g.lists r2.lists bnr (EG.out.trans ER.out.symm) bbg.out).mono ?_; rintro e w3 ⟨rfl, b3⟩
  have g3 := g.below b3 (Nat.le_refl _)
  have r3 := r2.below b3 (Nat.le_refl _)
  have bl3 := Below.on bl2 b3
  have s3 := b3.size
  have ing := g3.inn
  go_wp2_with fail
  refine (markIntSS _ _ _ _ hg _ g3 bnr bbg.out (by omega)).mono ?_; rintro e w4 ⟨rfl, row4, each4, b4⟩
  have r4 := r3.belowIn b4 inr
  have bl4 := bl3.trans (b4.mono s1)
  have s4 := b4.size
  have hlg := g.len
  have HLG := Lib.hid hlg; clear hlg
  have E4 := Lib.hid each4; clear each4
  have hp := pre_le hg ng bbg.out ng (Nat.le_refl _)
  go_wp2_with fail
  refine (heldIntSS _ _ _ _ hg _ HLG.out row4 E4.out bnr bbg.out).mono ?_; rintro e w' ⟨rfl, rfl⟩
  go_wp2_with fail
  refine (implAllRankings m _).mono ?_; rintro e w5 ⟨Ah, nh, ch, rfl, hh, h, eh, b5⟩
  have EH := Lib.hid eh; clear eh
  obtain rfl : nh = ng := by rw [← h.len, HNR.out]; exact same_n EH.out ER.out
  have bbh : Hid (∀ k, k < nh → (hl hh k : Int) ≤ 1048576) := fun k hk => by have := cont_b EH.out (k := k) (by rw [h.len]; exact hk); omega
  have r5 := r4.below b5 (Nat.le_refl _)
  have row5 := own_below row4 b5 (Nat.le_refl _)
  have E5 : Hid (∀ k, k < nh → Own w5 w1.heap.size (hA hg k) (hl hg k) (hc hg k) (markd hg 1 nh k)) := fun k hk => own_below (E4.out k hk) b5 (Nat.le_refl _)
  have bl5 := Below.on bl4 b5
  go_wp2_with fail
  refine (eqIntSS _ _ _ _ _ hh hr _ h.lists r5.lists bnr (EH.out.trans ER.out.symm) bbh.out).mono ?_; rintro e w6 ⟨rfl, b6⟩
  have row6 := own_below row5 b6 (Nat.le_refl _)
  have E6 : Hid (∀ k, k < nh → Own w6 w1.heap.size (hA hg k) (hl hg k) (hc hg k) (markd hg 1 nh k)) := fun k hk => own_below (E5.out k hk) b6 (Nat.le_refl _)
  have bl6 := Below.on bl5 b6
  go_wp2_with fail
  refine (heldIntSS _ _ _ _ hg _ HLG.out row6 E6.out bnr bbg.out).mono ?_; rintro e w' ⟨rfl, rfl⟩
  go_wp2_with fail
  go_ret
  exact ⟨rfl, bl6⟩

set_option maxRecDepth 100000 in
theorem lifted (os : Os) (started : os.Started) (H : Type) (enc : TypeId × Value → H) :
    ReturnsInHanded {} Try.checked os 18 .any (Rows.fnExactAllRankingsSpec.pre6 enc Try.prog Try.f18 Rows.fnExactAllRankingsRow.domain false) (Rows.fnExactAllRankingsSpec.post enc Try.prog Try.f18 false true false false) := by
  refine returnsInHanded_of_change (C := Try.checked) own started (by kernel_rfl) Try.func18
    (ChangeSpec.witness6 (enc := enc) (C := Try.checked) false ⟨#[], #[.int .i64 0], []⟩ 8 (by kernel_rfl) (by kernel_rfl) (by kernel_rfl) (by kernel_rfl)) ?_
  intro W base args ds gs before hval0 hW hcnd _
  have hval : ∀ (j : Nat) t v, Try.f18.params[j]? = some t → args[j]? = some v → Value.okWide Try.prog W .any base t v := hval0
  have hW' := hW
  obtain ⟨p, q, hA0, hV, rfl, hfz, hnd⟩ := hW
  have hA : DataW.TrodAll enc Try.prog W 0 (fun _ => true) true Try.f18.params.toList args.toList ds p := hA0
  rw [Try.params18] at hA hval
  obtain ⟨v0, vs0, d0, ds0, p0, q0, hargs, rfl, rfl, h0, r0⟩ := trodAll_cons hA
  obtain ⟨rfl, rfl, rfl⟩ := trodAll_nil r0
  obtain rfl : args = #[v0] := by cases args; simp_all
  obtain ⟨rfl, rfl⟩ := trodVars_none hV
  have k0 := h0
  have lt0 : ∀ x ∈ p0, x.block < W.heap.size := by obtain ⟨m, hm⟩ := k0; exact DataW.trod_lt m _ _ _ hm
  obtain ⟨a0, rfl, _, _, wf0⟩ := open_int Try.underlying3 (hval 0 3 v0 rfl rfl) h0
  have w0 := bd_i64 wf0
  clear hA0 hval0
  refine (walk a0 W w0).mono fun e W' ⟨he, bel⟩ => ?_
  subst he
  exact ⟨_, rfl, _, _, _, [], _, [], hW', trodAll_mk1 (shut_bool Try.underlying4 _), (trodAll_cons_mk (Below.trod laidOut (by kernel_rfl) (of_decide_eq_true (by kernel_rfl)) k0 bel lt0) trodAll_mk0), rfl, bel.frame _, fun h => by cases h⟩

theorem over : Rows.fnExactAllRankingsRow.holds Try.pinned (OpenSpec.ofChange Rows.fnExactAllRankingsSpec) :=
  OpenClaim.holds_of_wide 18 Try.f18 rfl rfl rfl rfl rfl rfl rfl ⟨rfl, rfl, rfl, rfl, rfl⟩ rfl rfl rfl rfl rfl (by kernel_rfl) Try.func18
    (joined_by _ _ _ _ _ (by kernel_rfl) laidOut mapsRowedYes (by kernel_rfl) (by kernel_rfl) (by kernel_rfl) stopsNone (by kernel_rfl) knobsNone (by kernel_rfl) (by kernel_rfl) (by kernel_rfl) (by kernel_rfl) (by kernel_rfl) (by kernel_rfl) (by kernel_rfl) (by kernel_rfl) (by kernel_rfl) (by kernel_rfl) (by kernel_rfl) (by kernel_rfl) (by kernel_rfl)
      (keys_fit _ _ keysPlain rfl) rfl heard mayEnterYes (lifted_fits _ _ liftsNo rfl) (make_fits _ _ makeCut rfl) rfl rfl (by kernel_rfl) (by kernel_rfl) (by kernel_rfl))
    (of_decide_eq_true (by kernel_rfl)) (by unfold Func.isWrapper; first | (rw [if_pos (by decide +kernel)]; kernel_rfl) | (rw [if_neg (by decide +kernel)]; exact ⟨rfl, rfl⟩))
    (fun os started H enc _ => lifted os started H enc)

theorem proved : Rows.FnExactAllRankingsSaid := over
end Go.Proofs.Ytgonkppphaoapaa.fnExactAllRankings
