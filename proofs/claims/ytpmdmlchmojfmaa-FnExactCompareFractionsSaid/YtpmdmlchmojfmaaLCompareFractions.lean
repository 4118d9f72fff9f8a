/- 'FnExactCompareFractions': for every input the law returns true, and each argument reads behind the call as before it. No condition. -/
import Derived.Test.YtpmdmlchmojfmaaRows
import Derived.Test.YtpmdmlchmojfmaaFrame
import Derived.Test.YtpmdmlchmojfmaaFrac6
import Derived.Test.YtpmdmlchmojfmaaFrameFrac
namespace Go.Proofs.Ytpmdmlchmojfmaa.fnExactCompareFractions
open Go.ChangeShapes Go.WideShapes Go.ChangeAt Go.RowKit Go.Joins Go.Deep
open Go.ChangeMaps (open_string shut_string)
set_option linter.unusedVariables false

attribute [local go_sem ↓] Go.wp_at_zero Go.wp_at_succ
set_option maxHeartbeats 4000000 in
theorem walk (x1 y1 x2 y2 : Int) (w : World) (_h1 : (-9223372036854775808 ≤ x1 ∧ x1 ≤ 9223372036854775807) ∧ (-9223372036854775808 ≤ y1 ∧ y1 ≤ 9223372036854775807)) (_h2 : (-9223372036854775808 ≤ x2 ∧ x2 ≤ 9223372036854775807) ∧ (-9223372036854775808 ≤ y2 ∧ y2 ≤ 9223372036854775807)) :
    Calls Try.prog 13 #[.agg #[.int .i64 x1, .int .i64 y1], .agg #[.int .i64 x2, .int .i64 y2]] w fun e w' => e = .returned (.bool true) ∧ Below w.heap.size w w' := by
  have bx := Two.start x1 y1 x2 y2 w 25
  have hne : (cmpP x1 y1 x2 y2 != cmpP x1 y1 x2 y2) = false := by simp
  go_enter Try.func13, Try.ntmps13
  go_wp2_with fail
  generalize (w.alloc (.cells #[.int .i64 x1, .int .i64 y1] 25)).alloc (.cells #[.int .i64 x2, .int .i64 y2] 25) = W at *
  obtain ⟨a0, a1, b0, b1, sz, bl, bk⟩ := id bx
  have sy := Nat.lt_of_succ_lt sz
  go_upto_region 1 with fail
  go_cut [5] (fun u wx => u = .int .i64 (cmpP x1 y1 x2 y2) ∧ Two w.heap.size x1 y1 x2 y2 w W wx)
  case first =>
    go_region_with (first | (go_at_call 25; refine (toFraction _ _ _).mono ?_; rintro e w1 ⟨rfl, hb⟩; have hT : Two w.heap.size x1 y1 x2 y2 w W w1 := (by first | exact Two.on hT hb | exact Two.on bx hb | exact Two.on bx.drew hb | exact Two.on hT.drew hb); obtain ⟨a0, a1, b0, b1, sz, bl, bk⟩ := id hT; have sy := Nat.lt_of_succ_lt sz) | (go_at_call 43; refine (specCompare _ _ _ _ _).mono ?_; rintro e w1 ⟨rfl, hb⟩; have hT : Two w.heap.size x1 y1 x2 y2 w W w1 := (by first | exact Two.on hT hb | exact Two.on bx hb | exact Two.on bx.drew hb | exact Two.on hT.drew hb); obtain ⟨a0, a1, b0, b1, sz, bl, bk⟩ := id hT; have sy := Nat.lt_of_succ_lt sz))
    all_goals go_wp2_with fail
    all_goals go_meet
    all_goals first | exact ⟨rfl, hT⟩ | exact ⟨rfl, hT.drew⟩
  case rest =>
    obtain ⟨rfl, bx⟩ := hcut
    have bx := Two.again bx
    obtain ⟨a0, a1, b0, b1, sz, bl, bk⟩ := id bx
    have sy := Nat.lt_of_succ_lt sz
    go_upto_region 2 with fail
    go_cut [6] (fun u wx => u = .int .i64 (cmpP x1 y1 x2 y2) ∧ Two w.heap.size x1 y1 x2 y2 w wc wx)
    case first =>
      go_region_with (first | (go_at_call 25; refine (toFraction _ _ _).mono ?_; rintro e w1 ⟨rfl, hb⟩; have hT : Two w.heap.size x1 y1 x2 y2 w wc w1 := (by first | exact Two.on hT hb | exact Two.on bx hb | exact Two.on bx.drew hb | exact Two.on hT.drew hb); obtain ⟨a0, a1, b0, b1, sz, bl, bk⟩ := id hT; have sy := Nat.lt_of_succ_lt sz) | (go_at_call 44; refine (implCompare _ _ _ _ _).mono ?_; rintro e w1 ⟨rfl, hb⟩; have hT : Two w.heap.size x1 y1 x2 y2 w wc w1 := (by first | exact Two.on hT hb | exact Two.on bx hb | exact Two.on bx.drew hb | exact Two.on hT.drew hb); obtain ⟨a0, a1, b0, b1, sz, bl, bk⟩ := id hT; have sy := Nat.lt_of_succ_lt sz))
      all_goals go_wp2_with fail
      all_goals go_meet
      all_goals first | exact ⟨rfl, hT⟩ | exact ⟨rfl, hT.drew⟩
    case rest =>
      obtain ⟨rfl, bx⟩ := hcut
      obtain ⟨a0, a1, b0, b1, sz, bl, bk⟩ := id bx
      go_wp2_with fail
      go_ret
      exact ⟨rfl, bl⟩

set_option maxRecDepth 100000 in
theorem lifted (os : Os) (started : os.Started) (H : Type) (enc : TypeId × Value → H) :
    ReturnsInHanded {} Try.checked os 13 .any (Rows.fnExactCompareFractionsSpec.pre6 enc Try.prog Try.f13 Rows.fnExactCompareFractionsRow.domain false) (Rows.fnExactCompareFractionsSpec.post enc Try.prog Try.f13 false true false false) := by
  refine returnsInHanded_of_change (C := Try.checked) own started (by kernel_rfl) Try.func13
    (ChangeSpec.witness6 (enc := enc) (C := Try.checked) false ⟨#[], #[.agg #[.int .i64 0, .int .i64 0], .agg #[.int .i64 0, .int .i64 0]], []⟩ 8 (by kernel_rfl) (by kernel_rfl) (by kernel_rfl) (by kernel_rfl)) ?_
  intro W base args ds gs before hval0 hW hcnd _
  have hval : ∀ (j : Nat) t v, Try.f13.params[j]? = some t → args[j]? = some v → Value.okWide Try.prog W .any base t v := hval0
  have hW' := hW
  obtain ⟨p, q, hA0, hV, rfl, hfz, hnd⟩ := hW
  have hA : DataW.TrodAll enc Try.prog W 0 (fun _ => true) true Try.f13.params.toList args.toList ds p := hA0
  rw [Try.params13] at hA hval
  obtain ⟨v0, vs0, d0, ds0, p0, q0, hargs, rfl, rfl, h0, r0⟩ := trodAll_cons hA
  obtain ⟨v1, vs1, d1, ds1, p1, q1, rfl, rfl, rfl, h1, r1⟩ := trodAll_cons r0
  obtain ⟨rfl, rfl, rfl⟩ := trodAll_nil r1
  obtain rfl : args = #[v0, v1] := by cases args; simp_all
  obtain ⟨rfl, rfl⟩ := trodVars_none hV
  have k0 := h0
  have lt0 : ∀ x ∈ p0, x.block < W.heap.size := by obtain ⟨m, hm⟩ := k0; exact DataW.trod_lt m _ _ _ hm
  obtain ⟨x0, y0, rfl, w0⟩ := open_frac_arg (hval 0 25 v0 rfl rfl) h0
  have k1 := h1
  have lt1 : ∀ x ∈ p1, x.block < W.heap.size := by obtain ⟨m, hm⟩ := k1; exact DataW.trod_lt m _ _ _ hm
  obtain ⟨x1, y1, rfl, w1⟩ := open_frac_arg (hval 1 25 v1 rfl rfl) h1
  clear hA0 hval0
  refine (walk x0 y0 x1 y1 W w0 w1).mono fun e W' ⟨he, bel⟩ => ?_
  subst he
  exact ⟨_, rfl, _, _, _, [], _, [], hW', trodAll_mk1 (shut_bool Try.underlying4 _), (trodAll_cons_mk (Below.trod laidOut (by kernel_rfl) (of_decide_eq_true (by kernel_rfl)) k0 bel lt0) (trodAll_cons_mk (Below.trod laidOut (by kernel_rfl) (of_decide_eq_true (by kernel_rfl)) k1 bel lt1) trodAll_mk0)), rfl, bel.frame _, fun h => by cases h⟩

theorem over : Rows.fnExactCompareFractionsRow.holds Try.pinned (OpenSpec.ofChange Rows.fnExactCompareFractionsSpec) :=
  OpenClaim.holds_of_wide 13 Try.f13 rfl rfl rfl rfl rfl rfl rfl ⟨rfl, rfl, rfl, rfl, rfl⟩ rfl rfl rfl rfl rfl (by kernel_rfl) Try.func13
    (joined_by _ _ _ _ _ (by kernel_rfl) laidOut mapsRowedYes (by kernel_rfl) (by kernel_rfl) (by kernel_rfl) stopsNone (by kernel_rfl) knobsNone (by kernel_rfl) (by kernel_rfl) (by kernel_rfl) (by kernel_rfl) (by kernel_rfl) (by kernel_rfl) (by kernel_rfl) (by kernel_rfl) (by kernel_rfl) (by kernel_rfl) (by kernel_rfl) (by kernel_rfl) (by kernel_rfl)
      (keys_fit _ _ keysPlain rfl) rfl heard mayEnterYes (lifted_fits _ _ liftsNo rfl) (make_fits _ _ makeCut rfl) rfl rfl (by kernel_rfl) (by kernel_rfl) (by kernel_rfl))
    (of_decide_eq_true (by kernel_rfl)) (by unfold Func.isWrapper; first | (rw [if_pos (by decide +kernel)]; kernel_rfl) | (rw [if_neg (by decide +kernel)]; exact ⟨rfl, rfl⟩))
    (fun os started H enc _ => lifted os started H enc)

theorem proved : Rows.FnExactCompareFractionsSaid := over
end Go.Proofs.Ytpmdmlchmojfmaa.fnExactCompareFractions
