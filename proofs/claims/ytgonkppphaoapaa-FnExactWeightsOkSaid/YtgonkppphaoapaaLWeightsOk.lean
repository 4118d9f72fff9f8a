/- 'FnExactWeightsOk': for every input the law returns true, and each argument reads behind the call as before it. No condition. -/
import Derived.Test.YtgonkppphaoapaaRows
import Derived.Test.YtgonkppphaoapaaFrame
import Derived.Test.YtgonkppphaoapaaWok
import Derived.Test.YtgonkppphaoapaaFrameInts
namespace Go.Proofs.Ytgonkppphaoapaa.fnExactWeightsOk
open Go.ChangeShapes Go.WideShapes Go.ChangeAt Go.RowKit Go.Joins Go.Deep
open Go.ChangeMaps (open_string shut_string)
set_option linter.unusedVariables false

set_option maxHeartbeats 2000000 in
theorem walk (m : Int) (A0 : Option Addr) (n0 c0 : Nat) (z0 : List Int) (w : World) (_hbm : -9223372036854775808 ≤ m ∧ m ≤ 9223372036854775807) (hw0 : Ints w A0 n0 z0 ∧ n0 ≤ c0 ∧ c0 ≤ maxLen ∧ I64 z0) :
    Calls Try.prog 11 #[.int .i64 m, .slice A0 n0 c0] w fun e w' => e = .returned (.bool true) ∧ Below w.heap.size w w' := by
  obtain ⟨h0, _hnc0, _hcm0, hi0⟩ := hw0
  have HI0 := Lib.hid hi0; clear hi0
  have i0 := h0.in_
  by_cases hn0 : 1048576 < (n0 : Int)
  · go_enter Try.func11, Try.ntmps11
    go_wp2
    go_ret
    exact ⟨rfl, Below.refl _ _⟩
  have hn0 : (n0 : Int) ≤ 1048576 := by omega
  have hne : (weightsP m z0 != weightsP m z0) = false := by simp
  have bl := Below.refl w.heap.size w
  go_enter Try.func11, Try.ntmps11
  go_wp2_with fail
  refine (toIntS _ _ _ z0 _ h0 hn0).mono ?_; rintro e w1 ⟨rfl, q0, b⟩
  have h0 := Ints.on h0 b
  have bl := Below.on bl b
  have sz1 := b.size
  clear b
  go_wp2_with fail
  refine (specWeightsOk m _ _ _ z0 _ (Ints.of_own q0) hn0 ).mono ?_; rintro e w' ⟨rfl, rfl⟩
  clear q0
  go_wp2_with fail
  refine (toIntS _ _ _ z0 _ h0 hn0).mono ?_; rintro e w2 ⟨rfl, x0, b⟩
  have h0 := Ints.on h0 b
  have bl := Below.on bl b
  have sz2 := b.size
  clear b
  have lx0 := own_ge x0
  have ltx0 := (lx0 _ rfl).2
  go_wp2_with fail
  refine (implWeightsOk m _ _ _ z0 _ (Ints.of_own x0) hn0 ).mono ?_; rintro e w3 ⟨rfl, b⟩
  have h0 := Ints.on h0 b
  have x0 := own_below x0 b (Nat.le_refl _)
  have bl := Below.on bl b
  have sz3 := b.size
  clear b
  go_wp2_with fail
  refine (toIntS _ _ _ z0 _ h0 hn0).mono ?_; rintro e w4 ⟨rfl, y0, b⟩
  have h0 := Ints.on h0 b
  have x0 := own_below x0 b (Nat.le_refl _)
  have bl := Below.on bl b
  have sz4 := b.size
  clear b
  go_wp2_with fail
  refine (eqIntS _ _ _ _ _ _ _ (Ints.of_own x0) (Ints.of_own y0) hn0).mono ?_; rintro e w5 ⟨rfl, b⟩
  have h0 := Ints.on h0 b
  have x0 := own_below x0 b (Nat.le_refl _)
  have y0 := own_below y0 b (Nat.le_refl _)
  have bl := Below.on bl b
  have sz5 := b.size
  clear b
  clear y0
  go_wp2_with fail
  go_ret
  exact ⟨rfl, bl⟩

set_option maxRecDepth 100000 in
theorem lifted (os : Os) (started : os.Started) (H : Type) (enc : TypeId × Value → H) :
    ReturnsInHanded {} Try.checked os 11 .any (Rows.fnExactWeightsOkSpec.pre6 enc Try.prog Try.f11 Rows.fnExactWeightsOkRow.domain false) (Rows.fnExactWeightsOkSpec.post enc Try.prog Try.f11 false true false false) := by
  refine returnsInHanded_of_change (C := Try.checked) own started (by kernel_rfl) Try.func11
    (ChangeSpec.witness6 (enc := enc) (C := Try.checked) false ⟨#[], #[.int .i64 0, .slice none 0 0], []⟩ 8 (by kernel_rfl) (by kernel_rfl) (by kernel_rfl) (by kernel_rfl)) ?_
  intro W base args ds gs before hval0 hW hcnd _
  have hval : ∀ (j : Nat) t v, Try.f11.params[j]? = some t → args[j]? = some v → Value.okWide Try.prog W .any base t v := hval0
  have hW' := hW
  obtain ⟨p, q, hA0, hV, rfl, hfz, hnd⟩ := hW
  have hA : DataW.TrodAll enc Try.prog W 0 (fun _ => true) true Try.f11.params.toList args.toList ds p := hA0
  rw [Try.params11] at hA hval
  obtain ⟨v0, vs0, d0, ds0, p0, q0, hargs, rfl, rfl, h0, r0⟩ := trodAll_cons hA
  obtain ⟨v1, vs1, d1, ds1, p1, q1, rfl, rfl, rfl, h1, r1⟩ := trodAll_cons r0
  obtain ⟨rfl, rfl, rfl⟩ := trodAll_nil r1
  obtain rfl : args = #[v0, v1] := by cases args; simp_all
  obtain ⟨rfl, rfl⟩ := trodVars_none hV
  have k0 := h0
  have lt0 : ∀ x ∈ p0, x.block < W.heap.size := by obtain ⟨m, hm⟩ := k0; exact DataW.trod_lt m _ _ _ hm
  obtain ⟨a0, rfl, _, _, wf0⟩ := open_int Try.underlying3 (hval 0 3 v0 rfl rfl) h0
  have w0 := bd_i64 wf0
  have k1 := h1
  have lt1 : ∀ x ∈ p1, x.block < W.heap.size := by obtain ⟨m, hm⟩ := k1; exact DataW.trod_lt m _ _ _ hm
  obtain ⟨A1, n1, c1, z1, rfl, w1⟩ := open_ints_arg (hval 1 22 v1 rfl rfl) h1
  clear hA0 hval0
  refine (walk a0 A1 n1 c1 z1 W w0 w1).mono fun e W' ⟨he, bel⟩ => ?_
  subst he
  exact ⟨_, rfl, _, _, _, [], _, [], hW', trodAll_mk1 (shut_bool Try.underlying4 _), (trodAll_cons_mk (Below.trod laidOut (by kernel_rfl) (of_decide_eq_true (by kernel_rfl)) k0 bel lt0) (trodAll_cons_mk (Below.trod laidOut (by kernel_rfl) (of_decide_eq_true (by kernel_rfl)) k1 bel lt1) trodAll_mk0)), rfl, bel.frame _, fun h => by cases h⟩

theorem over : Rows.fnExactWeightsOkRow.holds Try.pinned (OpenSpec.ofChange Rows.fnExactWeightsOkSpec) :=
  OpenClaim.holds_of_wide 11 Try.f11 rfl rfl rfl rfl rfl rfl rfl ⟨rfl, rfl, rfl, rfl, rfl⟩ rfl rfl rfl rfl rfl (by kernel_rfl) Try.func11
    (joined_by _ _ _ _ _ (by kernel_rfl) laidOut mapsRowedYes (by kernel_rfl) (by kernel_rfl) (by kernel_rfl) stopsNone (by kernel_rfl) knobsNone (by kernel_rfl) (by kernel_rfl) (by kernel_rfl) (by kernel_rfl) (by kernel_rfl) (by kernel_rfl) (by kernel_rfl) (by kernel_rfl) (by kernel_rfl) (by kernel_rfl) (by kernel_rfl) (by kernel_rfl) (by kernel_rfl)
      (keys_fit _ _ keysPlain rfl) rfl heard mayEnterYes (lifted_fits _ _ liftsNo rfl) (make_fits _ _ makeCut rfl) rfl rfl (by kernel_rfl) (by kernel_rfl) (by kernel_rfl))
    (of_decide_eq_true (by kernel_rfl)) (by unfold Func.isWrapper; first | (rw [if_pos (by decide +kernel)]; kernel_rfl) | (rw [if_neg (by decide +kernel)]; exact ⟨rfl, rfl⟩))
    (fun os started H enc _ => lifted os started H enc)

theorem proved : Rows.FnExactWeightsOkSaid := over
end Go.Proofs.Ytgonkppphaoapaa.fnExactWeightsOk
