/- 'FnExactJoin': for every input the law returns true, and each argument reads behind the call as before it. No condition. -/
import Derived.Test.YtadacfammhianaaRows
import Derived.Test.YtadacfammhianaaFrame
import Derived.Test.YtadacfammhianaaFrameStrs
import Derived.Test.YtadacfammhianaaJoin
namespace Go.Proofs.Ytadacfammhianaa.fnExactJoin
open Go.ChangeShapes Go.WideShapes Go.ChangeAt Go.RowKit Go.Joins Go.Deep
open Go.ChangeMaps (open_string shut_string)
set_option linter.unusedVariables false

set_option maxHeartbeats 4000000 in
theorem walk (A : Option Addr) (n c : Nat) (ss : List ByteArray) (sep : ByteArray) (w : World) (_w0 : Strs w A n ss ∧ n ≤ c ∧ c ≤ maxLen ∧ ∀ j, (snth ss j).size ≤ maxLen) (_w1 : sep.size ≤ maxLen) :
    Calls Try.prog 4 #[.slice A n c, .string sep] w fun e w' => e = .returned (.bool true) ∧ Below w.heap.size w w' := by
  obtain ⟨o0, hnc, hcm, hsz⟩ := _w0
  by_cases hp : 1048576 < (sep.size : Int)
  · go_enter Try.func4, Try.ntmps4
    go_wp2
    go_ret
    exact ⟨rfl, Below.refl _ _⟩
  have hp : (sep.size : Int) ≤ 1048576 := by omega
  have bl := Below.refl w.heap.size w
  go_enter Try.func4, Try.ntmps4
  go_wp2_with fail
  refine (szStringS A n c ss _ o0 (by omega) hsz).mono ?_; rintro e w' ⟨⟨r, rfl, hr1, hr2, hr3⟩, rfl⟩
  by_cases hr : r < 0
  · go_wp2
    go_ret
    exact ⟨rfl, bl⟩
  obtain ⟨hn, hsum⟩ := hr3 (by omega)
  go_wp2_with fail
  refine (toStringS A n c ss _ o0 hn).mono ?_; rintro e w1 ⟨rfl, o1, b1⟩
  have bl := Below.on bl b1
  have o0 := o0.on b1
  clear b1
  go_wp2_with fail
  refine (specJoin _ _ _ ss sep _ (Strs.of_own o1) hn hsum hp).mono ?_; rintro e w' ⟨rfl, rfl⟩
  go_wp2_with fail
  refine (toStringS A n c ss _ o0 hn).mono ?_; rintro e w2 ⟨rfl, o2, b2⟩
  have bl := Below.on bl b2
  have o0 := o0.on b2
  clear b2 o1
  go_wp2_with fail
  refine (implJoin _ _ _ ss sep _ (Strs.of_own o2) hn (Nat.le_refl _) hsum hp).mono ?_; rintro e w3 ⟨rfl, b3⟩
  have bl := Below.on bl b3
  have o0 := o0.on b3
  have o2 := own_below o2 b3 (Nat.le_refl _)
  clear b3
  go_wp2_with fail
  refine (toStringS A n c ss _ o0 hn).mono ?_; rintro e w4 ⟨rfl, o4, b4⟩
  have bl := Below.on bl b4
  have o0 := o0.on b4
  have o2 := own_below o2 b4 (Nat.le_refl _)
  clear b4
  go_wp2_with fail
  refine (eqStringS _ _ _ _ _ _ _ (Strs.of_own o2) (Strs.of_own o4) (by omega)).mono ?_; rintro e w5 ⟨rfl, b5⟩
  have bl := Below.on bl b5
  go_wp2_with fail
  go_ret
  exact ⟨rfl, bl⟩

set_option maxRecDepth 100000 in
theorem lifted (os : Os) (started : os.Started) (H : Type) (enc : TypeId × Value → H) :
    ReturnsInHanded {} Try.checked os 4 .any (Rows.fnExactJoinSpec.pre6 enc Try.prog Try.f4 Rows.fnExactJoinRow.domain false) (Rows.fnExactJoinSpec.post enc Try.prog Try.f4 false true false false) := by
  refine returnsInHanded_of_change (C := Try.checked) own started (by kernel_rfl) Try.func4
    (ChangeSpec.witness6 (enc := enc) (C := Try.checked) false ⟨#[], #[.slice none 0 0, .string ByteArray.empty], []⟩ 8 (by kernel_rfl) (by kernel_rfl) (by kernel_rfl) (by kernel_rfl)) ?_
  intro W base args ds gs before hval0 hW hcnd _
  have hval : ∀ (j : Nat) t v, Try.f4.params[j]? = some t → args[j]? = some v → Value.okWide Try.prog W .any base t v := hval0
  have hW' := hW
  obtain ⟨p, q, hA0, hV, rfl, hfz, hnd⟩ := hW
  have hA : DataW.TrodAll enc Try.prog W 0 (fun _ => true) true Try.f4.params.toList args.toList ds p := hA0
  rw [Try.params4] at hA hval
  obtain ⟨v0, vs0, d0, ds0, p0, q0, hargs, rfl, rfl, h0, r0⟩ := trodAll_cons hA
  obtain ⟨v1, vs1, d1, ds1, p1, q1, rfl, rfl, rfl, h1, r1⟩ := trodAll_cons r0
  obtain ⟨rfl, rfl, rfl⟩ := trodAll_nil r1
  obtain rfl : args = #[v0, v1] := by cases args; simp_all
  obtain ⟨rfl, rfl⟩ := trodVars_none hV
  have k0 := h0
  have lt0 : ∀ x ∈ p0, x.block < W.heap.size := by obtain ⟨m, hm⟩ := k0; exact DataW.trod_lt m _ _ _ hm
  obtain ⟨A0, n0, c0, z0, rfl, w0⟩ := open_strs_arg (hval 0 22 v0 rfl rfl) h0
  have k1 := h1
  have lt1 : ∀ x ∈ p1, x.block < W.heap.size := by obtain ⟨m, hm⟩ := k1; exact DataW.trod_lt m _ _ _ hm
  obtain ⟨a1, rfl, _, _, w1⟩ := open_string Try.underlying9 (hval 1 9 v1 rfl rfl) h1
  clear hA0 hval0
  refine (walk A0 n0 c0 z0 a1 W w0 w1).mono fun e W' ⟨he, bel⟩ => ?_
  subst he
  exact ⟨_, rfl, _, _, _, [], _, [], hW', trodAll_mk1 (shut_bool Try.underlying4 _), (trodAll_cons_mk (Below.trod laidOut (by kernel_rfl) (of_decide_eq_true (by kernel_rfl)) k0 bel lt0) (trodAll_cons_mk (Below.trod laidOut (by kernel_rfl) (of_decide_eq_true (by kernel_rfl)) k1 bel lt1) trodAll_mk0)), rfl, bel.frame _, fun h => by cases h⟩

theorem over : Rows.fnExactJoinRow.holds Try.pinned (OpenSpec.ofChange Rows.fnExactJoinSpec) :=
  OpenClaim.holds_of_wide 4 Try.f4 rfl rfl rfl rfl rfl rfl rfl ⟨rfl, rfl, rfl, rfl, rfl⟩ rfl rfl rfl rfl rfl (by kernel_rfl) Try.func4
    (joined_by _ _ _ _ _ (by kernel_rfl) laidOut mapsRowedYes (by kernel_rfl) (by kernel_rfl) (by kernel_rfl) stopsNone (by kernel_rfl) knobsNone (by kernel_rfl) (by kernel_rfl) (by kernel_rfl) (by kernel_rfl) (by kernel_rfl) (by kernel_rfl) (by kernel_rfl) (by kernel_rfl) (by kernel_rfl) (by kernel_rfl) (by kernel_rfl) (by kernel_rfl) (by kernel_rfl)
      (keys_fit _ _ keysPlain rfl) rfl heard mayEnterYes (lifted_fits _ _ liftsNo rfl) (make_fits _ _ makeCut rfl) rfl rfl (by kernel_rfl) (by kernel_rfl) (by kernel_rfl))
    (of_decide_eq_true (by kernel_rfl)) (by unfold Func.isWrapper; first | (rw [if_pos (by decide +kernel)]; kernel_rfl) | (rw [if_neg (by decide +kernel)]; exact ⟨rfl, rfl⟩))
    (fun os started H enc _ => lifted os started H enc)

theorem proved : Rows.FnExactJoinSaid := over
end Go.Proofs.Ytadacfammhianaa.fnExactJoin
