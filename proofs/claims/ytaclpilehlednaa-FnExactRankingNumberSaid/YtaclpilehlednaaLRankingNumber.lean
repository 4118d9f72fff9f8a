/- 'FnExactRankingNumber': for every input the law returns true, and each argument reads behind the call as before it. No condition. -/
import Derived.Test.YtaclpilehlednaaRows
import Derived.Test.YtaclpilehlednaaFrame
import Derived.Test.YtaclpilehlednaaNum
import Derived.Test.YtaclpilehlednaaFrameInts
namespace Go.Proofs.Ytaclpilehlednaa.fnExactRankingNumber
open Go.ChangeShapes Go.WideShapes Go.ChangeAt Go.RowKit Go.Joins Go.Deep
open Go.ChangeMaps (open_string shut_string)
set_option linter.unusedVariables false

set_option maxHeartbeats 2000000 in
theorem walk (A0 : Option Addr) (n0 c0 : Nat) (z0 : List Int) (w : World) (hw0 : Ints w A0 n0 z0 ∧ n0 ≤ c0 ∧ c0 ≤ maxLen ∧ I64 z0) :
    Calls Try.prog 3 #[.slice A0 n0 c0] w fun e w' => e = .returned (.bool true) ∧ Below w.heap.size w w' := by
  obtain ⟨h0, _hnc0, _hcm0, hi0⟩ := hw0
  have HI0 := Lib.hid hi0; clear hi0
  have i0 := h0.in_
  by_cases hn0 : 1048576 < (n0 : Int)
  · go_enter Try.func3, Try.ntmps3
    go_wp2
    go_ret
    exact ⟨rfl, Below.refl _ _⟩
  have hn0 : (n0 : Int) ≤ 1048576 := by omega
  have hne : (numP z0 != numP z0) = false := by simp
  have bl := Below.refl w.heap.size w
  go_enter Try.func3, Try.ntmps3
  go_wp2_with fail
  refine (toIntS _ _ _ z0 _ h0 hn0).mono ?_; rintro e w1 ⟨rfl, q0, b⟩
  have h0 := Ints.on h0 b
  have bl := Below.on bl b
  have sz1 := b.size
  clear b
  go_wp2_with fail
  refine (specRankingNumber _ _ _ z0 _ (Ints.of_own q0) hn0 (Int.le_refl _) HI0.out).mono ?_; rintro e w2 ⟨rfl, b⟩
  have h0 := Ints.on h0 b
  have q0 := own_below q0 b (Nat.le_refl _)
  have bl := Below.on bl b
  have sz2 := b.size
  clear b
  clear q0
  go_wp2_with fail
  refine (toIntS _ _ _ z0 _ h0 hn0).mono ?_; rintro e w3 ⟨rfl, x0, b⟩
  have h0 := Ints.on h0 b
  have bl := Below.on bl b
  have sz3 := b.size
  clear b
  have lx0 := own_ge x0
  have ltx0 := (lx0 _ rfl).2
  go_wp2_with fail
  refine (implRankingNumber _ _ _ z0 _ (Ints.of_own x0) hn0 ).mono ?_; rintro e w4 ⟨rfl, b⟩
  have h0 := Ints.on h0 b
  have x0 := own_below x0 b (Nat.le_refl _)
  have bl := Below.on bl b
  have sz4 := b.size
  clear b
  go_wp2_with fail
  refine (toIntS _ _ _ z0 _ h0 hn0).mono ?_; rintro e w5 ⟨rfl, y0, b⟩
  have h0 := Ints.on h0 b
  have x0 := own_below x0 b (Nat.le_refl _)
  have bl := Below.on bl b
  have sz5 := b.size
  clear b
  go_wp2_with fail
  refine (eqIntS _ _ _ _ _ _ _ (Ints.of_own x0) (Ints.of_own y0) hn0).mono ?_; rintro e w6 ⟨rfl, b⟩
  have h0 := Ints.on h0 b
  have x0 := own_below x0 b (Nat.le_refl _)
  have y0 := own_below y0 b (Nat.le_refl _)
  have bl := Below.on bl b
  have sz6 := b.size
  clear b
  clear y0
  go_wp2_with fail
  go_ret
  exact ⟨rfl, bl⟩

set_option maxRecDepth 100000 in
theorem lifted (os : Os) (started : os.Started) (H : Type) (enc : TypeId × Value → H) :
    ReturnsInHanded {} Try.checked os 3 .any (Rows.fnExactRankingNumberSpec.pre6 enc Try.prog Try.f3 Rows.fnExactRankingNumberRow.domain false) (Rows.fnExactRankingNumberSpec.post enc Try.prog Try.f3 false true false false) := by
  refine returnsInHanded_of_change (C := Try.checked) own started (by kernel_rfl) Try.func3
    (ChangeSpec.witness6 (enc := enc) (C := Try.checked) false ⟨#[], #[.slice none 0 0], []⟩ 8 (by kernel_rfl) (by kernel_rfl) (by kernel_rfl) (by kernel_rfl)) ?_
  intro W base args ds gs before hval0 hW hcnd _
  have hval : ∀ (j : Nat) t v, Try.f3.params[j]? = some t → args[j]? = some v → Value.okWide Try.prog W .any base t v := hval0
  have hW' := hW
  obtain ⟨p, q, hA0, hV, rfl, hfz, hnd⟩ := hW
  have hA : DataW.TrodAll enc Try.prog W 0 (fun _ => true) true Try.f3.params.toList args.toList ds p := hA0
  rw [Try.params3] at hA hval
  obtain ⟨v0, vs0, d0, ds0, p0, q0, hargs, rfl, rfl, h0, r0⟩ := trodAll_cons hA
  obtain ⟨rfl, rfl, rfl⟩ := trodAll_nil r0
  obtain rfl : args = #[v0] := by cases args; simp_all
  obtain ⟨rfl, rfl⟩ := trodVars_none hV
  have k0 := h0
  have lt0 : ∀ x ∈ p0, x.block < W.heap.size := by obtain ⟨m, hm⟩ := k0; exact DataW.trod_lt m _ _ _ hm
  obtain ⟨A0, n0, c0, z0, rfl, w0⟩ := open_ints_arg (hval 0 22 v0 rfl rfl) h0
  clear hA0 hval0
  refine (walk A0 n0 c0 z0 W w0).mono fun e W' ⟨he, bel⟩ => ?_
  subst he
  exact ⟨_, rfl, _, _, _, [], _, [], hW', trodAll_mk1 (shut_bool Try.underlying4 _), (trodAll_cons_mk (Below.trod laidOut (by kernel_rfl) (of_decide_eq_true (by kernel_rfl)) k0 bel lt0) trodAll_mk0), rfl, bel.frame _, fun h => by cases h⟩

theorem over : Rows.fnExactRankingNumberRow.holds Try.pinned (OpenSpec.ofChange Rows.fnExactRankingNumberSpec) :=
  OpenClaim.holds_of_wide 3 Try.f3 rfl rfl rfl rfl rfl rfl rfl ⟨rfl, rfl, rfl, rfl, rfl⟩ rfl rfl rfl rfl rfl (by kernel_rfl) Try.func3
    (joined_by _ _ _ _ _ (by kernel_rfl) laidOut mapsRowedYes (by kernel_rfl) (by kernel_rfl) (by kernel_rfl) stopsNone (by kernel_rfl) knobsNone (by kernel_rfl) (by kernel_rfl) (by kernel_rfl) (by kernel_rfl) (by kernel_rfl) (by kernel_rfl) (by kernel_rfl) (by kernel_rfl) (by kernel_rfl) (by kernel_rfl) (by kernel_rfl) (by kernel_rfl) (by kernel_rfl)
      (keys_fit _ _ keysPlain rfl) rfl heard mayEnterYes (lifted_fits _ _ liftsNo rfl) (make_fits _ _ makeCut rfl) rfl rfl (by kernel_rfl) (by kernel_rfl) (by kernel_rfl))
    (of_decide_eq_true (by kernel_rfl)) (by unfold Func.isWrapper; first | (rw [if_pos (by decide +kernel)]; kernel_rfl) | (rw [if_neg (by decide +kernel)]; exact ⟨rfl, rfl⟩))
    (fun os started H enc _ => lifted os started H enc)

theorem proved : Rows.FnExactRankingNumberSaid := over
end Go.Proofs.Ytaclpilehlednaa.fnExactRankingNumber
