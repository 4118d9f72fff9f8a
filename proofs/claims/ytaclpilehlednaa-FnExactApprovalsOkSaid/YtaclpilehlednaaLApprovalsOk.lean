/- 'FnExactApprovalsOk': for every input the law returns true, and each argument reads behind the call as before it. No condition. -/
import Derived.Test.YtaclpilehlednaaRows
import Derived.Test.YtaclpilehlednaaFrame
import Derived.Test.YtaclpilehlednaaFrameAppr
import Derived.Test.YtaclpilehlednaaApprOk
namespace Go.Proofs.Ytaclpilehlednaa.fnExactApprovalsOk
open Go.ChangeShapes Go.WideShapes Go.ChangeAt Go.RowKit Go.Joins Go.Deep
open Go.ChangeMaps (open_string shut_string)
set_option linter.unusedVariables false

attribute [local go_sem ↓] Go.wp_at_zero Go.wp_at_succ
set_option maxHeartbeats 4000000 in
theorem walk (m : Int) (A : Option Addr) (n c : Nat) (z : List (Int × Int)) (w : World) (hw : Pairs w A n z ∧ n ≤ c ∧ c ≤ maxLen ∧ P64 z ∧ -9223372036854775808 ≤ m ∧ m ≤ 9223372036854775807) :
    Calls Try.prog 6 #[.agg #[.int .i64 m, .slice A n c]] w fun e w' => e = .returned (.bool true) ∧ Below w.heap.size w w' := by
  obtain ⟨h, _hnc, _hcm, _hC, _hm1, _hm2⟩ := hw
  have bW : Below w.heap.size w (w.alloc (.cells #[.int .i64 m, .slice A n c] 41)) := (Below.refl _ _).alloc (Nat.le_refl _) _
  have hV := h.on bW
  have k0 : (w.alloc (.cells #[.int .i64 m, .slice A n c] 41)).cell? ⟨w.heap.size, 0, none⟩ = some (.int .i64 m) := by simp
  have k1 : (w.alloc (.cells #[.int .i64 m, .slice A n c] 41)).cell? ⟨w.heap.size, 1, none⟩ = some (.slice A n c) := by simp
  have sW : w.heap.size < (w.alloc (.cells #[.int .i64 m, .slice A n c] 41)).heap.size := by simp
  have hnm : n ≤ maxLen := by omega
  have hne : (apprP m z != apprP m z) = false := by simp
  go_enter Try.func6, Try.ntmps6
  go_wp2_with fail
  generalize w.alloc (.cells #[.int .i64 m, .slice A n c] 41) = W at *
  refine (szApprovals m A n c _ hnm).mono ?_; rintro e w1 ⟨r, rfl, r1, r2, r3, b⟩
  have bl := Below.on bW b
  by_cases hr : r < 0
  · go_wp2_with fail
    go_ret
    exact ⟨rfl, bl⟩
  have hn := r3 (by omega)
  clear r3
  have hV := hV.on b
  have k0 := (b.cell (p := ⟨w.heap.size, 0, none⟩) sW).trans k0
  have k1 := (b.cell (p := ⟨w.heap.size, 1, none⟩) sW).trans k1
  have sW : w.heap.size < w1.heap.size := Nat.lt_of_lt_of_le sW b.size
  clear b
  go_wp2_with fail
  refine (toApprovals m A n c z _ hV hn).mono ?_; rintro e w2 ⟨g, rfl, _, v0, b⟩
  have bl := Below.on bl b
  have hV := hV.on b
  have k0 := (b.cell (p := ⟨w.heap.size, 0, none⟩) sW).trans k0
  have k1 := (b.cell (p := ⟨w.heap.size, 1, none⟩) sW).trans k1
  have sW : w.heap.size < w2.heap.size := Nat.lt_of_lt_of_le sW b.size
  clear b
  go_wp2_with fail
  refine (specApprovalsOk m _ n n z _ v0 hn).mono ?_; rintro e w3 ⟨rfl, b⟩
  have bl := Below.on bl b
  have hV := hV.on b
  have v0 := v0.on b
  have k0 := (b.cell (p := ⟨w.heap.size, 0, none⟩) sW).trans k0
  have k1 := (b.cell (p := ⟨w.heap.size, 1, none⟩) sW).trans k1
  have sW : w.heap.size < w3.heap.size := Nat.lt_of_lt_of_le sW b.size
  clear b v0
  go_wp2_with fail
  refine (toApprovals m A n c z _ hV hn).mono ?_; rintro e w4 ⟨gx, rfl, _, v0, b⟩
  have bl := Below.on bl b
  have hV := hV.on b
  have k0 := (b.cell (p := ⟨w.heap.size, 0, none⟩) sW).trans k0
  have k1 := (b.cell (p := ⟨w.heap.size, 1, none⟩) sW).trans k1
  have sW : w.heap.size < w4.heap.size := Nat.lt_of_lt_of_le sW b.size
  clear b
  have b : Below w4.heap.size w4 (w4.alloc (.cells #[.int .i64 m, .slice (some ⟨gx, 0, none⟩) n n] 46)) := (Below.refl _ _).alloc (Nat.le_refl _) _
  have x0 : (w4.alloc (.cells #[.int .i64 m, .slice (some ⟨gx, 0, none⟩) n n] 46)).cell? ⟨w4.heap.size, 0, none⟩ = some (.int .i64 m) := by simp
  have x1 : (w4.alloc (.cells #[.int .i64 m, .slice (some ⟨gx, 0, none⟩) n n] 46)).cell? ⟨w4.heap.size, 1, none⟩ = some (.slice (some ⟨gx, 0, none⟩) n n) := by simp
  have sX : w4.heap.size < (w4.alloc (.cells #[.int .i64 m, .slice (some ⟨gx, 0, none⟩) n n] 46)).heap.size := by simp
  have bl := Below.on bl b
  have hV := hV.on b
  have v0 := v0.on b
  have k0 := (b.cell (p := ⟨w.heap.size, 0, none⟩) sW).trans k0
  have k1 := (b.cell (p := ⟨w.heap.size, 1, none⟩) sW).trans k1
  have sW := Nat.lt_of_lt_of_le sW b.size
  clear b
  go_wp2_with fail
  generalize w4.alloc (.cells #[.int .i64 m, .slice (some ⟨gx, 0, none⟩) n n] 46) = WX at *
  refine (implApprovalsOk m _ n n z _ v0 hn).mono ?_; rintro e w5 ⟨rfl, b⟩
  have bl := Below.on bl b
  have hV := hV.on b
  have v0 := v0.on b
  have k0 := (b.cell (p := ⟨w.heap.size, 0, none⟩) sW).trans k0
  have k1 := (b.cell (p := ⟨w.heap.size, 1, none⟩) sW).trans k1
  have sW : w.heap.size < w5.heap.size := Nat.lt_of_lt_of_le sW b.size
  have x0 := (b.cell (p := ⟨w4.heap.size, 0, none⟩) sX).trans x0
  have x1 := (b.cell (p := ⟨w4.heap.size, 1, none⟩) sX).trans x1
  have sX : w4.heap.size < w5.heap.size := Nat.lt_of_lt_of_le sX b.size
  clear b
  have bd := Below.drew (Below.refl w5.heap.size w5)
  go_wp2_with fail
  go_region_with (first | (go_at_call 29; refine (toApprovals m A n c z _ (hV.on bd) hn).mono ?_; rintro e wp ⟨gc, rfl, _, vc, hb⟩; have bl := Below.on (Below.on bl bd) hb; have hV := hV.on (bd.trans hb); have v0 := v0.on (bd.trans hb); have k0 := (hb.cell (p := ⟨w.heap.size, 0, none⟩) sW).trans k0; have k1 := (hb.cell (p := ⟨w.heap.size, 1, none⟩) sW).trans k1; have x0 := (hb.cell (p := ⟨w4.heap.size, 0, none⟩) sX).trans x0; have x1 := (hb.cell (p := ⟨w4.heap.size, 1, none⟩) sX).trans x1; have sX := Nat.lt_of_lt_of_le sX hb.size; have sW := Nat.lt_of_lt_of_le sW hb.size) | (go_at_call 31; refine (eqApprovals m _ _ n _ _ z _ v0 vc hn).mono ?_; rintro e wq ⟨rfl, hq⟩; have bl := Below.on bl hq))
  all_goals (
    go_simp
    go_wp2
    go_ret
    first | exact ⟨rfl, bl⟩ | exact ⟨rfl, bl.drew⟩)

set_option maxRecDepth 100000 in
theorem lifted (os : Os) (started : os.Started) (H : Type) (enc : TypeId × Value → H) :
    ReturnsInHanded {} Try.checked os 6 .any (Rows.fnExactApprovalsOkSpec.pre6 enc Try.prog Try.f6 Rows.fnExactApprovalsOkRow.domain false) (Rows.fnExactApprovalsOkSpec.post enc Try.prog Try.f6 false true false false) := by
  refine returnsInHanded_of_change (C := Try.checked) own started (by kernel_rfl) Try.func6
    (ChangeSpec.witness6 (enc := enc) (C := Try.checked) false ⟨#[], #[.agg #[.int .i64 0, .slice none 0 0]], []⟩ 8 (by kernel_rfl) (by kernel_rfl) (by kernel_rfl) (by kernel_rfl)) ?_
  intro W base args ds gs before hval0 hW hcnd _
  have hval : ∀ (j : Nat) t v, Try.f6.params[j]? = some t → args[j]? = some v → Value.okWide Try.prog W .any base t v := hval0
  have hW' := hW
  obtain ⟨p, q, hA0, hV, rfl, hfz, hnd⟩ := hW
  have hA : DataW.TrodAll enc Try.prog W 0 (fun _ => true) true Try.f6.params.toList args.toList ds p := hA0
  rw [Try.params6] at hA hval
  obtain ⟨v0, vs0, d0, ds0, p0, q0, hargs, rfl, rfl, h0, r0⟩ := trodAll_cons hA
  obtain ⟨rfl, rfl, rfl⟩ := trodAll_nil r0
  obtain rfl : args = #[v0] := by cases args; simp_all
  obtain ⟨rfl, rfl⟩ := trodVars_none hV
  have k0 := h0
  have lt0 : ∀ x ∈ p0, x.block < W.heap.size := by obtain ⟨m, hm⟩ := k0; exact DataW.trod_lt m _ _ _ hm
  obtain ⟨m0, A0, n0, c0, z0, rfl, w0⟩ := open_appr_arg (hval 0 41 v0 rfl rfl) h0
  clear hA0 hval0
  refine (walk m0 A0 n0 c0 z0 W w0).mono fun e W' ⟨he, bel⟩ => ?_
  subst he
  exact ⟨_, rfl, _, _, _, [], _, [], hW', trodAll_mk1 (shut_bool Try.underlying4 _), (trodAll_cons_mk (Below.trod laidOut (by kernel_rfl) (of_decide_eq_true (by kernel_rfl)) k0 bel lt0) trodAll_mk0), rfl, bel.frame _, fun h => by cases h⟩

theorem over : Rows.fnExactApprovalsOkRow.holds Try.pinned (OpenSpec.ofChange Rows.fnExactApprovalsOkSpec) :=
  OpenClaim.holds_of_wide 6 Try.f6 rfl rfl rfl rfl rfl rfl rfl ⟨rfl, rfl, rfl, rfl, rfl⟩ rfl rfl rfl rfl rfl (by kernel_rfl) Try.func6
    (joined_by _ _ _ _ _ (by kernel_rfl) laidOut mapsRowedYes (by kernel_rfl) (by kernel_rfl) (by kernel_rfl) stopsNone (by kernel_rfl) knobsNone (by kernel_rfl) (by kernel_rfl) (by kernel_rfl) (by kernel_rfl) (by kernel_rfl) (by kernel_rfl) (by kernel_rfl) (by kernel_rfl) (by kernel_rfl) (by kernel_rfl) (by kernel_rfl) (by kernel_rfl) (by kernel_rfl)
      (keys_fit _ _ keysPlain rfl) rfl heard mayEnterYes (lifted_fits _ _ liftsNo rfl) (make_fits _ _ makeCut rfl) rfl rfl (by kernel_rfl) (by kernel_rfl) (by kernel_rfl))
    (of_decide_eq_true (by kernel_rfl)) (by unfold Func.isWrapper; first | (rw [if_pos (by decide +kernel)]; kernel_rfl) | (rw [if_neg (by decide +kernel)]; exact ⟨rfl, rfl⟩))
    (fun os started H enc _ => lifted os started H enc)

theorem proved : Rows.FnExactApprovalsOkSaid := over
end Go.Proofs.Ytaclpilehlednaa.fnExactApprovalsOk
