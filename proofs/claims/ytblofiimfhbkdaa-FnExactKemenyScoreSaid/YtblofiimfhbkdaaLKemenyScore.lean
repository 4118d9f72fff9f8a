/- 'FnExactKemenyScore': for every input the law returns true, and each argument reads behind the call as before it. No condition. -/
import Derived.Test.YtblofiimfhbkdaaRows
import Derived.Test.YtblofiimfhbkdaaFrame
import Derived.Test.YtblofiimfhbkdaaKem
import Derived.Test.YtblofiimfhbkdaaFrameProf
namespace Go.Proofs.Ytblofiimfhbkdaa.fnExactKemenyScore
open Go.ChangeShapes Go.WideShapes Go.ChangeAt Go.RowKit Go.Joins Go.Deep
open Go.ChangeMaps (open_string shut_string)
set_option linter.unusedVariables false

attribute [local go_sem ↓] Go.wp_at_zero Go.wp_at_succ
set_option maxHeartbeats 4000000 in
theorem walk (m : Int) (A : Option Addr) (n c : Nat) (z : List (List Int × Int)) (A1 : Option Addr) (n1 c1 : Nat) (z1 : List Int) (w : World) (hw : Votes w A n z ∧ n ≤ c ∧ c ≤ maxLen ∧ C64 z ∧ -9223372036854775808 ≤ m ∧ m ≤ 9223372036854775807) (hw1 : Ints w A1 n1 z1 ∧ n1 ≤ c1 ∧ c1 ≤ maxLen ∧ I64 z1) :
    Calls Try.prog 6 #[.agg #[.int .i64 m, .slice A n c], .slice A1 n1 c1] w fun e w' => e = .returned (.bool true) ∧ Below w.heap.size w w' := by
  obtain ⟨h, _hnc, _hcm, _hC, _hm1, _hm2⟩ := hw
  have bW : Below w.heap.size w (w.alloc (.cells #[.int .i64 m, .slice A n c] 35)) := (Below.refl _ _).alloc (Nat.le_refl _) _
  have hV := h.on bW
  have k0 : (w.alloc (.cells #[.int .i64 m, .slice A n c] 35)).cell? ⟨w.heap.size, 0, none⟩ = some (.int .i64 m) := by simp
  have k1 : (w.alloc (.cells #[.int .i64 m, .slice A n c] 35)).cell? ⟨w.heap.size, 1, none⟩ = some (.slice A n c) := by simp
  have sW : w.heap.size < (w.alloc (.cells #[.int .i64 m, .slice A n c] 35)).heap.size := by simp
  have hnm : n ≤ maxLen := by omega
  have hne : (kemP m z z1 != kemP m z z1) = false := by simp
  obtain ⟨h1, _hnc1, _hcm1, hi1⟩ := hw1
  have HI1 := Lib.hid hi1; clear hi1
  have y1 := h1.on bW
  by_cases hn1 : 1048576 < (n1 : Int)
  · go_enter Try.func6, Try.ntmps6
    go_wp2
    go_ret
    exact ⟨rfl, bW⟩
  have hn1 : (n1 : Int) ≤ 1048576 := by omega
  go_enter Try.func6, Try.ntmps6
  go_wp2_with fail
  generalize w.alloc (.cells #[.int .i64 m, .slice A n c] 35) = W at *
  refine (szProfile m A n c z _ hV hnm).mono ?_; rintro e w1 ⟨r, rfl, r1, r2, r3, b⟩
  have bl := Below.on bW b
  by_cases hr : r < 0
  · go_wp2_with fail
    go_ret
    exact ⟨rfl, bl⟩
  obtain ⟨hn, hm⟩ := r3 (by omega)
  have HM := Lib.hid hm; clear hm r3
  have hV := hV.on b
  have y1 := y1.on b
  have k0 := (b.cell (p := ⟨w.heap.size, 0, none⟩) sW).trans k0
  have k1 := (b.cell (p := ⟨w.heap.size, 1, none⟩) sW).trans k1
  have sW : w.heap.size < w1.heap.size := Nat.lt_of_lt_of_le sW b.size
  clear b
  go_wp2_with fail
  refine (toProfile m A n c z _ hV hn HM.out).mono ?_; rintro e w2 ⟨g, rfl, _, ⟨G, hrow, hall⟩, b⟩
  have bl := Below.on bl b
  have hV := hV.on b
  have y1 := y1.on b
  have k0 := (b.cell (p := ⟨w.heap.size, 0, none⟩) sW).trans k0
  have k1 := (b.cell (p := ⟨w.heap.size, 1, none⟩) sW).trans k1
  have sW : w.heap.size < w2.heap.size := Nat.lt_of_lt_of_le sW b.size
  have v0 := votes_of_row hrow hV.1 HM.out hall
  clear b hrow hall
  go_wp2_with fail
  refine (toIntS A1 n1 c1 z1 _ y1 hn1).mono ?_; rintro e w3 ⟨rfl, o, b⟩
  have bl := Below.on bl b
  have hV := hV.on b
  have y1 := y1.on b
  have v0 := v0.on b
  have k0 := (b.cell (p := ⟨w.heap.size, 0, none⟩) sW).trans k0
  have k1 := (b.cell (p := ⟨w.heap.size, 1, none⟩) sW).trans k1
  have sW : w.heap.size < w3.heap.size := Nat.lt_of_lt_of_le sW b.size
  have l0 := Ints.of_own o
  clear b o
  go_wp2_with fail
  refine (specKemenyScore m _ n n z _ n1 n1 z1 _ v0 hn HM.out l0 hn1 ).mono ?_; rintro e w4 ⟨rfl, b⟩
  have bl := Below.on bl b
  have hV := hV.on b
  have y1 := y1.on b
  have v0 := v0.on b
  have l0 := l0.on b
  have k0 := (b.cell (p := ⟨w.heap.size, 0, none⟩) sW).trans k0
  have k1 := (b.cell (p := ⟨w.heap.size, 1, none⟩) sW).trans k1
  have sW : w.heap.size < w4.heap.size := Nat.lt_of_lt_of_le sW b.size
  clear b v0 l0
  go_wp2_with fail
  refine (toProfile m A n c z _ hV hn HM.out).mono ?_; rintro e w5 ⟨gx, rfl, _, ⟨G, hrow, hall⟩, b⟩
  have bl := Below.on bl b
  have hV := hV.on b
  have y1 := y1.on b
  have k0 := (b.cell (p := ⟨w.heap.size, 0, none⟩) sW).trans k0
  have k1 := (b.cell (p := ⟨w.heap.size, 1, none⟩) sW).trans k1
  have sW : w.heap.size < w5.heap.size := Nat.lt_of_lt_of_le sW b.size
  have v0 := votes_of_row hrow hV.1 HM.out hall
  clear b hrow hall
  have b : Below w5.heap.size w5 (w5.alloc (.cells #[.int .i64 m, .slice (some ⟨gx, 0, none⟩) n n] 40)) := (Below.refl _ _).alloc (Nat.le_refl _) _
  have x0 : (w5.alloc (.cells #[.int .i64 m, .slice (some ⟨gx, 0, none⟩) n n] 40)).cell? ⟨w5.heap.size, 0, none⟩ = some (.int .i64 m) := by simp
  have x1 : (w5.alloc (.cells #[.int .i64 m, .slice (some ⟨gx, 0, none⟩) n n] 40)).cell? ⟨w5.heap.size, 1, none⟩ = some (.slice (some ⟨gx, 0, none⟩) n n) := by simp
  have sX : w5.heap.size < (w5.alloc (.cells #[.int .i64 m, .slice (some ⟨gx, 0, none⟩) n n] 40)).heap.size := by simp
  have bl := Below.on bl b
  have hV := hV.on b
  have y1 := y1.on b
  have v0 := v0.on b
  have k0 := (b.cell (p := ⟨w.heap.size, 0, none⟩) sW).trans k0
  have k1 := (b.cell (p := ⟨w.heap.size, 1, none⟩) sW).trans k1
  have sW := Nat.lt_of_lt_of_le sW b.size
  clear b
  go_wp2_with fail
  generalize w5.alloc (.cells #[.int .i64 m, .slice (some ⟨gx, 0, none⟩) n n] 40) = WX at *
  refine (toIntS A1 n1 c1 z1 _ y1 hn1).mono ?_; rintro e w6 ⟨rfl, o, b⟩
  have bl := Below.on bl b
  have hV := hV.on b
  have y1 := y1.on b
  have v0 := v0.on b
  have k0 := (b.cell (p := ⟨w.heap.size, 0, none⟩) sW).trans k0
  have k1 := (b.cell (p := ⟨w.heap.size, 1, none⟩) sW).trans k1
  have sW : w.heap.size < w6.heap.size := Nat.lt_of_lt_of_le sW b.size
  have x0 := (b.cell (p := ⟨w5.heap.size, 0, none⟩) sX).trans x0
  have x1 := (b.cell (p := ⟨w5.heap.size, 1, none⟩) sX).trans x1
  have sX : w5.heap.size < w6.heap.size := Nat.lt_of_lt_of_le sX b.size
  have l0 := Ints.of_own o
  clear b o
  go_wp2_with fail
  refine (implKemenyScore m _ n n z _ n1 n1 z1 _ v0 hn HM.out l0 hn1 (Int.le_refl _)).mono ?_; rintro e w7 ⟨rfl, b⟩
  have bl := Below.on bl b
  have hV := hV.on b
  have y1 := y1.on b
  have v0 := v0.on b
  have l0 := l0.on b
  have k0 := (b.cell (p := ⟨w.heap.size, 0, none⟩) sW).trans k0
  have k1 := (b.cell (p := ⟨w.heap.size, 1, none⟩) sW).trans k1
  have sW : w.heap.size < w7.heap.size := Nat.lt_of_lt_of_le sW b.size
  have x0 := (b.cell (p := ⟨w5.heap.size, 0, none⟩) sX).trans x0
  have x1 := (b.cell (p := ⟨w5.heap.size, 1, none⟩) sX).trans x1
  have sX : w5.heap.size < w7.heap.size := Nat.lt_of_lt_of_le sX b.size
  clear b
  have bd := Below.drew (Below.refl w7.heap.size w7)
  go_wp2_with fail
  go_region_with (first | (go_at_call 20; refine (toProfile m A n c z _ (hV.on bd) hn HM.out).mono ?_; rintro e wp ⟨gc, rfl, _, ⟨G, hrow, hall⟩, hb⟩; have vc := votes_of_row hrow hV.1 HM.out hall; clear hrow hall; have bl := Below.on (Below.on bl bd) hb; have hV := hV.on (bd.trans hb); have y1 := y1.on (bd.trans hb); have v0 := v0.on (bd.trans hb); have l0 := l0.on (bd.trans hb); have k0 := (hb.cell (p := ⟨w.heap.size, 0, none⟩) sW).trans k0; have k1 := (hb.cell (p := ⟨w.heap.size, 1, none⟩) sW).trans k1; have x0 := (hb.cell (p := ⟨w5.heap.size, 0, none⟩) sX).trans x0; have x1 := (hb.cell (p := ⟨w5.heap.size, 1, none⟩) sX).trans x1; have sX := Nat.lt_of_lt_of_le sX hb.size; have sW := Nat.lt_of_lt_of_le sW hb.size) | (go_at_call 22; refine (eqProfile m _ _ n _ _ z _ v0 vc hn HM.out).mono ?_; rintro e wq ⟨rfl, hq⟩; have bl := Below.on bl hq; have y1 := y1.on hq; have l0 := l0.on hq))
  all_goals (
    go_simp
    go_wp2_with fail
    refine (toIntS A1 n1 c1 z1 _ y1 hn1).mono ?_; rintro e wr ⟨rfl, o, b⟩
    have l0 := l0.on b
    have bl := Below.on bl b
    go_wp2_with fail
    refine (eqIntS _ _ _ _ _ _ _ l0 (Ints.of_own o) hn1).mono ?_; rintro e ws ⟨rfl, b9⟩
    have bl := Below.on bl b9
    go_wp2_with fail
    go_ret
    exact ⟨rfl, bl⟩)

set_option maxRecDepth 100000 in
theorem lifted (os : Os) (started : os.Started) (H : Type) (enc : TypeId × Value → H) :
    ReturnsInHanded {} Try.checked os 6 .any (Rows.fnExactKemenyScoreSpec.pre6 enc Try.prog Try.f6 Rows.fnExactKemenyScoreRow.domain false) (Rows.fnExactKemenyScoreSpec.post enc Try.prog Try.f6 false true false false) := by
  refine returnsInHanded_of_change (C := Try.checked) own started (by kernel_rfl) Try.func6
    (ChangeSpec.witness6 (enc := enc) (C := Try.checked) false ⟨#[], #[.agg #[.int .i64 0, .slice none 0 0], .slice none 0 0], []⟩ 8 (by kernel_rfl) (by kernel_rfl) (by kernel_rfl) (by kernel_rfl)) ?_
  intro W base args ds gs before hval0 hW hcnd _
  have hval : ∀ (j : Nat) t v, Try.f6.params[j]? = some t → args[j]? = some v → Value.okWide Try.prog W .any base t v := hval0
  have hW' := hW
  obtain ⟨p, q, hA0, hV, rfl, hfz, hnd⟩ := hW
  have hA : DataW.TrodAll enc Try.prog W 0 (fun _ => true) true Try.f6.params.toList args.toList ds p := hA0
  rw [Try.params6] at hA hval
  obtain ⟨v0, vs0, d0, ds0, p0, q0, hargs, rfl, rfl, h0, r0⟩ := trodAll_cons hA
  obtain ⟨v1, vs1, d1, ds1, p1, q1, rfl, rfl, rfl, h1, r1⟩ := trodAll_cons r0
  obtain ⟨rfl, rfl, rfl⟩ := trodAll_nil r1
  obtain rfl : args = #[v0, v1] := by cases args; simp_all
  obtain ⟨rfl, rfl⟩ := trodVars_none hV
  have k0 := h0
  have lt0 : ∀ x ∈ p0, x.block < W.heap.size := by obtain ⟨m, hm⟩ := k0; exact DataW.trod_lt m _ _ _ hm
  obtain ⟨m0, A0, n0, c0, z0, rfl, w0⟩ := open_prof_arg (hval 0 35 v0 rfl rfl) h0
  have k1 := h1
  have lt1 : ∀ x ∈ p1, x.block < W.heap.size := by obtain ⟨m, hm⟩ := k1; exact DataW.trod_lt m _ _ _ hm
  obtain ⟨A1, n1, c1, z1, rfl, w1⟩ := open_ints_arg (hval 1 44 v1 rfl rfl) h1
  clear hA0 hval0
  refine (walk m0 A0 n0 c0 z0 A1 n1 c1 z1 W w0 w1).mono fun e W' ⟨he, bel⟩ => ?_
  subst he
  exact ⟨_, rfl, _, _, _, [], _, [], hW', trodAll_mk1 (shut_bool Try.underlying4 _), (trodAll_cons_mk (Below.trod laidOut (by kernel_rfl) (of_decide_eq_true (by kernel_rfl)) k0 bel lt0) (trodAll_cons_mk (Below.trod laidOut (by kernel_rfl) (of_decide_eq_true (by kernel_rfl)) k1 bel lt1) trodAll_mk0)), rfl, bel.frame _, fun h => by cases h⟩

theorem over : Rows.fnExactKemenyScoreRow.holds Try.pinned (OpenSpec.ofChange Rows.fnExactKemenyScoreSpec) :=
  OpenClaim.holds_of_wide 6 Try.f6 rfl rfl rfl rfl rfl rfl rfl ⟨rfl, rfl, rfl, rfl, rfl⟩ rfl rfl rfl rfl rfl (by kernel_rfl) Try.func6
    (joined_by _ _ _ _ _ (by kernel_rfl) laidOut mapsRowedYes (by kernel_rfl) (by kernel_rfl) (by kernel_rfl) stopsNone (by kernel_rfl) knobsNone (by kernel_rfl) (by kernel_rfl) (by kernel_rfl) (by kernel_rfl) (by kernel_rfl) (by kernel_rfl) (by kernel_rfl) (by kernel_rfl) (by kernel_rfl) (by kernel_rfl) (by kernel_rfl) (by kernel_rfl) (by kernel_rfl)
      (keys_fit _ _ keysPlain rfl) rfl heard mayEnterYes (lifted_fits _ _ liftsNo rfl) (make_fits _ _ makeCut rfl) rfl rfl (by kernel_rfl) (by kernel_rfl) (by kernel_rfl))
    (of_decide_eq_true (by kernel_rfl)) (by unfold Func.isWrapper; first | (rw [if_pos (by decide +kernel)]; kernel_rfl) | (rw [if_neg (by decide +kernel)]; exact ⟨rfl, rfl⟩))
    (fun os started H enc _ => lifted os started H enc)

theorem proved : Rows.FnExactKemenyScoreSaid := over
end Go.Proofs.Ytblofiimfhbkdaa.fnExactKemenyScore
