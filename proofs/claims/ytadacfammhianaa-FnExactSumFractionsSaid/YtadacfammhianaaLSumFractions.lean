/- 'FnExactSumFractions': for every input the law returns true, and each argument reads behind the call as before it. No condition. -/
import Derived.Test.YtadacfammhianaaRows
import Derived.Test.YtadacfammhianaaFrame
import Derived.Test.YtadacfammhianaaFrameFracs
import Derived.Test.YtadacfammhianaaSum
namespace Go.Proofs.Ytadacfammhianaa.fnExactSumFractions
open Go.ChangeShapes Go.WideShapes Go.ChangeAt Go.RowKit Go.Joins Go.Deep
open Go.ChangeMaps (open_string shut_string)
set_option linter.unusedVariables false

set_option maxHeartbeats 400000 in
theorem szFractionS (A : Option Addr) (n c : Nat) (left : Int) (w : World) (hn : n ≤ maxLen) (hl : 0 ≤ left ∧ left ≤ 1048576) :
    Calls Try.prog 20 #[.slice A n c, .int .i64 left] w fun e w' => (∃ r : Int, e = .returned (.int .i64 r) ∧ -1 ≤ r ∧ r ≤ left ∧ (0 ≤ r → (n : Int) ≤ 1048576)) ∧ w = w' := by
  have hn' : (n : Int) ≤ 9223372036854775807 := by have : maxLen = 9223372036854775807 := rfl; omega
  by_cases h : left - n < 0
  · go_enter Try.func20, Try.ntmps20
    go_wp2
    go_ret
    exact ⟨⟨-1, rfl, by omega, by omega, by omega⟩, rfl⟩
  · go_enter Try.func20, Try.ntmps20
    go_wp2
    go_ret
    exact ⟨⟨left - n, rfl, by omega, by omega, by omega⟩, rfl⟩

set_option maxHeartbeats 4000000 in
theorem walk (A : Option Addr) (n c : Nat) (z : List (Int × Int)) (w : World) (hw : Pairs w A n z ∧ n ≤ c ∧ c ≤ maxLen ∧ P64 z) :
    Calls Try.prog 6 #[.slice A n c] w fun e w' => e = .returned (.bool true) ∧ Below w.heap.size w w' := by
  obtain ⟨h, _hnc, _hcm, _hP⟩ := hw
  have hnm : n ≤ maxLen := by omega
  have HL := Lib.hid h.1
  have hne : (sumO z != sumO z) = false := by simp
  go_enter Try.func6, Try.ntmps6
  go_wp2_with fail
  refine (szFractionS A n c _ _ hnm (by omega)).mono ?_; rintro e w1 ⟨⟨r, rfl, r1, r2, r3⟩, rfl⟩
  by_cases hr : r < 0
  · go_wp2_with fail
    go_ret
    exact ⟨rfl, Below.refl _ _⟩
  have hn := r3 (by omega)
  clear r3
  go_wp2_with fail
  refine (toFractionS A n c z _ h hn).mono ?_; rintro e w1 ⟨rfl, row, b⟩
  have v0 := pairs_of_row row HL.out
  have bl := b
  have h := h.on b
  clear b row
  go_wp2_with fail
  refine (specSum _ n n z _ v0 hn).mono ?_; rintro e w2 ⟨rfl, b⟩
  have bl := Below.on bl b
  have h := h.on b
  clear b v0
  have b : Below w2.heap.size w2 (w2.alloc (.cells #[.int .i64 (sumT z), .int .i64 (sumB z)] 35)) := (Below.refl _ _).alloc (Nat.le_refl _) _
  have x0 : (w2.alloc (.cells #[.int .i64 (sumT z), .int .i64 (sumB z)] 35)).cell? ⟨w2.heap.size, 0, none⟩ = some (.int .i64 (sumT z)) := by simp
  have x1 : (w2.alloc (.cells #[.int .i64 (sumT z), .int .i64 (sumB z)] 35)).cell? ⟨w2.heap.size, 1, none⟩ = some (.int .i64 (sumB z)) := by simp
  have sX : w2.heap.size < (w2.alloc (.cells #[.int .i64 (sumT z), .int .i64 (sumB z)] 35)).heap.size := by simp
  have bl := Below.on bl b
  have h := h.on b
  clear b
  go_wp2_with fail
  generalize w2.alloc (.cells #[.int .i64 (sumT z), .int .i64 (sumB z)] 35) = WX at *
  refine (toFractionS A n c z _ h hn).mono ?_; rintro e w3 ⟨rfl, row, b⟩
  have v0 := pairs_of_row row HL.out
  have bl := Below.on bl b
  have h := h.on b
  have x0 := (b.cell (p := ⟨w2.heap.size, 0, none⟩) sX).trans x0
  have x1 := (b.cell (p := ⟨w2.heap.size, 1, none⟩) sX).trans x1
  have sX := Nat.lt_of_lt_of_le sX b.size
  clear b row
  go_wp2_with fail
  refine (implSum _ n n z _ v0 hn).mono ?_; rintro e w4 ⟨rfl, b⟩
  have bl := Below.on bl b
  have h := h.on b
  have v0 := v0.on b
  have x0 := (b.cell (p := ⟨w2.heap.size, 0, none⟩) sX).trans x0
  have x1 := (b.cell (p := ⟨w2.heap.size, 1, none⟩) sX).trans x1
  have sX := Nat.lt_of_lt_of_le sX b.size
  clear b
  have b : Below w4.heap.size w4 (w4.alloc (.cells #[.int .i64 (sumT z), .int .i64 (sumB z)] 35)) := (Below.refl _ _).alloc (Nat.le_refl _) _
  have bl := Below.on bl b
  have h := h.on b
  have v0 := v0.on b
  clear b
  go_wp2_with fail
  refine (eqFraction _ _ _).mono ?_; rintro e w5 ⟨rfl, b⟩
  have bl := Below.on bl b
  have h := h.on b
  have v0 := v0.on b
  clear b
  go_wp2_with fail
  refine (toFractionS A n c z _ h hn).mono ?_; rintro e w6 ⟨rfl, row, b⟩
  have v1 := pairs_of_row row HL.out
  have bl := Below.on bl b
  have v0 := v0.on b
  clear b row
  go_wp2_with fail
  refine (eqFractionS _ _ n n n z _ v0 v1 hn).mono ?_; rintro e w7 ⟨rfl, b⟩
  have bl := Below.on bl b
  go_wp2_with fail
  go_ret
  exact ⟨rfl, bl⟩

set_option maxRecDepth 100000 in
theorem lifted (os : Os) (started : os.Started) (H : Type) (enc : TypeId × Value → H) :
    ReturnsInHanded {} Try.checked os 6 .any (Rows.fnExactSumFractionsSpec.pre6 enc Try.prog Try.f6 Rows.fnExactSumFractionsRow.domain false) (Rows.fnExactSumFractionsSpec.post enc Try.prog Try.f6 false true false false) := by
  refine returnsInHanded_of_change (C := Try.checked) own started (by kernel_rfl) Try.func6
    (ChangeSpec.witness6 (enc := enc) (C := Try.checked) false ⟨#[], #[.slice none 0 0], []⟩ 8 (by kernel_rfl) (by kernel_rfl) (by kernel_rfl) (by kernel_rfl)) ?_
  intro W base args ds gs before hval0 hW hcnd _
  have hval : ∀ (j : Nat) t v, Try.f6.params[j]? = some t → args[j]? = some v → Value.okWide Try.prog W .any base t v := hval0
  have hW' := hW
  obtain ⟨p, q, hA0, hV, rfl, hfz, hnd⟩ := hW
  have hA : DataW.TrodAll enc Try.prog W 0 (fun _ => true) true Try.f6.params.toList args.toList ds p := hA0
  rw [Try.params6] at hA hval
  obtain ⟨v0, vs0, d0, ds0, p0, q0, hargs, rfl, rfl, h0, r0⟩ := trodAll_cons hA
  obtain ⟨rfl, rfl, rfl⟩ := trodAll_nil r0
  obtain rfl : args = #[v0] := by cases args; simp_all
  obtain ⟨rfl, rfl⟩ := trodVars_none hV
  have k0 := h0
  have lt0 : ∀ x ∈ p0, x.block < W.heap.size := by obtain ⟨m, hm⟩ := k0; exact DataW.trod_lt m _ _ _ hm
  obtain ⟨A0, n0, c0, z0, rfl, w0⟩ := open_fracs_arg (hval 0 32 v0 rfl rfl) h0
  clear hA0 hval0
  refine (walk A0 n0 c0 z0 W w0).mono fun e W' ⟨he, bel⟩ => ?_
  subst he
  exact ⟨_, rfl, _, _, _, [], _, [], hW', trodAll_mk1 (shut_bool Try.underlying4 _), (trodAll_cons_mk (Below.trod laidOut (by kernel_rfl) (of_decide_eq_true (by kernel_rfl)) k0 bel lt0) trodAll_mk0), rfl, bel.frame _, fun h => by cases h⟩

theorem over : Rows.fnExactSumFractionsRow.holds Try.pinned (OpenSpec.ofChange Rows.fnExactSumFractionsSpec) :=
  OpenClaim.holds_of_wide 6 Try.f6 rfl rfl rfl rfl rfl rfl rfl ⟨rfl, rfl, rfl, rfl, rfl⟩ rfl rfl rfl rfl rfl (by kernel_rfl) Try.func6
    (joined_by _ _ _ _ _ (by kernel_rfl) laidOut mapsRowedYes (by kernel_rfl) (by kernel_rfl) (by kernel_rfl) stopsNone (by kernel_rfl) knobsNone (by kernel_rfl) (by kernel_rfl) (by kernel_rfl) (by kernel_rfl) (by kernel_rfl) (by kernel_rfl) (by kernel_rfl) (by kernel_rfl) (by kernel_rfl) (by kernel_rfl) (by kernel_rfl) (by kernel_rfl) (by kernel_rfl)
      (keys_fit _ _ keysPlain rfl) rfl heard mayEnterYes (lifted_fits _ _ liftsNo rfl) (make_fits _ _ makeCut rfl) rfl rfl (by kernel_rfl) (by kernel_rfl) (by kernel_rfl))
    (of_decide_eq_true (by kernel_rfl)) (by unfold Func.isWrapper; first | (rw [if_pos (by decide +kernel)]; kernel_rfl) | (rw [if_neg (by decide +kernel)]; exact ⟨rfl, rfl⟩))
    (fun os started H enc _ => lifted os started H enc)

theorem proved : Rows.FnExactSumFractionsSaid := over
end Go.Proofs.Ytadacfammhianaa.fnExactSumFractions
