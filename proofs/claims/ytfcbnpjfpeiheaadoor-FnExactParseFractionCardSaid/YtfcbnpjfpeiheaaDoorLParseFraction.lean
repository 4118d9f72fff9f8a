/- 'FnExactParseFraction': for every input the law returns true, and each argument reads behind the call as before it. No condition. -/
import Derived.Test.YtfcbnpjfpeiheaaDoorCards
import Derived.Test.YtfcbnpjfpeiheaaDoorTie
import Derived.Test.YtfcbnpjfpeiheaaDoorFrame
import Derived.Test.YtfcbnpjfpeiheaaDoorDoor
import Derived.SevenTiedAt
import Derived.LaidMore
import Derived.OpenShut
import Derived.Stop.Joined
import Derived.ProofKit
import Derived.Test.YtfcbnpjfpeiheaaDoorDoorE
import Derived.Test.YtfcbnpjfpeiheaaDoorPFracI
namespace Go.Proofs.YtfcbnpjfpeiheaaDoor.fnExactParseFraction
open Go.ChangeShapes Go.WideShapes Go.ChangeAt Go.RowKit Go.Joins Go.Deep
open Go.ChangeMaps (open_string shut_string)
set_option linter.unusedVariables false

theorem laid_pow {W : World} (h : laidMetH Tryd.prog Rows.fnExactParseFractionRow.laid W) : Pow W := by
  rw [MakeChecks.laidMetH_plain _ _ _ (by kernel_rfl)] at h
  have h2 : laidMet Tryd.prog (("internal/strconv.uint64pow10", Rows.laid_internal_strconv_uint64pow10) :: _) W := laidMet.tail (laidMet.tail h)
  rw [tabData_pow] at h2
  exact pow_of h2
theorem laid_errs {W : World} (h : laidMetH Tryd.prog Rows.fnExactParseFractionRow.laid W) : Errs W := by
  rw [MakeChecks.laidMetH_plain _ _ _ (by kernel_rfl)] at h
  have h2 : laidMet Tryd.prog (("strconv.ErrRange", Rows.laid_strconv_ErrRange) :: ("strconv.ErrSyntax", Rows.laid_strconv_ErrSyntax) :: _) W := laidMet.tail (laidMet.tail (laidMet.tail h))
  exact errs_of h2

set_option maxHeartbeats 4000000 in
theorem walk (s : ByteArray) (w : World) (hs : s.size ≤ maxLen) (hp : Pow w) (he : Errs w) :
    Calls Tryd.prog 3 #[.string s] w fun e w' => e = .returned (.bool true) ∧ Below w.heap.size w w' := by
  have hm : maxLen = 9223372036854775807 := rfl
  have HP := Lib.hid hp; clear hp
  have HE := Lib.hid he; clear he
  by_cases hz : 1048576 < (s.size : Int)
  · go_enter Tryd.func3, Tryd.ntmps3
    go_wp2_with fail
    go_ret
    exact ⟨rfl, Below.refl _ _⟩
  · have hz2 : s.size ≤ 1048576 := by omega
    have hne : (pfOk s != pfOk s) = false := by simp
    go_enter Tryd.func3, Tryd.ntmps3
    go_wp2_with fail
    refine (specParseFraction s _ hz2).mono ?_; rintro e w1 ⟨rfl, bl⟩
    have bA : Below w1.heap.size w1 (w1.alloc (.cells #[.int .i64 (pfX s), .int .i64 (pfY s)] 23)) := (Below.refl _ _).alloc (Nat.le_refl _) _
    have x0 : (w1.alloc (.cells #[.int .i64 (pfX s), .int .i64 (pfY s)] 23)).cell? ⟨w1.heap.size, 0, none⟩ = some (.int .i64 (pfX s)) := by simp
    have x1 : (w1.alloc (.cells #[.int .i64 (pfX s), .int .i64 (pfY s)] 23)).cell? ⟨w1.heap.size, 1, none⟩ = some (.int .i64 (pfY s)) := by simp
    have sx : w1.heap.size < (w1.alloc (.cells #[.int .i64 (pfX s), .int .i64 (pfY s)] 23)).heap.size := by simp
    replace bl := Below.on bl bA
    clear bA
    go_wp2_with fail
    generalize (w1.alloc (.cells #[.int .i64 (pfX s), .int .i64 (pfY s)] 23)) = W1 at *
    generalize w1.heap.size = x at *
    refine (implParseFraction s _ hz2 (HP.out.on bl) (HE.out.on bl)).mono ?_; rintro e w2 ⟨rfl, b2⟩
    replace bl := Below.on bl b2
    replace x0 := (b2.cell (p := ⟨x, 0, none⟩) sx).trans x0
    replace x1 := (b2.cell (p := ⟨x, 1, none⟩) sx).trans x1
    replace sx := Nat.lt_of_lt_of_le sx b2.size
    clear b2
    have bA : Below w2.heap.size w2 (w2.alloc (.cells #[.int .i64 (pfX s), .int .i64 (pfY s)] 23)) := (Below.refl _ _).alloc (Nat.le_refl _) _
    have y0 : (w2.alloc (.cells #[.int .i64 (pfX s), .int .i64 (pfY s)] 23)).cell? ⟨w2.heap.size, 0, none⟩ = some (.int .i64 (pfX s)) := by simp
    have y1 : (w2.alloc (.cells #[.int .i64 (pfX s), .int .i64 (pfY s)] 23)).cell? ⟨w2.heap.size, 1, none⟩ = some (.int .i64 (pfY s)) := by simp
    have z0 := (bA.cell (p := ⟨x, 0, none⟩) sx).trans x0
    have z1 := (bA.cell (p := ⟨x, 1, none⟩) sx).trans x1
    replace bl := Below.on bl bA
    clear bA
    go_wp2_with fail
    refine (eqFraction (pfX s) (pfY s) _).mono ?_; rintro e w3 ⟨rfl, b3⟩
    go_wp2_with fail
    go_ret
    exact ⟨rfl, Below.on bl b3⟩

set_option maxRecDepth 100000 in
/-- The heap that the start-up code leaves meets the condition. -/
theorem door_met (os : Os) (args : Array Value) : laidMetH Tryd.prog Rows.fnExactParseFractionRow.laid ((World.doorLaid Tryd.prog 72 os).forCall (fun _ _ => 0) ⟨#[], args, []⟩).memory :=
  laidMetH_of_parts3 (fuel := 8) (laidMet_of_run' 8 (by kernel_rfl) (by kernel_rfl)) (by kernel_rfl) (by kernel_rfl)
set_option maxRecDepth 100000 in
theorem lifted (os : Os) (started : os.Started) (H : Type) (enc : TypeId × Value → H) :
    ReturnsInHanded {} Tryd.checked os 3 .any (fun w args => (Rows.fnExactParseFractionSpec.pre enc Tryd.prog Tryd.f3 [] false w args ∧ laidMetH Tryd.prog Rows.fnExactParseFractionRow.laid w) ∧ sizedMet enc Tryd.prog Tryd.f3 (OpenSpec.ofChange Rows.fnExactParseFractionSpec) false w args) (Rows.fnExactParseFractionSpec.post enc Tryd.prog Tryd.f3 false true false false) := by
  refine returnsInHanded_of_change_and (C := Tryd.checked) (X := fun w _ => laidMetH Tryd.prog Rows.fnExactParseFractionRow.laid w) (fun _ _ _ hh h => h.of_heap hh) own started (by kernel_rfl) Tryd.func3
    (ChangeSpec.witness_shaped (enc := enc) (C := Tryd.checked) (os := os) (X := fun w _ => laidMetH Tryd.prog Rows.fnExactParseFractionRow.laid w) false (World.doorLaid Tryd.prog 72 os) #[.string ByteArray.empty] 8 rfl (World.shaped_of_RefB (by kernel_rfl) (by kernel_rfl)) (by kernel_rfl) (by kernel_rfl) (by kernel_rfl) (door_met os _)) ?_
  intro W base args ds gs before hval0 hW _ _ hL _
  have hval : ∀ (j : Nat) t v, Tryd.f3.params[j]? = some t → args[j]? = some v → Value.okWide Tryd.prog W .any base t v := hval0
  have hW' := hW
  obtain ⟨p, q, hA0, hV, rfl, hfz, hnd⟩ := hW
  have hA : DataW.TrodAll enc Tryd.prog W 0 (fun _ => true) true Tryd.f3.params.toList args.toList ds p := hA0
  rw [Tryd.params3] at hA hval
  obtain ⟨v0, vs0, d0, ds0, p0, q0, hargs, rfl, rfl, h0, r0⟩ := trodAll_cons hA
  obtain ⟨rfl, rfl, rfl⟩ := trodAll_nil r0
  obtain rfl : args = #[v0] := by cases args; simp_all
  obtain ⟨rfl, rfl⟩ := trodVars_none hV
  have k0 := h0
  have lt0 : ∀ x ∈ p0, x.block < W.heap.size := by obtain ⟨m, hm⟩ := k0; exact DataW.trod_lt m _ _ _ hm
  obtain ⟨a0, rfl, _, _, w0⟩ := open_string Tryd.underlying9 (hval 0 9 v0 rfl rfl) h0
  clear hA0 hval0
  refine (walk a0 W w0 (laid_pow hL) (laid_errs hL)).mono fun e W' ⟨he, bel⟩ => ?_
  subst he
  exact ⟨_, rfl, _, _, _, [], _, [], hW', trodAll_mk1 (shut_bool Tryd.underlying4 _), (trodAll_cons_mk (Below.trod laidOut (by kernel_rfl) (of_decide_eq_true (by kernel_rfl)) k0 bel lt0) trodAll_mk0), rfl, bel.frame _, fun h => by cases h⟩

theorem over : Rows.fnExactParseFractionRow.holds Tryd.pinned (OpenSpec.ofChange Rows.fnExactParseFractionSpec) :=
  OpenClaim.holds_of_wide 3 Tryd.f3 rfl rfl rfl rfl rfl rfl rfl ⟨rfl, rfl, rfl, rfl, rfl⟩ rfl rfl rfl rfl rfl (by kernel_rfl) Tryd.func3
    (joined_by _ _ _ _ _ (by kernel_rfl) laidOut mapsRowedYes (by kernel_rfl) (by kernel_rfl) (by kernel_rfl) stopsNone (by kernel_rfl) knobsNone (by kernel_rfl) (by kernel_rfl) (by kernel_rfl) (by kernel_rfl) (by kernel_rfl) (by kernel_rfl) (by kernel_rfl) (by kernel_rfl) (by kernel_rfl) (by kernel_rfl) (by kernel_rfl) (by kernel_rfl) (by kernel_rfl)
      (keys_fit _ _ keysPlain rfl) rfl heard mayEnterYes (lifted_fits _ _ liftsNo rfl) (make_fits _ _ makeCut rfl) rfl rfl (by kernel_rfl) (by kernel_rfl) (by kernel_rfl))
    (of_decide_eq_true (by kernel_rfl)) (by unfold Func.isWrapper; first | (rw [if_pos (by decide +kernel)]; kernel_rfl) | (rw [if_neg (by decide +kernel)]; exact ⟨rfl, rfl⟩))
    (fun os started H enc _ => lifted os started H enc)

set_option maxRecDepth 100000 in
theorem proved : Rows.FnExactParseFractionCardSaid :=
  Claim7.holds_tied_plain_at .later [] [.data, .data, .data, .sentinel, .sentinel] true (true, "61572e5c4f9c1851131f2d922974bd86be847ddfcd9e364c6f483e0ce544e8f6") true
    over (fun _ h => by cases h) (by kernel_rfl) (fun _ h => by cases h) fnExactParseFraction_row_tie rfl ⟨rfl, rfl⟩ (by kernel_rfl) rfl
    (fun f fn hf hfn => by
      obtain rfl : f = 3 := Option.some.inj ((show Tryd.prog.funcNamed "loop.example/g03202/laws.FnExactParseFraction" = some 3 by kernel_rfl).symm.trans hf) |>.symm
      obtain rfl : fn = Tryd.f3 := (Option.some.inj (Tryd.func3.symm.trans hfn)).symm
      exact ⟨by kernel_rfl, fun j t ht => by
        rw [Tryd.params3] at ht
        have hm : t ∈ [9] := by simpa using Array.mem_of_getElem? ht
        have hall : ([9].all fun u => !Tryd.prog.wantsStandIn u) = true := by kernel_rfl
        exact (show Tryd.prog.wantsStandIn t = false by simpa using List.all_eq_true.1 hall t hm)⟩)
    (by kernel_rfl)
end Go.Proofs.YtfcbnpjfpeiheaaDoor.fnExactParseFraction
