/- 'FnExactSplitLines': for every input the law returns true, and each argument reads behind the call as before it. No condition. -/
import Derived.Test.YtfcbnpjfpeiheaaDoorCards
import Derived.Test.YtfcbnpjfpeiheaaDoorTie
import Derived.Test.YtfcbnpjfpeiheaaDoorFrame
import Derived.Test.YtfcbnpjfpeiheaaDoorShaped
import Derived.Lay
import Derived.SevenTiedAt
import Derived.LaidMore
import Derived.OpenShut
import Derived.Stop.Joined
import Derived.ProofKit
import Derived.Test.YtfcbnpjfpeiheaaDoorLines
namespace Go.Proofs.YtfcbnpjfpeiheaaDoor.fnExactSplitLines
open Go.ChangeShapes Go.WideShapes Go.ChangeAt Go.RowKit Go.Joins Go.Deep
open Go.ChangeMaps (open_string shut_string)
set_option linter.unusedVariables false

set_option maxHeartbeats 4000000 in
theorem walk (s : ByteArray) (w : World) (_hs : s.size ≤ maxLen) (hmx : MaxC w) :
    Calls Tryd.prog 7 #[.string s] w fun e w' => e = .returned (.bool true) ∧ Below w.heap.size w w' := by
  have HM := Lib.hid hmx; clear hmx
  by_cases hs : 1048576 < (s.size : Int)
  · go_enter Tryd.func7, Tryd.ntmps7
    go_wp2
    go_ret
    exact ⟨rfl, Below.refl _ _⟩
  have hs : s.size ≤ 1048576 := by omega
  have hn : ((slP s).length : Int) ≤ 1099511627776 := by have := sl_len s; omega
  have hq : ((1 : Int) + ((slP s).length : Int) != (1 : Int) + ((slP s).length : Int)) = false := by simp
  have hz : ¬ (1 : Int) + ((slP s).length : Int) < 0 := by omega
  go_enter Tryd.func7, Tryd.ntmps7
  go_wp2_with fail
  refine (specSplitLines s _ (by omega)).mono ?_; rintro e w1 ⟨A1, c1, rfl, o1, b1⟩
  have bl := b1
  have i1 := own_ge o1
  go_wp2_with fail
  refine (implSplitLines s _ (by omega) (HM.out.on bl)).mono ?_; rintro e w2 ⟨A2, c2, d2, rfl, o2, b2⟩
  have bl := Below.on bl b2
  have o1 := own_below o1 b2 (Nat.le_refl _)
  have i2 := own_ge o2
  have z1 := b1.size
  have z2 := b2.size
  clear b2
  go_wp2_with fail
  refine (eqStringS _ _ _ _ _ _ _ (Strs.of_own o2) (Strs.of_own o1) hn).mono ?_; rintro e w3 ⟨rfl, b3⟩
  have bl := Below.on bl b3
  have o1 := own_below o1 b3 (Nat.le_refl _)
  have o2 := own_below o2 b3 (Nat.le_refl _)
  have z3 := b3.size
  clear b3
  go_wp2_with fail
  refine (markStringSC _ _ _ _ _ _ 1 _ o2 hn (by omega)).mono ?_; rintro e w4 ⟨rfl, o2, g4⟩
  have o1 := own_grown o1 g4 (fun a ha he => by obtain ⟨a2, ha2, he2⟩ := map_block he; have := i1 a ha; have := i2 a2 ha2; omega)
  have bl := Below.grown bl g4 (by omega) (fun k hk => by obtain ⟨a2, ha2, he2⟩ := map_block hk.symm; have := i2 a2 ha2; omega)
  have z4 := g4.size
  clear g4
  go_wp2_with fail
  refine (heldStringS _ _ _ 1 _ (Strs.of_own o2) hn (by omega)).mono ?_; rintro e w5 ⟨rfl, b5⟩
  have bl := Below.on bl b5
  have o1 := own_below o1 b5 (Nat.le_refl _)
  have o2 := own_below o2 b5 (Nat.le_refl _)
  clear b5
  go_wp2_with fail
  refine (implSplitLines s _ (by omega) (HM.out.on bl)).mono ?_; rintro e w6 ⟨A3, c3, d3, rfl, o3, b6⟩
  have bl := Below.on bl b6
  have o1 := own_below o1 b6 (Nat.le_refl _)
  have o2 := own_below o2 b6 (Nat.le_refl _)
  clear b6
  go_wp2_with fail
  refine (eqStringS _ _ _ _ _ _ _ (Strs.of_own o3) (Strs.of_own o1) hn).mono ?_; rintro e w7 ⟨rfl, b7⟩
  have bl := Below.on bl b7
  have o2 := own_below o2 b7 (Nat.le_refl _)
  clear b7
  go_wp2_with fail
  refine (heldStringS _ _ _ 1 _ (Strs.of_own o2) hn (by omega)).mono ?_; rintro e w8 ⟨rfl, b8⟩
  have bl := Below.on bl b8
  go_wp2_with fail
  go_ret
  exact ⟨rfl, bl⟩

set_option maxRecDepth 100000 in
theorem lifted (os : Os) (started : os.Started) (H : Type) (enc : TypeId × Value → H) :
    ReturnsInHanded {} Tryd.checked os 7 .any (fun w args => (Rows.fnExactSplitLinesSpec.pre enc Tryd.prog Tryd.f7 [] false w args ∧ laidMetH Tryd.prog Rows.fnExactSplitLinesRow.laid w) ∧ sizedMet enc Tryd.prog Tryd.f7 (OpenSpec.ofChange Rows.fnExactSplitLinesSpec) false w args) (Rows.fnExactSplitLinesSpec.post enc Tryd.prog Tryd.f7 false true false false) := by
  refine change_and_shaped (C := Tryd.checked) (X := fun w _ => laidMetH Tryd.prog Rows.fnExactSplitLinesRow.laid w) (fun _ _ _ hh h => h.of_heap hh) own started (by kernel_rfl) Tryd.func7
    (ChangeSpec.witness_shaped (enc := enc) (C := Tryd.checked) (os := os) (X := fun w _ => laidMetH Tryd.prog Rows.fnExactSplitLinesRow.laid w) false (World.laidAll Tryd.prog os Rows.fnExactSplitLinesRow.laid) #[.string ByteArray.empty] 8 (World.laidAll_os _ _ _) (World.shaped_of_ZipB (by kernel_rfl) (by kernel_rfl)) (by kernel_rfl) (by kernel_rfl) (by kernel_rfl)
      (by rw [MakeChecks.laidMetH_plain _ _ _ (by kernel_rfl)]; exact laidMet_laidAll _ (by kernel_rfl) (by kernel_rfl))) ?_
  intro W base args ds gs before hval0 hW _ _ hL hsh _
  have hval : ∀ (j : Nat) t v, Tryd.f7.params[j]? = some t → args[j]? = some v → Value.okWide Tryd.prog W .any base t v := hval0
  have hW' := hW
  obtain ⟨p, q, hA0, hV, rfl, hfz, hnd⟩ := hW
  have hA : DataW.TrodAll enc Tryd.prog W 0 (fun _ => true) true Tryd.f7.params.toList args.toList ds p := hA0
  rw [Tryd.params7] at hA hval
  obtain ⟨v0, vs0, d0, ds0, p0, q0, hargs, rfl, rfl, h0, r0⟩ := trodAll_cons hA
  obtain ⟨rfl, rfl, rfl⟩ := trodAll_nil r0
  obtain rfl : args = #[v0] := by cases args; simp_all
  obtain ⟨rfl, rfl⟩ := trodVars_none hV
  have k0 := h0
  have lt0 : ∀ x ∈ p0, x.block < W.heap.size := by obtain ⟨m, hm⟩ := k0; exact DataW.trod_lt m _ _ _ hm
  obtain ⟨a0, rfl, _, _, w0⟩ := open_string Tryd.underlying9 (hval 0 9 v0 rfl rfl) h0
  clear hA0 hval0
  refine (walk a0 W w0 (maxC_of hsh)).mono fun e W' ⟨he, bel⟩ => ?_
  subst he
  exact ⟨_, rfl, _, _, _, [], _, [], hW', trodAll_mk1 (shut_bool Tryd.underlying4 _), (trodAll_cons_mk (Below.trod laidOut (by kernel_rfl) (of_decide_eq_true (by kernel_rfl)) k0 bel lt0) trodAll_mk0), rfl, bel.frame _, fun h => by cases h⟩

theorem over : Rows.fnExactSplitLinesRow.holds Tryd.pinned (OpenSpec.ofChange Rows.fnExactSplitLinesSpec) :=
  OpenClaim.holds_of_wide 7 Tryd.f7 rfl rfl rfl rfl rfl rfl rfl ⟨rfl, rfl, rfl, rfl, rfl⟩ rfl rfl rfl rfl rfl (by kernel_rfl) Tryd.func7
    (joined_by _ _ _ _ _ (by kernel_rfl) laidOut mapsRowedYes (by kernel_rfl) (by kernel_rfl) (by kernel_rfl) stopsNone (by kernel_rfl) knobsNone (by kernel_rfl) (by kernel_rfl) (by kernel_rfl) (by kernel_rfl) (by kernel_rfl) (by kernel_rfl) (by kernel_rfl) (by kernel_rfl) (by kernel_rfl) (by kernel_rfl) (by kernel_rfl) (by kernel_rfl) (by kernel_rfl)
      (keys_fit _ _ keysPlain rfl) rfl heard mayEnterYes (lifted_fits _ _ liftsNo rfl) (make_fits _ _ makeCut rfl) rfl rfl (by kernel_rfl) (by kernel_rfl) (by kernel_rfl))
    (of_decide_eq_true (by kernel_rfl)) (by unfold Func.isWrapper; first | (rw [if_pos (by decide +kernel)]; kernel_rfl) | (rw [if_neg (by decide +kernel)]; exact ⟨rfl, rfl⟩))
    (fun os started H enc _ => lifted os started H enc)

set_option maxRecDepth 100000 in
theorem proved : Rows.FnExactSplitLinesCardSaid :=
  Claim7.holds_tied_plain_at .later [] [.data, .pinned] true (true, "61572e5c4f9c1851131f2d922974bd86be847ddfcd9e364c6f483e0ce544e8f6") true
    over (fun _ h => by cases h) (by kernel_rfl) (fun _ h => by cases h) fnExactSplitLines_row_tie rfl ⟨rfl, rfl⟩ (by kernel_rfl) rfl
    (fun f fn hf hfn => by
      obtain rfl : f = 7 := Option.some.inj ((show Tryd.prog.funcNamed "loop.example/g03202/laws.FnExactSplitLines" = some 7 by kernel_rfl).symm.trans hf) |>.symm
      obtain rfl : fn = Tryd.f7 := (Option.some.inj (Tryd.func7.symm.trans hfn)).symm
      exact ⟨by kernel_rfl, fun j t ht => by
        rw [Tryd.params7] at ht
        have hm : t ∈ [9] := by simpa using Array.mem_of_getElem? ht
        have hall : ([9].all fun u => !Tryd.prog.wantsStandIn u) = true := by kernel_rfl
        exact (show Tryd.prog.wantsStandIn t = false by simpa using List.all_eq_true.1 hall t hm)⟩)
    (by kernel_rfl)
end Go.Proofs.YtfcbnpjfpeiheaaDoor.fnExactSplitLines
