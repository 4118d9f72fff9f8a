/- 'FnExactSplitAny': for every input the law returns true, and each argument reads behind the call as before it. No condition. -/
import Derived.Test.YtadacfammhianaaRows
import Derived.Test.YtadacfammhianaaFrame
import Derived.Test.YtadacfammhianaaSplit
namespace Go.Proofs.Ytadacfammhianaa.fnExactSplitAny
open Go.ChangeShapes Go.WideShapes Go.ChangeAt Go.RowKit Go.Joins Go.Deep
open Go.ChangeMaps (open_string shut_string)
set_option linter.unusedVariables false

set_option maxHeartbeats 4000000 in
theorem walk (s b : ByteArray) (w : World) (_w0 : s.size ≤ maxLen) (_w1 : b.size ≤ maxLen) :
    Calls Try.prog 3 #[.string s, .string b] w fun e w' => e = .returned (.bool true) ∧ Below w.heap.size w w' := by
  by_cases hs : 1048576 < (s.size : Int)
  · go_enter Try.func3, Try.ntmps3
    go_wp2
    go_ret
    exact ⟨rfl, Below.refl _ _⟩
  have hs : (s.size : Int) ≤ 1048576 := by omega
  by_cases hb : 1048576 < (b.size : Int)
  · go_enter Try.func3, Try.ntmps3
    go_wp2
    go_ret
    exact ⟨rfl, Below.refl _ _⟩
  have hb : (b.size : Int) ≤ 1048576 := by omega
  have hn : ((spP b s).length : Int) ≤ 1099511627776 := by have := sp_len b s; omega
  have hq : ((1 : Int) + ((spP b s).length : Int) != (1 : Int) + ((spP b s).length : Int)) = false := by simp
  have hz : ¬ (1 : Int) + ((spP b s).length : Int) < 0 := by omega
  go_enter Try.func3, Try.ntmps3
  go_wp2_with fail
  refine (specSplitAny s b _ hs hb).mono ?_; rintro e w1 ⟨A1, c1, rfl, o1, b1⟩
  have bl := b1
  have i1 := own_ge o1
  go_wp2_with fail
  refine (implSplitAny s b _ hs).mono ?_; rintro e w2 ⟨A2, c2, rfl, o2, b2⟩
  have bl := Below.on bl b2
  have o1 := own_below o1 b2 (Nat.le_refl _)
  have i2 := own_ge o2
  have z1 := b1.size
  have z2 := b2.size
  clear b2
  go_wp2_with fail
  refine (eqStringS _ _ _ _ _ _ _ (Strs.of_own o2) (Strs.of_own o1) hn).mono ?_; rintro e w3 ⟨rfl, b3⟩
  have bl := Below.on bl b3
  have o1 := own_below o1 b3 (Nat.le_refl _)
  have o2 := own_below o2 b3 (Nat.le_refl _)
  have z3 := b3.size
  clear b3
  go_wp2_with fail
  refine (markStringS _ _ _ _ _ 1 _ o2 hn (by omega)).mono ?_; rintro e w4 ⟨rfl, o2, g4⟩
  have o1 := own_grown o1 g4 (fun a ha he => by obtain ⟨a2, ha2, he2⟩ := map_block he; have := i1 a ha; have := i2 a2 ha2; omega)
  have bl := Below.grown bl g4 (by omega) (fun k hk => by obtain ⟨a2, ha2, he2⟩ := map_block hk.symm; have := i2 a2 ha2; omega)
  have z4 := g4.size
  clear g4
  go_wp2_with fail
  refine (heldStringS _ _ _ 1 _ (Strs.of_own o2) hn (by omega)).mono ?_; rintro e w5 ⟨rfl, b5⟩
  have bl := Below.on bl b5
  have o1 := own_below o1 b5 (Nat.le_refl _)
  have o2 := own_below o2 b5 (Nat.le_refl _)
  clear b5
  go_wp2_with fail
  refine (implSplitAny s b _ hs).mono ?_; rintro e w6 ⟨A3, c3, rfl, o3, b6⟩
  have bl := Below.on bl b6
  have o1 := own_below o1 b6 (Nat.le_refl _)
  have o2 := own_below o2 b6 (Nat.le_refl _)
  clear b6
  go_wp2_with fail
  refine (eqStringS _ _ _ _ _ _ _ (Strs.of_own o3) (Strs.of_own o1) hn).mono ?_; rintro e w7 ⟨rfl, b7⟩
  have bl := Below.on bl b7
  have o2 := own_below o2 b7 (Nat.le_refl _)
  clear b7
  go_wp2_with fail
  refine (heldStringS _ _ _ 1 _ (Strs.of_own o2) hn (by omega)).mono ?_; rintro e w8 ⟨rfl, b8⟩
  have bl := Below.on bl b8
  go_wp2_with fail
  go_ret
  exact ⟨rfl, bl⟩

set_option maxRecDepth 100000 in
theorem lifted (os : Os) (started : os.Started) (H : Type) (enc : TypeId × Value → H) :
    ReturnsInHanded {} Try.checked os 3 .any (Rows.fnExactSplitAnySpec.pre6 enc Try.prog Try.f3 Rows.fnExactSplitAnyRow.domain false) (Rows.fnExactSplitAnySpec.post enc Try.prog Try.f3 false true false false) := by
  refine returnsInHanded_of_change (C := Try.checked) own started (by kernel_rfl) Try.func3
    (ChangeSpec.witness6 (enc := enc) (C := Try.checked) false ⟨#[], #[.string ByteArray.empty, .string ByteArray.empty], []⟩ 8 (by kernel_rfl) (by kernel_rfl) (by kernel_rfl) (by kernel_rfl)) ?_
  intro W base args ds gs before hval0 hW hcnd _
  have hval : ∀ (j : Nat) t v, Try.f3.params[j]? = some t → args[j]? = some v → Value.okWide Try.prog W .any base t v := hval0
  have hW' := hW
  obtain ⟨p, q, hA0, hV, rfl, hfz, hnd⟩ := hW
  have hA : DataW.TrodAll enc Try.prog W 0 (fun _ => true) true Try.f3.params.toList args.toList ds p := hA0
  rw [Try.params3] at hA hval
  obtain ⟨v0, vs0, d0, ds0, p0, q0, hargs, rfl, rfl, h0, r0⟩ := trodAll_cons hA
  obtain ⟨v1, vs1, d1, ds1, p1, q1, rfl, rfl, rfl, h1, r1⟩ := trodAll_cons r0
  obtain ⟨rfl, rfl, rfl⟩ := trodAll_nil r1
  obtain rfl : args = #[v0, v1] := by cases args; simp_all
  obtain ⟨rfl, rfl⟩ := trodVars_none hV
  have k0 := h0
  have lt0 : ∀ x ∈ p0, x.block < W.heap.size := by obtain ⟨m, hm⟩ := k0; exact DataW.trod_lt m _ _ _ hm
  obtain ⟨a0, rfl, _, _, w0⟩ := open_string Try.underlying9 (hval 0 9 v0 rfl rfl) h0
  have k1 := h1
  have lt1 : ∀ x ∈ p1, x.block < W.heap.size := by obtain ⟨m, hm⟩ := k1; exact DataW.trod_lt m _ _ _ hm
  obtain ⟨a1, rfl, _, _, w1⟩ := open_string Try.underlying9 (hval 1 9 v1 rfl rfl) h1
  clear hA0 hval0
  refine (walk a0 a1 W w0 w1).mono fun e W' ⟨he, bel⟩ => ?_
  subst he
  exact ⟨_, rfl, _, _, _, [], _, [], hW', trodAll_mk1 (shut_bool Try.underlying4 _), (trodAll_cons_mk (Below.trod laidOut (by kernel_rfl) (of_decide_eq_true (by kernel_rfl)) k0 bel lt0) (trodAll_cons_mk (Below.trod laidOut (by kernel_rfl) (of_decide_eq_true (by kernel_rfl)) k1 bel lt1) trodAll_mk0)), rfl, bel.frame _, fun h => by cases h⟩

theorem over : Rows.fnExactSplitAnyRow.holds Try.pinned (OpenSpec.ofChange Rows.fnExactSplitAnySpec) :=
  OpenClaim.holds_of_wide 3 Try.f3 rfl rfl rfl rfl rfl rfl rfl ⟨rfl, rfl, rfl, rfl, rfl⟩ rfl rfl rfl rfl rfl (by kernel_rfl) Try.func3
    (joined_by _ _ _ _ _ (by kernel_rfl) laidOut mapsRowedYes (by kernel_rfl) (by kernel_rfl) (by kernel_rfl) stopsNone (by kernel_rfl) knobsNone (by kernel_rfl) (by kernel_rfl) (by kernel_rfl) (by kernel_rfl) (by kernel_rfl) (by kernel_rfl) (by kernel_rfl) (by kernel_rfl) (by kernel_rfl) (by kernel_rfl) (by kernel_rfl) (by kernel_rfl) (by kernel_rfl)
      (keys_fit _ _ keysPlain rfl) rfl heard mayEnterYes (lifted_fits _ _ liftsNo rfl) (make_fits _ _ makeCut rfl) rfl rfl (by kernel_rfl) (by kernel_rfl) (by kernel_rfl))
    (of_decide_eq_true (by kernel_rfl)) (by unfold Func.isWrapper; first | (rw [if_pos (by decide +kernel)]; kernel_rfl) | (rw [if_neg (by decide +kernel)]; exact ⟨rfl, rfl⟩))
    (fun os started H enc _ => lifted os started H enc)

theorem proved : Rows.FnExactSplitAnySaid := over
end Go.Proofs.Ytadacfammhianaa.fnExactSplitAny
