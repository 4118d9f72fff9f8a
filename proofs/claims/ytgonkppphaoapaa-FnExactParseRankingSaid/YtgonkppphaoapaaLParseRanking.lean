/- 'FnExactParseRanking': for every input the law returns true, and each argument reads behind the call as before it. No condition. -/
import Derived.Test.YtgonkppphaoapaaRows
import Derived.Test.YtgonkppphaoapaaFrame
import Derived.Test.YtgonkppphaoapaaParse
import Derived.Test.YtgonkppphaoapaaFrameInts
namespace Go.Proofs.Ytgonkppphaoapaa.fnExactParseRanking
open Go.ChangeShapes Go.WideShapes Go.ChangeAt Go.RowKit Go.Joins Go.Deep
open Go.ChangeMaps (open_string shut_string)
set_option linter.unusedVariables false

set_option maxHeartbeats 2000000 in
theorem walk (s : ByteArray) (w : World) (_hbs : s.size ≤ maxLen) :
    Calls Try.prog 13 #[.string s] w fun e w' => e = .returned (.bool true) ∧ Below w.heap.size w w' := by
  by_cases hns : 1048576 < (s.size : Int)
  · go_enter Try.func13, Try.ntmps13
    go_wp2
    go_ret
    exact ⟨rfl, Below.refl _ _⟩
  have hns : s.size ≤ 1048576 := by omega
  have hne : (parseOk s != parseOk s) = false := by simp
  have hy : ((parseP s).length : Int) ≤ 1048576 := by have := parse_len s; omega
  have bl := Below.refl w.heap.size w
  go_enter Try.func13, Try.ntmps13
  go_wp2_with fail
  refine (specParseRanking s _ (by omega)).mono ?_; rintro e w1 ⟨Ar, cr, rfl, r, b⟩
  have bl := Below.on bl b
  have sz1 := b.size
  clear b
  have lr := own_ge r
  go_wp2_with fail
  refine (implParseRanking s _ (by omega)).mono ?_; rintro e w2 ⟨Ag, cg, rfl, g, b⟩
  have r := own_below r b (Nat.le_refl _)
  have bl := Below.on bl b
  have sz2 := b.size
  clear b
  have lg := own_ge g
  go_wp2_with fail
  refine (eqIntS _ _ _ _ _ _ _ (Ints.of_own g) (Ints.of_own r) hy).mono ?_; rintro e w3 ⟨rfl, b⟩
  have r := own_below r b (Nat.le_refl _)
  have g := own_below g b (Nat.le_refl _)
  have bl := Below.on bl b
  have sz3 := b.size
  clear b
  go_wp2_with fail
  refine (markIntS _ _ _ _ _ 1 _ g hy (by omega)).mono ?_; rintro e w4 ⟨rfl, o, gr⟩
  have r := own_grown r gr (fun a ha => by have h1 := lr a ha; intro he; obtain ⟨a1, ha1, he⟩ := map_block he; have h2 := lg a1 ha1; omega)
  have bl := Below.grown bl gr (by omega) (fun k hk => by obtain ⟨a1, ha1, he⟩ := map_block hk.symm; have h2 := lg a1 ha1; omega)
  have g := o; clear o
  have sz4 := gr.size; clear gr
  go_wp2_with fail
  refine (heldIntS _ _ _ 1 _ (Ints.of_own g) hy (by omega)).mono ?_; rintro e w' ⟨rfl, rfl⟩
  go_wp2_with fail
  refine (implParseRanking s _ (by omega)).mono ?_; rintro e w5 ⟨Au, cu, rfl, u, b⟩
  have r := own_below r b (Nat.le_refl _)
  have g := own_below g b (Nat.le_refl _)
  have bl := Below.on bl b
  have sz5 := b.size
  clear b
  have lu := own_ge u
  go_wp2_with fail
  refine (eqIntS _ _ _ _ _ _ _ (Ints.of_own u) (Ints.of_own r) hy).mono ?_; rintro e w6 ⟨rfl, b⟩
  have r := own_below r b (Nat.le_refl _)
  have g := own_below g b (Nat.le_refl _)
  have u := own_below u b (Nat.le_refl _)
  have bl := Below.on bl b
  have sz6 := b.size
  clear b
  go_wp2_with fail
  refine (heldIntS _ _ _ 1 _ (Ints.of_own g) hy (by omega)).mono ?_; rintro e w' ⟨rfl, rfl⟩
  go_wp2_with fail
  go_ret
  exact ⟨rfl, bl⟩

set_option maxRecDepth 100000 in
theorem lifted (os : Os) (started : os.Started) (H : Type) (enc : TypeId × Value → H) :
    ReturnsInHanded {} Try.checked os 13 .any (Rows.fnExactParseRankingSpec.pre6 enc Try.prog Try.f13 Rows.fnExactParseRankingRow.domain false) (Rows.fnExactParseRankingSpec.post enc Try.prog Try.f13 false true false false) := by
  refine returnsInHanded_of_change (C := Try.checked) own started (by kernel_rfl) Try.func13
    (ChangeSpec.witness6 (enc := enc) (C := Try.checked) false ⟨#[], #[.string ByteArray.empty], []⟩ 8 (by kernel_rfl) (by kernel_rfl) (by kernel_rfl) (by kernel_rfl)) ?_
  intro W base args ds gs before hval0 hW hcnd _
  have hval : ∀ (j : Nat) t v, Try.f13.params[j]? = some t → args[j]? = some v → Value.okWide Try.prog W .any base t v := hval0
  have hW' := hW
  obtain ⟨p, q, hA0, hV, rfl, hfz, hnd⟩ := hW
  have hA : DataW.TrodAll enc Try.prog W 0 (fun _ => true) true Try.f13.params.toList args.toList ds p := hA0
  rw [Try.params13] at hA hval
  obtain ⟨v0, vs0, d0, ds0, p0, q0, hargs, rfl, rfl, h0, r0⟩ := trodAll_cons hA
  obtain ⟨rfl, rfl, rfl⟩ := trodAll_nil r0
  obtain rfl : args = #[v0] := by cases args; simp_all
  obtain ⟨rfl, rfl⟩ := trodVars_none hV
  have k0 := h0
  have lt0 : ∀ x ∈ p0, x.block < W.heap.size := by obtain ⟨m, hm⟩ := k0; exact DataW.trod_lt m _ _ _ hm
  obtain ⟨a0, rfl, _, _, w0⟩ := open_string Try.underlying9 (hval 0 9 v0 rfl rfl) h0
  clear hA0 hval0
  refine (walk a0 W w0).mono fun e W' ⟨he, bel⟩ => ?_
  subst he
  exact ⟨_, rfl, _, _, _, [], _, [], hW', trodAll_mk1 (shut_bool Try.underlying4 _), (trodAll_cons_mk (Below.trod laidOut (by kernel_rfl) (of_decide_eq_true (by kernel_rfl)) k0 bel lt0) trodAll_mk0), rfl, bel.frame _, fun h => by cases h⟩

theorem over : Rows.fnExactParseRankingRow.holds Try.pinned (OpenSpec.ofChange Rows.fnExactParseRankingSpec) :=
  OpenClaim.holds_of_wide 13 Try.f13 rfl rfl rfl rfl rfl rfl rfl ⟨rfl, rfl, rfl, rfl, rfl⟩ rfl rfl rfl rfl rfl (by kernel_rfl) Try.func13
    (joined_by _ _ _ _ _ (by kernel_rfl) laidOut mapsRowedYes (by kernel_rfl) (by kernel_rfl) (by kernel_rfl) stopsNone (by kernel_rfl) knobsNone (by kernel_rfl) (by kernel_rfl) (by kernel_rfl) (by kernel_rfl) (by kernel_rfl) (by kernel_rfl) (by kernel_rfl) (by kernel_rfl) (by kernel_rfl) (by kernel_rfl) (by kernel_rfl) (by kernel_rfl) (by kernel_rfl)
      (keys_fit _ _ keysPlain rfl) rfl heard mayEnterYes (lifted_fits _ _ liftsNo rfl) (make_fits _ _ makeCut rfl) rfl rfl (by kernel_rfl) (by kernel_rfl) (by kernel_rfl))
    (of_decide_eq_true (by kernel_rfl)) (by unfold Func.isWrapper; first | (rw [if_pos (by decide +kernel)]; kernel_rfl) | (rw [if_neg (by decide +kernel)]; exact ⟨rfl, rfl⟩))
    (fun os started H enc _ => lifted os started H enc)

theorem proved : Rows.FnExactParseRankingSaid := over
end Go.Proofs.Ytgonkppphaoapaa.fnExactParseRanking
