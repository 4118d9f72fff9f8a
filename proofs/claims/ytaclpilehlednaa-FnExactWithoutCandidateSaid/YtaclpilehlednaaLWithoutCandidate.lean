/- 'FnExactWithoutCandidate': for every input the law returns true, and each argument reads behind the call as before it. No condition. -/
import Derived.Test.YtaclpilehlednaaRows
import Derived.Test.YtaclpilehlednaaFrame
import Derived.Test.YtaclpilehlednaaWithout
import Derived.Test.YtaclpilehlednaaFrameInts
namespace Go.Proofs.Ytaclpilehlednaa.fnExactWithoutCandidate
open Go.ChangeShapes Go.WideShapes Go.ChangeAt Go.RowKit Go.Joins Go.Deep
open Go.ChangeMaps (open_string shut_string)
set_option linter.unusedVariables false

set_option maxHeartbeats 2000000 in
theorem walk (A0 : Option Addr) (n0 c0 : Nat) (z0 : List Int) (a : Int) (w : World) (hw0 : Ints w A0 n0 z0 ∧ n0 ≤ c0 ∧ c0 ≤ maxLen ∧ I64 z0) (_hba : -9223372036854775808 ≤ a ∧ a ≤ 9223372036854775807) :
    Calls Try.prog 4 #[.slice A0 n0 c0, .int .i64 a] w fun e w' => e = .returned (.bool true) ∧ Below w.heap.size w w' := by
  obtain ⟨h0, _hnc0, _hcm0, hi0⟩ := hw0
  have HI0 := Lib.hid hi0; clear hi0
  have i0 := h0.in_
  by_cases hn0 : 1048576 < (n0 : Int)
  · go_enter Try.func4, Try.ntmps4
    go_wp2
    go_ret
    exact ⟨rfl, Below.refl _ _⟩
  have hn0 : (n0 : Int) ≤ 1048576 := by omega
  have hne : (woOk z0 a != woOk z0 a) = false := by simp
  have hy : ((woP z0 a).length : Int) ≤ 1048576 := by have := wo_len z0 a; have := h0.1; omega
  have bl := Below.refl w.heap.size w
  go_enter Try.func4, Try.ntmps4
  go_wp2_with fail
  refine (toIntS _ _ _ z0 _ h0 hn0).mono ?_; rintro e w1 ⟨rfl, q0, b⟩
  have h0 := Ints.on h0 b
  have bl := Below.on bl b
  have sz1 := b.size
  clear b
  go_wp2_with fail
  refine (specWithoutCandidate _ _ _ z0 a _ (Ints.of_own q0) hn0 ).mono ?_; rintro e w2 ⟨Ar, cr, rfl, r, b⟩
  have h0 := Ints.on h0 b
  have q0 := own_below q0 b (Nat.le_refl _)
  have bl := Below.on bl b
  have sz2 := b.size
  clear b
  have lr := own_ge r
  clear q0
  go_wp2_with fail
  refine (toIntS _ _ _ z0 _ h0 hn0).mono ?_; rintro e w3 ⟨rfl, x0, b⟩
  have h0 := Ints.on h0 b
  have r := own_below r b (Nat.le_refl _)
  have bl := Below.on bl b
  have sz3 := b.size
  clear b
  have lx0 := own_ge x0
  have ltx0 := (lx0 _ rfl).2
  go_wp2_with fail
  refine (implWithoutCandidate _ _ _ z0 a _ (Ints.of_own x0) hn0 (Int.le_refl _)).mono ?_; rintro e w4 ⟨Ag, cg, rfl, g, b⟩
  have h0 := Ints.on h0 b
  have r := own_below r b (Nat.le_refl _)
  have x0 := own_below x0 b (Nat.le_refl _)
  have bl := Below.on bl b
  have sz4 := b.size
  clear b
  have lg := own_ge g
  go_wp2_with fail
  refine (eqIntS _ _ _ _ _ _ _ (Ints.of_own g) (Ints.of_own r) hy).mono ?_; rintro e w5 ⟨rfl, b⟩
  have h0 := Ints.on h0 b
  have r := own_below r b (Nat.le_refl _)
  have x0 := own_below x0 b (Nat.le_refl _)
  have g := own_below g b (Nat.le_refl _)
  have bl := Below.on bl b
  have sz5 := b.size
  clear b
  go_wp2_with fail
  refine (toIntS _ _ _ z0 _ h0 hn0).mono ?_; rintro e w6 ⟨rfl, y0, b⟩
  have h0 := Ints.on h0 b
  have r := own_below r b (Nat.le_refl _)
  have x0 := own_below x0 b (Nat.le_refl _)
  have g := own_below g b (Nat.le_refl _)
  have bl := Below.on bl b
  have sz6 := b.size
  clear b
  go_wp2_with fail
  refine (eqIntS _ _ _ _ _ _ _ (Ints.of_own x0) (Ints.of_own y0) hn0).mono ?_; rintro e w7 ⟨rfl, b⟩
  have h0 := Ints.on h0 b
  have r := own_below r b (Nat.le_refl _)
  have x0 := own_below x0 b (Nat.le_refl _)
  have g := own_below g b (Nat.le_refl _)
  have y0 := own_below y0 b (Nat.le_refl _)
  have bl := Below.on bl b
  have sz7 := b.size
  clear b
  clear y0
  go_wp2_with fail
  refine (markIntS _ _ _ _ _ 1 _ x0 hn0 (by omega)).mono ?_; rintro e w8 ⟨rfl, o, gr⟩
  have h0 := Ints.grown h0 gr (fun h0 a ha => by have h1 := In.mono i0 (Nat.le_refl _) h0 a ha; simp; omega)
  have r := own_grown r gr (fun a ha => by have h1 := lr a ha; simp; omega)
  have g := own_grown g gr (fun a ha => by have h1 := lg a ha; simp; omega)
  have bl := Below.grown bl gr (by omega) (fun k hk => by simp at hk; omega)
  have x0 := o; clear o
  have sz8 := gr.size; clear gr
  go_wp2_with fail
  refine (eqIntS _ _ _ _ _ _ _ (Ints.of_own g) (Ints.of_own r) hy).mono ?_; rintro e w9 ⟨rfl, b⟩
  have h0 := Ints.on h0 b
  have r := own_below r b (Nat.le_refl _)
  have x0 := own_below x0 b (Nat.le_refl _)
  have g := own_below g b (Nat.le_refl _)
  have bl := Below.on bl b
  have sz9 := b.size
  clear b
  go_wp2_with fail
  refine (markIntS _ _ _ _ _ 1 _ g hy (by omega)).mono ?_; rintro e w10 ⟨rfl, o, gr⟩
  have h0 := Ints.grown h0 gr (fun h0 a ha => by have h1 := In.mono i0 (Nat.le_refl _) h0 a ha; intro he; obtain ⟨a1, ha1, he⟩ := map_block he; have h2 := lg a1 ha1; omega)
  have r := own_grown r gr (fun a ha => by have h1 := lr a ha; intro he; obtain ⟨a1, ha1, he⟩ := map_block he; have h2 := lg a1 ha1; omega)
  have x0 := own_grown x0 gr (fun a ha => by have h1 := lx0 a ha; intro he; obtain ⟨a1, ha1, he⟩ := map_block he; have h2 := lg a1 ha1; omega)
  have bl := Below.grown bl gr (by omega) (fun k hk => by obtain ⟨a1, ha1, he⟩ := map_block hk.symm; have h2 := lg a1 ha1; omega)
  have g := o; clear o
  have sz10 := gr.size; clear gr
  go_wp2_with fail
  refine (heldIntS _ _ _ 1 _ (Ints.of_own g) hy (by omega)).mono ?_; rintro e w' ⟨rfl, rfl⟩
  go_wp2_with fail
  refine (toIntS _ _ _ z0 _ h0 hn0).mono ?_; rintro e w11 ⟨rfl, k0, b⟩
  have h0 := Ints.on h0 b
  have r := own_below r b (Nat.le_refl _)
  have x0 := own_below x0 b (Nat.le_refl _)
  have g := own_below g b (Nat.le_refl _)
  have bl := Below.on bl b
  have sz11 := b.size
  clear b
  go_wp2_with fail
  refine (implWithoutCandidate _ _ _ z0 a _ (Ints.of_own k0) hn0 (Int.le_refl _)).mono ?_; rintro e w12 ⟨Au, cu, rfl, u, b⟩
  have h0 := Ints.on h0 b
  have r := own_below r b (Nat.le_refl _)
  have x0 := own_below x0 b (Nat.le_refl _)
  have g := own_below g b (Nat.le_refl _)
  have k0 := own_below k0 b (Nat.le_refl _)
  have bl := Below.on bl b
  have sz12 := b.size
  clear b
  have lu := own_ge u
  go_wp2_with fail
  refine (eqIntS _ _ _ _ _ _ _ (Ints.of_own u) (Ints.of_own r) hy).mono ?_; rintro e w13 ⟨rfl, b⟩
  have h0 := Ints.on h0 b
  have r := own_below r b (Nat.le_refl _)
  have x0 := own_below x0 b (Nat.le_refl _)
  have g := own_below g b (Nat.le_refl _)
  have k0 := own_below k0 b (Nat.le_refl _)
  have u := own_below u b (Nat.le_refl _)
  have bl := Below.on bl b
  have sz13 := b.size
  clear b
  go_wp2_with fail
  refine (heldIntS _ _ _ 1 _ (Ints.of_own g) hy (by omega)).mono ?_; rintro e w' ⟨rfl, rfl⟩
  go_wp2_with fail
  go_ret
  exact ⟨rfl, bl⟩

set_option maxRecDepth 100000 in
theorem lifted (os : Os) (started : os.Started) (H : Type) (enc : TypeId × Value → H) :
    ReturnsInHanded {} Try.checked os 4 .any (Rows.fnExactWithoutCandidateSpec.pre6 enc Try.prog Try.f4 Rows.fnExactWithoutCandidateRow.domain false) (Rows.fnExactWithoutCandidateSpec.post enc Try.prog Try.f4 false true false false) := by
  refine returnsInHanded_of_change (C := Try.checked) own started (by kernel_rfl) Try.func4
    (ChangeSpec.witness6 (enc := enc) (C := Try.checked) false ⟨#[], #[.slice none 0 0, .int .i64 0], []⟩ 8 (by kernel_rfl) (by kernel_rfl) (by kernel_rfl) (by kernel_rfl)) ?_
  intro W base args ds gs before hval0 hW hcnd _
  have hval : ∀ (j : Nat) t v, Try.f4.params[j]? = some t → args[j]? = some v → Value.okWide Try.prog W .any base t v := hval0
  have hW' := hW
  obtain ⟨p, q, hA0, hV, rfl, hfz, hnd⟩ := hW
  have hA : DataW.TrodAll enc Try.prog W 0 (fun _ => true) true Try.f4.params.toList args.toList ds p := hA0
  rw [Try.params4] at hA hval
  obtain ⟨v0, vs0, d0, ds0, p0, q0, hargs, rfl, rfl, h0, r0⟩ := trodAll_cons hA
  obtain ⟨v1, vs1, d1, ds1, p1, q1, rfl, rfl, rfl, h1, r1⟩ := trodAll_cons r0
  obtain ⟨rfl, rfl, rfl⟩ := trodAll_nil r1
  obtain rfl : args = #[v0, v1] := by cases args; simp_all
  obtain ⟨rfl, rfl⟩ := trodVars_none hV
  have k0 := h0
  have lt0 : ∀ x ∈ p0, x.block < W.heap.size := by obtain ⟨m, hm⟩ := k0; exact DataW.trod_lt m _ _ _ hm
  obtain ⟨A0, n0, c0, z0, rfl, w0⟩ := open_ints_arg (hval 0 22 v0 rfl rfl) h0
  have k1 := h1
  have lt1 : ∀ x ∈ p1, x.block < W.heap.size := by obtain ⟨m, hm⟩ := k1; exact DataW.trod_lt m _ _ _ hm
  obtain ⟨a1, rfl, _, _, wf1⟩ := open_int Try.underlying3 (hval 1 3 v1 rfl rfl) h1
  have w1 := bd_i64 wf1
  clear hA0 hval0
  refine (walk A0 n0 c0 z0 a1 W w0 w1).mono fun e W' ⟨he, bel⟩ => ?_
  subst he
  exact ⟨_, rfl, _, _, _, [], _, [], hW', trodAll_mk1 (shut_bool Try.underlying4 _), (trodAll_cons_mk (Below.trod laidOut (by kernel_rfl) (of_decide_eq_true (by kernel_rfl)) k0 bel lt0) (trodAll_cons_mk (Below.trod laidOut (by kernel_rfl) (of_decide_eq_true (by kernel_rfl)) k1 bel lt1) trodAll_mk0)), rfl, bel.frame _, fun h => by cases h⟩

theorem over : Rows.fnExactWithoutCandidateRow.holds Try.pinned (OpenSpec.ofChange Rows.fnExactWithoutCandidateSpec) :=
  OpenClaim.holds_of_wide 4 Try.f4 rfl rfl rfl rfl rfl rfl rfl ⟨rfl, rfl, rfl, rfl, rfl⟩ rfl rfl rfl rfl rfl (by kernel_rfl) Try.func4
    (joined_by _ _ _ _ _ (by kernel_rfl) laidOut mapsRowedYes (by kernel_rfl) (by kernel_rfl) (by kernel_rfl) stopsNone (by kernel_rfl) knobsNone (by kernel_rfl) (by kernel_rfl) (by kernel_rfl) (by kernel_rfl) (by kernel_rfl) (by kernel_rfl) (by kernel_rfl) (by kernel_rfl) (by kernel_rfl) (by kernel_rfl) (by kernel_rfl) (by kernel_rfl) (by kernel_rfl)
      (keys_fit _ _ keysPlain rfl) rfl heard mayEnterYes (lifted_fits _ _ liftsNo rfl) (make_fits _ _ makeCut rfl) rfl rfl (by kernel_rfl) (by kernel_rfl) (by kernel_rfl))
    (of_decide_eq_true (by kernel_rfl)) (by unfold Func.isWrapper; first | (rw [if_pos (by decide +kernel)]; kernel_rfl) | (rw [if_neg (by decide +kernel)]; exact ⟨rfl, rfl⟩))
    (fun os started H enc _ => lifted os started H enc)

theorem proved : Rows.FnExactWithoutCandidateSaid := over
end Go.Proofs.Ytaclpilehlednaa.fnExactWithoutCandidate
