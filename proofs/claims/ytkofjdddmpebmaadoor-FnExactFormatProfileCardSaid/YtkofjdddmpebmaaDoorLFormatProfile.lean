/- 'FnExactFormatProfile': for every input the law returns true, and each argument reads behind the call as before it. No condition. -/
import Derived.Test.YtkofjdddmpebmaaDoorCards
import Derived.Test.YtkofjdddmpebmaaDoorTie
import Derived.Test.YtkofjdddmpebmaaDoorFrame
import Derived.Test.YtkofjdddmpebmaaDoorDoor
import Derived.SevenTiedAt
import Derived.LaidMore
import Derived.OpenShut
import Derived.Stop.Joined
import Derived.ProofKit
import Derived.Test.YtkofjdddmpebmaaDoorFmtProfI
import Derived.Test.YtkofjdddmpebmaaDoorCopyV
import Derived.Test.YtkofjdddmpebmaaDoorFrameProf
namespace Go.Proofs.YtkofjdddmpebmaaDoor.fnExactFormatProfile
open Go.ChangeShapes Go.WideShapes Go.ChangeAt Go.RowKit Go.Joins Go.Deep
open Go.ChangeMaps (open_string shut_string)
set_option linter.unusedVariables false

theorem laid_pow {W : World} (h : laidMetH Tryd.prog Rows.fnExactFormatProfileRow.laid W) : Pow W := by
  rw [MakeChecks.laidMetH_plain _ _ _ (by kernel_rfl)] at h
  have h2 : laidMet Tryd.prog (("internal/strconv.uint64pow10", Rows.laid_internal_strconv_uint64pow10) :: _) W := laidMet.tail (laidMet.tail h)
  rw [tabData_pow] at h2
  exact pow_of h2

set_option maxRecDepth 100000
set_option maxHeartbeats 8000000 in
theorem walk (m0 : Int) (A0 : Option Addr) (n0 c0 : Nat) (z0 : List (List Int × Int)) (w : World) (hw0 : Votes w A0 n0 z0 ∧ n0 ≤ c0 ∧ c0 ≤ maxLen ∧ C64 z0 ∧ -9223372036854775808 ≤ m0 ∧ m0 ≤ 9223372036854775807) (hp : Pow w) :
    Calls Tryd.prog 3 #[.agg #[.int .i64 m0, .slice A0 n0 c0]] w fun e w' => e = .returned (.bool true) ∧ Below w.heap.size w w' := by
  have HP := Lib.hid hp; clear hp
  obtain ⟨h0, _hnc0, _hcm0, _hC0, _hm01, _hm02⟩ := hw0
  have hq : ((textB m0 z0).toList == (textB m0 z0).toList) = true := by simp
  have bl : Below w.heap.size w (w.alloc (.cells #[.int .i64 m0, .slice A0 n0 c0] 24)) := (Below.refl _ _).alloc (Nat.le_refl _) _
  have k0 : (w.alloc (.cells #[.int .i64 m0, .slice A0 n0 c0] 24)).cell? ⟨w.heap.size, 0, none⟩ = some (.int .i64 m0) := by simp [go_sem]
  have k1 : (w.alloc (.cells #[.int .i64 m0, .slice A0 n0 c0] 24)).cell? ⟨w.heap.size, 1, none⟩ = some (.slice A0 n0 c0) := by simp [go_sem]
  have sk : w.heap.size < (w.alloc (.cells #[.int .i64 m0, .slice A0 n0 c0] 24)).heap.size := by simp
  have hnm0 : n0 ≤ maxLen := by omega
  go_enter Tryd.func3, Tryd.ntmps3
  go_wp2_with fail
  generalize (w.alloc (.cells #[.int .i64 m0, .slice A0 n0 c0] 24)) = W at *
  refine (szProfile m0 A0 n0 c0 z0 _ (h0.on bl) hnm0).mono ?_; rintro e w1 ⟨r, rfl, r1, r2, r3, b⟩
  replace bl := Below.on bl b
  replace k0 := (b.cell (p := ⟨w.heap.size, 0, none⟩) sk).trans k0
  replace k1 := (b.cell (p := ⟨w.heap.size, 1, none⟩) sk).trans k1
  replace sk := Nat.lt_of_lt_of_le sk b.size
  clear b
  by_cases hr : r < 0
  · go_wp2_with fail
    go_ret
    exact ⟨rfl, bl⟩
  obtain ⟨hn0, hm0⟩ := r3 (by omega)
  have HM0 := Lib.hid hm0; clear hm0 r3
  go_wp2_with fail
  refine (toProfileD m0 A0 n0 c0 z0 _ (h0.on bl) hn0 HM0.out).mono ?_; rintro e w3 ⟨g0, rfl, ⟨G0, v0⟩, b⟩
  replace bl := Below.on bl b
  replace k0 := (b.cell (p := ⟨w.heap.size, 0, none⟩) sk).trans k0
  replace k1 := (b.cell (p := ⟨w.heap.size, 1, none⟩) sk).trans k1
  replace sk := Nat.lt_of_lt_of_le sk b.size
  clear b
  replace v0 := v0.votes h0.1 (fun _ _ => rfl) (fun _ _ => rfl)
  go_wp2_with fail
  refine (specFormatProfile m0 _ n0 _ z0 _ v0 hn0 HM0.out).mono ?_; rintro e w4 ⟨rfl, b⟩
  clear v0
  replace bl := Below.on bl b
  replace k0 := (b.cell (p := ⟨w.heap.size, 0, none⟩) sk).trans k0
  replace k1 := (b.cell (p := ⟨w.heap.size, 1, none⟩) sk).trans k1
  replace sk := Nat.lt_of_lt_of_le sk b.size
  clear b
  go_wp2_with fail
  refine (toProfileD m0 A0 n0 c0 z0 _ (h0.on bl) hn0 HM0.out).mono ?_; rintro e w6 ⟨gx, rfl, ⟨Gx, px⟩, b⟩
  replace bl := Below.on bl b
  replace k0 := (b.cell (p := ⟨w.heap.size, 0, none⟩) sk).trans k0
  replace k1 := (b.cell (p := ⟨w.heap.size, 1, none⟩) sk).trans k1
  replace sk := Nat.lt_of_lt_of_le sk b.size
  clear b
  have x0 : (w6.alloc (.cells #[.int .i64 m0, .slice (some ⟨gx, 0, none⟩) n0 n0] 29)).cell? ⟨w6.heap.size, 0, none⟩ = some (.int .i64 m0) := by simp
  have x1 : (w6.alloc (.cells #[.int .i64 m0, .slice (some ⟨gx, 0, none⟩) n0 n0] 29)).cell? ⟨w6.heap.size, 1, none⟩ = some (.slice (some ⟨gx, 0, none⟩) n0 n0) := by simp
  have sx : w6.heap.size < (w6.alloc (.cells #[.int .i64 m0, .slice (some ⟨gx, 0, none⟩) n0 n0] 29)).heap.size := by simp
  have b : Below w6.heap.size w6 (w6.alloc (.cells #[.int .i64 m0, .slice (some ⟨gx, 0, none⟩) n0 n0] 29)) := (Below.refl _ _).alloc (Nat.le_refl _) _
  replace bl := Below.on bl b
  replace k0 := (b.cell (p := ⟨w.heap.size, 0, none⟩) sk).trans k0
  replace k1 := (b.cell (p := ⟨w.heap.size, 1, none⟩) sk).trans k1
  replace sk := Nat.lt_of_lt_of_le sk b.size
  replace px := px.on b
  clear b
  go_wp2_with fail
  generalize (w6.alloc (.cells #[.int .i64 m0, .slice (some ⟨gx, 0, none⟩) n0 n0] 29)) = W6 at *
  generalize w6.heap.size = x at *
  refine (implFormatProfile m0 _ n0 _ z0 _ (px.votes h0.1 (fun _ _ => rfl) (fun _ _ => rfl)) hn0 HM0.out (HP.out.on bl)).mono ?_; rintro e w8 ⟨rfl, b⟩
  replace bl := Below.on bl b
  replace k0 := (b.cell (p := ⟨w.heap.size, 0, none⟩) sk).trans k0
  replace k1 := (b.cell (p := ⟨w.heap.size, 1, none⟩) sk).trans k1
  replace x0 := (b.cell (p := ⟨x, 0, none⟩) sx).trans x0
  replace x1 := (b.cell (p := ⟨x, 1, none⟩) sx).trans x1
  replace sk := Nat.lt_of_lt_of_le sk b.size
  replace sx := Nat.lt_of_lt_of_le sx b.size
  replace px := px.on b
  clear b
  go_wp2_with fail
  have bd := Below.drew (Below.refl w8.heap.size w8)
  refine wp_region_held_drew (S := (fun w' => w'.cell? ⟨x, 0, none⟩ = some (.int .i64 m0) ∧ w'.cell? ⟨x, 1, none⟩ = some (.slice (some ⟨gx, 0, none⟩) n0 n0) ∧ w'.cell? ⟨w.heap.size, 0, none⟩ = some (.int .i64 m0) ∧ w'.cell? ⟨w.heap.size, 1, none⟩ = some (.slice A0 n0 c0))) (by kernel_rfl) ?_ (fun hHeld => ?_)
  · (try dsimp only); go_keep
  refine wpAnyH_take (i := 0) (v := ?_) rfl (by kernel_rfl) (by kernel_rfl) (by kernel_rfl) (fun _ _ _ h => h) (Or.inl ⟨by rfl, ?_⟩) (by assumption) ?_
  rotate_left
  · intro wq hSw; (try dsimp only at hSw); go_simp; (try with_reducible rfl)
  simp only [Act.put]
  refine wpAnyH_take (i := 1) (v := ?_) rfl (by kernel_rfl) (by kernel_rfl) (by kernel_rfl) (fun _ _ _ h => h) (Or.inl ⟨by rfl, ?_⟩) (by assumption) ?_
  rotate_left
  · intro wq hSw; (try dsimp only at hSw); go_simp; (try with_reducible rfl)
  simp only [Act.put]
  refine wpAnyH_ready (rs := [2]) (by kernel_rfl) (by simp) ?_
  refine AllReadyH.cons rfl (fun K hK => ?_) ?_
  · skip
    go_simp
    go_at_call 6; refine (toProfileD m0 A0 n0 c0 z0 _ (h0.on (Below.on bl bd)) hn0 HM0.out).mono ?_; rintro e w9 ⟨g2, rfl, ⟨G2, v2⟩, b3⟩
    have bt := bd.trans b3
    have v2 := v2.votes h0.1 (fun _ _ => rfl) (fun _ _ => rfl)
    have vx := (px.on bt).votes h0.1 (fun _ _ => rfl) (fun _ _ => rfl)
    clear b3
    have k0r := (bt.cell (p := ⟨w.heap.size, 0, none⟩) sk).trans k0
    have k1r := (bt.cell (p := ⟨w.heap.size, 1, none⟩) sk).trans k1
    have x0r := (bt.cell (p := ⟨x, 0, none⟩) sx).trans x0
    have x1r := (bt.cell (p := ⟨x, 1, none⟩) sx).trans x1
    refine hK.out _ _ ?_ (fun hHeld => ?_)
    · (try dsimp only); go_keep
    clear hK K
    refine wpAnyH_ready (rs := [3]) (by kernel_rfl) (by simp) ?_
    refine AllReadyH.cons rfl (fun K hK => ?_) ?_
    · skip
      go_simp
      go_at_call 8; refine (eqProfile m0 _ _ n0 _ _ z0 _ vx v2 hn0 HM0.out).mono ?_; rintro e w10 ⟨rfl, b4⟩
      have b := Below.on bt b4
      clear b4
      have k0q := (b.cell (p := ⟨w.heap.size, 0, none⟩) sk).trans k0
      have k1q := (b.cell (p := ⟨w.heap.size, 1, none⟩) sk).trans k1
      have x0q := (b.cell (p := ⟨x, 0, none⟩) sx).trans x0
      have x1q := (b.cell (p := ⟨x, 1, none⟩) sx).trans x1
      refine hK.out _ _ ?_ (fun hHeld => ?_)
      · (try dsimp only); go_keep
      clear hK K
      refine wpAnyH_ready (rs := [4]) (by kernel_rfl) (by simp) ?_
      refine AllReadyH.cons rfl (fun K hK => ?_) ?_
      · skip
        go_simp
        refine hK.out _ _ ?_ (fun hHeld => ?_)
        · (try dsimp only); go_keep
        clear hK K
        refine wpAnyH_done (by kernel_rfl) ?_ _
        go_simp
        go_wp2_with fail
        go_ret
        exact ⟨rfl, Below.on bl b⟩
      exact AllReadyH.nil
    exact AllReadyH.nil
  exact AllReadyH.nil

set_option maxRecDepth 100000 in
/-- The heap that the start-up code leaves meets the condition. -/
theorem door_met (os : Os) (args : Array Value) : laidMetH Tryd.prog Rows.fnExactFormatProfileRow.laid ((World.doorLaid Tryd.prog 65 os).forCall (fun _ _ => 0) ⟨#[], args, []⟩).memory :=
  laidMetH_of_parts3 (fuel := 8) (laidMet_of_run' 8 (by kernel_rfl) (by kernel_rfl)) (by kernel_rfl) (by kernel_rfl)
set_option maxRecDepth 100000 in
theorem lifted (os : Os) (started : os.Started) (H : Type) (enc : TypeId × Value → H) :
    ReturnsInHanded {} Tryd.checked os 3 .any (fun w args => (Rows.fnExactFormatProfileSpec.pre enc Tryd.prog Tryd.f3 [] false w args ∧ laidMetH Tryd.prog Rows.fnExactFormatProfileRow.laid w) ∧ sizedMet enc Tryd.prog Tryd.f3 (OpenSpec.ofChange Rows.fnExactFormatProfileSpec) false w args) (Rows.fnExactFormatProfileSpec.post enc Tryd.prog Tryd.f3 false true false false) := by
  refine returnsInHanded_of_change_and (C := Tryd.checked) (X := fun w _ => laidMetH Tryd.prog Rows.fnExactFormatProfileRow.laid w) (fun _ _ _ hh h => h.of_heap hh) own started (by kernel_rfl) Tryd.func3
    (ChangeSpec.witness_shaped (enc := enc) (C := Tryd.checked) (os := os) (X := fun w _ => laidMetH Tryd.prog Rows.fnExactFormatProfileRow.laid w) false (World.doorLaid Tryd.prog 65 os) #[.agg #[.int .i64 0, .slice none 0 0]] 8 rfl (World.shaped_of_RefB (by kernel_rfl) (by kernel_rfl)) (by kernel_rfl) (by kernel_rfl) (by kernel_rfl) (door_met os _)) ?_
  intro W base args ds gs before hval0 hW _ _ hL _
  have hval : ∀ (j : Nat) t v, Tryd.f3.params[j]? = some t → args[j]? = some v → Value.okWide Tryd.prog W .any base t v := hval0
  have hW' := hW
  obtain ⟨p, q, hA0, hV, rfl, hfz, hnd⟩ := hW
  have hA : DataW.TrodAll enc Tryd.prog W 0 (fun _ => true) true Tryd.f3.params.toList args.toList ds p := hA0
  rw [Tryd.params3] at hA hval
  obtain ⟨v0, vs0, d0, ds0, p0, q0, hargs, rfl, rfl, h0, r0⟩ := trodAll_cons hA
  obtain ⟨rfl, rfl, rfl⟩ := trodAll_nil r0
  obtain rfl : args = #[v0] := by cases args; simp_all
  obtain ⟨rfl, rfl⟩ := trodVars_none hV
  have k0 := h0
  have lt0 : ∀ x ∈ p0, x.block < W.heap.size := by obtain ⟨m, hm⟩ := k0; exact DataW.trod_lt m _ _ _ hm
  obtain ⟨m0, A0, n0, c0, z0, rfl, w0⟩ := open_prof_arg (hval 0 24 v0 rfl rfl) h0
  clear hA0 hval0
  refine (walk m0 A0 n0 c0 z0 W w0 (laid_pow hL)).mono fun e W' ⟨he, bel⟩ => ?_
  subst he
  exact ⟨_, rfl, _, _, _, [], _, [], hW', trodAll_mk1 (shut_bool Tryd.underlying4 _), (trodAll_cons_mk (Below.trod laidOut (by kernel_rfl) (of_decide_eq_true (by kernel_rfl)) k0 bel lt0) trodAll_mk0), rfl, bel.frame _, fun h => by cases h⟩

theorem over : Rows.fnExactFormatProfileRow.holds Tryd.pinned (OpenSpec.ofChange Rows.fnExactFormatProfileSpec) :=
  OpenClaim.holds_of_wide 3 Tryd.f3 rfl rfl rfl rfl rfl rfl rfl ⟨rfl, rfl, rfl, rfl, rfl⟩ rfl rfl rfl rfl rfl (by kernel_rfl) Tryd.func3
    (joined_by _ _ _ _ _ (by kernel_rfl) laidOut mapsRowedYes (by kernel_rfl) (by kernel_rfl) (by kernel_rfl) stopsNone (by kernel_rfl) knobsNone (by kernel_rfl) (by kernel_rfl) (by kernel_rfl) (by kernel_rfl) (by kernel_rfl) (by kernel_rfl) (by kernel_rfl) (by kernel_rfl) (by kernel_rfl) (by kernel_rfl) (by kernel_rfl) (by kernel_rfl) (by kernel_rfl)
      (keys_fit _ _ keysPlain rfl) rfl heard mayEnterYes (lifted_fits _ _ liftsNo rfl) (make_fits _ _ makeCut rfl) rfl rfl (by kernel_rfl) (by kernel_rfl) (by kernel_rfl))
    (of_decide_eq_true (by kernel_rfl)) (by unfold Func.isWrapper; first | (rw [if_pos (by decide +kernel)]; kernel_rfl) | (rw [if_neg (by decide +kernel)]; exact ⟨rfl, rfl⟩))
    (fun os started H enc _ => lifted os started H enc)

set_option maxRecDepth 100000 in
theorem proved : Rows.FnExactFormatProfileCardSaid :=
  Claim7.holds_tied_plain_at .later [] [.data, .data, .data] true (true, "7f3315f95879ad578c8174ec39dea4e56858cf8d73a5ec2f3215338e2fed5199") false
    over (fun _ h => by cases h) (by kernel_rfl) (fun _ h => by cases h) fnExactFormatProfile_row_tie rfl ⟨rfl, rfl⟩ (by kernel_rfl) rfl
    (fun f fn hf hfn => by
      obtain rfl : f = 3 := Option.some.inj ((show Tryd.prog.funcNamed "loop.example/g03202/laws.FnExactFormatProfile" = some 3 by kernel_rfl).symm.trans hf) |>.symm
      obtain rfl : fn = Tryd.f3 := (Option.some.inj (Tryd.func3.symm.trans hfn)).symm
      exact ⟨by kernel_rfl, fun j t ht => by
        rw [Tryd.params3] at ht
        have hm : t ∈ [24] := by simpa using Array.mem_of_getElem? ht
        have hall : ([24].all fun u => !Tryd.prog.wantsStandIn u) = true := by kernel_rfl
        exact (show Tryd.prog.wantsStandIn t = false by simpa using List.all_eq_true.1 hall t hm)⟩)
    (by kernel_rfl)
end Go.Proofs.YtkofjdddmpebmaaDoor.fnExactFormatProfile
