/- 'FnWords': for every input the law returns true, and each argument reads behind the call as before it. No condition. -/
import Derived.Test.YtfcbnpjfpeiheaaDoorCards
import Derived.Test.YtfcbnpjfpeiheaaDoorTie
import Derived.Test.YtfcbnpjfpeiheaaDoorFrame
import Derived.Test.YtfcbnpjfpeiheaaDoorDoor
import Derived.Test.YtfcbnpjfpeiheaaDoorShaped
import Derived.Lay
import Derived.SevenTiedAt
import Derived.LaidMore
import Derived.OpenShut
import Derived.Stop.Joined
import Derived.ProofKit
import Derived.Test.YtfcbnpjfpeiheaaDoorDoorE
import Derived.Test.YtfcbnpjfpeiheaaDoorMakeT
import Derived.Test.YtfcbnpjfpeiheaaDoorLines
import Derived.Test.YtfcbnpjfpeiheaaDoorFrameBytes
namespace Go.Proofs.YtfcbnpjfpeiheaaDoor.fnWords
open Go.ChangeShapes Go.WideShapes Go.ChangeAt Go.RowKit Go.Joins Go.Deep
open Go.ChangeMaps (open_string shut_string)
set_option linter.unusedVariables false

theorem laid_pow {W : World} (h : laidMetH Tryd.prog Rows.fnWordsRow.laid W) : Pow W := by
  rw [MakeChecks.laidMetH_plain _ _ _ (by kernel_rfl)] at h
  have h2 : laidMet Tryd.prog (("internal/strconv.uint64pow10", Rows.laid_internal_strconv_uint64pow10) :: _) W := laidMet.tail (laidMet.tail h)
  rw [tabData_pow] at h2
  exact pow_of h2
theorem laid_errs {W : World} (h : laidMetH Tryd.prog Rows.fnWordsRow.laid W) : Errs W := by
  rw [MakeChecks.laidMetH_plain _ _ _ (by kernel_rfl)] at h
  have h2 : laidMet Tryd.prog (("strconv.ErrRange", Rows.laid_strconv_ErrRange) :: ("strconv.ErrSyntax", Rows.laid_strconv_ErrSyntax) :: _) W := laidMet.tail (laidMet.tail (laidMet.tail (laidMet.tail (h))))
  exact errs_of h2

theorem name_x1 : isNameP (⟨#[120, 49]⟩ : ByteArray).data.toList = true := by decide
theorem lines_two : (slP ⟨#[97, 10, 98, 10]⟩).length = 2 := by decide +kernel
set_option maxRecDepth 100000 in
set_option maxHeartbeats 8000000 in
theorem walk (A : Option Addr) (n c : Nat) (z : Unit) (w : World) (hw : Byts w w.heap.size A n ∧ n ≤ c ∧ c ≤ maxLen) (hp : Pow w) (he : Errs w) (hmx : MaxC w) :
    Calls Tryd.prog 4 #[.slice A n c] w fun e w' => e = .returned (.bool true) ∧ Below w.heap.size w w' := by
  have HP := Lib.hid hp; clear hp
  have HE := Lib.hid he; clear he
  have HM := Lib.hid hmx; clear hmx
  obtain ⟨h, hnc, hcm⟩ := hw
  have hcm' : (n : Int) ≤ 9223372036854775807 := by have : maxLen = 9223372036854775807 := rfl; omega
  by_cases hbig : 1048576 < (n : Int)
  · go_enter Tryd.func4, Tryd.ntmps4
    go_wp2
    go_ret
    exact ⟨rfl, Below.refl _ _⟩
  have hn : (n : Int) ≤ 1048576 := by omega
  go_enter Tryd.func4, Tryd.ntmps4
  go_wp2_with fail
  refine (specMakeNum A n c 1 _ h hn (by omega)).mono ?_; rintro e w1 ⟨r, rfl, r1, r2, bl⟩
  go_wp2_with fail
  have HT := Lib.hid (pOk_txt (n := r - 30000) (by omega) (by omega))
  have hz := fmtI_len (n := r - 30000) (by omega) (by omega)
  refine (implFormatInt (r - 30000) _ (by omega) (by omega) (HP.out.on bl)).mono ?_; rintro e w2 ⟨rfl, b2⟩
  replace bl := Below.on bl b2
  clear b2
  go_wp2_with fail
  refine (implParseInt (txt (r - 30000)) _ (by rw [txt, strOfNums_size]; omega) (HP.out.on bl) (HE.out.on bl)).mono ?_; rintro e w3 ⟨rfl, b3⟩
  rw [HT.out.1, HT.out.2]
  replace bl := Below.on bl b3
  clear b3
  go_wp2_with fail
  refine (specMakeText A n c _ (h.on bl) hn).mono ?_; rintro e w4 ⟨t, rfl, ht, b4⟩
  replace bl := Below.on bl b4
  clear b4
  have hsl := sp_len ⟨#[32]⟩ t
  have hpos : 0 < (spP ⟨#[32]⟩ t).length := by obtain ⟨k, hk⟩ := sp_pos ⟨#[32]⟩ t; omega
  have hsum : sumSz (spP ⟨#[32]⟩ t) (spP ⟨#[32]⟩ t).length ≤ 1048576 := by
    have := sumSz_le' (ss := spP ⟨#[32]⟩ t) (b := 14) (spP ⟨#[32]⟩ t).length (fun j hj => Nat.le_trans (piece_short hj) ht)
    omega
  have HSM := Lib.hid hsum; clear hsum
  have HJ := Lib.hid (join_split 32 t)
  have hq : (t.toList == t.toList) = true := by simp
  have hrr : (r - 30000 == r - 30000) = true := by simp
  go_wp2_with fail
  refine (implSplitAny t ⟨#[32]⟩ _ (by omega)).mono ?_; rintro e w5 ⟨A5, c5, rfl, o5, b5⟩
  replace bl := Below.on bl b5
  clear b5
  have hle := own_le o5 (by omega)
  have hS := Strs.of_own o5
  clear o5
  go_wp2_with fail
  refine (implJoin A5 _ c5 (spP ⟨#[32]⟩ t) ⟨#[32]⟩ _ hS (by omega) hle HSM.out (by decide)).mono ?_; rintro e w6 ⟨rfl, b6⟩
  rw [HJ.out]
  replace bl := Below.on bl b6
  clear b6
  go_wp2_with fail
  refine (implIsName ⟨#[120, 49]⟩ _ (by decide)).mono ?_; rintro e w7 ⟨rfl, rfl⟩
  rw [name_x1]
  go_wp2_with fail
  refine (implSplitLines ⟨#[97, 10, 98, 10]⟩ _ (by decide) (HM.out.on bl)).mono ?_; rintro e w8 ⟨A8, c8, d8, rfl, o8, b8⟩
  rw [lines_two]
  replace bl := Below.on bl b8
  clear b8 o8
  go_wp2_with fail
  go_ret
  exact ⟨rfl, bl⟩

set_option maxRecDepth 100000 in
theorem lifted (os : Os) (started : os.Started) (H : Type) (enc : TypeId × Value → H) :
    ReturnsInHanded {} Tryd.checked os 4 .any (fun w args => (Rows.fnWordsSpec.pre enc Tryd.prog Tryd.f4 [] false w args ∧ laidMetH Tryd.prog Rows.fnWordsRow.laid w) ∧ sizedMet enc Tryd.prog Tryd.f4 (OpenSpec.ofChange Rows.fnWordsSpec) false w args) (Rows.fnWordsSpec.post enc Tryd.prog Tryd.f4 false true false false) := by
  refine change_and_shaped (C := Tryd.checked) (X := fun w _ => laidMetH Tryd.prog Rows.fnWordsRow.laid w) (fun _ _ _ hh h => h.of_heap hh) own started (by kernel_rfl) Tryd.func4
    (ChangeSpec.witness_shaped (enc := enc) (C := Tryd.checked) (os := os) (X := fun w _ => laidMetH Tryd.prog Rows.fnWordsRow.laid w) false (World.laidAll Tryd.prog os Rows.fnWordsRow.laid) #[.slice none 0 0] 8 (World.laidAll_os _ _ _) (World.shaped_of_ZipB (by kernel_rfl) (by kernel_rfl)) (by kernel_rfl) (by kernel_rfl) (by kernel_rfl)
      (by rw [MakeChecks.laidMetH_plain _ _ _ (by kernel_rfl)]; exact laidMet_laidAll _ (by kernel_rfl) (by kernel_rfl))) ?_
  intro W base args ds gs before hval0 hW _ _ hL hsh _
  have hval : ∀ (j : Nat) t v, Tryd.f4.params[j]? = some t → args[j]? = some v → Value.okWide Tryd.prog W .any base t v := hval0
  have hW' := hW
  obtain ⟨p, q, hA0, hV, rfl, hfz, hnd⟩ := hW
  have hA : DataW.TrodAll enc Tryd.prog W 0 (fun _ => true) true Tryd.f4.params.toList args.toList ds p := hA0
  rw [Tryd.params4] at hA hval
  obtain ⟨v0, vs0, d0, ds0, p0, q0, hargs, rfl, rfl, h0, r0⟩ := trodAll_cons hA
  obtain ⟨rfl, rfl, rfl⟩ := trodAll_nil r0
  obtain rfl : args = #[v0] := by cases args; simp_all
  obtain ⟨rfl, rfl⟩ := trodVars_none hV
  have k0 := h0
  have lt0 : ∀ x ∈ p0, x.block < W.heap.size := by obtain ⟨m, hm⟩ := k0; exact DataW.trod_lt m _ _ _ hm
  obtain ⟨A0, n0, c0, z0, rfl, w0⟩ := open_bytes_arg (hval 0 28 v0 rfl rfl) h0
  clear hA0 hval0
  refine (walk A0 n0 c0 z0 W w0 (laid_pow hL) (laid_errs hL) (maxC_of hsh)).mono fun e W' ⟨he, bel⟩ => ?_
  subst he
  exact ⟨_, rfl, _, _, _, [], _, [], hW', trodAll_mk1 (shut_bool Tryd.underlying4 _), (trodAll_cons_mk (Below.trod laidOut (by kernel_rfl) (of_decide_eq_true (by kernel_rfl)) k0 bel lt0) trodAll_mk0), rfl, bel.frame _, fun h => by cases h⟩

theorem over : Rows.fnWordsRow.holds Tryd.pinned (OpenSpec.ofChange Rows.fnWordsSpec) :=
  OpenClaim.holds_of_wide 4 Tryd.f4 rfl rfl rfl rfl rfl rfl rfl ⟨rfl, rfl, rfl, rfl, rfl⟩ rfl rfl rfl rfl rfl (by kernel_rfl) Tryd.func4
    (joined_by _ _ _ _ _ (by kernel_rfl) laidOut mapsRowedYes (by kernel_rfl) (by kernel_rfl) (by kernel_rfl) stopsNone (by kernel_rfl) knobsNone (by kernel_rfl) (by kernel_rfl) (by kernel_rfl) (by kernel_rfl) (by kernel_rfl) (by kernel_rfl) (by kernel_rfl) (by kernel_rfl) (by kernel_rfl) (by kernel_rfl) (by kernel_rfl) (by kernel_rfl) (by kernel_rfl)
      (keys_fit _ _ keysPlain rfl) rfl heard mayEnterYes (lifted_fits _ _ liftsNo rfl) (make_fits _ _ makeCut rfl) rfl rfl (by kernel_rfl) (by kernel_rfl) (by kernel_rfl))
    (of_decide_eq_true (by kernel_rfl)) (by unfold Func.isWrapper; first | (rw [if_pos (by decide +kernel)]; kernel_rfl) | (rw [if_neg (by decide +kernel)]; exact ⟨rfl, rfl⟩))
    (fun os started H enc _ => lifted os started H enc)

set_option maxRecDepth 100000 in
theorem proved : Rows.FnWordsCardSaid :=
  Claim7.holds_tied_plain_at .later [] [.data, .data, .data, .data, .sentinel, .sentinel, .pinned] true (true, "61572e5c4f9c1851131f2d922974bd86be847ddfcd9e364c6f483e0ce544e8f6") true
    over (fun _ h => by cases h) (by kernel_rfl) (fun _ h => by cases h) fnWords_row_tie rfl ⟨rfl, rfl⟩ (by kernel_rfl) rfl
    (fun f fn hf hfn => by
      obtain rfl : f = 4 := Option.some.inj ((show Tryd.prog.funcNamed "loop.example/g03202/laws.FnWords" = some 4 by kernel_rfl).symm.trans hf) |>.symm
      obtain rfl : fn = Tryd.f4 := (Option.some.inj (Tryd.func4.symm.trans hfn)).symm
      exact ⟨by kernel_rfl, fun j t ht => by
        rw [Tryd.params4] at ht
        have hm : t ∈ [28] := by simpa using Array.mem_of_getElem? ht
        have hall : ([28].all fun u => !Tryd.prog.wantsStandIn u) = true := by kernel_rfl
        exact (show Tryd.prog.wantsStandIn t = false by simpa using List.all_eq_true.1 hall t hm)⟩)
    (by kernel_rfl)
end Go.Proofs.YtfcbnpjfpeiheaaDoor.fnWords
