/- 'FnExactParseProfile': for every input the law returns true, and each argument reads behind the call as before it. No condition. -/
import Derived.Test.YtkofjdddmpebmaaGreatDoorCards
import Derived.Test.YtkofjdddmpebmaaGreatDoorTie
import Derived.Test.YtkofjdddmpebmaaGreatDoorFrame
import Derived.Test.YtkofjdddmpebmaaGreatDoorDoor
import Derived.Lay
import Derived.SevenTiedAt
import Derived.LaidMore
import Derived.OpenShut
import Derived.Stop.Joined
import Derived.ProofKit
import Derived.Test.YtkofjdddmpebmaaGreatDoorPPS
import Derived.Test.YtkofjdddmpebmaaGreatDoorDoorE
import Derived.Test.YtkofjdddmpebmaaGreatDoorMarkV
import Derived.Test.YtkofjdddmpebmaaGreatDoorHeldV
import Derived.Test.YtkofjdddmpebmaaGreatDoorCopyV
namespace Go.Proofs.YtkofjdddmpebmaaGreatDoor.fnExactParseProfile
open Go.ChangeShapes Go.WideShapes Go.ChangeAt Go.RowKit Go.Joins Go.Deep
open Go.ChangeMaps (open_string shut_string)
set_option linter.unusedVariables false

theorem laid_pow {W : World} (h : laidMetH Tryz.prog Rows.fnExactParseProfileRow.laid W) : Pow W := by
  rw [MakeChecks.laidMetH_plain _ _ _ (by kernel_rfl)] at h
  have h2 : laidMet Tryz.prog (("internal/strconv.uint64pow10", Rows.laid_internal_strconv_uint64pow10) :: _) W := laidMet.tail (laidMet.tail h)
  rw [tabData_pow] at h2
  exact pow_of h2
theorem laid_errs {W : World} (h : laidMetH Tryz.prog Rows.fnExactParseProfileRow.laid W) : Errs W := by
  rw [MakeChecks.laidMetH_plain _ _ _ (by kernel_rfl)] at h
  have h2 : laidMet Tryz.prog (("strconv.ErrRange", Rows.laid_strconv_ErrRange) :: ("strconv.ErrSyntax", Rows.laid_strconv_ErrSyntax) :: _) W := laidMet.tail (laidMet.tail (laidMet.tail (laidMet.tail (h))))
  exact errs_of h2

attribute [local go_sem ↓] Go.wp_at_zero Go.wp_at_succ
set_option maxRecDepth 100000
set_option maxHeartbeats 8000000 in
theorem walk (s : ByteArray) (w : World) (hs : s.size ≤ maxLen) (hp : Pow w) (he : Errs w) :
    Calls Tryz.prog 3 #[.string s] w fun e w' => e = .returned (.bool true) ∧ Below w.heap.size w w' := by
  have hm : maxLen = 9223372036854775807 := rfl
  have HP := Lib.hid hp; clear hp
  have HE := Lib.hid he; clear he
  by_cases hz : 1048576 < (s.size : Int)
  · go_enter Tryz.func3, Tryz.ntmps3
    go_wp2_with fail
    go_ret
    exact ⟨rfl, Below.refl _ _⟩
  have hz2 : s.size ≤ 1048576 := by omega
  have HSP := Lib.hid (specParseProfile s w hz2)
  have HIP := Lib.hid (fun (W : World) (b : Below w.heap.size w W) => implParseProfile s W hz2 (HP.out.on b) (HE.out.on b))
  obtain ⟨hn, hm⟩ := pp_small s
  generalize ppRM s = M at *
  generalize ppRV s = V at *
  generalize ppOk s = ok at *
  have HM := Lib.hid hm; clear hm
  have hne : (ok != ok) = false := by simp
  have hpr := prv_le (rk V) V.length HM.out V.length (Nat.le_refl _)
  go_enter Tryz.func3, Tryz.ntmps3
  go_wp2_with fail
  refine HSP.out.mono ?_; rintro e w1 ⟨Ar, cr, Gr, Cr, rfl, r, bl⟩
  have hzw := bl.size
  have x0 : (w1.alloc (.cells #[.int .i64 M, .slice Ar V.length cr] 24)).cell? ⟨w1.heap.size, 0, none⟩ = some (.int .i64 M) := by simp
  have x1 : (w1.alloc (.cells #[.int .i64 M, .slice Ar V.length cr] 24)).cell? ⟨w1.heap.size, 1, none⟩ = some (.slice Ar V.length cr) := by simp
  have sx : w1.heap.size < (w1.alloc (.cells #[.int .i64 M, .slice Ar V.length cr] 24)).heap.size := by simp
  have b : Below w1.heap.size w1 (w1.alloc (.cells #[.int .i64 M, .slice Ar V.length cr] 24)) := (Below.refl _ _).alloc (Nat.le_refl _) _
  have hzx := b.size
  have hsx := sx
  replace bl := Below.on bl b
  replace r := r.on b
  clear b
  go_wp2_with fail
  generalize (w1.alloc (.cells #[.int .i64 M, .slice Ar V.length cr] 24)) = Wx at *
  generalize hqx : w1.heap.size = x at *
  have Hqx := Lib.hid hqx; clear hqx
  have rge := r.ge
  have rin := r.inn
  have blo : Below Wx.heap.size Wx Wx := Below.refl _ _
  refine (HIP.out _ bl).mono ?_; rintro e w2 ⟨Ag, cg, Gg, Cg, rfl, g, b⟩
  have hzg := b.size
  replace bl := Below.on bl b
  replace x0 := (b.cell (p := ⟨x, 0, none⟩) sx).trans x0
  replace x1 := (b.cell (p := ⟨x, 1, none⟩) sx).trans x1
  replace sx := Nat.lt_of_lt_of_le sx b.size
  replace r := r.on b
  clear b
  have gge := g.ge
  have gin := g.inn
  have y0 : (w2.alloc (.cells #[.int .i64 M, .slice Ag V.length cg] 24)).cell? ⟨w2.heap.size, 0, none⟩ = some (.int .i64 M) := by simp
  have y1 : (w2.alloc (.cells #[.int .i64 M, .slice Ag V.length cg] 24)).cell? ⟨w2.heap.size, 1, none⟩ = some (.slice Ag V.length cg) := by simp
  have sy : w2.heap.size < (w2.alloc (.cells #[.int .i64 M, .slice Ag V.length cg] 24)).heap.size := by simp
  have b : Below w2.heap.size w2 (w2.alloc (.cells #[.int .i64 M, .slice Ag V.length cg] 24)) := (Below.refl _ _).alloc (Nat.le_refl _) _
  have hzy := b.size
  have hsy := sy
  replace bl := Below.on bl b
  replace x0 := (b.cell (p := ⟨x, 0, none⟩) sx).trans x0
  replace x1 := (b.cell (p := ⟨x, 1, none⟩) sx).trans x1
  replace sx := Nat.lt_of_lt_of_le sx b.size
  replace r := r.on b
  replace g := g.on b
  clear b
  go_wp2_with fail
  generalize (w2.alloc (.cells #[.int .i64 M, .slice Ag V.length cg] 24)) = Wy at *
  generalize hqy : w2.heap.size = y at *
  have Hqy := Lib.hid hqy; clear hqy
  refine (eqProfile M _ _ V.length _ _ V _ (g.votes rfl (fun _ _ => rfl) (fun _ _ => rfl)) (r.votes rfl (fun _ _ => rfl) (fun _ _ => rfl)) hn HM.out).mono ?_; rintro e w3 ⟨rfl, b⟩
  replace bl := Below.on bl b
  replace x0 := (b.cell (p := ⟨x, 0, none⟩) sx).trans x0
  replace x1 := (b.cell (p := ⟨x, 1, none⟩) sx).trans x1
  replace y0 := (b.cell (p := ⟨y, 0, none⟩) sy).trans y0
  replace y1 := (b.cell (p := ⟨y, 1, none⟩) sy).trans y1
  replace sx := Nat.lt_of_lt_of_le sx b.size
  replace sy := Nat.lt_of_lt_of_le sy b.size
  replace r := r.on b
  replace g := g.on b
  clear b
  go_wp2_with fail
  have hz3 := bl.size
  refine (markProfile M _ _ _ _ _ _ _ _ 1 _ _ g gin hn HM.out (by omega)).mono ?_; rintro e w4 ⟨rfl, o, mid⟩
  replace g := o; clear o
  replace r := r.mid mid (fun a ha => by have h1 := rge a ha; omega) (fun k hk a ha => by have h1 := rin.2 k hk a ha; omega)
  have hqx := Hqx.out; have hqy := Hqy.out
  replace x0 := (mid.cell (p := ⟨x, 0, none⟩) sx (by show x < _ ∨ _ ≤ x; omega)).trans x0
  replace x1 := (mid.cell (p := ⟨x, 1, none⟩) sx (by show x < _ ∨ _ ≤ x; omega)).trans x1
  replace y0 := (mid.cell (p := ⟨y, 0, none⟩) sy (by show y < _ ∨ _ ≤ y; omega)).trans y0
  replace y1 := (mid.cell (p := ⟨y, 1, none⟩) sy (by show y < _ ∨ _ ≤ y; omega)).trans y1
  replace sx := Nat.lt_of_lt_of_le sx mid.size
  replace sy := Nat.lt_of_lt_of_le sy mid.size
  clear hqx hqy
  replace bl := Below.mid bl mid (by omega) (by omega)
  clear mid
  go_wp2_with fail
  refine (heldProfile M _ _ _ _ _ _ _ _ 1 _ g hn HM.out (by omega)).mono ?_; rintro e w5 ⟨rfl, b⟩
  replace bl := Below.on bl b
  replace x0 := (b.cell (p := ⟨x, 0, none⟩) sx).trans x0
  replace x1 := (b.cell (p := ⟨x, 1, none⟩) sx).trans x1
  replace y0 := (b.cell (p := ⟨y, 0, none⟩) sy).trans y0
  replace y1 := (b.cell (p := ⟨y, 1, none⟩) sy).trans y1
  replace sx := Nat.lt_of_lt_of_le sx b.size
  replace sy := Nat.lt_of_lt_of_le sy b.size
  replace r := r.on b
  replace g := g.on b
  clear b
  go_wp2_with fail
  refine (HIP.out _ bl).mono ?_; rintro e w6 ⟨Au, cu, Gu, Cu, rfl, u, b⟩
  replace bl := Below.on bl b
  replace x0 := (b.cell (p := ⟨x, 0, none⟩) sx).trans x0
  replace x1 := (b.cell (p := ⟨x, 1, none⟩) sx).trans x1
  replace y0 := (b.cell (p := ⟨y, 0, none⟩) sy).trans y0
  replace y1 := (b.cell (p := ⟨y, 1, none⟩) sy).trans y1
  replace sx := Nat.lt_of_lt_of_le sx b.size
  replace sy := Nat.lt_of_lt_of_le sy b.size
  replace r := r.on b
  replace g := g.on b
  clear b
  have v0 : (w6.alloc (.cells #[.int .i64 M, .slice Au V.length cu] 24)).cell? ⟨w6.heap.size, 0, none⟩ = some (.int .i64 M) := by simp
  have v1 : (w6.alloc (.cells #[.int .i64 M, .slice Au V.length cu] 24)).cell? ⟨w6.heap.size, 1, none⟩ = some (.slice Au V.length cu) := by simp
  have sv : w6.heap.size < (w6.alloc (.cells #[.int .i64 M, .slice Au V.length cu] 24)).heap.size := by simp
  have b : Below w6.heap.size w6 (w6.alloc (.cells #[.int .i64 M, .slice Au V.length cu] 24)) := (Below.refl _ _).alloc (Nat.le_refl _) _
  have hzv := b.size
  have hsv := sv
  replace bl := Below.on bl b
  replace x0 := (b.cell (p := ⟨x, 0, none⟩) sx).trans x0
  replace x1 := (b.cell (p := ⟨x, 1, none⟩) sx).trans x1
  replace y0 := (b.cell (p := ⟨y, 0, none⟩) sy).trans y0
  replace y1 := (b.cell (p := ⟨y, 1, none⟩) sy).trans y1
  replace sx := Nat.lt_of_lt_of_le sx b.size
  replace sy := Nat.lt_of_lt_of_le sy b.size
  replace r := r.on b
  replace g := g.on b
  replace u := u.on b
  clear b
  go_wp2_with fail
  generalize (w6.alloc (.cells #[.int .i64 M, .slice Au V.length cu] 24)) = Wv at *
  generalize hqv : w6.heap.size = v at *
  have Hqv := Lib.hid hqv; clear hqv
  refine (eqProfile M _ _ V.length _ _ V _ (u.votes rfl (fun _ _ => rfl) (fun _ _ => rfl)) (r.votes rfl (fun _ _ => rfl) (fun _ _ => rfl)) hn HM.out).mono ?_; rintro e w3 ⟨rfl, b⟩
  replace bl := Below.on bl b
  replace x0 := (b.cell (p := ⟨x, 0, none⟩) sx).trans x0
  replace x1 := (b.cell (p := ⟨x, 1, none⟩) sx).trans x1
  replace y0 := (b.cell (p := ⟨y, 0, none⟩) sy).trans y0
  replace y1 := (b.cell (p := ⟨y, 1, none⟩) sy).trans y1
  replace v0 := (b.cell (p := ⟨v, 0, none⟩) sv).trans v0
  replace v1 := (b.cell (p := ⟨v, 1, none⟩) sv).trans v1
  replace sv := Nat.lt_of_lt_of_le sv b.size
  replace sx := Nat.lt_of_lt_of_le sx b.size
  replace sy := Nat.lt_of_lt_of_le sy b.size
  replace r := r.on b
  replace g := g.on b
  replace u := u.on b
  clear b
  go_wp2_with fail
  refine (heldProfile M _ _ _ _ _ _ _ _ 1 _ g hn HM.out (by omega)).mono ?_; rintro e w5 ⟨rfl, b⟩
  replace bl := Below.on bl b
  replace x0 := (b.cell (p := ⟨x, 0, none⟩) sx).trans x0
  replace x1 := (b.cell (p := ⟨x, 1, none⟩) sx).trans x1
  replace y0 := (b.cell (p := ⟨y, 0, none⟩) sy).trans y0
  replace y1 := (b.cell (p := ⟨y, 1, none⟩) sy).trans y1
  replace v0 := (b.cell (p := ⟨v, 0, none⟩) sv).trans v0
  replace v1 := (b.cell (p := ⟨v, 1, none⟩) sv).trans v1
  replace sv := Nat.lt_of_lt_of_le sv b.size
  replace sx := Nat.lt_of_lt_of_le sx b.size
  replace sy := Nat.lt_of_lt_of_le sy b.size
  replace r := r.on b
  replace g := g.on b
  replace u := u.on b
  clear b
  go_wp2_with fail
  go_ret
  exact ⟨rfl, bl⟩

set_option maxRecDepth 100000 in
theorem lifted (os : Os) (started : os.Started) (H : Type) (enc : TypeId × Value → H) :
    ReturnsInHanded {} Tryz.checked os 3 .any (fun w args => (Rows.fnExactParseProfileSpec.pre enc Tryz.prog Tryz.f3 [] false w args ∧ laidMetH Tryz.prog Rows.fnExactParseProfileRow.laid w) ∧ sizedMet enc Tryz.prog Tryz.f3 (OpenSpec.ofChange Rows.fnExactParseProfileSpec) false w args) (Rows.fnExactParseProfileSpec.post enc Tryz.prog Tryz.f3 false true false false) := by
  refine returnsInHanded_of_change_and (C := Tryz.checked) (X := fun w _ => laidMetH Tryz.prog Rows.fnExactParseProfileRow.laid w) (fun _ _ _ hh h => h.of_heap hh) own started (by kernel_rfl) Tryz.func3
    (ChangeSpec.witness_shaped (enc := enc) (C := Tryz.checked) (os := os) (X := fun w _ => laidMetH Tryz.prog Rows.fnExactParseProfileRow.laid w) false (World.laidAll Tryz.prog os Rows.fnExactParseProfileRow.laid) #[.string ByteArray.empty] 8 (World.laidAll_os _ _ _) (World.shaped_of_ZipB (by kernel_rfl) (by kernel_rfl)) (by kernel_rfl) (by kernel_rfl) (by kernel_rfl)
      (by rw [MakeChecks.laidMetH_plain _ _ _ (by kernel_rfl)]; exact laidMet_laidAll _ (by kernel_rfl) (by kernel_rfl))) ?_
  intro W base args ds gs before hval0 hW _ _ hL _
  have hval : ∀ (j : Nat) t v, Tryz.f3.params[j]? = some t → args[j]? = some v → Value.okWide Tryz.prog W .any base t v := hval0
  have hW' := hW
  obtain ⟨p, q, hA0, hV, rfl, hfz, hnd⟩ := hW
  have hA : DataW.TrodAll enc Tryz.prog W 0 (fun _ => true) true Tryz.f3.params.toList args.toList ds p := hA0
  rw [Tryz.params3] at hA hval
  obtain ⟨v0, vs0, d0, ds0, p0, q0, hargs, rfl, rfl, h0, r0⟩ := trodAll_cons hA
  obtain ⟨rfl, rfl, rfl⟩ := trodAll_nil r0
  obtain rfl : args = #[v0] := by cases args; simp_all
  obtain ⟨rfl, rfl⟩ := trodVars_none hV
  have k0 := h0
  have lt0 : ∀ x ∈ p0, x.block < W.heap.size := by obtain ⟨m, hm⟩ := k0; exact DataW.trod_lt m _ _ _ hm
  obtain ⟨a0, rfl, _, _, w0⟩ := open_string Tryz.underlying9 (hval 0 9 v0 rfl rfl) h0
  clear hA0 hval0
  refine (walk a0 W w0 (laid_pow hL) (laid_errs hL)).mono fun e W' ⟨he, bel⟩ => ?_
  subst he
  exact ⟨_, rfl, _, _, _, [], _, [], hW', trodAll_mk1 (shut_bool Tryz.underlying4 _), (trodAll_cons_mk (Below.trod laidOut (by kernel_rfl) (of_decide_eq_true (by kernel_rfl)) k0 bel lt0) trodAll_mk0), rfl, bel.frame _, fun h => by cases h⟩

theorem over : Rows.fnExactParseProfileRow.holds Tryz.pinned (OpenSpec.ofChange Rows.fnExactParseProfileSpec) :=
  OpenClaim.holds_of_wide 3 Tryz.f3 rfl rfl rfl rfl rfl rfl rfl ⟨rfl, rfl, rfl, rfl, rfl⟩ rfl rfl rfl rfl rfl (by kernel_rfl) Tryz.func3
    (joined_by _ _ _ _ _ (by kernel_rfl) laidOut mapsRowedYes (by kernel_rfl) (by kernel_rfl) (by kernel_rfl) stopsNone (by kernel_rfl) knobsNone (by kernel_rfl) (by kernel_rfl) (by kernel_rfl) (by kernel_rfl) (by kernel_rfl) (by kernel_rfl) (by kernel_rfl) (by kernel_rfl) (by kernel_rfl) (by kernel_rfl) (by kernel_rfl) (by kernel_rfl) (by kernel_rfl)
      (keys_fit _ _ keysPlain rfl) rfl heard mayEnterYes (lifted_fits _ _ liftsNo rfl) (make_fits _ _ makeCut rfl) rfl rfl (by kernel_rfl) (by kernel_rfl) (by kernel_rfl))
    (of_decide_eq_true (by kernel_rfl)) (by unfold Func.isWrapper; first | (rw [if_pos (by decide +kernel)]; kernel_rfl) | (rw [if_neg (by decide +kernel)]; exact ⟨rfl, rfl⟩))
    (fun os started H enc _ => lifted os started H enc)

set_option maxRecDepth 100000 in
theorem proved : Rows.FnExactParseProfileCardSaid :=
  Claim7.holds_tied_plain_at .later [] [.data, .data, .data, .data, .sentinel, .sentinel, .pinned] true (true, "92a957f328a2ef36fe2b5057c7cfe8b1f028c76176843dc1de96840e4d9ef8ba") true
    over (fun _ h => by cases h) (by kernel_rfl) (fun _ h => by cases h) fnExactParseProfile_row_tie rfl ⟨rfl, rfl⟩ (by kernel_rfl) rfl
    (fun f fn hf hfn => by
      obtain rfl : f = 3 := Option.some.inj ((show Tryz.prog.funcNamed "loop.example/g03202/laws.FnExactParseProfile" = some 3 by kernel_rfl).symm.trans hf) |>.symm
      obtain rfl : fn = Tryz.f3 := (Option.some.inj (Tryz.func3.symm.trans hfn)).symm
      exact ⟨by kernel_rfl, fun j t ht => by
        rw [Tryz.params3] at ht
        have hm : t ∈ [9] := by simpa using Array.mem_of_getElem? ht
        have hall : ([9].all fun u => !Tryz.prog.wantsStandIn u) = true := by kernel_rfl
        exact (show Tryz.prog.wantsStandIn t = false by simpa using List.all_eq_true.1 hall t hm)⟩)
    (by kernel_rfl)
end Go.Proofs.YtkofjdddmpebmaaGreatDoor.fnExactParseProfile
