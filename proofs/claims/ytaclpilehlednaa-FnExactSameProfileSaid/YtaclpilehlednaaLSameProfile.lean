/- 'FnExactSameProfile': for every input the law returns true, and each argument reads behind the call as before it. No condition. -/
import Derived.Test.YtaclpilehlednaaRows
import Derived.Test.YtaclpilehlednaaFrame
import Derived.Test.YtaclpilehlednaaSameP
import Derived.Test.YtaclpilehlednaaCopyV
import Derived.Test.YtaclpilehlednaaFrameProf
namespace Go.Proofs.Ytaclpilehlednaa.fnExactSameProfile
open Go.ChangeShapes Go.WideShapes Go.ChangeAt Go.RowKit Go.Joins Go.Deep
open Go.ChangeMaps (open_string shut_string)
set_option linter.unusedVariables false

attribute [local go_sem ↓] Go.wp_at_zero Go.wp_at_succ
set_option maxRecDepth 100000
set_option maxHeartbeats 8000000 in
theorem walk (m0 : Int) (A0 : Option Addr) (n0 c0 : Nat) (z0 : List (List Int × Int)) (m1 : Int) (A1 : Option Addr) (n1 c1 : Nat) (z1 : List (List Int × Int)) (w : World) (hw0 : Votes w A0 n0 z0 ∧ n0 ≤ c0 ∧ c0 ≤ maxLen ∧ C64 z0 ∧ -9223372036854775808 ≤ m0 ∧ m0 ≤ 9223372036854775807) (hw1 : Votes w A1 n1 z1 ∧ n1 ≤ c1 ∧ c1 ≤ maxLen ∧ C64 z1 ∧ -9223372036854775808 ≤ m1 ∧ m1 ≤ 9223372036854775807) :
    Calls Try.prog 9 #[.agg #[.int .i64 m0, .slice A0 n0 c0], .agg #[.int .i64 m1, .slice A1 n1 c1]] w fun e w' => e = .returned (.bool true) ∧ Below w.heap.size w w' := by
  obtain ⟨h0, _hnc0, _hcm0, _hC0, _hm01, _hm02⟩ := hw0
  obtain ⟨h1, _hnc1, _hcm1, _hC1, _hm11, _hm12⟩ := hw1
  have ba : Below w.heap.size w (w.alloc (.cells #[.int .i64 m0, .slice A0 n0 c0] 52)) := (Below.refl _ _).alloc (Nat.le_refl _) _
  have bl : Below w.heap.size w ((w.alloc (.cells #[.int .i64 m0, .slice A0 n0 c0] 52)).alloc (.cells #[.int .i64 m1, .slice A1 n1 c1] 52)) := ba.alloc (by simp) _
  have k0 : ((w.alloc (.cells #[.int .i64 m0, .slice A0 n0 c0] 52)).alloc (.cells #[.int .i64 m1, .slice A1 n1 c1] 52)).cell? ⟨w.heap.size, 0, none⟩ = some (.int .i64 m0) := by simp [go_sem]
  have k1 : ((w.alloc (.cells #[.int .i64 m0, .slice A0 n0 c0] 52)).alloc (.cells #[.int .i64 m1, .slice A1 n1 c1] 52)).cell? ⟨w.heap.size, 1, none⟩ = some (.slice A0 n0 c0) := by simp [go_sem]
  have j0 : ((w.alloc (.cells #[.int .i64 m0, .slice A0 n0 c0] 52)).alloc (.cells #[.int .i64 m1, .slice A1 n1 c1] 52)).cell? ⟨w.heap.size + 1, 0, none⟩ = some (.int .i64 m1) := by simp [go_sem]
  have j1 : ((w.alloc (.cells #[.int .i64 m0, .slice A0 n0 c0] 52)).alloc (.cells #[.int .i64 m1, .slice A1 n1 c1] 52)).cell? ⟨w.heap.size + 1, 1, none⟩ = some (.slice A1 n1 c1) := by simp [go_sem]
  have sj : w.heap.size + 1 < ((w.alloc (.cells #[.int .i64 m0, .slice A0 n0 c0] 52)).alloc (.cells #[.int .i64 m1, .slice A1 n1 c1] 52)).heap.size := by simp
  have sk : w.heap.size < ((w.alloc (.cells #[.int .i64 m0, .slice A0 n0 c0] 52)).alloc (.cells #[.int .i64 m1, .slice A1 n1 c1] 52)).heap.size := by simp; omega
  clear ba
  have hnm0 : n0 ≤ maxLen := by omega
  have hnm1 : n1 ≤ maxLen := by omega
  go_enter Try.func9, Try.ntmps9
  go_wp2_with fail
  generalize ((w.alloc (.cells #[.int .i64 m0, .slice A0 n0 c0] 52)).alloc (.cells #[.int .i64 m1, .slice A1 n1 c1] 52)) = W at *
  refine (szProfile m0 A0 n0 c0 z0 _ (h0.on bl) hnm0).mono ?_; rintro e w1 ⟨r, rfl, r1, r2, r3, b⟩
  replace bl := Below.on bl b
  replace k0 := (b.cell (p := ⟨w.heap.size, 0, none⟩) sk).trans k0
  replace k1 := (b.cell (p := ⟨w.heap.size, 1, none⟩) sk).trans k1
  replace j0 := (b.cell (p := ⟨w.heap.size + 1, 0, none⟩) sj).trans j0
  replace j1 := (b.cell (p := ⟨w.heap.size + 1, 1, none⟩) sj).trans j1
  replace sj := Nat.lt_of_lt_of_le sj b.size
  replace sk := Nat.lt_of_lt_of_le sk b.size
  clear b
  by_cases hr : r < 0
  · go_wp2_with fail
    go_ret
    exact ⟨rfl, bl⟩
  obtain ⟨hn0, hm0⟩ := r3 (by omega)
  have HM0 := Lib.hid hm0; clear hm0 r3
  go_wp2_with fail
  refine (szProfileL m1 A1 n1 c1 z1 _ (h1.on bl) hnm1 r ⟨by omega, r2⟩).mono ?_; rintro e w2 ⟨s, rfl, s1, s2, s3, b⟩
  replace bl := Below.on bl b
  replace k0 := (b.cell (p := ⟨w.heap.size, 0, none⟩) sk).trans k0
  replace k1 := (b.cell (p := ⟨w.heap.size, 1, none⟩) sk).trans k1
  replace j0 := (b.cell (p := ⟨w.heap.size + 1, 0, none⟩) sj).trans j0
  replace j1 := (b.cell (p := ⟨w.heap.size + 1, 1, none⟩) sj).trans j1
  replace sj := Nat.lt_of_lt_of_le sj b.size
  replace sk := Nat.lt_of_lt_of_le sk b.size
  clear b
  by_cases hs : s < 0
  · go_wp2_with fail
    go_ret
    exact ⟨rfl, bl⟩
  obtain ⟨hn1, hm1⟩ := s3 (by omega)
  have HM1 := Lib.hid hm1; clear hm1 s3
  go_wp2_with fail
  have bd := Below.drew (Below.refl w2.heap.size w2)
  refine wp_region_held_drew (S := (fun w' => w'.cell? ⟨w.heap.size, 0, none⟩ = some (.int .i64 m0) ∧ w'.cell? ⟨w.heap.size, 1, none⟩ = some (.slice A0 n0 c0) ∧ w'.cell? ⟨w.heap.size + 1, 0, none⟩ = some (.int .i64 m1) ∧ w'.cell? ⟨w.heap.size + 1, 1, none⟩ = some (.slice A1 n1 c1))) (by kernel_rfl) ?_ (fun hHeld => ?_)
  · (try dsimp only); go_keep
  refine wpAnyH_take (i := 0) (v := ?_) rfl (by kernel_rfl) (by kernel_rfl) (by kernel_rfl) (fun _ _ _ h => h) (Or.inl ⟨by rfl, ?_⟩) (by assumption) ?_
  rotate_left
  · intro wq hSw; (try dsimp only at hSw); go_simp; (try with_reducible rfl)
  simp only [Act.put]
  refine wpAnyH_take (i := 2) (v := ?_) rfl (by kernel_rfl) (by kernel_rfl) (by kernel_rfl) (fun _ _ _ h => h) (Or.inl ⟨by rfl, ?_⟩) (by assumption) ?_
  rotate_left
  · intro wq hSw; (try dsimp only at hSw); go_simp; (try with_reducible rfl)
  simp only [Act.put]
  refine wpAnyH_ready (rs := [1]) (by kernel_rfl) (by simp) ?_
  refine AllReadyH.cons rfl (fun K hK => ?_) ?_
  · skip
    go_simp
    go_at_call 34; refine (toProfileD m0 A0 n0 c0 z0 _ (h0.on (Below.on bl bd)) hn0 HM0.out).mono ?_; rintro e w3 ⟨g0, rfl, ⟨G0, v0⟩, b3⟩
    have bt := bd.trans b3
    clear b3
    have k0r := (bt.cell (p := ⟨w.heap.size, 0, none⟩) sk).trans k0
    have k1r := (bt.cell (p := ⟨w.heap.size, 1, none⟩) sk).trans k1
    have j0r := (bt.cell (p := ⟨w.heap.size + 1, 0, none⟩) sj).trans j0
    have j1r := (bt.cell (p := ⟨w.heap.size + 1, 1, none⟩) sj).trans j1
    refine hK.out _ _ ?_ (fun hHeld => ?_)
    · (try dsimp only); go_keep
    clear hK K
    refine wpAnyH_ready (rs := [3]) (by kernel_rfl) (by simp) ?_
    refine AllReadyH.cons rfl (fun K hK => ?_) ?_
    · skip
      go_simp
      go_at_call 34; refine (toProfileD m1 A1 n1 c1 z1 _ (h1.on (Below.on bl bt)) hn1 HM1.out).mono ?_; rintro e w4 ⟨g1, rfl, ⟨G1, v1⟩, b4⟩
      have v0 := (v0.on b4).votes h0.1 (fun _ _ => rfl) (fun _ _ => rfl)
      have v1 := v1.votes h1.1 (fun _ _ => rfl) (fun _ _ => rfl)
      have bt2 := Below.on bt b4
      clear b4
      have k0q := (bt2.cell (p := ⟨w.heap.size, 0, none⟩) sk).trans k0
      have k1q := (bt2.cell (p := ⟨w.heap.size, 1, none⟩) sk).trans k1
      have j0q := (bt2.cell (p := ⟨w.heap.size + 1, 0, none⟩) sj).trans j0
      have j1q := (bt2.cell (p := ⟨w.heap.size + 1, 1, none⟩) sj).trans j1
      refine hK.out _ _ ?_ (fun hHeld => ?_)
      · (try dsimp only); go_keep
      clear hK K
      refine wpAnyH_ready (rs := [4]) (by kernel_rfl) (by simp) ?_
      refine AllReadyH.cons rfl (fun K hK => ?_) ?_
      · skip
        go_simp
        go_at_call 41; refine (specSameProfile m0 m1 _ _ n0 _ n1 _ z0 z1 _ v0 v1 hn0 hn1 HM0.out HM1.out).mono ?_; rintro e w5 ⟨rfl, b5⟩
        have b := Below.on bt2 b5
        clear b5
        have k0p := (b.cell (p := ⟨w.heap.size, 0, none⟩) sk).trans k0
        have k1p := (b.cell (p := ⟨w.heap.size, 1, none⟩) sk).trans k1
        have j0p := (b.cell (p := ⟨w.heap.size + 1, 0, none⟩) sj).trans j0
        have j1p := (b.cell (p := ⟨w.heap.size + 1, 1, none⟩) sj).trans j1
        refine hK.out _ _ ?_ (fun hHeld => ?_)
        · (try dsimp only); go_keep
        clear hK K
        refine wpAnyH_ready (rs := [5]) (by kernel_rfl) (by simp) ?_
        refine AllReadyH.cons rfl (fun K hK => ?_) ?_
        · skip
          go_simp
          refine hK.out _ _ ?_ (fun hHeld => ?_)
          · (try dsimp only); go_keep
          clear hK K
          refine wpAnyH_done (by kernel_rfl) ?_ _
          go_simp
          clear k0r k1r j0r j1r k0q k1q j0q j1q k0p k1p j0p j1p v0 v1 bt bt2 bd hHeld
          replace bl := Below.on bl b
          replace k0 := (b.cell (p := ⟨w.heap.size, 0, none⟩) sk).trans k0
          replace k1 := (b.cell (p := ⟨w.heap.size, 1, none⟩) sk).trans k1
          replace j0 := (b.cell (p := ⟨w.heap.size + 1, 0, none⟩) sj).trans j0
          replace j1 := (b.cell (p := ⟨w.heap.size + 1, 1, none⟩) sj).trans j1
          replace sj := Nat.lt_of_lt_of_le sj b.size
          replace sk := Nat.lt_of_lt_of_le sk b.size
          clear b
          go_wp2_with fail
          refine (toProfileD m0 A0 n0 c0 z0 _ (h0.on bl) hn0 HM0.out).mono ?_; rintro e w6 ⟨gx, rfl, ⟨Gx, px⟩, b⟩
          replace bl := Below.on bl b
          replace k0 := (b.cell (p := ⟨w.heap.size, 0, none⟩) sk).trans k0
          replace k1 := (b.cell (p := ⟨w.heap.size, 1, none⟩) sk).trans k1
          replace j0 := (b.cell (p := ⟨w.heap.size + 1, 0, none⟩) sj).trans j0
          replace j1 := (b.cell (p := ⟨w.heap.size + 1, 1, none⟩) sj).trans j1
          replace sj := Nat.lt_of_lt_of_le sj b.size
          replace sk := Nat.lt_of_lt_of_le sk b.size
          clear b
          have x0 : (w6.alloc (.cells #[.int .i64 m0, .slice (some ⟨gx, 0, none⟩) n0 n0] 56)).cell? ⟨w6.heap.size, 0, none⟩ = some (.int .i64 m0) := by simp
          have x1 : (w6.alloc (.cells #[.int .i64 m0, .slice (some ⟨gx, 0, none⟩) n0 n0] 56)).cell? ⟨w6.heap.size, 1, none⟩ = some (.slice (some ⟨gx, 0, none⟩) n0 n0) := by simp
          have sx : w6.heap.size < (w6.alloc (.cells #[.int .i64 m0, .slice (some ⟨gx, 0, none⟩) n0 n0] 56)).heap.size := by simp
          have b : Below w6.heap.size w6 (w6.alloc (.cells #[.int .i64 m0, .slice (some ⟨gx, 0, none⟩) n0 n0] 56)) := (Below.refl _ _).alloc (Nat.le_refl _) _
          replace bl := Below.on bl b
          replace k0 := (b.cell (p := ⟨w.heap.size, 0, none⟩) sk).trans k0
          replace k1 := (b.cell (p := ⟨w.heap.size, 1, none⟩) sk).trans k1
          replace j0 := (b.cell (p := ⟨w.heap.size + 1, 0, none⟩) sj).trans j0
          replace j1 := (b.cell (p := ⟨w.heap.size + 1, 1, none⟩) sj).trans j1
          replace sj := Nat.lt_of_lt_of_le sj b.size
          replace sk := Nat.lt_of_lt_of_le sk b.size
          replace px := px.on b
          clear b
          go_wp2_with fail
          generalize (w6.alloc (.cells #[.int .i64 m0, .slice (some ⟨gx, 0, none⟩) n0 n0] 56)) = W6 at *
          generalize w6.heap.size = x at *
          refine (toProfileD m1 A1 n1 c1 z1 _ (h1.on bl) hn1 HM1.out).mono ?_; rintro e w7 ⟨gy, rfl, ⟨Gy, py⟩, b⟩
          replace bl := Below.on bl b
          replace k0 := (b.cell (p := ⟨w.heap.size, 0, none⟩) sk).trans k0
          replace k1 := (b.cell (p := ⟨w.heap.size, 1, none⟩) sk).trans k1
          replace j0 := (b.cell (p := ⟨w.heap.size + 1, 0, none⟩) sj).trans j0
          replace j1 := (b.cell (p := ⟨w.heap.size + 1, 1, none⟩) sj).trans j1
          replace x0 := (b.cell (p := ⟨x, 0, none⟩) sx).trans x0
          replace x1 := (b.cell (p := ⟨x, 1, none⟩) sx).trans x1
          replace sj := Nat.lt_of_lt_of_le sj b.size
          replace sk := Nat.lt_of_lt_of_le sk b.size
          replace sx := Nat.lt_of_lt_of_le sx b.size
          replace px := px.on b
          clear b
          have y0 : (w7.alloc (.cells #[.int .i64 m1, .slice (some ⟨gy, 0, none⟩) n1 n1] 56)).cell? ⟨w7.heap.size, 0, none⟩ = some (.int .i64 m1) := by simp
          have y1 : (w7.alloc (.cells #[.int .i64 m1, .slice (some ⟨gy, 0, none⟩) n1 n1] 56)).cell? ⟨w7.heap.size, 1, none⟩ = some (.slice (some ⟨gy, 0, none⟩) n1 n1) := by simp
          have sy : w7.heap.size < (w7.alloc (.cells #[.int .i64 m1, .slice (some ⟨gy, 0, none⟩) n1 n1] 56)).heap.size := by simp
          have b : Below w7.heap.size w7 (w7.alloc (.cells #[.int .i64 m1, .slice (some ⟨gy, 0, none⟩) n1 n1] 56)) := (Below.refl _ _).alloc (Nat.le_refl _) _
          replace bl := Below.on bl b
          replace k0 := (b.cell (p := ⟨w.heap.size, 0, none⟩) sk).trans k0
          replace k1 := (b.cell (p := ⟨w.heap.size, 1, none⟩) sk).trans k1
          replace j0 := (b.cell (p := ⟨w.heap.size + 1, 0, none⟩) sj).trans j0
          replace j1 := (b.cell (p := ⟨w.heap.size + 1, 1, none⟩) sj).trans j1
          replace x0 := (b.cell (p := ⟨x, 0, none⟩) sx).trans x0
          replace x1 := (b.cell (p := ⟨x, 1, none⟩) sx).trans x1
          replace sj := Nat.lt_of_lt_of_le sj b.size
          replace sk := Nat.lt_of_lt_of_le sk b.size
          replace sx := Nat.lt_of_lt_of_le sx b.size
          replace px := px.on b
          replace py := py.on b
          clear b
          go_wp2_with fail
          generalize (w7.alloc (.cells #[.int .i64 m1, .slice (some ⟨gy, 0, none⟩) n1 n1] 56)) = W7 at *
          generalize w7.heap.size = y at *
          refine (implSameProfile m0 m1 _ _ n0 _ n1 _ z0 z1 _ (px.votes h0.1 (fun _ _ => rfl) (fun _ _ => rfl)) (py.votes h1.1 (fun _ _ => rfl) (fun _ _ => rfl)) hn0 hn1 HM0.out HM1.out).mono ?_; rintro e w8 ⟨rfl, b⟩
          replace bl := Below.on bl b
          replace k0 := (b.cell (p := ⟨w.heap.size, 0, none⟩) sk).trans k0
          replace k1 := (b.cell (p := ⟨w.heap.size, 1, none⟩) sk).trans k1
          replace j0 := (b.cell (p := ⟨w.heap.size + 1, 0, none⟩) sj).trans j0
          replace j1 := (b.cell (p := ⟨w.heap.size + 1, 1, none⟩) sj).trans j1
          replace x0 := (b.cell (p := ⟨x, 0, none⟩) sx).trans x0
          replace x1 := (b.cell (p := ⟨x, 1, none⟩) sx).trans x1
          replace y0 := (b.cell (p := ⟨y, 0, none⟩) sy).trans y0
          replace y1 := (b.cell (p := ⟨y, 1, none⟩) sy).trans y1
          replace sj := Nat.lt_of_lt_of_le sj b.size
          replace sk := Nat.lt_of_lt_of_le sk b.size
          replace sx := Nat.lt_of_lt_of_le sx b.size
          replace sy := Nat.lt_of_lt_of_le sy b.size
          replace px := px.on b
          replace py := py.on b
          clear b
          generalize sameP m0 z0 m1 z1 = sm at *
          have hne : (sm != sm) = false := by cases sm <;> rfl
          go_wp2_with fail
          have bd := Below.drew (Below.refl w8.heap.size w8)
          refine wp_region_held_drew (S := (fun w' => w'.cell? ⟨x, 0, none⟩ = some (.int .i64 m0) ∧ w'.cell? ⟨x, 1, none⟩ = some (.slice (some ⟨gx, 0, none⟩) n0 n0) ∧ w'.cell? ⟨w.heap.size, 0, none⟩ = some (.int .i64 m0) ∧ w'.cell? ⟨w.heap.size, 1, none⟩ = some (.slice A0 n0 c0))) (by kernel_rfl) ?_ (fun hHeld => ?_)
          · (try dsimp only); go_keep
          refine wpAnyH_take (i := 0) (v := ?_) rfl (by kernel_rfl) (by kernel_rfl) (by kernel_rfl) (fun _ _ _ h => h) (Or.inl ⟨by rfl, ?_⟩) (by assumption) ?_
          rotate_left
          · intro wq hSw; (try dsimp only at hSw); go_simp; (try with_reducible rfl)
          simp only [Act.put]
          refine wpAnyH_take (i := 1) (v := ?_) rfl (by kernel_rfl) (by kernel_rfl) (by kernel_rfl) (fun _ _ _ h => h) (Or.inl ⟨by rfl, ?_⟩) (by assumption) ?_
          rotate_left
          · intro wq hSw; (try dsimp only at hSw); go_simp; (try with_reducible rfl)
          simp only [Act.put]
          refine wpAnyH_ready (rs := [2]) (by kernel_rfl) (by simp) ?_
          refine AllReadyH.cons rfl (fun K hK => ?_) ?_
          · skip
            go_simp
            go_at_call 34; refine (toProfileD m0 A0 n0 c0 z0 _ (h0.on (Below.on bl bd)) hn0 HM0.out).mono ?_; rintro e w9 ⟨g2, rfl, ⟨G2, v2⟩, b3⟩
            have bt := bd.trans b3
            have v2 := v2.votes h0.1 (fun _ _ => rfl) (fun _ _ => rfl)
            have vx := (px.on bt).votes h0.1 (fun _ _ => rfl) (fun _ _ => rfl)
            clear b3
            have k0r := (bt.cell (p := ⟨w.heap.size, 0, none⟩) sk).trans k0
            have k1r := (bt.cell (p := ⟨w.heap.size, 1, none⟩) sk).trans k1
            have x0r := (bt.cell (p := ⟨x, 0, none⟩) sx).trans x0
            have x1r := (bt.cell (p := ⟨x, 1, none⟩) sx).trans x1
            refine hK.out _ _ ?_ (fun hHeld => ?_)
            · (try dsimp only); go_keep
            clear hK K
            refine wpAnyH_ready (rs := [3]) (by kernel_rfl) (by simp) ?_
            refine AllReadyH.cons rfl (fun K hK => ?_) ?_
            · skip
              go_simp
              go_at_call 36; refine (eqProfile m0 _ _ n0 _ _ z0 _ vx v2 hn0 HM0.out).mono ?_; rintro e w10 ⟨rfl, b4⟩
              have b := Below.on bt b4
              clear b4
              have k0q := (b.cell (p := ⟨w.heap.size, 0, none⟩) sk).trans k0
              have k1q := (b.cell (p := ⟨w.heap.size, 1, none⟩) sk).trans k1
              have x0q := (b.cell (p := ⟨x, 0, none⟩) sx).trans x0
              have x1q := (b.cell (p := ⟨x, 1, none⟩) sx).trans x1
              refine hK.out _ _ ?_ (fun hHeld => ?_)
              · (try dsimp only); go_keep
              clear hK K
              refine wpAnyH_ready (rs := [4]) (by kernel_rfl) (by simp) ?_
              refine AllReadyH.cons rfl (fun K hK => ?_) ?_
              · skip
                go_simp
                refine hK.out _ _ ?_ (fun hHeld => ?_)
                · (try dsimp only); go_keep
                clear hK K
                refine wpAnyH_done (by kernel_rfl) ?_ _
                go_simp
                clear k0r k1r x0r x1r k0q k1q x0q x1q v2 vx bt bd hHeld
                replace bl := Below.on bl b
                replace k0 := (b.cell (p := ⟨w.heap.size, 0, none⟩) sk).trans k0
                replace k1 := (b.cell (p := ⟨w.heap.size, 1, none⟩) sk).trans k1
                replace j0 := (b.cell (p := ⟨w.heap.size + 1, 0, none⟩) sj).trans j0
                replace j1 := (b.cell (p := ⟨w.heap.size + 1, 1, none⟩) sj).trans j1
                replace x0 := (b.cell (p := ⟨x, 0, none⟩) sx).trans x0
                replace x1 := (b.cell (p := ⟨x, 1, none⟩) sx).trans x1
                replace y0 := (b.cell (p := ⟨y, 0, none⟩) sy).trans y0
                replace y1 := (b.cell (p := ⟨y, 1, none⟩) sy).trans y1
                replace sj := Nat.lt_of_lt_of_le sj b.size
                replace sk := Nat.lt_of_lt_of_le sk b.size
                replace sx := Nat.lt_of_lt_of_le sx b.size
                replace sy := Nat.lt_of_lt_of_le sy b.size
                replace px := px.on b
                replace py := py.on b
                clear b
                go_wp2_with fail
                have bd := Below.drew (Below.refl w10.heap.size w10)
                refine wp_region_held_drew (S := (fun w' => w'.cell? ⟨y, 0, none⟩ = some (.int .i64 m1) ∧ w'.cell? ⟨y, 1, none⟩ = some (.slice (some ⟨gy, 0, none⟩) n1 n1) ∧ w'.cell? ⟨w.heap.size + 1, 0, none⟩ = some (.int .i64 m1) ∧ w'.cell? ⟨w.heap.size + 1, 1, none⟩ = some (.slice A1 n1 c1))) (by kernel_rfl) ?_ (fun hHeld => ?_)
                · (try dsimp only); go_keep
                refine wpAnyH_take (i := 0) (v := ?_) rfl (by kernel_rfl) (by kernel_rfl) (by kernel_rfl) (fun _ _ _ h => h) (Or.inl ⟨by rfl, ?_⟩) (by assumption) ?_
                rotate_left
                · intro wq hSw; (try dsimp only at hSw); go_simp; (try with_reducible rfl)
                simp only [Act.put]
                refine wpAnyH_take (i := 1) (v := ?_) rfl (by kernel_rfl) (by kernel_rfl) (by kernel_rfl) (fun _ _ _ h => h) (Or.inl ⟨by rfl, ?_⟩) (by assumption) ?_
                rotate_left
                · intro wq hSw; (try dsimp only at hSw); go_simp; (try with_reducible rfl)
                simp only [Act.put]
                refine wpAnyH_ready (rs := [2]) (by kernel_rfl) (by simp) ?_
                refine AllReadyH.cons rfl (fun K hK => ?_) ?_
                · skip
                  go_simp
                  go_at_call 34; refine (toProfileD m1 A1 n1 c1 z1 _ (h1.on (Below.on bl bd)) hn1 HM1.out).mono ?_; rintro e w11 ⟨g3, rfl, ⟨G3, v3⟩, b3⟩
                  have bt := bd.trans b3
                  have v3 := v3.votes h1.1 (fun _ _ => rfl) (fun _ _ => rfl)
                  have vy := (py.on bt).votes h1.1 (fun _ _ => rfl) (fun _ _ => rfl)
                  clear b3
                  have j0r := (bt.cell (p := ⟨w.heap.size + 1, 0, none⟩) sj).trans j0
                  have j1r := (bt.cell (p := ⟨w.heap.size + 1, 1, none⟩) sj).trans j1
                  have y0r := (bt.cell (p := ⟨y, 0, none⟩) sy).trans y0
                  have y1r := (bt.cell (p := ⟨y, 1, none⟩) sy).trans y1
                  refine hK.out _ _ ?_ (fun hHeld => ?_)
                  · (try dsimp only); go_keep
                  clear hK K
                  refine wpAnyH_ready (rs := [3]) (by kernel_rfl) (by simp) ?_
                  refine AllReadyH.cons rfl (fun K hK => ?_) ?_
                  · skip
                    go_simp
                    go_at_call 36; refine (eqProfile m1 _ _ n1 _ _ z1 _ vy v3 hn1 HM1.out).mono ?_; rintro e w12 ⟨rfl, b4⟩
                    have b := Below.on bt b4
                    clear b4
                    have j0q := (b.cell (p := ⟨w.heap.size + 1, 0, none⟩) sj).trans j0
                    have j1q := (b.cell (p := ⟨w.heap.size + 1, 1, none⟩) sj).trans j1
                    have y0q := (b.cell (p := ⟨y, 0, none⟩) sy).trans y0
                    have y1q := (b.cell (p := ⟨y, 1, none⟩) sy).trans y1
                    refine hK.out _ _ ?_ (fun hHeld => ?_)
                    · (try dsimp only); go_keep
                    clear hK K
                    refine wpAnyH_ready (rs := [4]) (by kernel_rfl) (by simp) ?_
                    refine AllReadyH.cons rfl (fun K hK => ?_) ?_
                    · skip
                      go_simp
                      refine hK.out _ _ ?_ (fun hHeld => ?_)
                      · (try dsimp only); go_keep
                      clear hK K
                      refine wpAnyH_done (by kernel_rfl) ?_ _
                      go_simp
                      go_wp2_with fail
                      go_ret
                      exact ⟨rfl, Below.on bl b⟩
                    exact AllReadyH.nil
                  exact AllReadyH.nil
                exact AllReadyH.nil
              exact AllReadyH.nil
            exact AllReadyH.nil
          exact AllReadyH.nil
        exact AllReadyH.nil
      exact AllReadyH.nil
    exact AllReadyH.nil
  exact AllReadyH.nil

set_option maxRecDepth 100000 in
theorem lifted (os : Os) (started : os.Started) (H : Type) (enc : TypeId × Value → H) :
    ReturnsInHanded {} Try.checked os 9 .any (Rows.fnExactSameProfileSpec.pre6 enc Try.prog Try.f9 Rows.fnExactSameProfileRow.domain false) (Rows.fnExactSameProfileSpec.post enc Try.prog Try.f9 false true false false) := by
  refine returnsInHanded_of_change (C := Try.checked) own started (by kernel_rfl) Try.func9
    (ChangeSpec.witness6 (enc := enc) (C := Try.checked) false ⟨#[], #[.agg #[.int .i64 0, .slice none 0 0], .agg #[.int .i64 0, .slice none 0 0]], []⟩ 8 (by kernel_rfl) (by kernel_rfl) (by kernel_rfl) (by kernel_rfl)) ?_
  intro W base args ds gs before hval0 hW hcnd _
  have hval : ∀ (j : Nat) t v, Try.f9.params[j]? = some t → args[j]? = some v → Value.okWide Try.prog W .any base t v := hval0
  have hW' := hW
  obtain ⟨p, q, hA0, hV, rfl, hfz, hnd⟩ := hW
  have hA : DataW.TrodAll enc Try.prog W 0 (fun _ => true) true Try.f9.params.toList args.toList ds p := hA0
  rw [Try.params9] at hA hval
  obtain ⟨v0, vs0, d0, ds0, p0, q0, hargs, rfl, rfl, h0, r0⟩ := trodAll_cons hA
  obtain ⟨v1, vs1, d1, ds1, p1, q1, rfl, rfl, rfl, h1, r1⟩ := trodAll_cons r0
  obtain ⟨rfl, rfl, rfl⟩ := trodAll_nil r1
  obtain rfl : args = #[v0, v1] := by cases args; simp_all
  obtain ⟨rfl, rfl⟩ := trodVars_none hV
  have k0 := h0
  have lt0 : ∀ x ∈ p0, x.block < W.heap.size := by obtain ⟨m, hm⟩ := k0; exact DataW.trod_lt m _ _ _ hm
  obtain ⟨m0, A0, n0, c0, z0, rfl, w0⟩ := open_prof_arg (hval 0 52 v0 rfl rfl) h0
  have k1 := h1
  have lt1 : ∀ x ∈ p1, x.block < W.heap.size := by obtain ⟨m, hm⟩ := k1; exact DataW.trod_lt m _ _ _ hm
  obtain ⟨m1, A1, n1, c1, z1, rfl, w1⟩ := open_prof_arg (hval 1 52 v1 rfl rfl) h1
  clear hA0 hval0
  refine (walk m0 A0 n0 c0 z0 m1 A1 n1 c1 z1 W w0 w1).mono fun e W' ⟨he, bel⟩ => ?_
  subst he
  exact ⟨_, rfl, _, _, _, [], _, [], hW', trodAll_mk1 (shut_bool Try.underlying4 _), (trodAll_cons_mk (Below.trod laidOut (by kernel_rfl) (of_decide_eq_true (by kernel_rfl)) k0 bel lt0) (trodAll_cons_mk (Below.trod laidOut (by kernel_rfl) (of_decide_eq_true (by kernel_rfl)) k1 bel lt1) trodAll_mk0)), rfl, bel.frame _, fun h => by cases h⟩

theorem over : Rows.fnExactSameProfileRow.holds Try.pinned (OpenSpec.ofChange Rows.fnExactSameProfileSpec) :=
  OpenClaim.holds_of_wide 9 Try.f9 rfl rfl rfl rfl rfl rfl rfl ⟨rfl, rfl, rfl, rfl, rfl⟩ rfl rfl rfl rfl rfl (by kernel_rfl) Try.func9
    (joined_by _ _ _ _ _ (by kernel_rfl) laidOut mapsRowedYes (by kernel_rfl) (by kernel_rfl) (by kernel_rfl) stopsNone (by kernel_rfl) knobsNone (by kernel_rfl) (by kernel_rfl) (by kernel_rfl) (by kernel_rfl) (by kernel_rfl) (by kernel_rfl) (by kernel_rfl) (by kernel_rfl) (by kernel_rfl) (by kernel_rfl) (by kernel_rfl) (by kernel_rfl) (by kernel_rfl)
      (keys_fit _ _ keysPlain rfl) rfl heard mayEnterYes (lifted_fits _ _ liftsNo rfl) (make_fits _ _ makeCut rfl) rfl rfl (by kernel_rfl) (by kernel_rfl) (by kernel_rfl))
    (of_decide_eq_true (by kernel_rfl)) (by unfold Func.isWrapper; first | (rw [if_pos (by decide +kernel)]; kernel_rfl) | (rw [if_neg (by decide +kernel)]; exact ⟨rfl, rfl⟩))
    (fun os started H enc _ => lifted os started H enc)

theorem proved : Rows.FnExactSameProfileSaid := over
end Go.Proofs.Ytaclpilehlednaa.fnExactSameProfile
