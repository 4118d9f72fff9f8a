/- 'FnExactScoreRanking': for every input the law returns true, and each argument reads behind the call as before it. No condition. -/
import Derived.Test.YtaclpilehlednaaRows
import Derived.Test.YtaclpilehlednaaFrame
import Derived.Test.YtaclpilehlednaaScoreR
import Derived.Test.YtaclpilehlednaaCopyV
import Derived.Test.YtaclpilehlednaaMarkV
import Derived.Test.YtaclpilehlednaaFrameProf
namespace Go.Proofs.Ytaclpilehlednaa.fnExactScoreRanking
open Go.ChangeShapes Go.WideShapes Go.ChangeAt Go.RowKit Go.Joins Go.Deep
open Go.ChangeMaps (open_string shut_string)
set_option linter.unusedVariables false

attribute [local go_sem ↓] Go.wp_at_zero Go.wp_at_succ
set_option maxRecDepth 100000
set_option maxHeartbeats 8000000 in
theorem walk (m : Int) (A : Option Addr) (n c : Nat) (z : List (List Int × Int)) (A1 : Option Addr) (n1 c1 : Nat) (z1 : List Int) (w : World) (hw : Votes w A n z ∧ n ≤ c ∧ c ≤ maxLen ∧ C64 z ∧ -9223372036854775808 ≤ m ∧ m ≤ 9223372036854775807) (hw1 : Ints w A1 n1 z1 ∧ n1 ≤ c1 ∧ c1 ≤ maxLen ∧ I64 z1) :
    Calls Try.prog 8 #[.agg #[.int .i64 m, .slice A n c], .slice A1 n1 c1] w fun e w' => e = .returned (.bool true) ∧ Below w.heap.size w w' := by
  obtain ⟨h, _hnc, _hcm, _hC, _hm1, _hm2⟩ := hw
  obtain ⟨h1, _hnc1, _hcm1, hi1⟩ := hw1
  clear hi1
  have bW : Below w.heap.size w (w.alloc (.cells #[.int .i64 m, .slice A n c] 52)) := (Below.refl _ _).alloc (Nat.le_refl _) _
  have k0 : (w.alloc (.cells #[.int .i64 m, .slice A n c] 52)).cell? ⟨w.heap.size, 0, none⟩ = some (.int .i64 m) := by simp
  have k1 : (w.alloc (.cells #[.int .i64 m, .slice A n c] 52)).cell? ⟨w.heap.size, 1, none⟩ = some (.slice A n c) := by simp
  have sW : w.heap.size < (w.alloc (.cells #[.int .i64 m, .slice A n c] 52)).heap.size := by simp
  have hnm : n ≤ maxLen := by omega
  by_cases hn1 : 1048576 < (n1 : Int)
  · go_enter Try.func8, Try.ntmps8
    go_wp2
    go_ret
    exact ⟨rfl, bW⟩
  have hn1 : (n1 : Int) ≤ 1048576 := by omega
  go_enter Try.func8, Try.ntmps8
  go_wp2_with fail
  generalize w.alloc (.cells #[.int .i64 m, .slice A n c] 52) = W at *
  have bl := Below.refl W.heap.size W
  have bS := Below.refl W.heap.size W
  refine (szProfile m A n c z _ (h.on bW) hnm).mono ?_; rintro e w1 ⟨r, rfl, r1, r2, r3, b⟩
  have bl := Below.on bl b
  have bS := Below.on bS b
  have sz1 := b.size
  clear b
  by_cases hr : r < 0
  · go_wp2_with fail
    go_ret
    exact ⟨rfl, Below.on bW bl⟩
  obtain ⟨hn, hm⟩ := r3 (by omega)
  have HM := Lib.hid hm; clear hm r3
  have hy : ((srP m z z1).length : Int) ≤ 1048576 := by have := @sr_len m z z1; omega
  have q0 := (bl.cell (p := ⟨w.heap.size, 0, none⟩) sW).trans k0
  have q1 := (bl.cell (p := ⟨w.heap.size, 1, none⟩) sW).trans k1
  go_wp2_with fail
  clear q0 q1
  refine (toProfileD m A n c z _ (h.on (Below.on bW bl)) hn HM.out).mono ?_; rintro e w2 ⟨g0, rfl, ⟨Gv0, v0⟩, b⟩
  have bl := Below.on bl b
  have bS := Below.on bS b
  have sz2 := b.size
  clear b
  have v0 := v0.votes h.1 (fun _ _ => rfl) (fun _ _ => rfl)
  clear bS
  have bS := Below.refl w2.heap.size w2
  have q0 := (bl.cell (p := ⟨w.heap.size, 0, none⟩) sW).trans k0
  have q1 := (bl.cell (p := ⟨w.heap.size, 1, none⟩) sW).trans k1
  go_wp2_with fail
  clear q0 q1
  refine (toIntS A1 n1 c1 z1 _ (h1.on (Below.on bW bl)) hn1).mono ?_; rintro e w3 ⟨rfl, q1, b⟩
  have bl := Below.on bl b
  have bS := Below.on bS b
  have sz3 := b.size
  clear b
  have v0 := (v0.on bS)
  clear bS
  have bS := Below.refl w3.heap.size w3
  have q0 := (bl.cell (p := ⟨w.heap.size, 0, none⟩) sW).trans k0
  have q1 := (bl.cell (p := ⟨w.heap.size, 1, none⟩) sW).trans k1
  go_wp2_with fail
  clear q0 q1
  refine (specScoreRanking m _ _ _ z _ _ _ z1 _ (v0.on bS) hn HM.out (Ints.of_own (own_below q1 bS (Nat.le_refl _))) hn1 ).mono ?_; rintro e w4 ⟨Ar, cr, rfl, r, b⟩
  have bl := Below.on bl b
  have bS := Below.on bS b
  have sz4 := b.size
  clear b
  have v0 := (v0.on bS)
  have q1 := (own_below q1 bS (Nat.le_refl _))
  clear bS
  have bS := Below.refl w4.heap.size w4
  have lr := own_ge r
  have tzr : w4.heap.size = w4.heap.size := rfl
  have szlo : w4.heap.size ≤ w4.heap.size := Nat.le_refl _
  have q0 := (bl.cell (p := ⟨w.heap.size, 0, none⟩) sW).trans k0
  have q1 := (bl.cell (p := ⟨w.heap.size, 1, none⟩) sW).trans k1
  go_wp2_with fail
  clear q0 q1
  refine (toProfileD m A n c z _ (h.on (Below.on bW bl)) hn HM.out).mono ?_; rintro e w5 ⟨gx, rfl, ⟨Gpx, px⟩, b⟩
  have bl := Below.on bl b
  have bS := Below.on bS b
  have sz5 := b.size
  clear b
  have r := (own_below r bS (Nat.le_refl _))
  clear bS
  have bS := Below.refl w5.heap.size w5
  have hin := px.inn
  have b : Below w5.heap.size w5 (w5.alloc (.cells #[.int .i64 m, .slice (some ⟨gx, 0, none⟩) n n] 56)) := (Below.refl _ _).alloc (Nat.le_refl _) _
  have bx0 : (w5.alloc (.cells #[.int .i64 m, .slice (some ⟨gx, 0, none⟩) n n] 56)).cell? ⟨w5.heap.size, 0, none⟩ = some (.int .i64 m) := by simp
  have bx1 : (w5.alloc (.cells #[.int .i64 m, .slice (some ⟨gx, 0, none⟩) n n] 56)).cell? ⟨w5.heap.size, 1, none⟩ = some (.slice (some ⟨gx, 0, none⟩) n n) := by simp
  have bxs : w5.heap.size < (w5.alloc (.cells #[.int .i64 m, .slice (some ⟨gx, 0, none⟩) n n] 56)).heap.size := by simp
  have bl := Below.on bl b
  have bS := Below.on bS b
  have sz6 := b.size
  clear b
  have q0 := (bl.cell (p := ⟨w.heap.size, 0, none⟩) sW).trans k0
  have q1 := (bl.cell (p := ⟨w.heap.size, 1, none⟩) sW).trans k1
  go_wp2_with fail
  clear q0 q1
  generalize (w5.alloc (.cells #[.int .i64 m, .slice (some ⟨gx, 0, none⟩) n n] 56)) = Xbx at *
  have r := (own_below r bS (Nat.le_refl _))
  have px := (px.on bS)
  clear bS
  have bS := Below.refl Xbx.heap.size Xbx
  refine (toIntS A1 n1 c1 z1 _ (h1.on (Below.on bW bl)) hn1).mono ?_; rintro e w7 ⟨rfl, x1, b⟩
  have bl := Below.on bl b
  have bS := Below.on bS b
  have sz7 := b.size
  clear b
  have r := (own_below r bS (Nat.le_refl _))
  have px := (px.on bS)
  have bx0 := (bS.cell (p := ⟨w5.heap.size, 0, none⟩) bxs).trans bx0
  have bx1 := (bS.cell (p := ⟨w5.heap.size, 1, none⟩) bxs).trans bx1
  have bxs := Nat.lt_of_lt_of_le bxs bS.size
  clear bS
  have bS := Below.refl w7.heap.size w7
  have lx1 := own_ge x1
  have q0 := (bl.cell (p := ⟨w.heap.size, 0, none⟩) sW).trans k0
  have q1 := (bl.cell (p := ⟨w.heap.size, 1, none⟩) sW).trans k1
  have bx0q := (bS.cell (p := ⟨w5.heap.size, 0, none⟩) bxs).trans bx0
  have bx1q := (bS.cell (p := ⟨w5.heap.size, 1, none⟩) bxs).trans bx1
  go_wp2_with fail
  clear q0 q1 bx0q bx1q
  refine (implScoreRanking m _ _ _ z _ _ _ z1 _ ((px.on bS).votes h.1 (fun _ _ => rfl) (fun _ _ => rfl)) hn HM.out (Ints.of_own (own_below x1 bS (Nat.le_refl _))) hn1 ).mono ?_; rintro e w8 ⟨Ag, cg, rfl, g, b⟩
  have bl := Below.on bl b
  have bS := Below.on bS b
  have sz8 := b.size
  clear b
  have r := (own_below r bS (Nat.le_refl _))
  have px := (px.on bS)
  have x1 := (own_below x1 bS (Nat.le_refl _))
  have bx0 := (bS.cell (p := ⟨w5.heap.size, 0, none⟩) bxs).trans bx0
  have bx1 := (bS.cell (p := ⟨w5.heap.size, 1, none⟩) bxs).trans bx1
  have bxs := Nat.lt_of_lt_of_le bxs bS.size
  clear bS
  have bS := Below.refl w8.heap.size w8
  have lg := own_ge g
  have tzg : w8.heap.size = w8.heap.size := rfl
  have q0 := (bl.cell (p := ⟨w.heap.size, 0, none⟩) sW).trans k0
  have q1 := (bl.cell (p := ⟨w.heap.size, 1, none⟩) sW).trans k1
  have bx0q := (bS.cell (p := ⟨w5.heap.size, 0, none⟩) bxs).trans bx0
  have bx1q := (bS.cell (p := ⟨w5.heap.size, 1, none⟩) bxs).trans bx1
  go_wp2_with fail
  clear q0 q1 bx0q bx1q
  refine (eqIntS _ _ _ _ _ _ _ (Ints.of_own (own_below g bS (Nat.le_refl _))) (Ints.of_own (own_below r bS (Nat.le_refl _))) hy).mono ?_; rintro e w9 ⟨rfl, b⟩
  have bl := Below.on bl b
  have bS := Below.on bS b
  have sz9 := b.size
  clear b
  have q0 := (bl.cell (p := ⟨w.heap.size, 0, none⟩) sW).trans k0
  have q1 := (bl.cell (p := ⟨w.heap.size, 1, none⟩) sW).trans k1
  have bx0q := (bS.cell (p := ⟨w5.heap.size, 0, none⟩) bxs).trans bx0
  have bx1q := (bS.cell (p := ⟨w5.heap.size, 1, none⟩) bxs).trans bx1
  go_upto_region 13 with fail
  go_cut [42] (fun u wx => u = .bool false ∧ Below w9.heap.size w9 wx)
  case first =>
    have bd := Below.drew (Below.refl w9.heap.size w9)
    go_region_with (first | (go_at_call 34; refine (toProfileD m A n c z _ (h.on (Below.on (Below.on bW bl) bd)) hn HM.out).mono ?_; rintro e wp ⟨gc, rfl, ⟨Gc, vc⟩, hb⟩; have bt := bd.trans hb; have vc := vc.votes h.1 (fun _ _ => rfl) (fun _ _ => rfl); have vx := (px.on (Below.on bS bt)).votes h.1 (fun _ _ => rfl) (fun _ _ => rfl); have bx0r := (bt.cell (p := ⟨w5.heap.size, 0, none⟩) (Nat.lt_of_lt_of_le bxs bS.size)).trans bx0q; have bx1r := (bt.cell (p := ⟨w5.heap.size, 1, none⟩) (Nat.lt_of_lt_of_le bxs bS.size)).trans bx1q) | (go_at_call 36; refine (eqProfile m _ _ n _ _ z _ vx vc hn HM.out).mono ?_; rintro e wq ⟨rfl, hq⟩; have bt := Below.on bt hq))
    all_goals go_wp2_with fail
    all_goals go_meet
    all_goals first | exact ⟨rfl, bt⟩ | exact ⟨rfl, bt.drew⟩
  case rest =>
    clear q0 q1 bx0q bx1q
    obtain ⟨rfl, b⟩ := hcut
    have bl := Below.on bl b
    have bS := Below.on bS b
    have sz10 := b.size
    clear b
    have q0 := (bl.cell (p := ⟨w.heap.size, 0, none⟩) sW).trans k0
    have q1 := (bl.cell (p := ⟨w.heap.size, 1, none⟩) sW).trans k1
    have bx0q := (bS.cell (p := ⟨w5.heap.size, 0, none⟩) bxs).trans bx0
    have bx1q := (bS.cell (p := ⟨w5.heap.size, 1, none⟩) bxs).trans bx1
    go_wp2_with fail
    clear q0 q1 bx0q bx1q
    refine (toIntS A1 n1 c1 z1 _ (h1.on (Below.on bW bl)) hn1).mono ?_; rintro e w11 ⟨rfl, y1, b⟩
    have bl := Below.on bl b
    have bS := Below.on bS b
    have sz11 := b.size
    clear b
    have r := (own_below r bS (Nat.le_refl _))
    have px := (px.on bS)
    have x1 := (own_below x1 bS (Nat.le_refl _))
    have g := (own_below g bS (Nat.le_refl _))
    have bx0 := (bS.cell (p := ⟨w5.heap.size, 0, none⟩) bxs).trans bx0
    have bx1 := (bS.cell (p := ⟨w5.heap.size, 1, none⟩) bxs).trans bx1
    have bxs := Nat.lt_of_lt_of_le bxs bS.size
    clear bS
    have bS := Below.refl w11.heap.size w11
    have q0 := (bl.cell (p := ⟨w.heap.size, 0, none⟩) sW).trans k0
    have q1 := (bl.cell (p := ⟨w.heap.size, 1, none⟩) sW).trans k1
    have bx0q := (bS.cell (p := ⟨w5.heap.size, 0, none⟩) bxs).trans bx0
    have bx1q := (bS.cell (p := ⟨w5.heap.size, 1, none⟩) bxs).trans bx1
    go_wp2_with fail
    clear q0 q1 bx0q bx1q
    refine (eqIntS _ _ _ _ _ _ _ (Ints.of_own (own_below x1 bS (Nat.le_refl _))) (Ints.of_own (own_below y1 bS (Nat.le_refl _))) hn1).mono ?_; rintro e w12 ⟨rfl, b⟩
    have bl := Below.on bl b
    have bS := Below.on bS b
    have sz12 := b.size
    clear b
    have r := (own_below r bS (Nat.le_refl _))
    have px := (px.on bS)
    have x1 := (own_below x1 bS (Nat.le_refl _))
    have g := (own_below g bS (Nat.le_refl _))
    have bx0 := (bS.cell (p := ⟨w5.heap.size, 0, none⟩) bxs).trans bx0
    have bx1 := (bS.cell (p := ⟨w5.heap.size, 1, none⟩) bxs).trans bx1
    have bxs := Nat.lt_of_lt_of_le bxs bS.size
    clear bS
    have bS := Below.refl w12.heap.size w12
    have q0 := (bl.cell (p := ⟨w.heap.size, 0, none⟩) sW).trans k0
    have q1 := (bl.cell (p := ⟨w.heap.size, 1, none⟩) sW).trans k1
    have bx0q := (bS.cell (p := ⟨w5.heap.size, 0, none⟩) bxs).trans bx0
    have bx1q := (bS.cell (p := ⟨w5.heap.size, 1, none⟩) bxs).trans bx1
    go_wp2_with fail
    clear q0 q1 bx0q bx1q
    refine (markProfile m _ n n _ _ _ _ _ 1 _ _ (px.on bS) hin hn HM.out (by omega)).mono ?_; rintro e w13 ⟨rfl, _, mid⟩
    have r := own_mid r mid (fun a ha => by have h1 := lr a ha; omega)
    have x1 := own_mid x1 mid (fun a ha => by have h1 := lx1 a ha; omega)
    have g := own_mid g mid (fun a ha => by have h1 := lg a ha; omega)
    have bl := Below.mid bl mid (by omega) (by omega)
    have sz13 := mid.size
    clear mid bS
    have bS := Below.refl w13.heap.size w13
    have hpr := prv_le (rk z) n HM.out n (Nat.le_refl _)
    have q0 := (bl.cell (p := ⟨w.heap.size, 0, none⟩) sW).trans k0
    have q1 := (bl.cell (p := ⟨w.heap.size, 1, none⟩) sW).trans k1
    go_wp2_with fail
    clear q0 q1
    refine (markIntS _ _ _ _ _ (1 + (prv (rk z) n : Int)) _ (own_below x1 bS (Nat.le_refl _)) hn1 (by omega)).mono ?_; rintro e w14 ⟨rfl, o, grw⟩
    have r := own_grown (own_below r bS (Nat.le_refl _)) grw (fun a ha => by have h1 := lr a ha; intro he; obtain ⟨a1, ha1, he⟩ := map_block he; have h2 := lx1 a1 ha1; omega)
    have g := own_grown (own_below g bS (Nat.le_refl _)) grw (fun a ha => by have h1 := lg a ha; intro he; obtain ⟨a1, ha1, he⟩ := map_block he; have h2 := lx1 a1 ha1; omega)
    have bl := Below.grown bl grw (by omega) (fun k hk => by obtain ⟨a1, ha1, he⟩ := map_block hk.symm; have h2 := lx1 a1 ha1; omega)
    clear o
    have sz14 := grw.size; clear grw bS
    have bS := Below.refl w14.heap.size w14
    have q0 := (bl.cell (p := ⟨w.heap.size, 0, none⟩) sW).trans k0
    have q1 := (bl.cell (p := ⟨w.heap.size, 1, none⟩) sW).trans k1
    go_wp2_with fail
    clear q0 q1
    refine (eqIntS _ _ _ _ _ _ _ (Ints.of_own (own_below g bS (Nat.le_refl _))) (Ints.of_own (own_below r bS (Nat.le_refl _))) hy).mono ?_; rintro e w15 ⟨rfl, b⟩
    have bl := Below.on bl b
    have bS := Below.on bS b
    have sz15 := b.size
    clear b
    have r := (own_below r bS (Nat.le_refl _))
    have g := (own_below g bS (Nat.le_refl _))
    clear bS
    have bS := Below.refl w15.heap.size w15
    have q0 := (bl.cell (p := ⟨w.heap.size, 0, none⟩) sW).trans k0
    have q1 := (bl.cell (p := ⟨w.heap.size, 1, none⟩) sW).trans k1
    go_wp2_with fail
    clear q0 q1
    refine (markIntS _ _ _ _ _ 1 _ (own_below g bS (Nat.le_refl _)) hy (by omega)).mono ?_; rintro e w16 ⟨rfl, o, grw⟩
    have r := own_grown (own_below r bS (Nat.le_refl _)) grw (fun a ha => by have h1 := lr a ha; intro he; obtain ⟨a1, ha1, he⟩ := map_block he; have h2 := lg a1 ha1; omega)
    have bl := Below.grown bl grw (by omega) (fun k hk => by obtain ⟨a1, ha1, he⟩ := map_block hk.symm; have h2 := lg a1 ha1; omega)
    have g := o; clear o
    have sz16 := grw.size; clear grw bS
    have bS := Below.refl w16.heap.size w16
    have q0 := (bl.cell (p := ⟨w.heap.size, 0, none⟩) sW).trans k0
    have q1 := (bl.cell (p := ⟨w.heap.size, 1, none⟩) sW).trans k1
    go_wp2_with fail
    clear q0 q1
    refine (heldIntS _ _ _ 1 _ (Ints.of_own (own_below g bS (Nat.le_refl _))) hy (by omega)).mono ?_; rintro e w' ⟨rfl, rfl⟩
    have q0 := (bl.cell (p := ⟨w.heap.size, 0, none⟩) sW).trans k0
    have q1 := (bl.cell (p := ⟨w.heap.size, 1, none⟩) sW).trans k1
    go_wp2_with fail
    clear q0 q1
    refine (toProfileD m A n c z _ (h.on (Below.on bW bl)) hn HM.out).mono ?_; rintro e w17 ⟨g1, rfl, ⟨Gv1, v1⟩, b⟩
    have bl := Below.on bl b
    have bS := Below.on bS b
    have sz17 := b.size
    clear b
    have v1 := v1.votes h.1 (fun _ _ => rfl) (fun _ _ => rfl)
    have r := (own_below r bS (Nat.le_refl _))
    have g := (own_below g bS (Nat.le_refl _))
    clear bS
    have bS := Below.refl w17.heap.size w17
    have q0 := (bl.cell (p := ⟨w.heap.size, 0, none⟩) sW).trans k0
    have q1 := (bl.cell (p := ⟨w.heap.size, 1, none⟩) sW).trans k1
    go_wp2_with fail
    clear q0 q1
    refine (toIntS A1 n1 c1 z1 _ (h1.on (Below.on bW bl)) hn1).mono ?_; rintro e w18 ⟨rfl, cp1, b⟩
    have bl := Below.on bl b
    have bS := Below.on bS b
    have sz18 := b.size
    clear b
    have r := (own_below r bS (Nat.le_refl _))
    have g := (own_below g bS (Nat.le_refl _))
    have v1 := (v1.on bS)
    clear bS
    have bS := Below.refl w18.heap.size w18
    have q0 := (bl.cell (p := ⟨w.heap.size, 0, none⟩) sW).trans k0
    have q1 := (bl.cell (p := ⟨w.heap.size, 1, none⟩) sW).trans k1
    go_wp2_with fail
    clear q0 q1
    refine (implScoreRanking m _ _ _ z _ _ _ z1 _ (v1.on bS) hn HM.out (Ints.of_own (own_below cp1 bS (Nat.le_refl _))) hn1 ).mono ?_; rintro e w19 ⟨Au, cu, rfl, u, b⟩
    have bl := Below.on bl b
    have bS := Below.on bS b
    have sz19 := b.size
    clear b
    have r := (own_below r bS (Nat.le_refl _))
    have g := (own_below g bS (Nat.le_refl _))
    have v1 := (v1.on bS)
    have cp1 := (own_below cp1 bS (Nat.le_refl _))
    clear bS
    have bS := Below.refl w19.heap.size w19
    have lu := own_ge u
    have tzu : w19.heap.size = w19.heap.size := rfl
    have q0 := (bl.cell (p := ⟨w.heap.size, 0, none⟩) sW).trans k0
    have q1 := (bl.cell (p := ⟨w.heap.size, 1, none⟩) sW).trans k1
    go_wp2_with fail
    clear q0 q1
    refine (eqIntS _ _ _ _ _ _ _ (Ints.of_own (own_below u bS (Nat.le_refl _))) (Ints.of_own (own_below r bS (Nat.le_refl _))) hy).mono ?_; rintro e w20 ⟨rfl, b⟩
    have bl := Below.on bl b
    have bS := Below.on bS b
    have sz20 := b.size
    clear b
    have q0 := (bl.cell (p := ⟨w.heap.size, 0, none⟩) sW).trans k0
    have q1 := (bl.cell (p := ⟨w.heap.size, 1, none⟩) sW).trans k1
    go_wp2_with fail
    clear q0 q1
    refine (heldIntS _ _ _ 1 _ (Ints.of_own (own_below g bS (Nat.le_refl _))) hy (by omega)).mono ?_; rintro e w' ⟨rfl, rfl⟩
    have q0 := (bl.cell (p := ⟨w.heap.size, 0, none⟩) sW).trans k0
    have q1 := (bl.cell (p := ⟨w.heap.size, 1, none⟩) sW).trans k1
    go_wp2_with fail
    go_ret
    exact ⟨rfl, Below.on bW bl⟩

set_option maxRecDepth 100000 in
theorem lifted (os : Os) (started : os.Started) (H : Type) (enc : TypeId × Value → H) :
    ReturnsInHanded {} Try.checked os 8 .any (Rows.fnExactScoreRankingSpec.pre6 enc Try.prog Try.f8 Rows.fnExactScoreRankingRow.domain false) (Rows.fnExactScoreRankingSpec.post enc Try.prog Try.f8 false true false false) := by
  refine returnsInHanded_of_change (C := Try.checked) own started (by kernel_rfl) Try.func8
    (ChangeSpec.witness6 (enc := enc) (C := Try.checked) false ⟨#[], #[.agg #[.int .i64 0, .slice none 0 0], .slice none 0 0], []⟩ 8 (by kernel_rfl) (by kernel_rfl) (by kernel_rfl) (by kernel_rfl)) ?_
  intro W base args ds gs before hval0 hW hcnd _
  have hval : ∀ (j : Nat) t v, Try.f8.params[j]? = some t → args[j]? = some v → Value.okWide Try.prog W .any base t v := hval0
  have hW' := hW
  obtain ⟨p, q, hA0, hV, rfl, hfz, hnd⟩ := hW
  have hA : DataW.TrodAll enc Try.prog W 0 (fun _ => true) true Try.f8.params.toList args.toList ds p := hA0
  rw [Try.params8] at hA hval
  obtain ⟨v0, vs0, d0, ds0, p0, q0, hargs, rfl, rfl, h0, r0⟩ := trodAll_cons hA
  obtain ⟨v1, vs1, d1, ds1, p1, q1, rfl, rfl, rfl, h1, r1⟩ := trodAll_cons r0
  obtain ⟨rfl, rfl, rfl⟩ := trodAll_nil r1
  obtain rfl : args = #[v0, v1] := by cases args; simp_all
  obtain ⟨rfl, rfl⟩ := trodVars_none hV
  have k0 := h0
  have lt0 : ∀ x ∈ p0, x.block < W.heap.size := by obtain ⟨m, hm⟩ := k0; exact DataW.trod_lt m _ _ _ hm
  obtain ⟨m0, A0, n0, c0, z0, rfl, w0⟩ := open_prof_arg (hval 0 52 v0 rfl rfl) h0
  have k1 := h1
  have lt1 : ∀ x ∈ p1, x.block < W.heap.size := by obtain ⟨m, hm⟩ := k1; exact DataW.trod_lt m _ _ _ hm
  obtain ⟨A1, n1, c1, z1, rfl, w1⟩ := open_ints_arg (hval 1 22 v1 rfl rfl) h1
  clear hA0 hval0
  refine (walk m0 A0 n0 c0 z0 A1 n1 c1 z1 W w0 w1).mono fun e W' ⟨he, bel⟩ => ?_
  subst he
  exact ⟨_, rfl, _, _, _, [], _, [], hW', trodAll_mk1 (shut_bool Try.underlying4 _), (trodAll_cons_mk (Below.trod laidOut (by kernel_rfl) (of_decide_eq_true (by kernel_rfl)) k0 bel lt0) (trodAll_cons_mk (Below.trod laidOut (by kernel_rfl) (of_decide_eq_true (by kernel_rfl)) k1 bel lt1) trodAll_mk0)), rfl, bel.frame _, fun h => by cases h⟩

theorem over : Rows.fnExactScoreRankingRow.holds Try.pinned (OpenSpec.ofChange Rows.fnExactScoreRankingSpec) :=
  OpenClaim.holds_of_wide 8 Try.f8 rfl rfl rfl rfl rfl rfl rfl ⟨rfl, rfl, rfl, rfl, rfl⟩ rfl rfl rfl rfl rfl (by kernel_rfl) Try.func8
    (joined_by _ _ _ _ _ (by kernel_rfl) laidOut mapsRowedYes (by kernel_rfl) (by kernel_rfl) (by kernel_rfl) stopsNone (by kernel_rfl) knobsNone (by kernel_rfl) (by kernel_rfl) (by kernel_rfl) (by kernel_rfl) (by kernel_rfl) (by kernel_rfl) (by kernel_rfl) (by kernel_rfl) (by kernel_rfl) (by kernel_rfl) (by kernel_rfl) (by kernel_rfl) (by kernel_rfl)
      (keys_fit _ _ keysPlain rfl) rfl heard mayEnterYes (lifted_fits _ _ liftsNo rfl) (make_fits _ _ makeCut rfl) rfl rfl (by kernel_rfl) (by kernel_rfl) (by kernel_rfl))
    (of_decide_eq_true (by kernel_rfl)) (by unfold Func.isWrapper; first | (rw [if_pos (by decide +kernel)]; kernel_rfl) | (rw [if_neg (by decide +kernel)]; exact ⟨rfl, rfl⟩))
    (fun os started H enc _ => lifted os started H enc)

theorem proved : Rows.FnExactScoreRankingSaid := over
end Go.Proofs.Ytaclpilehlednaa.fnExactScoreRanking
