/- 'FnExactWithRanking': for every input the law returns true, and each argument reads behind the call as before it. No condition. -/
import Derived.Test.YtblofiimfhbkdaaRows
import Derived.Test.YtblofiimfhbkdaaFrame
import Derived.Test.YtblofiimfhbkdaaWithR
import Derived.Test.YtblofiimfhbkdaaCopyV
import Derived.Test.YtblofiimfhbkdaaMarkV
import Derived.Test.YtblofiimfhbkdaaHeldV
import Derived.Test.YtblofiimfhbkdaaFrameProf
namespace Go.Proofs.Ytblofiimfhbkdaa.fnExactWithRanking
open Go.ChangeShapes Go.WideShapes Go.ChangeAt Go.RowKit Go.Joins Go.Deep
open Go.ChangeMaps (open_string shut_string)
set_option linter.unusedVariables false

attribute [local go_sem ↓] Go.wp_at_zero Go.wp_at_succ
set_option maxRecDepth 100000
set_option maxHeartbeats 8000000 in
theorem walk (m : Int) (A : Option Addr) (n c : Nat) (z : List (List Int × Int)) (kk : Int) (A2 : Option Addr) (n2 c2 : Nat) (z2 : List Int) (w : World) (hw : Votes w A n z ∧ n ≤ c ∧ c ≤ maxLen ∧ C64 z ∧ -9223372036854775808 ≤ m ∧ m ≤ 9223372036854775807) (_hbkk : -9223372036854775808 ≤ kk ∧ kk ≤ 9223372036854775807) (hw2 : Ints w A2 n2 z2 ∧ n2 ≤ c2 ∧ c2 ≤ maxLen ∧ I64 z2) :
    Calls Try.prog 10 #[.agg #[.int .i64 m, .slice A n c], .int .i64 kk, .slice A2 n2 c2] w fun e w' => e = .returned (.bool true) ∧ Below w.heap.size w w' := by
  obtain ⟨h, _hnc, _hcm, _hC, _hm1, _hm2⟩ := hw
  obtain ⟨h2, _hnc2, _hcm2, hi2⟩ := hw2
  clear hi2
  have bW : Below w.heap.size w (w.alloc (.cells #[.int .i64 m, .slice A n c] 35)) := (Below.refl _ _).alloc (Nat.le_refl _) _
  have k0 : (w.alloc (.cells #[.int .i64 m, .slice A n c] 35)).cell? ⟨w.heap.size, 0, none⟩ = some (.int .i64 m) := by simp
  have k1 : (w.alloc (.cells #[.int .i64 m, .slice A n c] 35)).cell? ⟨w.heap.size, 1, none⟩ = some (.slice A n c) := by simp
  have sW : w.heap.size < (w.alloc (.cells #[.int .i64 m, .slice A n c] 35)).heap.size := by simp
  have hnm : n ≤ maxLen := by omega
  by_cases hn2 : 1048576 < (n2 : Int)
  · go_enter Try.func10, Try.ntmps10
    go_wp2
    go_ret
    exact ⟨rfl, bW⟩
  have hn2 : (n2 : Int) ≤ 1048576 := by omega
  go_enter Try.func10, Try.ntmps10
  go_wp2_with fail
  generalize w.alloc (.cells #[.int .i64 m, .slice A n c] 35) = W at *
  have bl := Below.refl W.heap.size W
  have bS := Below.refl W.heap.size W
  refine (szProfile m A n c z _ (h.on bW) hnm).mono ?_; rintro e w1 ⟨r, rfl, r1, r2, r3, b⟩
  have bl := Below.on bl b
  have bS := Below.on bS b
  have sz1 := b.size
  clear b
  by_cases hr : r < 0
  · go_wp2_with fail
    go_ret
    exact ⟨rfl, Below.on bW bl⟩
  obtain ⟨hn, hm⟩ := r3 (by omega)
  have HM := Lib.hid hm; clear hm r3
  have hsm := wr_small m z kk z2
  obtain ⟨hng, hyg⟩ := hsm
  have HYG := Lib.hid hyg; clear hyg
  have q0 := (bl.cell (p := ⟨w.heap.size, 0, none⟩) sW).trans k0
  have q1 := (bl.cell (p := ⟨w.heap.size, 1, none⟩) sW).trans k1
  go_wp2_with fail
  clear q0 q1
  refine (toProfileD m A n c z _ (h.on (Below.on bW bl)) hn HM.out).mono ?_; rintro e w2 ⟨g0, rfl, ⟨Gv0, v0⟩, b⟩
  have bl := Below.on bl b
  have bS := Below.on bS b
  have sz2 := b.size
  clear b
  have v0 := v0.votes h.1 (fun _ _ => rfl) (fun _ _ => rfl)
  clear bS
  have bS := Below.refl w2.heap.size w2
  have q0 := (bl.cell (p := ⟨w.heap.size, 0, none⟩) sW).trans k0
  have q1 := (bl.cell (p := ⟨w.heap.size, 1, none⟩) sW).trans k1
  go_wp2_with fail
  clear q0 q1
  refine (toIntS A2 n2 c2 z2 _ (h2.on (Below.on bW bl)) hn2).mono ?_; rintro e w3 ⟨rfl, q2, b⟩
  have bl := Below.on bl b
  have bS := Below.on bS b
  have sz3 := b.size
  clear b
  have v0 := (v0.on bS)
  clear bS
  have bS := Below.refl w3.heap.size w3
  have q0 := (bl.cell (p := ⟨w.heap.size, 0, none⟩) sW).trans k0
  have q1 := (bl.cell (p := ⟨w.heap.size, 1, none⟩) sW).trans k1
  go_wp2_with fail
  clear q0 q1
  refine (specWithRanking m _ _ _ z kk _ _ _ z2 _ (v0.on bS) hn HM.out (Ints.of_own (own_below q2 bS (Nat.le_refl _))) hn2 ).mono ?_; rintro e w4 ⟨Ar, cr, Gr, Cr, rfl, r, b⟩
  have bl := Below.on bl b
  have bS := Below.on bS b
  have sz4 := b.size
  clear b
  have v0 := (v0.on bS)
  have q2 := (own_below q2 bS (Nat.le_refl _))
  clear bS
  have bS := Below.refl w4.heap.size w4
  have lr := r.inn
  have gr := r.ge
  have tzr : w4.heap.size = w4.heap.size := rfl
  have b : Below w4.heap.size w4 (w4.alloc (.cells #[.int .i64 (wrM m z kk z2), .slice Ar (wrV m z kk z2).length cr] 40)) := (Below.refl _ _).alloc (Nat.le_refl _) _
  have br0 : (w4.alloc (.cells #[.int .i64 (wrM m z kk z2), .slice Ar (wrV m z kk z2).length cr] 40)).cell? ⟨w4.heap.size, 0, none⟩ = some (.int .i64 (wrM m z kk z2)) := by simp
  have br1 : (w4.alloc (.cells #[.int .i64 (wrM m z kk z2), .slice Ar (wrV m z kk z2).length cr] 40)).cell? ⟨w4.heap.size, 1, none⟩ = some (.slice Ar (wrV m z kk z2).length cr) := by simp
  have brs : w4.heap.size < (w4.alloc (.cells #[.int .i64 (wrM m z kk z2), .slice Ar (wrV m z kk z2).length cr] 40)).heap.size := by simp
  have bl := Below.on bl b
  have bS := Below.on bS b
  have sz5 := b.size
  clear b
  have q0 := (bl.cell (p := ⟨w.heap.size, 0, none⟩) sW).trans k0
  have q1 := (bl.cell (p := ⟨w.heap.size, 1, none⟩) sW).trans k1
  go_wp2_with fail
  clear q0 q1
  generalize (w4.alloc (.cells #[.int .i64 (wrM m z kk z2), .slice Ar (wrV m z kk z2).length cr] 40)) = Xbr at *
  have r := (r.on bS)
  clear bS
  have bS := Below.refl Xbr.heap.size Xbr
  have szlo : Xbr.heap.size ≤ Xbr.heap.size := Nat.le_refl _
  refine (toProfileD m A n c z _ (h.on (Below.on bW bl)) hn HM.out).mono ?_; rintro e w6 ⟨gx, rfl, ⟨Gpx, px⟩, b⟩
  have bl := Below.on bl b
  have bS := Below.on bS b
  have sz6 := b.size
  clear b
  have r := (r.on bS)
  have br0 := (bS.cell (p := ⟨w4.heap.size, 0, none⟩) brs).trans br0
  have br1 := (bS.cell (p := ⟨w4.heap.size, 1, none⟩) brs).trans br1
  have brs := Nat.lt_of_lt_of_le brs bS.size
  clear bS
  have bS := Below.refl w6.heap.size w6
  have hin := px.inn
  have b : Below w6.heap.size w6 (w6.alloc (.cells #[.int .i64 m, .slice (some ⟨gx, 0, none⟩) n n] 40)) := (Below.refl _ _).alloc (Nat.le_refl _) _
  have bx0 : (w6.alloc (.cells #[.int .i64 m, .slice (some ⟨gx, 0, none⟩) n n] 40)).cell? ⟨w6.heap.size, 0, none⟩ = some (.int .i64 m) := by simp
  have bx1 : (w6.alloc (.cells #[.int .i64 m, .slice (some ⟨gx, 0, none⟩) n n] 40)).cell? ⟨w6.heap.size, 1, none⟩ = some (.slice (some ⟨gx, 0, none⟩) n n) := by simp
  have bxs : w6.heap.size < (w6.alloc (.cells #[.int .i64 m, .slice (some ⟨gx, 0, none⟩) n n] 40)).heap.size := by simp
  have bl := Below.on bl b
  have bS := Below.on bS b
  have sz7 := b.size
  clear b
  have q0 := (bl.cell (p := ⟨w.heap.size, 0, none⟩) sW).trans k0
  have q1 := (bl.cell (p := ⟨w.heap.size, 1, none⟩) sW).trans k1
  have br0q := (bS.cell (p := ⟨w4.heap.size, 0, none⟩) brs).trans br0
  have br1q := (bS.cell (p := ⟨w4.heap.size, 1, none⟩) brs).trans br1
  go_wp2_with fail
  clear q0 q1 br0q br1q
  generalize (w6.alloc (.cells #[.int .i64 m, .slice (some ⟨gx, 0, none⟩) n n] 40)) = Xbx at *
  have r := (r.on bS)
  have px := (px.on bS)
  have br0 := (bS.cell (p := ⟨w4.heap.size, 0, none⟩) brs).trans br0
  have br1 := (bS.cell (p := ⟨w4.heap.size, 1, none⟩) brs).trans br1
  have brs := Nat.lt_of_lt_of_le brs bS.size
  clear bS
  have bS := Below.refl Xbx.heap.size Xbx
  refine (toIntS A2 n2 c2 z2 _ (h2.on (Below.on bW bl)) hn2).mono ?_; rintro e w8 ⟨rfl, x2, b⟩
  have bl := Below.on bl b
  have bS := Below.on bS b
  have sz8 := b.size
  clear b
  have r := (r.on bS)
  have px := (px.on bS)
  have br0 := (bS.cell (p := ⟨w4.heap.size, 0, none⟩) brs).trans br0
  have br1 := (bS.cell (p := ⟨w4.heap.size, 1, none⟩) brs).trans br1
  have brs := Nat.lt_of_lt_of_le brs bS.size
  have bx0 := (bS.cell (p := ⟨w6.heap.size, 0, none⟩) bxs).trans bx0
  have bx1 := (bS.cell (p := ⟨w6.heap.size, 1, none⟩) bxs).trans bx1
  have bxs := Nat.lt_of_lt_of_le bxs bS.size
  clear bS
  have bS := Below.refl w8.heap.size w8
  have lx2 := own_ge x2
  have q0 := (bl.cell (p := ⟨w.heap.size, 0, none⟩) sW).trans k0
  have q1 := (bl.cell (p := ⟨w.heap.size, 1, none⟩) sW).trans k1
  have br0q := (bS.cell (p := ⟨w4.heap.size, 0, none⟩) brs).trans br0
  have br1q := (bS.cell (p := ⟨w4.heap.size, 1, none⟩) brs).trans br1
  have bx0q := (bS.cell (p := ⟨w6.heap.size, 0, none⟩) bxs).trans bx0
  have bx1q := (bS.cell (p := ⟨w6.heap.size, 1, none⟩) bxs).trans bx1
  go_wp2_with fail
  clear q0 q1 br0q br1q bx0q bx1q
  refine (implWithRanking m _ _ _ z kk _ _ _ z2 _ ((px.on bS).votes h.1 (fun _ _ => rfl) (fun _ _ => rfl)) hn HM.out (Ints.of_own (own_below x2 bS (Nat.le_refl _))) hn2 (Int.le_refl _)).mono ?_; rintro e w9 ⟨Ag, cg, Gg, Cg, rfl, g, b⟩
  have bl := Below.on bl b
  have bS := Below.on bS b
  have sz9 := b.size
  clear b
  have r := (r.on bS)
  have px := (px.on bS)
  have x2 := (own_below x2 bS (Nat.le_refl _))
  have br0 := (bS.cell (p := ⟨w4.heap.size, 0, none⟩) brs).trans br0
  have br1 := (bS.cell (p := ⟨w4.heap.size, 1, none⟩) brs).trans br1
  have brs := Nat.lt_of_lt_of_le brs bS.size
  have bx0 := (bS.cell (p := ⟨w6.heap.size, 0, none⟩) bxs).trans bx0
  have bx1 := (bS.cell (p := ⟨w6.heap.size, 1, none⟩) bxs).trans bx1
  have bxs := Nat.lt_of_lt_of_le bxs bS.size
  clear bS
  have bS := Below.refl w9.heap.size w9
  have lg := g.inn
  have gg := g.ge
  have tzg : w9.heap.size = w9.heap.size := rfl
  have b : Below w9.heap.size w9 (w9.alloc (.cells #[.int .i64 (wrM m z kk z2), .slice Ag (wrV m z kk z2).length cg] 40)) := (Below.refl _ _).alloc (Nat.le_refl _) _
  have bg0 : (w9.alloc (.cells #[.int .i64 (wrM m z kk z2), .slice Ag (wrV m z kk z2).length cg] 40)).cell? ⟨w9.heap.size, 0, none⟩ = some (.int .i64 (wrM m z kk z2)) := by simp
  have bg1 : (w9.alloc (.cells #[.int .i64 (wrM m z kk z2), .slice Ag (wrV m z kk z2).length cg] 40)).cell? ⟨w9.heap.size, 1, none⟩ = some (.slice Ag (wrV m z kk z2).length cg) := by simp
  have bgs : w9.heap.size < (w9.alloc (.cells #[.int .i64 (wrM m z kk z2), .slice Ag (wrV m z kk z2).length cg] 40)).heap.size := by simp
  have bl := Below.on bl b
  have bS := Below.on bS b
  have sz10 := b.size
  clear b
  have q0 := (bl.cell (p := ⟨w.heap.size, 0, none⟩) sW).trans k0
  have q1 := (bl.cell (p := ⟨w.heap.size, 1, none⟩) sW).trans k1
  have br0q := (bS.cell (p := ⟨w4.heap.size, 0, none⟩) brs).trans br0
  have br1q := (bS.cell (p := ⟨w4.heap.size, 1, none⟩) brs).trans br1
  have bx0q := (bS.cell (p := ⟨w6.heap.size, 0, none⟩) bxs).trans bx0
  have bx1q := (bS.cell (p := ⟨w6.heap.size, 1, none⟩) bxs).trans bx1
  go_wp2_with fail
  clear q0 q1 br0q br1q bx0q bx1q
  generalize (w9.alloc (.cells #[.int .i64 (wrM m z kk z2), .slice Ag (wrV m z kk z2).length cg] 40)) = Xbg at *
  have r := (r.on bS)
  have px := (px.on bS)
  have x2 := (own_below x2 bS (Nat.le_refl _))
  have g := (g.on bS)
  have br0 := (bS.cell (p := ⟨w4.heap.size, 0, none⟩) brs).trans br0
  have br1 := (bS.cell (p := ⟨w4.heap.size, 1, none⟩) brs).trans br1
  have brs := Nat.lt_of_lt_of_le brs bS.size
  have bx0 := (bS.cell (p := ⟨w6.heap.size, 0, none⟩) bxs).trans bx0
  have bx1 := (bS.cell (p := ⟨w6.heap.size, 1, none⟩) bxs).trans bx1
  have bxs := Nat.lt_of_lt_of_le bxs bS.size
  clear bS
  have bS := Below.refl Xbg.heap.size Xbg
  refine (eqProfile (wrM m z kk z2) _ _ (wrV m z kk z2).length _ _ (wrV m z kk z2) _ ((g.on bS).votes rfl (fun _ _ => rfl) (fun _ _ => rfl)) ((r.on bS).votes rfl (fun _ _ => rfl) (fun _ _ => rfl)) hng HYG.out).mono ?_; rintro e w11 ⟨rfl, b⟩
  have bl := Below.on bl b
  have bS := Below.on bS b
  have sz11 := b.size
  clear b
  have q0 := (bl.cell (p := ⟨w.heap.size, 0, none⟩) sW).trans k0
  have q1 := (bl.cell (p := ⟨w.heap.size, 1, none⟩) sW).trans k1
  have br0q := (bS.cell (p := ⟨w4.heap.size, 0, none⟩) brs).trans br0
  have br1q := (bS.cell (p := ⟨w4.heap.size, 1, none⟩) brs).trans br1
  have bx0q := (bS.cell (p := ⟨w6.heap.size, 0, none⟩) bxs).trans bx0
  have bx1q := (bS.cell (p := ⟨w6.heap.size, 1, none⟩) bxs).trans bx1
  have bg0q := (bS.cell (p := ⟨w9.heap.size, 0, none⟩) bgs).trans bg0
  have bg1q := (bS.cell (p := ⟨w9.heap.size, 1, none⟩) bgs).trans bg1
  go_upto_region 13 with fail
  go_cut [60] (fun u wx => u = .bool false ∧ Below w11.heap.size w11 wx)
  case first =>
    have bd := Below.drew (Below.refl w11.heap.size w11)
    go_region_with (first | (go_at_call 20; refine (toProfileD m A n c z _ (h.on (Below.on (Below.on bW bl) bd)) hn HM.out).mono ?_; rintro e wp ⟨gc, rfl, ⟨Gc, vc⟩, hb⟩; have bt := bd.trans hb; have vc := vc.votes h.1 (fun _ _ => rfl) (fun _ _ => rfl); have vx := (px.on (Below.on bS bt)).votes h.1 (fun _ _ => rfl) (fun _ _ => rfl); have bx0r := (bt.cell (p := ⟨w6.heap.size, 0, none⟩) (Nat.lt_of_lt_of_le bxs bS.size)).trans bx0q; have bx1r := (bt.cell (p := ⟨w6.heap.size, 1, none⟩) (Nat.lt_of_lt_of_le bxs bS.size)).trans bx1q) | (go_at_call 22; refine (eqProfile m _ _ n _ _ z _ vx vc hn HM.out).mono ?_; rintro e wq ⟨rfl, hq⟩; have bt := Below.on bt hq))
    all_goals go_wp2_with fail
    all_goals go_meet
    all_goals first | exact ⟨rfl, bt⟩ | exact ⟨rfl, bt.drew⟩
  case rest =>
    clear q0 q1 br0q br1q bx0q bx1q bg0q bg1q
    obtain ⟨rfl, b⟩ := hcut
    have bl := Below.on bl b
    have bS := Below.on bS b
    have sz12 := b.size
    clear b
    have q0 := (bl.cell (p := ⟨w.heap.size, 0, none⟩) sW).trans k0
    have q1 := (bl.cell (p := ⟨w.heap.size, 1, none⟩) sW).trans k1
    have br0q := (bS.cell (p := ⟨w4.heap.size, 0, none⟩) brs).trans br0
    have br1q := (bS.cell (p := ⟨w4.heap.size, 1, none⟩) brs).trans br1
    have bx0q := (bS.cell (p := ⟨w6.heap.size, 0, none⟩) bxs).trans bx0
    have bx1q := (bS.cell (p := ⟨w6.heap.size, 1, none⟩) bxs).trans bx1
    have bg0q := (bS.cell (p := ⟨w9.heap.size, 0, none⟩) bgs).trans bg0
    have bg1q := (bS.cell (p := ⟨w9.heap.size, 1, none⟩) bgs).trans bg1
    go_wp2_with fail
    clear q0 q1 br0q br1q bx0q bx1q bg0q bg1q
    refine (toIntS A2 n2 c2 z2 _ (h2.on (Below.on bW bl)) hn2).mono ?_; rintro e w13 ⟨rfl, y2, b⟩
    have bl := Below.on bl b
    have bS := Below.on bS b
    have sz13 := b.size
    clear b
    have r := (r.on bS)
    have px := (px.on bS)
    have x2 := (own_below x2 bS (Nat.le_refl _))
    have g := (g.on bS)
    have br0 := (bS.cell (p := ⟨w4.heap.size, 0, none⟩) brs).trans br0
    have br1 := (bS.cell (p := ⟨w4.heap.size, 1, none⟩) brs).trans br1
    have brs := Nat.lt_of_lt_of_le brs bS.size
    have bx0 := (bS.cell (p := ⟨w6.heap.size, 0, none⟩) bxs).trans bx0
    have bx1 := (bS.cell (p := ⟨w6.heap.size, 1, none⟩) bxs).trans bx1
    have bxs := Nat.lt_of_lt_of_le bxs bS.size
    have bg0 := (bS.cell (p := ⟨w9.heap.size, 0, none⟩) bgs).trans bg0
    have bg1 := (bS.cell (p := ⟨w9.heap.size, 1, none⟩) bgs).trans bg1
    have bgs := Nat.lt_of_lt_of_le bgs bS.size
    clear bS
    have bS := Below.refl w13.heap.size w13
    have q0 := (bl.cell (p := ⟨w.heap.size, 0, none⟩) sW).trans k0
    have q1 := (bl.cell (p := ⟨w.heap.size, 1, none⟩) sW).trans k1
    have br0q := (bS.cell (p := ⟨w4.heap.size, 0, none⟩) brs).trans br0
    have br1q := (bS.cell (p := ⟨w4.heap.size, 1, none⟩) brs).trans br1
    have bx0q := (bS.cell (p := ⟨w6.heap.size, 0, none⟩) bxs).trans bx0
    have bx1q := (bS.cell (p := ⟨w6.heap.size, 1, none⟩) bxs).trans bx1
    have bg0q := (bS.cell (p := ⟨w9.heap.size, 0, none⟩) bgs).trans bg0
    have bg1q := (bS.cell (p := ⟨w9.heap.size, 1, none⟩) bgs).trans bg1
    go_wp2_with fail
    clear q0 q1 br0q br1q bx0q bx1q bg0q bg1q
    refine (eqIntS _ _ _ _ _ _ _ (Ints.of_own (own_below x2 bS (Nat.le_refl _))) (Ints.of_own (own_below y2 bS (Nat.le_refl _))) hn2).mono ?_; rintro e w14 ⟨rfl, b⟩
    have bl := Below.on bl b
    have bS := Below.on bS b
    have sz14 := b.size
    clear b
    have r := (r.on bS)
    have px := (px.on bS)
    have x2 := (own_below x2 bS (Nat.le_refl _))
    have g := (g.on bS)
    have br0 := (bS.cell (p := ⟨w4.heap.size, 0, none⟩) brs).trans br0
    have br1 := (bS.cell (p := ⟨w4.heap.size, 1, none⟩) brs).trans br1
    have brs := Nat.lt_of_lt_of_le brs bS.size
    have bx0 := (bS.cell (p := ⟨w6.heap.size, 0, none⟩) bxs).trans bx0
    have bx1 := (bS.cell (p := ⟨w6.heap.size, 1, none⟩) bxs).trans bx1
    have bxs := Nat.lt_of_lt_of_le bxs bS.size
    have bg0 := (bS.cell (p := ⟨w9.heap.size, 0, none⟩) bgs).trans bg0
    have bg1 := (bS.cell (p := ⟨w9.heap.size, 1, none⟩) bgs).trans bg1
    have bgs := Nat.lt_of_lt_of_le bgs bS.size
    clear bS
    have bS := Below.refl w14.heap.size w14
    have q0 := (bl.cell (p := ⟨w.heap.size, 0, none⟩) sW).trans k0
    have q1 := (bl.cell (p := ⟨w.heap.size, 1, none⟩) sW).trans k1
    have br0q := (bS.cell (p := ⟨w4.heap.size, 0, none⟩) brs).trans br0
    have br1q := (bS.cell (p := ⟨w4.heap.size, 1, none⟩) brs).trans br1
    have bx0q := (bS.cell (p := ⟨w6.heap.size, 0, none⟩) bxs).trans bx0
    have bx1q := (bS.cell (p := ⟨w6.heap.size, 1, none⟩) bxs).trans bx1
    have bg0q := (bS.cell (p := ⟨w9.heap.size, 0, none⟩) bgs).trans bg0
    have bg1q := (bS.cell (p := ⟨w9.heap.size, 1, none⟩) bgs).trans bg1
    go_wp2_with fail
    clear q0 q1 br0q br1q bx0q bx1q bg0q bg1q
    refine (markProfile m _ n n _ _ _ _ _ 1 _ _ (px.on bS) hin hn HM.out (by omega)).mono ?_; rintro e w15 ⟨rfl, _, mid⟩
    have r := r.mid mid (fun a ha => by have h1 := gr a ha; omega) (fun k hk a ha => by have h1 := lr.2 k hk a ha; have h2 := (own_ge (r.each k hk) a ha).1; omega)
    have x2 := own_mid x2 mid (fun a ha => by have h1 := lx2 a ha; omega)
    have g := g.mid mid (fun a ha => by have h1 := gg a ha; omega) (fun k hk a ha => by have h1 := lg.2 k hk a ha; have h2 := (own_ge (g.each k hk) a ha).1; omega)
    have br0 := (mid.cell (p := ⟨w4.heap.size, 0, none⟩) brs (by show w4.heap.size < _ ∨ _ ≤ w4.heap.size; omega)).trans br0
    have br1 := (mid.cell (p := ⟨w4.heap.size, 1, none⟩) brs (by show w4.heap.size < _ ∨ _ ≤ w4.heap.size; omega)).trans br1
    have brs := Nat.lt_of_lt_of_le brs mid.size
    have bg0 := (mid.cell (p := ⟨w9.heap.size, 0, none⟩) bgs (by show w9.heap.size < _ ∨ _ ≤ w9.heap.size; omega)).trans bg0
    have bg1 := (mid.cell (p := ⟨w9.heap.size, 1, none⟩) bgs (by show w9.heap.size < _ ∨ _ ≤ w9.heap.size; omega)).trans bg1
    have bgs := Nat.lt_of_lt_of_le bgs mid.size
    have bl := Below.mid bl mid (by omega) (by omega)
    have sz15 := mid.size
    clear mid bS
    have bS := Below.refl w15.heap.size w15
    have hpr := prv_le (rk z) n HM.out n (Nat.le_refl _)
    have q0 := (bl.cell (p := ⟨w.heap.size, 0, none⟩) sW).trans k0
    have q1 := (bl.cell (p := ⟨w.heap.size, 1, none⟩) sW).trans k1
    have br0q := (bS.cell (p := ⟨w4.heap.size, 0, none⟩) brs).trans br0
    have br1q := (bS.cell (p := ⟨w4.heap.size, 1, none⟩) brs).trans br1
    have bg0q := (bS.cell (p := ⟨w9.heap.size, 0, none⟩) bgs).trans bg0
    have bg1q := (bS.cell (p := ⟨w9.heap.size, 1, none⟩) bgs).trans bg1
    go_wp2_with fail
    clear q0 q1 br0q br1q bg0q bg1q
    refine (markIntS _ _ _ _ _ (1 + (prv (rk z) n : Int)) _ (own_below x2 bS (Nat.le_refl _)) hn2 (by omega)).mono ?_; rintro e w16 ⟨rfl, o, grw⟩
    have mid := Mid.of_grown (lo := Xbx.heap.size) (hi := w8.heap.size) grw (fun q hq => by obtain ⟨a1, ha1, he⟩ := map_block hq.symm; have h2 := lx2 a1 ha1; omega)
    have r := (r.on bS).mid mid (fun a ha => by have h1 := gr a ha; omega) (fun k hk a ha => by have h1 := lr.2 k hk a ha; have h2 := (own_ge (r.each k hk) a ha).1; omega)
    have g := (g.on bS).mid mid (fun a ha => by have h1 := gg a ha; omega) (fun k hk a ha => by have h1 := lg.2 k hk a ha; have h2 := (own_ge (g.each k hk) a ha).1; omega)
    have br0 := (mid.cell (p := ⟨w4.heap.size, 0, none⟩) (Nat.lt_of_lt_of_le brs bS.size) (by show w4.heap.size < _ ∨ _ ≤ w4.heap.size; omega)).trans ((bS.cell (p := ⟨w4.heap.size, 0, none⟩) brs).trans br0)
    have br1 := (mid.cell (p := ⟨w4.heap.size, 1, none⟩) (Nat.lt_of_lt_of_le brs bS.size) (by show w4.heap.size < _ ∨ _ ≤ w4.heap.size; omega)).trans ((bS.cell (p := ⟨w4.heap.size, 1, none⟩) brs).trans br1)
    have brs := Nat.lt_of_lt_of_le brs (Nat.le_trans bS.size mid.size)
    have bg0 := (mid.cell (p := ⟨w9.heap.size, 0, none⟩) (Nat.lt_of_lt_of_le bgs bS.size) (by show w9.heap.size < _ ∨ _ ≤ w9.heap.size; omega)).trans ((bS.cell (p := ⟨w9.heap.size, 0, none⟩) bgs).trans bg0)
    have bg1 := (mid.cell (p := ⟨w9.heap.size, 1, none⟩) (Nat.lt_of_lt_of_le bgs bS.size) (by show w9.heap.size < _ ∨ _ ≤ w9.heap.size; omega)).trans ((bS.cell (p := ⟨w9.heap.size, 1, none⟩) bgs).trans bg1)
    have bgs := Nat.lt_of_lt_of_le bgs (Nat.le_trans bS.size mid.size)
    have bl := Below.mid bl mid (by omega) (by omega)
    clear o
    have sz16 := mid.size; clear mid grw bS
    have bS := Below.refl w16.heap.size w16
    have q0 := (bl.cell (p := ⟨w.heap.size, 0, none⟩) sW).trans k0
    have q1 := (bl.cell (p := ⟨w.heap.size, 1, none⟩) sW).trans k1
    have br0q := (bS.cell (p := ⟨w4.heap.size, 0, none⟩) brs).trans br0
    have br1q := (bS.cell (p := ⟨w4.heap.size, 1, none⟩) brs).trans br1
    have bg0q := (bS.cell (p := ⟨w9.heap.size, 0, none⟩) bgs).trans bg0
    have bg1q := (bS.cell (p := ⟨w9.heap.size, 1, none⟩) bgs).trans bg1
    go_wp2_with fail
    clear q0 q1 br0q br1q bg0q bg1q
    refine (eqProfile (wrM m z kk z2) _ _ (wrV m z kk z2).length _ _ (wrV m z kk z2) _ ((g.on bS).votes rfl (fun _ _ => rfl) (fun _ _ => rfl)) ((r.on bS).votes rfl (fun _ _ => rfl) (fun _ _ => rfl)) hng HYG.out).mono ?_; rintro e w17 ⟨rfl, b⟩
    have bl := Below.on bl b
    have bS := Below.on bS b
    have sz17 := b.size
    clear b
    have r := (r.on bS)
    have g := (g.on bS)
    have br0 := (bS.cell (p := ⟨w4.heap.size, 0, none⟩) brs).trans br0
    have br1 := (bS.cell (p := ⟨w4.heap.size, 1, none⟩) brs).trans br1
    have brs := Nat.lt_of_lt_of_le brs bS.size
    have bg0 := (bS.cell (p := ⟨w9.heap.size, 0, none⟩) bgs).trans bg0
    have bg1 := (bS.cell (p := ⟨w9.heap.size, 1, none⟩) bgs).trans bg1
    have bgs := Nat.lt_of_lt_of_le bgs bS.size
    clear bS
    have bS := Below.refl w17.heap.size w17
    have hpg := prv_le (rk (wrV m z kk z2)) (wrV m z kk z2).length HYG.out (wrV m z kk z2).length (Nat.le_refl _)
    have hig := lg
    have q0 := (bl.cell (p := ⟨w.heap.size, 0, none⟩) sW).trans k0
    have q1 := (bl.cell (p := ⟨w.heap.size, 1, none⟩) sW).trans k1
    have br0q := (bS.cell (p := ⟨w4.heap.size, 0, none⟩) brs).trans br0
    have br1q := (bS.cell (p := ⟨w4.heap.size, 1, none⟩) brs).trans br1
    have bg0q := (bS.cell (p := ⟨w9.heap.size, 0, none⟩) bgs).trans bg0
    have bg1q := (bS.cell (p := ⟨w9.heap.size, 1, none⟩) bgs).trans bg1
    go_wp2_with fail
    clear q0 q1 br0q br1q bg0q bg1q
    refine (markProfile (wrM m z kk z2) _ _ _ _ _ _ _ _ 1 _ _ (g.on bS) hig hng HYG.out (by omega)).mono ?_; rintro e w18 ⟨rfl, o, mid⟩
    have r := r.mid mid (fun a ha => by have h1 := gr a ha; omega) (fun k hk a ha => by have h1 := lr.2 k hk a ha; omega)
    have br0 := (mid.cell (p := ⟨w4.heap.size, 0, none⟩) brs (by show w4.heap.size < _ ∨ _ ≤ w4.heap.size; omega)).trans br0
    have br1 := (mid.cell (p := ⟨w4.heap.size, 1, none⟩) brs (by show w4.heap.size < _ ∨ _ ≤ w4.heap.size; omega)).trans br1
    have brs := Nat.lt_of_lt_of_le brs mid.size
    have bg0 := (mid.cell (p := ⟨w9.heap.size, 0, none⟩) bgs (by show w9.heap.size < _ ∨ _ ≤ w9.heap.size; omega)).trans bg0
    have bg1 := (mid.cell (p := ⟨w9.heap.size, 1, none⟩) bgs (by show w9.heap.size < _ ∨ _ ≤ w9.heap.size; omega)).trans bg1
    have bgs := Nat.lt_of_lt_of_le bgs mid.size
    have bl := Below.mid bl mid (by omega) (by omega)
    have g := o; clear o
    have sz18 := mid.size
    clear mid bS
    have bS := Below.refl w18.heap.size w18
    have q0 := (bl.cell (p := ⟨w.heap.size, 0, none⟩) sW).trans k0
    have q1 := (bl.cell (p := ⟨w.heap.size, 1, none⟩) sW).trans k1
    have br0q := (bS.cell (p := ⟨w4.heap.size, 0, none⟩) brs).trans br0
    have br1q := (bS.cell (p := ⟨w4.heap.size, 1, none⟩) brs).trans br1
    have bg0q := (bS.cell (p := ⟨w9.heap.size, 0, none⟩) bgs).trans bg0
    have bg1q := (bS.cell (p := ⟨w9.heap.size, 1, none⟩) bgs).trans bg1
    go_wp2_with fail
    clear q0 q1 br0q br1q bg0q bg1q
    refine (heldProfile (wrM m z kk z2) _ _ _ _ _ _ _ _ 1 _ (g.on bS) hng HYG.out (by omega)).mono ?_; rintro e w19 ⟨rfl, b⟩
    have bl := Below.on bl b
    have bS := Below.on bS b
    have sz19 := b.size
    clear b
    have q0 := (bl.cell (p := ⟨w.heap.size, 0, none⟩) sW).trans k0
    have q1 := (bl.cell (p := ⟨w.heap.size, 1, none⟩) sW).trans k1
    have br0q := (bS.cell (p := ⟨w4.heap.size, 0, none⟩) brs).trans br0
    have br1q := (bS.cell (p := ⟨w4.heap.size, 1, none⟩) brs).trans br1
    have bg0q := (bS.cell (p := ⟨w9.heap.size, 0, none⟩) bgs).trans bg0
    have bg1q := (bS.cell (p := ⟨w9.heap.size, 1, none⟩) bgs).trans bg1
    go_wp2_with fail
    clear q0 q1 br0q br1q bg0q bg1q
    refine (toProfileD m A n c z _ (h.on (Below.on bW bl)) hn HM.out).mono ?_; rintro e w20 ⟨g1, rfl, ⟨Gv1, v1⟩, b⟩
    have bl := Below.on bl b
    have bS := Below.on bS b
    have sz20 := b.size
    clear b
    have v1 := v1.votes h.1 (fun _ _ => rfl) (fun _ _ => rfl)
    have r := (r.on bS)
    have g := (g.on bS)
    have br0 := (bS.cell (p := ⟨w4.heap.size, 0, none⟩) brs).trans br0
    have br1 := (bS.cell (p := ⟨w4.heap.size, 1, none⟩) brs).trans br1
    have brs := Nat.lt_of_lt_of_le brs bS.size
    have bg0 := (bS.cell (p := ⟨w9.heap.size, 0, none⟩) bgs).trans bg0
    have bg1 := (bS.cell (p := ⟨w9.heap.size, 1, none⟩) bgs).trans bg1
    have bgs := Nat.lt_of_lt_of_le bgs bS.size
    clear bS
    have bS := Below.refl w20.heap.size w20
    have q0 := (bl.cell (p := ⟨w.heap.size, 0, none⟩) sW).trans k0
    have q1 := (bl.cell (p := ⟨w.heap.size, 1, none⟩) sW).trans k1
    have br0q := (bS.cell (p := ⟨w4.heap.size, 0, none⟩) brs).trans br0
    have br1q := (bS.cell (p := ⟨w4.heap.size, 1, none⟩) brs).trans br1
    have bg0q := (bS.cell (p := ⟨w9.heap.size, 0, none⟩) bgs).trans bg0
    have bg1q := (bS.cell (p := ⟨w9.heap.size, 1, none⟩) bgs).trans bg1
    go_wp2_with fail
    clear q0 q1 br0q br1q bg0q bg1q
    refine (toIntS A2 n2 c2 z2 _ (h2.on (Below.on bW bl)) hn2).mono ?_; rintro e w21 ⟨rfl, cp2, b⟩
    have bl := Below.on bl b
    have bS := Below.on bS b
    have sz21 := b.size
    clear b
    have r := (r.on bS)
    have g := (g.on bS)
    have v1 := (v1.on bS)
    have br0 := (bS.cell (p := ⟨w4.heap.size, 0, none⟩) brs).trans br0
    have br1 := (bS.cell (p := ⟨w4.heap.size, 1, none⟩) brs).trans br1
    have brs := Nat.lt_of_lt_of_le brs bS.size
    have bg0 := (bS.cell (p := ⟨w9.heap.size, 0, none⟩) bgs).trans bg0
    have bg1 := (bS.cell (p := ⟨w9.heap.size, 1, none⟩) bgs).trans bg1
    have bgs := Nat.lt_of_lt_of_le bgs bS.size
    clear bS
    have bS := Below.refl w21.heap.size w21
    have q0 := (bl.cell (p := ⟨w.heap.size, 0, none⟩) sW).trans k0
    have q1 := (bl.cell (p := ⟨w.heap.size, 1, none⟩) sW).trans k1
    have br0q := (bS.cell (p := ⟨w4.heap.size, 0, none⟩) brs).trans br0
    have br1q := (bS.cell (p := ⟨w4.heap.size, 1, none⟩) brs).trans br1
    have bg0q := (bS.cell (p := ⟨w9.heap.size, 0, none⟩) bgs).trans bg0
    have bg1q := (bS.cell (p := ⟨w9.heap.size, 1, none⟩) bgs).trans bg1
    go_wp2_with fail
    clear q0 q1 br0q br1q bg0q bg1q
    refine (implWithRanking m _ _ _ z kk _ _ _ z2 _ (v1.on bS) hn HM.out (Ints.of_own (own_below cp2 bS (Nat.le_refl _))) hn2 (Int.le_refl _)).mono ?_; rintro e w22 ⟨Au, cu, Gu, Cu, rfl, u, b⟩
    have bl := Below.on bl b
    have bS := Below.on bS b
    have sz22 := b.size
    clear b
    have r := (r.on bS)
    have g := (g.on bS)
    have v1 := (v1.on bS)
    have cp2 := (own_below cp2 bS (Nat.le_refl _))
    have br0 := (bS.cell (p := ⟨w4.heap.size, 0, none⟩) brs).trans br0
    have br1 := (bS.cell (p := ⟨w4.heap.size, 1, none⟩) brs).trans br1
    have brs := Nat.lt_of_lt_of_le brs bS.size
    have bg0 := (bS.cell (p := ⟨w9.heap.size, 0, none⟩) bgs).trans bg0
    have bg1 := (bS.cell (p := ⟨w9.heap.size, 1, none⟩) bgs).trans bg1
    have bgs := Nat.lt_of_lt_of_le bgs bS.size
    clear bS
    have bS := Below.refl w22.heap.size w22
    have lu := u.inn
    have gu := u.ge
    have tzu : w22.heap.size = w22.heap.size := rfl
    have b : Below w22.heap.size w22 (w22.alloc (.cells #[.int .i64 (wrM m z kk z2), .slice Au (wrV m z kk z2).length cu] 40)) := (Below.refl _ _).alloc (Nat.le_refl _) _
    have bu0 : (w22.alloc (.cells #[.int .i64 (wrM m z kk z2), .slice Au (wrV m z kk z2).length cu] 40)).cell? ⟨w22.heap.size, 0, none⟩ = some (.int .i64 (wrM m z kk z2)) := by simp
    have bu1 : (w22.alloc (.cells #[.int .i64 (wrM m z kk z2), .slice Au (wrV m z kk z2).length cu] 40)).cell? ⟨w22.heap.size, 1, none⟩ = some (.slice Au (wrV m z kk z2).length cu) := by simp
    have bus : w22.heap.size < (w22.alloc (.cells #[.int .i64 (wrM m z kk z2), .slice Au (wrV m z kk z2).length cu] 40)).heap.size := by simp
    have bl := Below.on bl b
    have bS := Below.on bS b
    have sz23 := b.size
    clear b
    have q0 := (bl.cell (p := ⟨w.heap.size, 0, none⟩) sW).trans k0
    have q1 := (bl.cell (p := ⟨w.heap.size, 1, none⟩) sW).trans k1
    have br0q := (bS.cell (p := ⟨w4.heap.size, 0, none⟩) brs).trans br0
    have br1q := (bS.cell (p := ⟨w4.heap.size, 1, none⟩) brs).trans br1
    have bg0q := (bS.cell (p := ⟨w9.heap.size, 0, none⟩) bgs).trans bg0
    have bg1q := (bS.cell (p := ⟨w9.heap.size, 1, none⟩) bgs).trans bg1
    go_wp2_with fail
    clear q0 q1 br0q br1q bg0q bg1q
    generalize (w22.alloc (.cells #[.int .i64 (wrM m z kk z2), .slice Au (wrV m z kk z2).length cu] 40)) = Xbu at *
    have r := (r.on bS)
    have g := (g.on bS)
    have u := (u.on bS)
    have br0 := (bS.cell (p := ⟨w4.heap.size, 0, none⟩) brs).trans br0
    have br1 := (bS.cell (p := ⟨w4.heap.size, 1, none⟩) brs).trans br1
    have brs := Nat.lt_of_lt_of_le brs bS.size
    have bg0 := (bS.cell (p := ⟨w9.heap.size, 0, none⟩) bgs).trans bg0
    have bg1 := (bS.cell (p := ⟨w9.heap.size, 1, none⟩) bgs).trans bg1
    have bgs := Nat.lt_of_lt_of_le bgs bS.size
    clear bS
    have bS := Below.refl Xbu.heap.size Xbu
    refine (eqProfile (wrM m z kk z2) _ _ (wrV m z kk z2).length _ _ (wrV m z kk z2) _ ((u.on bS).votes rfl (fun _ _ => rfl) (fun _ _ => rfl)) ((r.on bS).votes rfl (fun _ _ => rfl) (fun _ _ => rfl)) hng HYG.out).mono ?_; rintro e w24 ⟨rfl, b⟩
    have bl := Below.on bl b
    have bS := Below.on bS b
    have sz24 := b.size
    clear b
    have q0 := (bl.cell (p := ⟨w.heap.size, 0, none⟩) sW).trans k0
    have q1 := (bl.cell (p := ⟨w.heap.size, 1, none⟩) sW).trans k1
    have br0q := (bS.cell (p := ⟨w4.heap.size, 0, none⟩) brs).trans br0
    have br1q := (bS.cell (p := ⟨w4.heap.size, 1, none⟩) brs).trans br1
    have bg0q := (bS.cell (p := ⟨w9.heap.size, 0, none⟩) bgs).trans bg0
    have bg1q := (bS.cell (p := ⟨w9.heap.size, 1, none⟩) bgs).trans bg1
    have bu0q := (bS.cell (p := ⟨w22.heap.size, 0, none⟩) bus).trans bu0
    have bu1q := (bS.cell (p := ⟨w22.heap.size, 1, none⟩) bus).trans bu1
    go_wp2_with fail
    clear q0 q1 br0q br1q bg0q bg1q bu0q bu1q
    refine (heldProfile (wrM m z kk z2) _ _ _ _ _ _ _ _ 1 _ (g.on bS) hng HYG.out (by omega)).mono ?_; rintro e w25 ⟨rfl, b⟩
    have bl := Below.on bl b
    have bS := Below.on bS b
    have sz25 := b.size
    clear b
    have q0 := (bl.cell (p := ⟨w.heap.size, 0, none⟩) sW).trans k0
    have q1 := (bl.cell (p := ⟨w.heap.size, 1, none⟩) sW).trans k1
    have br0q := (bS.cell (p := ⟨w4.heap.size, 0, none⟩) brs).trans br0
    have br1q := (bS.cell (p := ⟨w4.heap.size, 1, none⟩) brs).trans br1
    have bg0q := (bS.cell (p := ⟨w9.heap.size, 0, none⟩) bgs).trans bg0
    have bg1q := (bS.cell (p := ⟨w9.heap.size, 1, none⟩) bgs).trans bg1
    have bu0q := (bS.cell (p := ⟨w22.heap.size, 0, none⟩) bus).trans bu0
    have bu1q := (bS.cell (p := ⟨w22.heap.size, 1, none⟩) bus).trans bu1
    go_wp2_with fail
    go_ret
    exact ⟨rfl, Below.on bW bl⟩

set_option maxRecDepth 100000 in
theorem lifted (os : Os) (started : os.Started) (H : Type) (enc : TypeId × Value → H) :
    ReturnsInHanded {} Try.checked os 10 .any (Rows.fnExactWithRankingSpec.pre6 enc Try.prog Try.f10 Rows.fnExactWithRankingRow.domain false) (Rows.fnExactWithRankingSpec.post enc Try.prog Try.f10 false true false false) := by
  refine returnsInHanded_of_change (C := Try.checked) own started (by kernel_rfl) Try.func10
    (ChangeSpec.witness6 (enc := enc) (C := Try.checked) false ⟨#[], #[.agg #[.int .i64 0, .slice none 0 0], .int .i64 0, .slice none 0 0], []⟩ 8 (by kernel_rfl) (by kernel_rfl) (by kernel_rfl) (by kernel_rfl)) ?_
  intro W base args ds gs before hval0 hW hcnd _
  have hval : ∀ (j : Nat) t v, Try.f10.params[j]? = some t → args[j]? = some v → Value.okWide Try.prog W .any base t v := hval0
  have hW' := hW
  obtain ⟨p, q, hA0, hV, rfl, hfz, hnd⟩ := hW
  have hA : DataW.TrodAll enc Try.prog W 0 (fun _ => true) true Try.f10.params.toList args.toList ds p := hA0
  rw [Try.params10] at hA hval
  obtain ⟨v0, vs0, d0, ds0, p0, q0, hargs, rfl, rfl, h0, r0⟩ := trodAll_cons hA
  obtain ⟨v1, vs1, d1, ds1, p1, q1, rfl, rfl, rfl, h1, r1⟩ := trodAll_cons r0
  obtain ⟨v2, vs2, d2, ds2, p2, q2, rfl, rfl, rfl, h2, r2⟩ := trodAll_cons r1
  obtain ⟨rfl, rfl, rfl⟩ := trodAll_nil r2
  obtain rfl : args = #[v0, v1, v2] := by cases args; simp_all
  obtain ⟨rfl, rfl⟩ := trodVars_none hV
  have k0 := h0
  have lt0 : ∀ x ∈ p0, x.block < W.heap.size := by obtain ⟨m, hm⟩ := k0; exact DataW.trod_lt m _ _ _ hm
  obtain ⟨m0, A0, n0, c0, z0, rfl, w0⟩ := open_prof_arg (hval 0 35 v0 rfl rfl) h0
  have k1 := h1
  have lt1 : ∀ x ∈ p1, x.block < W.heap.size := by obtain ⟨m, hm⟩ := k1; exact DataW.trod_lt m _ _ _ hm
  obtain ⟨a1, rfl, _, _, wf1⟩ := open_int Try.underlying3 (hval 1 3 v1 rfl rfl) h1
  have w1 := bd_i64 wf1
  have k2 := h2
  have lt2 : ∀ x ∈ p2, x.block < W.heap.size := by obtain ⟨m, hm⟩ := k2; exact DataW.trod_lt m _ _ _ hm
  obtain ⟨A2, n2, c2, z2, rfl, w2⟩ := open_ints_arg (hval 2 44 v2 rfl rfl) h2
  clear hA0 hval0
  refine (walk m0 A0 n0 c0 z0 a1 A2 n2 c2 z2 W w0 w1 w2).mono fun e W' ⟨he, bel⟩ => ?_
  subst he
  exact ⟨_, rfl, _, _, _, [], _, [], hW', trodAll_mk1 (shut_bool Try.underlying4 _), (trodAll_cons_mk (Below.trod laidOut (by kernel_rfl) (of_decide_eq_true (by kernel_rfl)) k0 bel lt0) (trodAll_cons_mk (Below.trod laidOut (by kernel_rfl) (of_decide_eq_true (by kernel_rfl)) k1 bel lt1) (trodAll_cons_mk (Below.trod laidOut (by kernel_rfl) (of_decide_eq_true (by kernel_rfl)) k2 bel lt2) trodAll_mk0))), rfl, bel.frame _, fun h => by cases h⟩

theorem over : Rows.fnExactWithRankingRow.holds Try.pinned (OpenSpec.ofChange Rows.fnExactWithRankingSpec) :=
  OpenClaim.holds_of_wide 10 Try.f10 rfl rfl rfl rfl rfl rfl rfl ⟨rfl, rfl, rfl, rfl, rfl⟩ rfl rfl rfl rfl rfl (by kernel_rfl) Try.func10
    (joined_by _ _ _ _ _ (by kernel_rfl) laidOut mapsRowedYes (by kernel_rfl) (by kernel_rfl) (by kernel_rfl) stopsNone (by kernel_rfl) knobsNone (by kernel_rfl) (by kernel_rfl) (by kernel_rfl) (by kernel_rfl) (by kernel_rfl) (by kernel_rfl) (by kernel_rfl) (by kernel_rfl) (by kernel_rfl) (by kernel_rfl) (by kernel_rfl) (by kernel_rfl) (by kernel_rfl)
      (keys_fit _ _ keysPlain rfl) rfl heard mayEnterYes (lifted_fits _ _ liftsNo rfl) (make_fits _ _ makeCut rfl) rfl rfl (by kernel_rfl) (by kernel_rfl) (by kernel_rfl))
    (of_decide_eq_true (by kernel_rfl)) (by unfold Func.isWrapper; first | (rw [if_pos (by decide +kernel)]; kernel_rfl) | (rw [if_neg (by decide +kernel)]; exact ⟨rfl, rfl⟩))
    (fun os started H enc _ => lifted os started H enc)

theorem proved : Rows.FnExactWithRankingSaid := over
end Go.Proofs.Ytblofiimfhbkdaa.fnExactWithRanking
