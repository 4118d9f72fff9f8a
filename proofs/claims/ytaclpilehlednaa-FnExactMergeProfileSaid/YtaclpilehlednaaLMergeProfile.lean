/- 'FnExactMergeProfile': for every input the law returns true, and each argument reads behind the call as before it. No condition. -/
import Derived.Test.YtaclpilehlednaaRows
import Derived.Test.YtaclpilehlednaaFrame
import Derived.Test.YtaclpilehlednaaMerge
import Derived.Test.YtaclpilehlednaaCopyV
import Derived.Test.YtaclpilehlednaaMarkV
import Derived.Test.YtaclpilehlednaaHeldV
import Derived.Test.YtaclpilehlednaaFrameProf
namespace Go.Proofs.Ytaclpilehlednaa.fnExactMergeProfile
open Go.ChangeShapes Go.WideShapes Go.ChangeAt Go.RowKit Go.Joins Go.Deep
open Go.ChangeMaps (open_string shut_string)
set_option linter.unusedVariables false

attribute [local go_sem ↓] Go.wp_at_zero Go.wp_at_succ
set_option maxRecDepth 100000
set_option maxHeartbeats 8000000 in
theorem walk (m : Int) (A : Option Addr) (n c : Nat) (z : List (List Int × Int)) (w : World) (hw : Votes w A n z ∧ n ≤ c ∧ c ≤ maxLen ∧ C64 z ∧ -9223372036854775808 ≤ m ∧ m ≤ 9223372036854775807) :
    Calls Try.prog 7 #[.agg #[.int .i64 m, .slice A n c]] w fun e w' => e = .returned (.bool true) ∧ Below w.heap.size w w' := by
  obtain ⟨h, _hnc, _hcm, _hC, _hm1, _hm2⟩ := hw
  have bW : Below w.heap.size w (w.alloc (.cells #[.int .i64 m, .slice A n c] 52)) := (Below.refl _ _).alloc (Nat.le_refl _) _
  have k0 : (w.alloc (.cells #[.int .i64 m, .slice A n c] 52)).cell? ⟨w.heap.size, 0, none⟩ = some (.int .i64 m) := by simp
  have k1 : (w.alloc (.cells #[.int .i64 m, .slice A n c] 52)).cell? ⟨w.heap.size, 1, none⟩ = some (.slice A n c) := by simp
  have sW : w.heap.size < (w.alloc (.cells #[.int .i64 m, .slice A n c] 52)).heap.size := by simp
  have hnm : n ≤ maxLen := by omega
  go_enter Try.func7, Try.ntmps7
  go_wp2_with fail
  generalize w.alloc (.cells #[.int .i64 m, .slice A n c] 52) = W at *
  have bl := Below.refl W.heap.size W
  have bS := Below.refl W.heap.size W
  refine (szProfile m A n c z _ (h.on bW) hnm).mono ?_; rintro e w1 ⟨r, rfl, r1, r2, r3, b⟩
  have bl := Below.on bl b
  have bS := Below.on bS b
  have sz1 := b.size
  clear b
  by_cases hr : r < 0
  · go_wp2_with fail
    go_ret
    exact ⟨rfl, Below.on bW bl⟩
  obtain ⟨hn, hm⟩ := r3 (by omega)
  have HM := Lib.hid hm; clear hm r3
  have hsm := mg_small m z
  obtain ⟨hng, hyg⟩ := hsm
  have HYG := Lib.hid hyg; clear hyg
  have q0 := (bl.cell (p := ⟨w.heap.size, 0, none⟩) sW).trans k0
  have q1 := (bl.cell (p := ⟨w.heap.size, 1, none⟩) sW).trans k1
  go_wp2_with fail
  clear q0 q1
  refine (toProfileD m A n c z _ (h.on (Below.on bW bl)) hn HM.out).mono ?_; rintro e w2 ⟨g0, rfl, ⟨Gv0, v0⟩, b⟩
  have bl := Below.on bl b
  have bS := Below.on bS b
  have sz2 := b.size
  clear b
  have v0 := v0.votes h.1 (fun _ _ => rfl) (fun _ _ => rfl)
  clear bS
  have bS := Below.refl w2.heap.size w2
  have q0 := (bl.cell (p := ⟨w.heap.size, 0, none⟩) sW).trans k0
  have q1 := (bl.cell (p := ⟨w.heap.size, 1, none⟩) sW).trans k1
  go_wp2_with fail
  clear q0 q1
  refine (specMergeProfile m _ _ _ z _ (v0.on bS) hn HM.out ).mono ?_; rintro e w3 ⟨Ar, cr, Gr, Cr, rfl, r, b⟩
  have bl := Below.on bl b
  have bS := Below.on bS b
  have sz3 := b.size
  clear b
  have v0 := (v0.on bS)
  clear bS
  have bS := Below.refl w3.heap.size w3
  have lr := r.inn
  have gr := r.ge
  have tzr : w3.heap.size = w3.heap.size := rfl
  have b : Below w3.heap.size w3 (w3.alloc (.cells #[.int .i64 (mgM m z), .slice Ar (mgV m z).length cr] 56)) := (Below.refl _ _).alloc (Nat.le_refl _) _
  have br0 : (w3.alloc (.cells #[.int .i64 (mgM m z), .slice Ar (mgV m z).length cr] 56)).cell? ⟨w3.heap.size, 0, none⟩ = some (.int .i64 (mgM m z)) := by simp
  have br1 : (w3.alloc (.cells #[.int .i64 (mgM m z), .slice Ar (mgV m z).length cr] 56)).cell? ⟨w3.heap.size, 1, none⟩ = some (.slice Ar (mgV m z).length cr) := by simp
  have brs : w3.heap.size < (w3.alloc (.cells #[.int .i64 (mgM m z), .slice Ar (mgV m z).length cr] 56)).heap.size := by simp
  have bl := Below.on bl b
  have bS := Below.on bS b
  have sz4 := b.size
  clear b
  have q0 := (bl.cell (p := ⟨w.heap.size, 0, none⟩) sW).trans k0
  have q1 := (bl.cell (p := ⟨w.heap.size, 1, none⟩) sW).trans k1
  go_wp2_with fail
  clear q0 q1
  generalize (w3.alloc (.cells #[.int .i64 (mgM m z), .slice Ar (mgV m z).length cr] 56)) = Xbr at *
  have r := (r.on bS)
  clear bS
  have bS := Below.refl Xbr.heap.size Xbr
  have szlo : Xbr.heap.size ≤ Xbr.heap.size := Nat.le_refl _
  refine (toProfileD m A n c z _ (h.on (Below.on bW bl)) hn HM.out).mono ?_; rintro e w5 ⟨gx, rfl, ⟨Gpx, px⟩, b⟩
  have bl := Below.on bl b
  have bS := Below.on bS b
  have sz5 := b.size
  clear b
  have r := (r.on bS)
  have br0 := (bS.cell (p := ⟨w3.heap.size, 0, none⟩) brs).trans br0
  have br1 := (bS.cell (p := ⟨w3.heap.size, 1, none⟩) brs).trans br1
  have brs := Nat.lt_of_lt_of_le brs bS.size
  clear bS
  have bS := Below.refl w5.heap.size w5
  have hin := px.inn
  have b : Below w5.heap.size w5 (w5.alloc (.cells #[.int .i64 m, .slice (some ⟨gx, 0, none⟩) n n] 56)) := (Below.refl _ _).alloc (Nat.le_refl _) _
  have bx0 : (w5.alloc (.cells #[.int .i64 m, .slice (some ⟨gx, 0, none⟩) n n] 56)).cell? ⟨w5.heap.size, 0, none⟩ = some (.int .i64 m) := by simp
  have bx1 : (w5.alloc (.cells #[.int .i64 m, .slice (some ⟨gx, 0, none⟩) n n] 56)).cell? ⟨w5.heap.size, 1, none⟩ = some (.slice (some ⟨gx, 0, none⟩) n n) := by simp
  have bxs : w5.heap.size < (w5.alloc (.cells #[.int .i64 m, .slice (some ⟨gx, 0, none⟩) n n] 56)).heap.size := by simp
  have bl := Below.on bl b
  have bS := Below.on bS b
  have sz6 := b.size
  clear b
  have q0 := (bl.cell (p := ⟨w.heap.size, 0, none⟩) sW).trans k0
  have q1 := (bl.cell (p := ⟨w.heap.size, 1, none⟩) sW).trans k1
  have br0q := (bS.cell (p := ⟨w3.heap.size, 0, none⟩) brs).trans br0
  have br1q := (bS.cell (p := ⟨w3.heap.size, 1, none⟩) brs).trans br1
  go_wp2_with fail
  clear q0 q1 br0q br1q
  generalize (w5.alloc (.cells #[.int .i64 m, .slice (some ⟨gx, 0, none⟩) n n] 56)) = Xbx at *
  have r := (r.on bS)
  have px := (px.on bS)
  have br0 := (bS.cell (p := ⟨w3.heap.size, 0, none⟩) brs).trans br0
  have br1 := (bS.cell (p := ⟨w3.heap.size, 1, none⟩) brs).trans br1
  have brs := Nat.lt_of_lt_of_le brs bS.size
  clear bS
  have bS := Below.refl Xbx.heap.size Xbx
  refine (implMergeProfile m _ _ _ z _ ((px.on bS).votes h.1 (fun _ _ => rfl) (fun _ _ => rfl)) hn HM.out ).mono ?_; rintro e w7 ⟨Ag, cg, Gg, Cg, rfl, g, b⟩
  have bl := Below.on bl b
  have bS := Below.on bS b
  have sz7 := b.size
  clear b
  have r := (r.on bS)
  have px := (px.on bS)
  have br0 := (bS.cell (p := ⟨w3.heap.size, 0, none⟩) brs).trans br0
  have br1 := (bS.cell (p := ⟨w3.heap.size, 1, none⟩) brs).trans br1
  have brs := Nat.lt_of_lt_of_le brs bS.size
  have bx0 := (bS.cell (p := ⟨w5.heap.size, 0, none⟩) bxs).trans bx0
  have bx1 := (bS.cell (p := ⟨w5.heap.size, 1, none⟩) bxs).trans bx1
  have bxs := Nat.lt_of_lt_of_le bxs bS.size
  clear bS
  have bS := Below.refl w7.heap.size w7
  have lg := g.inn
  have gg := g.ge
  have tzg : w7.heap.size = w7.heap.size := rfl
  have b : Below w7.heap.size w7 (w7.alloc (.cells #[.int .i64 (mgM m z), .slice Ag (mgV m z).length cg] 56)) := (Below.refl _ _).alloc (Nat.le_refl _) _
  have bg0 : (w7.alloc (.cells #[.int .i64 (mgM m z), .slice Ag (mgV m z).length cg] 56)).cell? ⟨w7.heap.size, 0, none⟩ = some (.int .i64 (mgM m z)) := by simp
  have bg1 : (w7.alloc (.cells #[.int .i64 (mgM m z), .slice Ag (mgV m z).length cg] 56)).cell? ⟨w7.heap.size, 1, none⟩ = some (.slice Ag (mgV m z).length cg) := by simp
  have bgs : w7.heap.size < (w7.alloc (.cells #[.int .i64 (mgM m z), .slice Ag (mgV m z).length cg] 56)).heap.size := by simp
  have bl := Below.on bl b
  have bS := Below.on bS b
  have sz8 := b.size
  clear b
  have q0 := (bl.cell (p := ⟨w.heap.size, 0, none⟩) sW).trans k0
  have q1 := (bl.cell (p := ⟨w.heap.size, 1, none⟩) sW).trans k1
  have br0q := (bS.cell (p := ⟨w3.heap.size, 0, none⟩) brs).trans br0
  have br1q := (bS.cell (p := ⟨w3.heap.size, 1, none⟩) brs).trans br1
  have bx0q := (bS.cell (p := ⟨w5.heap.size, 0, none⟩) bxs).trans bx0
  have bx1q := (bS.cell (p := ⟨w5.heap.size, 1, none⟩) bxs).trans bx1
  go_wp2_with fail
  clear q0 q1 br0q br1q bx0q bx1q
  generalize (w7.alloc (.cells #[.int .i64 (mgM m z), .slice Ag (mgV m z).length cg] 56)) = Xbg at *
  have r := (r.on bS)
  have px := (px.on bS)
  have g := (g.on bS)
  have br0 := (bS.cell (p := ⟨w3.heap.size, 0, none⟩) brs).trans br0
  have br1 := (bS.cell (p := ⟨w3.heap.size, 1, none⟩) brs).trans br1
  have brs := Nat.lt_of_lt_of_le brs bS.size
  have bx0 := (bS.cell (p := ⟨w5.heap.size, 0, none⟩) bxs).trans bx0
  have bx1 := (bS.cell (p := ⟨w5.heap.size, 1, none⟩) bxs).trans bx1
  have bxs := Nat.lt_of_lt_of_le bxs bS.size
  clear bS
  have bS := Below.refl Xbg.heap.size Xbg
  refine (eqProfile (mgM m z) _ _ (mgV m z).length _ _ (mgV m z) _ ((g.on bS).votes rfl (fun _ _ => rfl) (fun _ _ => rfl)) ((r.on bS).votes rfl (fun _ _ => rfl) (fun _ _ => rfl)) hng HYG.out).mono ?_; rintro e w9 ⟨rfl, b⟩
  have bl := Below.on bl b
  have bS := Below.on bS b
  have sz9 := b.size
  clear b
  have q0 := (bl.cell (p := ⟨w.heap.size, 0, none⟩) sW).trans k0
  have q1 := (bl.cell (p := ⟨w.heap.size, 1, none⟩) sW).trans k1
  have br0q := (bS.cell (p := ⟨w3.heap.size, 0, none⟩) brs).trans br0
  have br1q := (bS.cell (p := ⟨w3.heap.size, 1, none⟩) brs).trans br1
  have bx0q := (bS.cell (p := ⟨w5.heap.size, 0, none⟩) bxs).trans bx0
  have bx1q := (bS.cell (p := ⟨w5.heap.size, 1, none⟩) bxs).trans bx1
  have bg0q := (bS.cell (p := ⟨w7.heap.size, 0, none⟩) bgs).trans bg0
  have bg1q := (bS.cell (p := ⟨w7.heap.size, 1, none⟩) bgs).trans bg1
  go_upto_region 10 with fail
  go_cut [45] (fun u wx => u = .bool false ∧ Below w9.heap.size w9 wx)
  case first =>
    have bd := Below.drew (Below.refl w9.heap.size w9)
    go_region_with (first | (go_at_call 34; refine (toProfileD m A n c z _ (h.on (Below.on (Below.on bW bl) bd)) hn HM.out).mono ?_; rintro e wp ⟨gc, rfl, ⟨Gc, vc⟩, hb⟩; have bt := bd.trans hb; have vc := vc.votes h.1 (fun _ _ => rfl) (fun _ _ => rfl); have vx := (px.on (Below.on bS bt)).votes h.1 (fun _ _ => rfl) (fun _ _ => rfl); have bx0r := (bt.cell (p := ⟨w5.heap.size, 0, none⟩) (Nat.lt_of_lt_of_le bxs bS.size)).trans bx0q; have bx1r := (bt.cell (p := ⟨w5.heap.size, 1, none⟩) (Nat.lt_of_lt_of_le bxs bS.size)).trans bx1q) | (go_at_call 36; refine (eqProfile m _ _ n _ _ z _ vx vc hn HM.out).mono ?_; rintro e wq ⟨rfl, hq⟩; have bt := Below.on bt hq))
    all_goals go_wp2_with fail
    all_goals go_meet
    all_goals first | exact ⟨rfl, bt⟩ | exact ⟨rfl, bt.drew⟩
  case rest =>
    clear q0 q1 br0q br1q bx0q bx1q bg0q bg1q
    obtain ⟨rfl, b⟩ := hcut
    have bl := Below.on bl b
    have bS := Below.on bS b
    have sz10 := b.size
    clear b
    have r := (r.on bS)
    have px := (px.on bS)
    have g := (g.on bS)
    have br0 := (bS.cell (p := ⟨w3.heap.size, 0, none⟩) brs).trans br0
    have br1 := (bS.cell (p := ⟨w3.heap.size, 1, none⟩) brs).trans br1
    have brs := Nat.lt_of_lt_of_le brs bS.size
    have bx0 := (bS.cell (p := ⟨w5.heap.size, 0, none⟩) bxs).trans bx0
    have bx1 := (bS.cell (p := ⟨w5.heap.size, 1, none⟩) bxs).trans bx1
    have bxs := Nat.lt_of_lt_of_le bxs bS.size
    have bg0 := (bS.cell (p := ⟨w7.heap.size, 0, none⟩) bgs).trans bg0
    have bg1 := (bS.cell (p := ⟨w7.heap.size, 1, none⟩) bgs).trans bg1
    have bgs := Nat.lt_of_lt_of_le bgs bS.size
    clear bS
    have bS := Below.refl wc.heap.size wc
    have q0 := (bl.cell (p := ⟨w.heap.size, 0, none⟩) sW).trans k0
    have q1 := (bl.cell (p := ⟨w.heap.size, 1, none⟩) sW).trans k1
    have br0q := (bS.cell (p := ⟨w3.heap.size, 0, none⟩) brs).trans br0
    have br1q := (bS.cell (p := ⟨w3.heap.size, 1, none⟩) brs).trans br1
    have bx0q := (bS.cell (p := ⟨w5.heap.size, 0, none⟩) bxs).trans bx0
    have bx1q := (bS.cell (p := ⟨w5.heap.size, 1, none⟩) bxs).trans bx1
    have bg0q := (bS.cell (p := ⟨w7.heap.size, 0, none⟩) bgs).trans bg0
    have bg1q := (bS.cell (p := ⟨w7.heap.size, 1, none⟩) bgs).trans bg1
    go_wp2_with fail
    clear q0 q1 br0q br1q bx0q bx1q bg0q bg1q
    refine (markProfile m _ n n _ _ _ _ _ 1 _ _ (px.on bS) hin hn HM.out (by omega)).mono ?_; rintro e w11 ⟨rfl, _, mid⟩
    have r := r.mid mid (fun a ha => by have h1 := gr a ha; omega) (fun k hk a ha => by have h1 := lr.2 k hk a ha; have h2 := (own_ge (r.each k hk) a ha).1; omega)
    have g := g.mid mid (fun a ha => by have h1 := gg a ha; omega) (fun k hk a ha => by have h1 := lg.2 k hk a ha; have h2 := (own_ge (g.each k hk) a ha).1; omega)
    have br0 := (mid.cell (p := ⟨w3.heap.size, 0, none⟩) brs (by show w3.heap.size < _ ∨ _ ≤ w3.heap.size; omega)).trans br0
    have br1 := (mid.cell (p := ⟨w3.heap.size, 1, none⟩) brs (by show w3.heap.size < _ ∨ _ ≤ w3.heap.size; omega)).trans br1
    have brs := Nat.lt_of_lt_of_le brs mid.size
    have bg0 := (mid.cell (p := ⟨w7.heap.size, 0, none⟩) bgs (by show w7.heap.size < _ ∨ _ ≤ w7.heap.size; omega)).trans bg0
    have bg1 := (mid.cell (p := ⟨w7.heap.size, 1, none⟩) bgs (by show w7.heap.size < _ ∨ _ ≤ w7.heap.size; omega)).trans bg1
    have bgs := Nat.lt_of_lt_of_le bgs mid.size
    have bl := Below.mid bl mid (by omega) (by omega)
    have sz11 := mid.size
    clear mid bS
    have bS := Below.refl w11.heap.size w11
    have hpr := prv_le (rk z) n HM.out n (Nat.le_refl _)
    have q0 := (bl.cell (p := ⟨w.heap.size, 0, none⟩) sW).trans k0
    have q1 := (bl.cell (p := ⟨w.heap.size, 1, none⟩) sW).trans k1
    have br0q := (bS.cell (p := ⟨w3.heap.size, 0, none⟩) brs).trans br0
    have br1q := (bS.cell (p := ⟨w3.heap.size, 1, none⟩) brs).trans br1
    have bg0q := (bS.cell (p := ⟨w7.heap.size, 0, none⟩) bgs).trans bg0
    have bg1q := (bS.cell (p := ⟨w7.heap.size, 1, none⟩) bgs).trans bg1
    go_wp2_with fail
    clear q0 q1 br0q br1q bg0q bg1q
    refine (eqProfile (mgM m z) _ _ (mgV m z).length _ _ (mgV m z) _ ((g.on bS).votes rfl (fun _ _ => rfl) (fun _ _ => rfl)) ((r.on bS).votes rfl (fun _ _ => rfl) (fun _ _ => rfl)) hng HYG.out).mono ?_; rintro e w12 ⟨rfl, b⟩
    have bl := Below.on bl b
    have bS := Below.on bS b
    have sz12 := b.size
    clear b
    have r := (r.on bS)
    have g := (g.on bS)
    have br0 := (bS.cell (p := ⟨w3.heap.size, 0, none⟩) brs).trans br0
    have br1 := (bS.cell (p := ⟨w3.heap.size, 1, none⟩) brs).trans br1
    have brs := Nat.lt_of_lt_of_le brs bS.size
    have bg0 := (bS.cell (p := ⟨w7.heap.size, 0, none⟩) bgs).trans bg0
    have bg1 := (bS.cell (p := ⟨w7.heap.size, 1, none⟩) bgs).trans bg1
    have bgs := Nat.lt_of_lt_of_le bgs bS.size
    clear bS
    have bS := Below.refl w12.heap.size w12
    have hpg := prv_le (rk (mgV m z)) (mgV m z).length HYG.out (mgV m z).length (Nat.le_refl _)
    have hig := lg
    have q0 := (bl.cell (p := ⟨w.heap.size, 0, none⟩) sW).trans k0
    have q1 := (bl.cell (p := ⟨w.heap.size, 1, none⟩) sW).trans k1
    have br0q := (bS.cell (p := ⟨w3.heap.size, 0, none⟩) brs).trans br0
    have br1q := (bS.cell (p := ⟨w3.heap.size, 1, none⟩) brs).trans br1
    have bg0q := (bS.cell (p := ⟨w7.heap.size, 0, none⟩) bgs).trans bg0
    have bg1q := (bS.cell (p := ⟨w7.heap.size, 1, none⟩) bgs).trans bg1
    go_wp2_with fail
    clear q0 q1 br0q br1q bg0q bg1q
    refine (markProfile (mgM m z) _ _ _ _ _ _ _ _ 1 _ _ (g.on bS) hig hng HYG.out (by omega)).mono ?_; rintro e w13 ⟨rfl, o, mid⟩
    have r := r.mid mid (fun a ha => by have h1 := gr a ha; omega) (fun k hk a ha => by have h1 := lr.2 k hk a ha; omega)
    have br0 := (mid.cell (p := ⟨w3.heap.size, 0, none⟩) brs (by show w3.heap.size < _ ∨ _ ≤ w3.heap.size; omega)).trans br0
    have br1 := (mid.cell (p := ⟨w3.heap.size, 1, none⟩) brs (by show w3.heap.size < _ ∨ _ ≤ w3.heap.size; omega)).trans br1
    have brs := Nat.lt_of_lt_of_le brs mid.size
    have bg0 := (mid.cell (p := ⟨w7.heap.size, 0, none⟩) bgs (by show w7.heap.size < _ ∨ _ ≤ w7.heap.size; omega)).trans bg0
    have bg1 := (mid.cell (p := ⟨w7.heap.size, 1, none⟩) bgs (by show w7.heap.size < _ ∨ _ ≤ w7.heap.size; omega)).trans bg1
    have bgs := Nat.lt_of_lt_of_le bgs mid.size
    have bl := Below.mid bl mid (by omega) (by omega)
    have g := o; clear o
    have sz13 := mid.size
    clear mid bS
    have bS := Below.refl w13.heap.size w13
    have q0 := (bl.cell (p := ⟨w.heap.size, 0, none⟩) sW).trans k0
    have q1 := (bl.cell (p := ⟨w.heap.size, 1, none⟩) sW).trans k1
    have br0q := (bS.cell (p := ⟨w3.heap.size, 0, none⟩) brs).trans br0
    have br1q := (bS.cell (p := ⟨w3.heap.size, 1, none⟩) brs).trans br1
    have bg0q := (bS.cell (p := ⟨w7.heap.size, 0, none⟩) bgs).trans bg0
    have bg1q := (bS.cell (p := ⟨w7.heap.size, 1, none⟩) bgs).trans bg1
    go_wp2_with fail
    clear q0 q1 br0q br1q bg0q bg1q
    refine (heldProfile (mgM m z) _ _ _ _ _ _ _ _ 1 _ (g.on bS) hng HYG.out (by omega)).mono ?_; rintro e w14 ⟨rfl, b⟩
    have bl := Below.on bl b
    have bS := Below.on bS b
    have sz14 := b.size
    clear b
    have q0 := (bl.cell (p := ⟨w.heap.size, 0, none⟩) sW).trans k0
    have q1 := (bl.cell (p := ⟨w.heap.size, 1, none⟩) sW).trans k1
    have br0q := (bS.cell (p := ⟨w3.heap.size, 0, none⟩) brs).trans br0
    have br1q := (bS.cell (p := ⟨w3.heap.size, 1, none⟩) brs).trans br1
    have bg0q := (bS.cell (p := ⟨w7.heap.size, 0, none⟩) bgs).trans bg0
    have bg1q := (bS.cell (p := ⟨w7.heap.size, 1, none⟩) bgs).trans bg1
    go_wp2_with fail
    clear q0 q1 br0q br1q bg0q bg1q
    refine (toProfileD m A n c z _ (h.on (Below.on bW bl)) hn HM.out).mono ?_; rintro e w15 ⟨g1, rfl, ⟨Gv1, v1⟩, b⟩
    have bl := Below.on bl b
    have bS := Below.on bS b
    have sz15 := b.size
    clear b
    have v1 := v1.votes h.1 (fun _ _ => rfl) (fun _ _ => rfl)
    have r := (r.on bS)
    have g := (g.on bS)
    have br0 := (bS.cell (p := ⟨w3.heap.size, 0, none⟩) brs).trans br0
    have br1 := (bS.cell (p := ⟨w3.heap.size, 1, none⟩) brs).trans br1
    have brs := Nat.lt_of_lt_of_le brs bS.size
    have bg0 := (bS.cell (p := ⟨w7.heap.size, 0, none⟩) bgs).trans bg0
    have bg1 := (bS.cell (p := ⟨w7.heap.size, 1, none⟩) bgs).trans bg1
    have bgs := Nat.lt_of_lt_of_le bgs bS.size
    clear bS
    have bS := Below.refl w15.heap.size w15
    have q0 := (bl.cell (p := ⟨w.heap.size, 0, none⟩) sW).trans k0
    have q1 := (bl.cell (p := ⟨w.heap.size, 1, none⟩) sW).trans k1
    have br0q := (bS.cell (p := ⟨w3.heap.size, 0, none⟩) brs).trans br0
    have br1q := (bS.cell (p := ⟨w3.heap.size, 1, none⟩) brs).trans br1
    have bg0q := (bS.cell (p := ⟨w7.heap.size, 0, none⟩) bgs).trans bg0
    have bg1q := (bS.cell (p := ⟨w7.heap.size, 1, none⟩) bgs).trans bg1
    go_wp2_with fail
    clear q0 q1 br0q br1q bg0q bg1q
    refine (implMergeProfile m _ _ _ z _ (v1.on bS) hn HM.out ).mono ?_; rintro e w16 ⟨Au, cu, Gu, Cu, rfl, u, b⟩
    have bl := Below.on bl b
    have bS := Below.on bS b
    have sz16 := b.size
    clear b
    have r := (r.on bS)
    have g := (g.on bS)
    have v1 := (v1.on bS)
    have br0 := (bS.cell (p := ⟨w3.heap.size, 0, none⟩) brs).trans br0
    have br1 := (bS.cell (p := ⟨w3.heap.size, 1, none⟩) brs).trans br1
    have brs := Nat.lt_of_lt_of_le brs bS.size
    have bg0 := (bS.cell (p := ⟨w7.heap.size, 0, none⟩) bgs).trans bg0
    have bg1 := (bS.cell (p := ⟨w7.heap.size, 1, none⟩) bgs).trans bg1
    have bgs := Nat.lt_of_lt_of_le bgs bS.size
    clear bS
    have bS := Below.refl w16.heap.size w16
    have lu := u.inn
    have gu := u.ge
    have tzu : w16.heap.size = w16.heap.size := rfl
    have b : Below w16.heap.size w16 (w16.alloc (.cells #[.int .i64 (mgM m z), .slice Au (mgV m z).length cu] 56)) := (Below.refl _ _).alloc (Nat.le_refl _) _
    have bu0 : (w16.alloc (.cells #[.int .i64 (mgM m z), .slice Au (mgV m z).length cu] 56)).cell? ⟨w16.heap.size, 0, none⟩ = some (.int .i64 (mgM m z)) := by simp
    have bu1 : (w16.alloc (.cells #[.int .i64 (mgM m z), .slice Au (mgV m z).length cu] 56)).cell? ⟨w16.heap.size, 1, none⟩ = some (.slice Au (mgV m z).length cu) := by simp
    have bus : w16.heap.size < (w16.alloc (.cells #[.int .i64 (mgM m z), .slice Au (mgV m z).length cu] 56)).heap.size := by simp
    have bl := Below.on bl b
    have bS := Below.on bS b
    have sz17 := b.size
    clear b
    have q0 := (bl.cell (p := ⟨w.heap.size, 0, none⟩) sW).trans k0
    have q1 := (bl.cell (p := ⟨w.heap.size, 1, none⟩) sW).trans k1
    have br0q := (bS.cell (p := ⟨w3.heap.size, 0, none⟩) brs).trans br0
    have br1q := (bS.cell (p := ⟨w3.heap.size, 1, none⟩) brs).trans br1
    have bg0q := (bS.cell (p := ⟨w7.heap.size, 0, none⟩) bgs).trans bg0
    have bg1q := (bS.cell (p := ⟨w7.heap.size, 1, none⟩) bgs).trans bg1
    go_wp2_with fail
    clear q0 q1 br0q br1q bg0q bg1q
    generalize (w16.alloc (.cells #[.int .i64 (mgM m z), .slice Au (mgV m z).length cu] 56)) = Xbu at *
    have r := (r.on bS)
    have g := (g.on bS)
    have u := (u.on bS)
    have br0 := (bS.cell (p := ⟨w3.heap.size, 0, none⟩) brs).trans br0
    have br1 := (bS.cell (p := ⟨w3.heap.size, 1, none⟩) brs).trans br1
    have brs := Nat.lt_of_lt_of_le brs bS.size
    have bg0 := (bS.cell (p := ⟨w7.heap.size, 0, none⟩) bgs).trans bg0
    have bg1 := (bS.cell (p := ⟨w7.heap.size, 1, none⟩) bgs).trans bg1
    have bgs := Nat.lt_of_lt_of_le bgs bS.size
    clear bS
    have bS := Below.refl Xbu.heap.size Xbu
    refine (eqProfile (mgM m z) _ _ (mgV m z).length _ _ (mgV m z) _ ((u.on bS).votes rfl (fun _ _ => rfl) (fun _ _ => rfl)) ((r.on bS).votes rfl (fun _ _ => rfl) (fun _ _ => rfl)) hng HYG.out).mono ?_; rintro e w18 ⟨rfl, b⟩
    have bl := Below.on bl b
    have bS := Below.on bS b
    have sz18 := b.size
    clear b
    have q0 := (bl.cell (p := ⟨w.heap.size, 0, none⟩) sW).trans k0
    have q1 := (bl.cell (p := ⟨w.heap.size, 1, none⟩) sW).trans k1
    have br0q := (bS.cell (p := ⟨w3.heap.size, 0, none⟩) brs).trans br0
    have br1q := (bS.cell (p := ⟨w3.heap.size, 1, none⟩) brs).trans br1
    have bg0q := (bS.cell (p := ⟨w7.heap.size, 0, none⟩) bgs).trans bg0
    have bg1q := (bS.cell (p := ⟨w7.heap.size, 1, none⟩) bgs).trans bg1
    have bu0q := (bS.cell (p := ⟨w16.heap.size, 0, none⟩) bus).trans bu0
    have bu1q := (bS.cell (p := ⟨w16.heap.size, 1, none⟩) bus).trans bu1
    go_wp2_with fail
    clear q0 q1 br0q br1q bg0q bg1q bu0q bu1q
    refine (heldProfile (mgM m z) _ _ _ _ _ _ _ _ 1 _ (g.on bS) hng HYG.out (by omega)).mono ?_; rintro e w19 ⟨rfl, b⟩
    have bl := Below.on bl b
    have bS := Below.on bS b
    have sz19 := b.size
    clear b
    have q0 := (bl.cell (p := ⟨w.heap.size, 0, none⟩) sW).trans k0
    have q1 := (bl.cell (p := ⟨w.heap.size, 1, none⟩) sW).trans k1
    have br0q := (bS.cell (p := ⟨w3.heap.size, 0, none⟩) brs).trans br0
    have br1q := (bS.cell (p := ⟨w3.heap.size, 1, none⟩) brs).trans br1
    have bg0q := (bS.cell (p := ⟨w7.heap.size, 0, none⟩) bgs).trans bg0
    have bg1q := (bS.cell (p := ⟨w7.heap.size, 1, none⟩) bgs).trans bg1
    have bu0q := (bS.cell (p := ⟨w16.heap.size, 0, none⟩) bus).trans bu0
    have bu1q := (bS.cell (p := ⟨w16.heap.size, 1, none⟩) bus).trans bu1
    go_wp2_with fail
    go_ret
    exact ⟨rfl, Below.on bW bl⟩

set_option maxRecDepth 100000 in
theorem lifted (os : Os) (started : os.Started) (H : Type) (enc : TypeId × Value → H) :
    ReturnsInHanded {} Try.checked os 7 .any (Rows.fnExactMergeProfileSpec.pre6 enc Try.prog Try.f7 Rows.fnExactMergeProfileRow.domain false) (Rows.fnExactMergeProfileSpec.post enc Try.prog Try.f7 false true false false) := by
  refine returnsInHanded_of_change (C := Try.checked) own started (by kernel_rfl) Try.func7
    (ChangeSpec.witness6 (enc := enc) (C := Try.checked) false ⟨#[], #[.agg #[.int .i64 0, .slice none 0 0]], []⟩ 8 (by kernel_rfl) (by kernel_rfl) (by kernel_rfl) (by kernel_rfl)) ?_
  intro W base args ds gs before hval0 hW hcnd _
  have hval : ∀ (j : Nat) t v, Try.f7.params[j]? = some t → args[j]? = some v → Value.okWide Try.prog W .any base t v := hval0
  have hW' := hW
  obtain ⟨p, q, hA0, hV, rfl, hfz, hnd⟩ := hW
  have hA : DataW.TrodAll enc Try.prog W 0 (fun _ => true) true Try.f7.params.toList args.toList ds p := hA0
  rw [Try.params7] at hA hval
  obtain ⟨v0, vs0, d0, ds0, p0, q0, hargs, rfl, rfl, h0, r0⟩ := trodAll_cons hA
  obtain ⟨rfl, rfl, rfl⟩ := trodAll_nil r0
  obtain rfl : args = #[v0] := by cases args; simp_all
  obtain ⟨rfl, rfl⟩ := trodVars_none hV
  have k0 := h0
  have lt0 : ∀ x ∈ p0, x.block < W.heap.size := by obtain ⟨m, hm⟩ := k0; exact DataW.trod_lt m _ _ _ hm
  obtain ⟨m0, A0, n0, c0, z0, rfl, w0⟩ := open_prof_arg (hval 0 52 v0 rfl rfl) h0
  clear hA0 hval0
  refine (walk m0 A0 n0 c0 z0 W w0).mono fun e W' ⟨he, bel⟩ => ?_
  subst he
  exact ⟨_, rfl, _, _, _, [], _, [], hW', trodAll_mk1 (shut_bool Try.underlying4 _), (trodAll_cons_mk (Below.trod laidOut (by kernel_rfl) (of_decide_eq_true (by kernel_rfl)) k0 bel lt0) trodAll_mk0), rfl, bel.frame _, fun h => by cases h⟩

theorem over : Rows.fnExactMergeProfileRow.holds Try.pinned (OpenSpec.ofChange Rows.fnExactMergeProfileSpec) :=
  OpenClaim.holds_of_wide 7 Try.f7 rfl rfl rfl rfl rfl rfl rfl ⟨rfl, rfl, rfl, rfl, rfl⟩ rfl rfl rfl rfl rfl (by kernel_rfl) Try.func7
    (joined_by _ _ _ _ _ (by kernel_rfl) laidOut mapsRowedYes (by kernel_rfl) (by kernel_rfl) (by kernel_rfl) stopsNone (by kernel_rfl) knobsNone (by kernel_rfl) (by kernel_rfl) (by kernel_rfl) (by kernel_rfl) (by kernel_rfl) (by kernel_rfl) (by kernel_rfl) (by kernel_rfl) (by kernel_rfl) (by kernel_rfl) (by kernel_rfl) (by kernel_rfl) (by kernel_rfl)
      (keys_fit _ _ keysPlain rfl) rfl heard mayEnterYes (lifted_fits _ _ liftsNo rfl) (make_fits _ _ makeCut rfl) rfl rfl (by kernel_rfl) (by kernel_rfl) (by kernel_rfl))
    (of_decide_eq_true (by kernel_rfl)) (by unfold Func.isWrapper; first | (rw [if_pos (by decide +kernel)]; kernel_rfl) | (rw [if_neg (by decide +kernel)]; exact ⟨rfl, rfl⟩))
    (fun os started H enc _ => lifted os started H enc)

theorem proved : Rows.FnExactMergeProfileSaid := over
end Go.Proofs.Ytaclpilehlednaa.fnExactMergeProfile
