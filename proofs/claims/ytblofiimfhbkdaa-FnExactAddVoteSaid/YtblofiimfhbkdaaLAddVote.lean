/- 'FnExactAddVote': for every input the law returns true, and each argument reads behind the call as before it. No condition. -/
import Derived.Test.YtblofiimfhbkdaaRows
import Derived.Test.YtblofiimfhbkdaaFrame
import Derived.Test.YtblofiimfhbkdaaAddV
import Derived.Test.YtblofiimfhbkdaaCopyV
import Derived.Test.YtblofiimfhbkdaaMarkV
import Derived.Test.YtblofiimfhbkdaaHeldV
import Derived.Test.YtblofiimfhbkdaaVoteL
import Derived.Deep.RegionHeldLaw
namespace Go.Proofs.Ytblofiimfhbkdaa.fnExactAddVote
open Go.ChangeShapes Go.WideShapes Go.ChangeAt Go.RowKit Go.Joins Go.Deep
open Go.ChangeMaps (open_string shut_string)
set_option linter.unusedVariables false

attribute [local go_sem ↓] Go.wp_at_zero Go.wp_at_succ
set_option maxRecDepth 100000
set_option maxHeartbeats 16000000 in
theorem walk (m : Int) (A : Option Addr) (n c : Nat) (z : List (List Int × Int)) (A1 : Option Addr) (n1 c1 : Nat) (z1 : List Int) (t1 : Int) (w : World) (hw : Votes w A n z ∧ n ≤ c ∧ c ≤ maxLen ∧ C64 z ∧ -9223372036854775808 ≤ m ∧ m ≤ 9223372036854775807) (hw1 : Ints w A1 n1 z1 ∧ n1 ≤ c1 ∧ c1 ≤ maxLen ∧ -9223372036854775808 ≤ t1 ∧ t1 ≤ 9223372036854775807) :
    Calls Try.prog 11 #[.agg #[.int .i64 m, .slice A n c], .agg #[.slice A1 n1 c1, .int .i64 t1]] w fun e w' => e = .returned (.bool true) ∧ Below w.heap.size w w' := by
  obtain ⟨h, _hnc, _hcm, _hC, _hm1, _hm2⟩ := hw
  obtain ⟨h1, _hnc1, _hcm1, _ht1, _ht2⟩ := hw1
  have bW : Below w.heap.size w ((w.alloc (.cells #[.int .i64 m, .slice A n c] 35)).alloc (.cells #[.slice A1 n1 c1, .int .i64 t1] 59)) := ((Below.refl _ _).alloc (Nat.le_refl _) _).alloc (by simp) _
  have k0 : ((w.alloc (.cells #[.int .i64 m, .slice A n c] 35)).alloc (.cells #[.slice A1 n1 c1, .int .i64 t1] 59)).cell? ⟨w.heap.size, 0, none⟩ = some (.int .i64 m) := by simp [go_sem]
  have k1 : ((w.alloc (.cells #[.int .i64 m, .slice A n c] 35)).alloc (.cells #[.slice A1 n1 c1, .int .i64 t1] 59)).cell? ⟨w.heap.size, 1, none⟩ = some (.slice A n c) := by simp [go_sem]
  have kv0 : ((w.alloc (.cells #[.int .i64 m, .slice A n c] 35)).alloc (.cells #[.slice A1 n1 c1, .int .i64 t1] 59)).cell? ⟨w.heap.size + 1, 0, none⟩ = some (.slice A1 n1 c1) := by simp [go_sem]
  have kv1 : ((w.alloc (.cells #[.int .i64 m, .slice A n c] 35)).alloc (.cells #[.slice A1 n1 c1, .int .i64 t1] 59)).cell? ⟨w.heap.size + 1, 1, none⟩ = some (.int .i64 t1) := by simp [go_sem]
  have sW : w.heap.size < ((w.alloc (.cells #[.int .i64 m, .slice A n c] 35)).alloc (.cells #[.slice A1 n1 c1, .int .i64 t1] 59)).heap.size := by simp; omega
  have sWv : w.heap.size + 1 < ((w.alloc (.cells #[.int .i64 m, .slice A n c] 35)).alloc (.cells #[.slice A1 n1 c1, .int .i64 t1] 59)).heap.size := by simp
  have hnm : n ≤ maxLen := by omega
  have hnm1 : n1 ≤ maxLen := by omega
  go_enter Try.func11, Try.ntmps11
  go_wp2_with fail
  generalize (w.alloc (.cells #[.int .i64 m, .slice A n c] 35)).alloc (.cells #[.slice A1 n1 c1, .int .i64 t1] 59) = W at *
  have bl := Below.refl W.heap.size W
  have bS := Below.refl W.heap.size W
  refine (szProfile m A n c z _ (h.on bW) hnm).mono ?_; rintro e w1 ⟨r, rfl, r1, r2, r3, b⟩
  have bl := Below.on bl b
  have bS := Below.on bS b
  have sz1 := b.size
  clear b
  by_cases hr : r < 0
  · go_wp2_with fail
    go_ret
    exact ⟨rfl, Below.on bW bl⟩
  obtain ⟨hn, hm⟩ := r3 (by omega)
  have HM := Lib.hid hm; clear hm r3
  have q0 := (bl.cell (p := ⟨w.heap.size, 0, none⟩) sW).trans k0
  have qv0 := (bl.cell (p := ⟨w.heap.size + 1, 0, none⟩) sWv).trans kv0
  have q1 := (bl.cell (p := ⟨w.heap.size, 1, none⟩) sW).trans k1
  have qv1 := (bl.cell (p := ⟨w.heap.size + 1, 1, none⟩) sWv).trans kv1
  have sP := Nat.lt_of_lt_of_le sW bl.size
  have sPv := Nat.lt_of_lt_of_le sWv bl.size
  go_wp2_with fail
  clear q0 q1 qv0 qv1 sP sPv
  refine (szVote A1 n1 c1 t1 r _ hnm1 (by omega)).mono ?_; rintro e w2 ⟨rr, rfl, rr1, rr2, rr3, b⟩
  have bl := Below.on bl b
  have bS := Below.on bS b
  have sz2 := b.size
  clear b
  by_cases hrr : rr < 0
  · go_wp2_with fail
    go_ret
    exact ⟨rfl, Below.on bW bl⟩
  have hn1 := rr3 (by omega)
  clear rr3
  have hsm := ad_small m z z1 t1
  obtain ⟨hng, hyg⟩ := hsm
  have HYG := Lib.hid hyg; clear hyg
  have q0 := (bl.cell (p := ⟨w.heap.size, 0, none⟩) sW).trans k0
  have qv0 := (bl.cell (p := ⟨w.heap.size + 1, 0, none⟩) sWv).trans kv0
  have q1 := (bl.cell (p := ⟨w.heap.size, 1, none⟩) sW).trans k1
  have qv1 := (bl.cell (p := ⟨w.heap.size + 1, 1, none⟩) sWv).trans kv1
  have sP := Nat.lt_of_lt_of_le sW bl.size
  have sPv := Nat.lt_of_lt_of_le sWv bl.size
  go_upto_region 8 with fail
  go_cut [6, 7] (fun u v wx => ∃ (gb : Nat) (Ax : Option Addr) (cx : Nat) (Gx : Nat → Option Addr) (Cx : Nat → Nat), u = .pointer (some ⟨gb, 0, none⟩) ∧ v = .bool (adOk m z z1 t1) ∧ OwnV wx w2.heap.size Ax (adV m z z1 t1).length cx Gx Cx (rk (adV m z z1 t1)) (ct (adV m z z1 t1)) ∧ wx.cell? ⟨gb, 0, none⟩ = some (.int .i64 (adM m z z1 t1)) ∧ wx.cell? ⟨gb, 1, none⟩ = some (.slice Ax (adV m z z1 t1).length cx) ∧ w2.heap.size ≤ gb ∧ gb < wx.heap.size ∧ Below w2.heap.size w2 wx)
  case first =>
    have bd := Below.drew (Below.refl w2.heap.size w2)
    go_region_held_law (fun w' => w'.cell? ⟨w.heap.size, 0, none⟩ = some (.int .i64 m) ∧ w'.cell? ⟨w.heap.size, 1, none⟩ = some (.slice A n c) ∧ w'.cell? ⟨w.heap.size + 1, 0, none⟩ = some (.slice A1 n1 c1) ∧ w'.cell? ⟨w.heap.size + 1, 1, none⟩ = some (.int .i64 t1)) (go_keep) (first
      | (go_simp; go_at_call 20; (fail_if_success have zq := zc0); refine (toProfileD m A n c z w2.drew (h.on (Below.on (Below.on bW bl) bd)) hn HM.out).mono ?_; rintro e wa ⟨ga, rfl, ⟨Ga, va⟩, ba⟩; have bta := bd.trans (Below.mono ba (by have := bd.size; omega)); have e0 := (bta.cell (p := ⟨w.heap.size, 0, none⟩) sP).trans q0; have e1 := (bta.cell (p := ⟨w.heap.size, 1, none⟩) sP).trans q1; have e2 := (bta.cell (p := ⟨w.heap.size + 1, 0, none⟩) sPv).trans qv0; have e3 := (bta.cell (p := ⟨w.heap.size + 1, 1, none⟩) sPv).trans qv1; have va := va.votes h.1 (fun _ _ => rfl) (fun _ _ => rfl))
      | (go_simp; go_at_call 20; refine (toProfileD m A n c z (w2.drew.alloc (.cells #[.int .i64 0, .slice none 0 0] 40)) (h.on (Below.on (Below.on bW bl) (Below.alloc bd (by have := bd.size; omega) (.cells #[.int .i64 0, .slice none 0 0] 40)))) hn HM.out).mono ?_; rintro e wa ⟨ga, rfl, ⟨Ga, va⟩, ba⟩; have bta := (Below.alloc bd (by have := bd.size; omega) (.cells #[.int .i64 0, .slice none 0 0] 40)).trans (Below.mono ba (by have := (Below.alloc bd (by have := bd.size; omega) (.cells #[.int .i64 0, .slice none 0 0] 40)).size; omega)); have e0 := (bta.cell (p := ⟨w.heap.size, 0, none⟩) sP).trans q0; have e1 := (bta.cell (p := ⟨w.heap.size, 1, none⟩) sP).trans q1; have e2 := (bta.cell (p := ⟨w.heap.size + 1, 0, none⟩) sPv).trans qv0; have e3 := (bta.cell (p := ⟨w.heap.size + 1, 1, none⟩) sPv).trans qv1; have va := va.votes h.1 (fun _ _ => rfl) (fun _ _ => rfl); obtain ⟨gb, hgb⟩ : ∃ gb, gb = w2.heap.size := ⟨_, rfl⟩; have zs := Nat.lt_of_lt_of_le (show gb < (w2.drew.alloc (.cells #[.int .i64 0, .slice none 0 0] 40)).heap.size by rw [hgb]; simp) ba.size; have zc0 := (ba.cell (p := ⟨gb, 0, none⟩) (show gb < (w2.drew.alloc (.cells #[.int .i64 0, .slice none 0 0] 40)).heap.size by rw [hgb]; simp)).trans ((World.cell?_alloc_at (w := w2.drew) #[.int .i64 0, .slice none 0 0] 40 gb 0 (hgb.trans rfl)).trans (rfl : _ = some (Value.int .i64 0))); have zc1 := (ba.cell (p := ⟨gb, 1, none⟩) (show gb < (w2.drew.alloc (.cells #[.int .i64 0, .slice none 0 0] 40)).heap.size by rw [hgb]; simp)).trans ((World.cell?_alloc_at (w := w2.drew) #[.int .i64 0, .slice none 0 0] 40 gb 1 (hgb.trans rfl)).trans (rfl : _ = some (Value.slice none 0 0))); have zf0 := (ba.frozen (p := ⟨gb, 0, none⟩) (show gb < (w2.drew.alloc (.cells #[.int .i64 0, .slice none 0 0] 40)).heap.size by rw [hgb]; simp)).trans (World.frozen?_alloc_at (w := w2.drew) #[.int .i64 0, .slice none 0 0] 40 gb 0 (hgb.trans rfl)); have zf1 := (ba.frozen (p := ⟨gb, 1, none⟩) (show gb < (w2.drew.alloc (.cells #[.int .i64 0, .slice none 0 0] 40)).heap.size by rw [hgb]; simp)).trans (World.frozen?_alloc_at (w := w2.drew) #[.int .i64 0, .slice none 0 0] 40 gb 1 (hgb.trans rfl)); have hgl : w2.heap.size ≤ gb := (by have := bd.size; rw [hgb]; first | exact this | omega); have zs0 : gb < (w2.drew.alloc (.cells #[.int .i64 0, .slice none 0 0] 40)).heap.size := (by rw [hgb]; simp); have sg1 : ¬ w.heap.size = gb := (by omega); have sg2 : ¬ w.heap.size + 1 = gb := (by omega); have sg3 : ¬ gb = w.heap.size := (by omega); have sg4 : ¬ gb = w.heap.size + 1 := (by omega); rw [← hgb]; clear hgb)
      | (go_simp; go_at_call 43; have zq := zc0; clear zq; refine (toVote A1 n1 c1 z1 t1 wa (h1.on (Below.on (Below.on bW bl) bta)) hn1).mono ?_; rintro e wb ⟨gv, rfl, ov, bb⟩; have btb := bta.trans (Below.mono bb (by have := bta.size; omega)); have e0 := (btb.cell (p := ⟨w.heap.size, 0, none⟩) sP).trans q0; have e1 := (btb.cell (p := ⟨w.heap.size, 1, none⟩) sP).trans q1; have e2 := (btb.cell (p := ⟨w.heap.size + 1, 0, none⟩) sPv).trans qv0; have e3 := (btb.cell (p := ⟨w.heap.size + 1, 1, none⟩) sPv).trans qv1; have va := va.on bb; replace zc0 := (bb.cell (p := ⟨gb, 0, none⟩) zs).trans zc0; replace zc1 := (bb.cell (p := ⟨gb, 1, none⟩) zs).trans zc1; replace zf0 := (bb.frozen (p := ⟨gb, 0, none⟩) zs).trans zf0; replace zf1 := (bb.frozen (p := ⟨gb, 1, none⟩) zs).trans zf1; have zs0 := zs; replace zs := Nat.lt_of_lt_of_le zs bb.size)
      | (go_simp; go_at_call 43; (fail_if_success have zq := zc0); refine (toVote A1 n1 c1 z1 t1 wa (h1.on (Below.on (Below.on bW bl) bta)) hn1).mono ?_; rintro e wb ⟨gv, rfl, ov, bb⟩; have btb := bta.trans (Below.mono bb (by have := bta.size; omega)); have e0 := (btb.cell (p := ⟨w.heap.size, 0, none⟩) sP).trans q0; have e1 := (btb.cell (p := ⟨w.heap.size, 1, none⟩) sP).trans q1; have e2 := (btb.cell (p := ⟨w.heap.size + 1, 0, none⟩) sPv).trans qv0; have e3 := (btb.cell (p := ⟨w.heap.size + 1, 1, none⟩) sPv).trans qv1; have va := va.on bb)
      | (go_simp; go_at_call 43; refine (toVote A1 n1 c1 z1 t1 (wa.alloc (.cells #[.int .i64 0, .slice none 0 0] 40)) (h1.on (Below.on (Below.on bW bl) (Below.alloc bta (by have := bta.size; omega) (.cells #[.int .i64 0, .slice none 0 0] 40)))) hn1).mono ?_; rintro e wb ⟨gv, rfl, ov, bb⟩; have btb := (Below.alloc bta (by have := bta.size; omega) (.cells #[.int .i64 0, .slice none 0 0] 40)).trans (Below.mono bb (by have := (Below.alloc bta (by have := bta.size; omega) (.cells #[.int .i64 0, .slice none 0 0] 40)).size; omega)); have e0 := (btb.cell (p := ⟨w.heap.size, 0, none⟩) sP).trans q0; have e1 := (btb.cell (p := ⟨w.heap.size, 1, none⟩) sP).trans q1; have e2 := (btb.cell (p := ⟨w.heap.size + 1, 0, none⟩) sPv).trans qv0; have e3 := (btb.cell (p := ⟨w.heap.size + 1, 1, none⟩) sPv).trans qv1; have va := (va.on (Below.alloc (Below.refl wa.heap.size wa) (Nat.le_refl _) (.cells #[.int .i64 0, .slice none 0 0] 40))).on bb; obtain ⟨gb, hgb⟩ : ∃ gb, gb = wa.heap.size := ⟨_, rfl⟩; have zs := Nat.lt_of_lt_of_le (show gb < (wa.alloc (.cells #[.int .i64 0, .slice none 0 0] 40)).heap.size by rw [hgb]; simp) bb.size; have zc0 := (bb.cell (p := ⟨gb, 0, none⟩) (show gb < (wa.alloc (.cells #[.int .i64 0, .slice none 0 0] 40)).heap.size by rw [hgb]; simp)).trans ((World.cell?_alloc_at (w := wa) #[.int .i64 0, .slice none 0 0] 40 gb 0 (hgb.trans rfl)).trans (rfl : _ = some (Value.int .i64 0))); have zc1 := (bb.cell (p := ⟨gb, 1, none⟩) (show gb < (wa.alloc (.cells #[.int .i64 0, .slice none 0 0] 40)).heap.size by rw [hgb]; simp)).trans ((World.cell?_alloc_at (w := wa) #[.int .i64 0, .slice none 0 0] 40 gb 1 (hgb.trans rfl)).trans (rfl : _ = some (Value.slice none 0 0))); have zf0 := (bb.frozen (p := ⟨gb, 0, none⟩) (show gb < (wa.alloc (.cells #[.int .i64 0, .slice none 0 0] 40)).heap.size by rw [hgb]; simp)).trans (World.frozen?_alloc_at (w := wa) #[.int .i64 0, .slice none 0 0] 40 gb 0 (hgb.trans rfl)); have zf1 := (bb.frozen (p := ⟨gb, 1, none⟩) (show gb < (wa.alloc (.cells #[.int .i64 0, .slice none 0 0] 40)).heap.size by rw [hgb]; simp)).trans (World.frozen?_alloc_at (w := wa) #[.int .i64 0, .slice none 0 0] 40 gb 1 (hgb.trans rfl)); have hgl : w2.heap.size ≤ gb := (by have := bta.size; rw [hgb]; first | exact this | omega); have zs0 : gb < (wa.alloc (.cells #[.int .i64 0, .slice none 0 0] 40)).heap.size := (by rw [hgb]; simp); have sg1 : ¬ w.heap.size = gb := (by omega); have sg2 : ¬ w.heap.size + 1 = gb := (by omega); have sg3 : ¬ gb = w.heap.size := (by omega); have sg4 : ¬ gb = w.heap.size + 1 := (by omega); rw [← hgb]; clear hgb)
      | (go_simp; go_at_call 42; refine (specAddVote m _ n n z _ n1 n1 z1 t1 (wb.alloc (.cells #[.int .i64 0, .slice none 0 0] 40)) (va.on (Below.alloc (Below.refl wb.heap.size wb) (Nat.le_refl _) (.cells #[.int .i64 0, .slice none 0 0] 40))) hn HM.out ((Ints.of_own ov).on (Below.alloc (Below.refl wb.heap.size wb) (Nat.le_refl _) (.cells #[.int .i64 0, .slice none 0 0] 40))) hn1).mono ?_; rintro e wd ⟨Ax, cx, Gx, Cx, rfl, ox, bdd⟩; have btd := (Below.alloc btb (by have := btb.size; omega) (.cells #[.int .i64 0, .slice none 0 0] 40)).trans (Below.mono bdd (by have := (Below.alloc btb (by have := btb.size; omega) (.cells #[.int .i64 0, .slice none 0 0] 40)).size; omega)); have e0 := (btd.cell (p := ⟨w.heap.size, 0, none⟩) sP).trans q0; have e1 := (btd.cell (p := ⟨w.heap.size, 1, none⟩) sP).trans q1; have e2 := (btd.cell (p := ⟨w.heap.size + 1, 0, none⟩) sPv).trans qv0; have e3 := (btd.cell (p := ⟨w.heap.size + 1, 1, none⟩) sPv).trans qv1; have sdn1 : ¬ w.heap.size = wd.heap.size := (by have := btd.size; omega); have sdn2 : ¬ w.heap.size + 1 = wd.heap.size := (by have := btd.size; omega); obtain ⟨gb, hgb⟩ : ∃ gb, gb = wb.heap.size := ⟨_, rfl⟩; have zs := Nat.lt_of_lt_of_le (show gb < (wb.alloc (.cells #[.int .i64 0, .slice none 0 0] 40)).heap.size by rw [hgb]; simp) bdd.size; have zc0 := (bdd.cell (p := ⟨gb, 0, none⟩) (show gb < (wb.alloc (.cells #[.int .i64 0, .slice none 0 0] 40)).heap.size by rw [hgb]; simp)).trans ((World.cell?_alloc_at (w := wb) #[.int .i64 0, .slice none 0 0] 40 gb 0 (hgb.trans rfl)).trans (rfl : _ = some (Value.int .i64 0))); have zc1 := (bdd.cell (p := ⟨gb, 1, none⟩) (show gb < (wb.alloc (.cells #[.int .i64 0, .slice none 0 0] 40)).heap.size by rw [hgb]; simp)).trans ((World.cell?_alloc_at (w := wb) #[.int .i64 0, .slice none 0 0] 40 gb 1 (hgb.trans rfl)).trans (rfl : _ = some (Value.slice none 0 0))); have zf0 := (bdd.frozen (p := ⟨gb, 0, none⟩) (show gb < (wb.alloc (.cells #[.int .i64 0, .slice none 0 0] 40)).heap.size by rw [hgb]; simp)).trans (World.frozen?_alloc_at (w := wb) #[.int .i64 0, .slice none 0 0] 40 gb 0 (hgb.trans rfl)); have zf1 := (bdd.frozen (p := ⟨gb, 1, none⟩) (show gb < (wb.alloc (.cells #[.int .i64 0, .slice none 0 0] 40)).heap.size by rw [hgb]; simp)).trans (World.frozen?_alloc_at (w := wb) #[.int .i64 0, .slice none 0 0] 40 gb 1 (hgb.trans rfl)); have hgl : w2.heap.size ≤ gb := (by have := btb.size; rw [hgb]; first | exact this | omega); have zs0 : gb < (wb.alloc (.cells #[.int .i64 0, .slice none 0 0] 40)).heap.size := (by rw [hgb]; simp); have sg1 : ¬ w.heap.size = gb := (by omega); have sg2 : ¬ w.heap.size + 1 = gb := (by omega); have sg3 : ¬ gb = w.heap.size := (by omega); have sg4 : ¬ gb = w.heap.size + 1 := (by omega); rw [← hgb]; clear hgb)
      | (go_simp; go_at_call 42; (fail_if_success have zq := zc0); refine (specAddVote m _ n n z _ n1 n1 z1 t1 wb va hn HM.out (Ints.of_own ov) hn1).mono ?_; rintro e wd ⟨Ax, cx, Gx, Cx, rfl, ox, bdd⟩; have btd := btb.trans (Below.mono bdd (by have := btb.size; omega)); have e0 := (btd.cell (p := ⟨w.heap.size, 0, none⟩) sP).trans q0; have e1 := (btd.cell (p := ⟨w.heap.size, 1, none⟩) sP).trans q1; have e2 := (btd.cell (p := ⟨w.heap.size + 1, 0, none⟩) sPv).trans qv0; have e3 := (btd.cell (p := ⟨w.heap.size + 1, 1, none⟩) sPv).trans qv1; have sdn1 : ¬ w.heap.size = wd.heap.size := (by have := btd.size; omega); have sdn2 : ¬ w.heap.size + 1 = wd.heap.size := (by have := btd.size; omega))
      | (go_simp; go_at_call 42; have zq := zc0; clear zq; refine (specAddVote m _ n n z _ n1 n1 z1 t1 wb va hn HM.out (Ints.of_own ov) hn1).mono ?_; rintro e wd ⟨Ax, cx, Gx, Cx, rfl, ox, bdd⟩; have btd := btb.trans (Below.mono bdd (by have := btb.size; omega)); have e0 := (btd.cell (p := ⟨w.heap.size, 0, none⟩) sP).trans q0; have e1 := (btd.cell (p := ⟨w.heap.size, 1, none⟩) sP).trans q1; have e2 := (btd.cell (p := ⟨w.heap.size + 1, 0, none⟩) sPv).trans qv0; have e3 := (btd.cell (p := ⟨w.heap.size + 1, 1, none⟩) sPv).trans qv1; have sdn1 : ¬ w.heap.size = wd.heap.size := (by have := btd.size; omega); have sdn2 : ¬ w.heap.size + 1 = wd.heap.size := (by have := btd.size; omega); replace zc0 := (bdd.cell (p := ⟨gb, 0, none⟩) zs).trans zc0; replace zc1 := (bdd.cell (p := ⟨gb, 1, none⟩) zs).trans zc1; replace zf0 := (bdd.frozen (p := ⟨gb, 0, none⟩) zs).trans zf0; replace zf1 := (bdd.frozen (p := ⟨gb, 1, none⟩) zs).trans zf1; have zs0 := zs; replace zs := Nat.lt_of_lt_of_le zs bdd.size))
    all_goals go_simp
    all_goals go_wp2_with fail
    all_goals go_meet
    all_goals have szd := btd.size
    all_goals have szb := btb.size
    all_goals first
      | exact ⟨wd.heap.size, Ax, cx, Gx, Cx, rfl, rfl, (ox.on ((Below.refl wd.heap.size wd).alloc (Nat.le_refl _) _)).mono szb, by simp, by simp, szd, by simp, btd.alloc szd _⟩
      | exact ⟨gb, Ax, cx, Gx, Cx, rfl, rfl, ((ox.setOther (p := ⟨gb, 0, none⟩) zs0 _).setOther (p := ⟨gb, 1, none⟩) zs0 _).mono (by first | exact szb | (simp; omega)), by simp [go_sem, zc0], by simp [go_sem, zc1], hgl, by simp; exact zs, (btd.setCell (p := ⟨gb, 0, none⟩) hgl _).setCell (p := ⟨gb, 1, none⟩) hgl _⟩
  case rest =>
    clear q0 q1 qv0 qv1 sP sPv
    obtain ⟨gbr, Ar, cr, Gr, Cr, rfl, rfl, r, br0, br1, brl, brs, b⟩ := hcut
    obtain ⟨w3, rfl⟩ : ∃ wX : World, wX = wc := ⟨_, rfl⟩
    have bl := Below.on bl b
    have bS := Below.on bS b
    have sz3 := b.size
    clear b
    clear bS
    have bS := Below.refl w3.heap.size w3
    have lr := r.inn
    have gr := r.ge
    have q0 := (bl.cell (p := ⟨w.heap.size, 0, none⟩) sW).trans k0
    have qv0 := (bl.cell (p := ⟨w.heap.size + 1, 0, none⟩) sWv).trans kv0
    have q1 := (bl.cell (p := ⟨w.heap.size, 1, none⟩) sW).trans k1
    have qv1 := (bl.cell (p := ⟨w.heap.size + 1, 1, none⟩) sWv).trans kv1
    have sP := Nat.lt_of_lt_of_le sW bl.size
    have sPv := Nat.lt_of_lt_of_le sWv bl.size
    have br0q := (bS.cell (p := ⟨gbr, 0, none⟩) brs).trans br0
    have br1q := (bS.cell (p := ⟨gbr, 1, none⟩) brs).trans br1
    go_wp2_with fail
    clear q0 q1 qv0 qv1 sP sPv br0q br1q
    refine (toProfileD m A n c z _ (h.on (Below.on bW bl)) hn HM.out).mono ?_; rintro e w4 ⟨gx, rfl, ⟨Gpx, px⟩, b⟩
    have bl := Below.on bl b
    have bS := Below.on bS b
    have sz4 := b.size
    clear b
    have r := (r.on bS)
    have br0 := (bS.cell (p := ⟨gbr, 0, none⟩) brs).trans br0
    have br1 := (bS.cell (p := ⟨gbr, 1, none⟩) brs).trans br1
    have brs := Nat.lt_of_lt_of_le brs bS.size
    clear bS
    have bS := Below.refl w4.heap.size w4
    have hin := px.inn
    have b : Below w4.heap.size w4 (w4.alloc (.cells #[.int .i64 m, .slice (some ⟨gx, 0, none⟩) n n] 40)) := (Below.refl _ _).alloc (Nat.le_refl _) _
    have bx0 : (w4.alloc (.cells #[.int .i64 m, .slice (some ⟨gx, 0, none⟩) n n] 40)).cell? ⟨w4.heap.size, 0, none⟩ = some (.int .i64 m) := by simp
    have bx1 : (w4.alloc (.cells #[.int .i64 m, .slice (some ⟨gx, 0, none⟩) n n] 40)).cell? ⟨w4.heap.size, 1, none⟩ = some (.slice (some ⟨gx, 0, none⟩) n n) := by simp
    have bxs : w4.heap.size < (w4.alloc (.cells #[.int .i64 m, .slice (some ⟨gx, 0, none⟩) n n] 40)).heap.size := by simp
    have bl := Below.on bl b
    have bS := Below.on bS b
    have sz5 := b.size
    clear b
    have q0 := (bl.cell (p := ⟨w.heap.size, 0, none⟩) sW).trans k0
    have qv0 := (bl.cell (p := ⟨w.heap.size + 1, 0, none⟩) sWv).trans kv0
    have q1 := (bl.cell (p := ⟨w.heap.size, 1, none⟩) sW).trans k1
    have qv1 := (bl.cell (p := ⟨w.heap.size + 1, 1, none⟩) sWv).trans kv1
    have sP := Nat.lt_of_lt_of_le sW bl.size
    have sPv := Nat.lt_of_lt_of_le sWv bl.size
    have br0q := (bS.cell (p := ⟨gbr, 0, none⟩) brs).trans br0
    have br1q := (bS.cell (p := ⟨gbr, 1, none⟩) brs).trans br1
    go_wp2_with fail
    clear q0 q1 qv0 qv1 sP sPv br0q br1q
    generalize (w4.alloc (.cells #[.int .i64 m, .slice (some ⟨gx, 0, none⟩) n n] 40)) = Xbx at *
    have r := (r.on bS)
    have px := (px.on bS)
    have br0 := (bS.cell (p := ⟨gbr, 0, none⟩) brs).trans br0
    have br1 := (bS.cell (p := ⟨gbr, 1, none⟩) brs).trans br1
    have brs := Nat.lt_of_lt_of_le brs bS.size
    clear bS
    have bS := Below.refl Xbx.heap.size Xbx
    refine (toVote A1 n1 c1 z1 t1 _ (h1.on (Below.on bW bl)) hn1).mono ?_; rintro e w6 ⟨gxv, rfl, xv, b⟩
    have bl := Below.on bl b
    have bS := Below.on bS b
    have sz6 := b.size
    clear b
    have r := (r.on bS)
    have px := (px.on bS)
    have br0 := (bS.cell (p := ⟨gbr, 0, none⟩) brs).trans br0
    have br1 := (bS.cell (p := ⟨gbr, 1, none⟩) brs).trans br1
    have brs := Nat.lt_of_lt_of_le brs bS.size
    have bx0 := (bS.cell (p := ⟨w4.heap.size, 0, none⟩) bxs).trans bx0
    have bx1 := (bS.cell (p := ⟨w4.heap.size, 1, none⟩) bxs).trans bx1
    have bxs := Nat.lt_of_lt_of_le bxs bS.size
    clear bS
    have bS := Below.refl w6.heap.size w6
    have lxv := own_ge xv
    have b : Below w6.heap.size w6 (w6.alloc (.cells #[.slice (some ⟨gxv, 0, none⟩) n1 n1, .int .i64 t1] 62)) := (Below.refl _ _).alloc (Nat.le_refl _) _
    have by0 : (w6.alloc (.cells #[.slice (some ⟨gxv, 0, none⟩) n1 n1, .int .i64 t1] 62)).cell? ⟨w6.heap.size, 0, none⟩ = some (.slice (some ⟨gxv, 0, none⟩) n1 n1) := by simp
    have by1 : (w6.alloc (.cells #[.slice (some ⟨gxv, 0, none⟩) n1 n1, .int .i64 t1] 62)).cell? ⟨w6.heap.size, 1, none⟩ = some (.int .i64 t1) := by simp
    have bys : w6.heap.size < (w6.alloc (.cells #[.slice (some ⟨gxv, 0, none⟩) n1 n1, .int .i64 t1] 62)).heap.size := by simp
    have bl := Below.on bl b
    have bS := Below.on bS b
    have sz7 := b.size
    clear b
    have q0 := (bl.cell (p := ⟨w.heap.size, 0, none⟩) sW).trans k0
    have qv0 := (bl.cell (p := ⟨w.heap.size + 1, 0, none⟩) sWv).trans kv0
    have q1 := (bl.cell (p := ⟨w.heap.size, 1, none⟩) sW).trans k1
    have qv1 := (bl.cell (p := ⟨w.heap.size + 1, 1, none⟩) sWv).trans kv1
    have sP := Nat.lt_of_lt_of_le sW bl.size
    have sPv := Nat.lt_of_lt_of_le sWv bl.size
    have br0q := (bS.cell (p := ⟨gbr, 0, none⟩) brs).trans br0
    have br1q := (bS.cell (p := ⟨gbr, 1, none⟩) brs).trans br1
    have bx0q := (bS.cell (p := ⟨w4.heap.size, 0, none⟩) bxs).trans bx0
    have bx1q := (bS.cell (p := ⟨w4.heap.size, 1, none⟩) bxs).trans bx1
    go_wp2_with fail
    clear q0 q1 qv0 qv1 sP sPv br0q br1q bx0q bx1q
    generalize (w6.alloc (.cells #[.slice (some ⟨gxv, 0, none⟩) n1 n1, .int .i64 t1] 62)) = Xby at *
    have r := (r.on bS)
    have px := (px.on bS)
    have xv := (own_below xv bS (Nat.le_refl _))
    have br0 := (bS.cell (p := ⟨gbr, 0, none⟩) brs).trans br0
    have br1 := (bS.cell (p := ⟨gbr, 1, none⟩) brs).trans br1
    have brs := Nat.lt_of_lt_of_le brs bS.size
    have bx0 := (bS.cell (p := ⟨w4.heap.size, 0, none⟩) bxs).trans bx0
    have bx1 := (bS.cell (p := ⟨w4.heap.size, 1, none⟩) bxs).trans bx1
    have bxs := Nat.lt_of_lt_of_le bxs bS.size
    clear bS
    have bS := Below.refl Xby.heap.size Xby
    refine (implAddVote m _ n n z _ n1 n1 z1 t1 _ ((px.on bS).votes h.1 (fun _ _ => rfl) (fun _ _ => rfl)) hn HM.out (Ints.of_own (own_below xv bS (Nat.le_refl _))) hn1).mono ?_; rintro e w8 ⟨Ag, cg, Gg, Cg, rfl, g, b⟩
    have bl := Below.on bl b
    have bS := Below.on bS b
    have sz8 := b.size
    clear b
    have r := (r.on bS)
    have px := (px.on bS)
    have xv := (own_below xv bS (Nat.le_refl _))
    have br0 := (bS.cell (p := ⟨gbr, 0, none⟩) brs).trans br0
    have br1 := (bS.cell (p := ⟨gbr, 1, none⟩) brs).trans br1
    have brs := Nat.lt_of_lt_of_le brs bS.size
    have bx0 := (bS.cell (p := ⟨w4.heap.size, 0, none⟩) bxs).trans bx0
    have bx1 := (bS.cell (p := ⟨w4.heap.size, 1, none⟩) bxs).trans bx1
    have bxs := Nat.lt_of_lt_of_le bxs bS.size
    have by0 := (bS.cell (p := ⟨w6.heap.size, 0, none⟩) bys).trans by0
    have by1 := (bS.cell (p := ⟨w6.heap.size, 1, none⟩) bys).trans by1
    have bys := Nat.lt_of_lt_of_le bys bS.size
    clear bS
    have bS := Below.refl w8.heap.size w8
    have lg := g.inn
    have gg := g.ge
    have tzg : w8.heap.size = w8.heap.size := rfl
    have b : Below w8.heap.size w8 (w8.alloc (.cells #[.int .i64 (adM m z z1 t1), .slice Ag (adV m z z1 t1).length cg] 40)) := (Below.refl _ _).alloc (Nat.le_refl _) _
    have bg0 : (w8.alloc (.cells #[.int .i64 (adM m z z1 t1), .slice Ag (adV m z z1 t1).length cg] 40)).cell? ⟨w8.heap.size, 0, none⟩ = some (.int .i64 (adM m z z1 t1)) := by simp
    have bg1 : (w8.alloc (.cells #[.int .i64 (adM m z z1 t1), .slice Ag (adV m z z1 t1).length cg] 40)).cell? ⟨w8.heap.size, 1, none⟩ = some (.slice Ag (adV m z z1 t1).length cg) := by simp
    have bgs : w8.heap.size < (w8.alloc (.cells #[.int .i64 (adM m z z1 t1), .slice Ag (adV m z z1 t1).length cg] 40)).heap.size := by simp
    have bl := Below.on bl b
    have bS := Below.on bS b
    have sz9 := b.size
    clear b
    have q0 := (bl.cell (p := ⟨w.heap.size, 0, none⟩) sW).trans k0
    have qv0 := (bl.cell (p := ⟨w.heap.size + 1, 0, none⟩) sWv).trans kv0
    have q1 := (bl.cell (p := ⟨w.heap.size, 1, none⟩) sW).trans k1
    have qv1 := (bl.cell (p := ⟨w.heap.size + 1, 1, none⟩) sWv).trans kv1
    have sP := Nat.lt_of_lt_of_le sW bl.size
    have sPv := Nat.lt_of_lt_of_le sWv bl.size
    have br0q := (bS.cell (p := ⟨gbr, 0, none⟩) brs).trans br0
    have br1q := (bS.cell (p := ⟨gbr, 1, none⟩) brs).trans br1
    have bx0q := (bS.cell (p := ⟨w4.heap.size, 0, none⟩) bxs).trans bx0
    have bx1q := (bS.cell (p := ⟨w4.heap.size, 1, none⟩) bxs).trans bx1
    have by0q := (bS.cell (p := ⟨w6.heap.size, 0, none⟩) bys).trans by0
    have by1q := (bS.cell (p := ⟨w6.heap.size, 1, none⟩) bys).trans by1
    go_wp2_with fail
    clear q0 q1 qv0 qv1 sP sPv br0q br1q bx0q bx1q by0q by1q
    generalize (w8.alloc (.cells #[.int .i64 (adM m z z1 t1), .slice Ag (adV m z z1 t1).length cg] 40)) = Xbg at *
    have r := (r.on bS)
    have px := (px.on bS)
    have xv := (own_below xv bS (Nat.le_refl _))
    have g := (g.on bS)
    have br0 := (bS.cell (p := ⟨gbr, 0, none⟩) brs).trans br0
    have br1 := (bS.cell (p := ⟨gbr, 1, none⟩) brs).trans br1
    have brs := Nat.lt_of_lt_of_le brs bS.size
    have bx0 := (bS.cell (p := ⟨w4.heap.size, 0, none⟩) bxs).trans bx0
    have bx1 := (bS.cell (p := ⟨w4.heap.size, 1, none⟩) bxs).trans bx1
    have bxs := Nat.lt_of_lt_of_le bxs bS.size
    have by0 := (bS.cell (p := ⟨w6.heap.size, 0, none⟩) bys).trans by0
    have by1 := (bS.cell (p := ⟨w6.heap.size, 1, none⟩) bys).trans by1
    have bys := Nat.lt_of_lt_of_le bys bS.size
    clear bS
    have bS := Below.refl Xbg.heap.size Xbg
    refine (eqProfile (adM m z z1 t1) _ _ (adV m z z1 t1).length _ _ (adV m z z1 t1) _ ((g.on bS).votes rfl (fun _ _ => rfl) (fun _ _ => rfl)) ((r.on bS).votes rfl (fun _ _ => rfl) (fun _ _ => rfl)) hng HYG.out).mono ?_; rintro e w10 ⟨rfl, b⟩
    have bl := Below.on bl b
    have bS := Below.on bS b
    have sz10 := b.size
    clear b
    have q0 := (bl.cell (p := ⟨w.heap.size, 0, none⟩) sW).trans k0
    have qv0 := (bl.cell (p := ⟨w.heap.size + 1, 0, none⟩) sWv).trans kv0
    have q1 := (bl.cell (p := ⟨w.heap.size, 1, none⟩) sW).trans k1
    have qv1 := (bl.cell (p := ⟨w.heap.size + 1, 1, none⟩) sWv).trans kv1
    have sP := Nat.lt_of_lt_of_le sW bl.size
    have sPv := Nat.lt_of_lt_of_le sWv bl.size
    have br0q := (bS.cell (p := ⟨gbr, 0, none⟩) brs).trans br0
    have br1q := (bS.cell (p := ⟨gbr, 1, none⟩) brs).trans br1
    have bx0q := (bS.cell (p := ⟨w4.heap.size, 0, none⟩) bxs).trans bx0
    have bx1q := (bS.cell (p := ⟨w4.heap.size, 1, none⟩) bxs).trans bx1
    have by0q := (bS.cell (p := ⟨w6.heap.size, 0, none⟩) bys).trans by0
    have by1q := (bS.cell (p := ⟨w6.heap.size, 1, none⟩) bys).trans by1
    have bg0q := (bS.cell (p := ⟨w8.heap.size, 0, none⟩) bgs).trans bg0
    have bg1q := (bS.cell (p := ⟨w8.heap.size, 1, none⟩) bgs).trans bg1
    go_upto_region 14 with fail
    go_cut [58] (fun u wx => u = .bool false ∧ Below w10.heap.size w10 wx)
    case first =>
      have bd := Below.drew (Below.refl w10.heap.size w10)
      go_region_with (first | (go_at_call 20; refine (toProfileD m A n c z _ (h.on (Below.on (Below.on bW bl) bd)) hn HM.out).mono ?_; rintro e wp ⟨gc, rfl, ⟨Gc, vc⟩, hb⟩; have bt := bd.trans hb; have vc := vc.votes h.1 (fun _ _ => rfl) (fun _ _ => rfl); have vx := (px.on (Below.on bS bt)).votes h.1 (fun _ _ => rfl) (fun _ _ => rfl); have bx0r := (bt.cell (p := ⟨w4.heap.size, 0, none⟩) (Nat.lt_of_lt_of_le bxs bS.size)).trans bx0q; have bx1r := (bt.cell (p := ⟨w4.heap.size, 1, none⟩) (Nat.lt_of_lt_of_le bxs bS.size)).trans bx1q) | (go_at_call 22; refine (eqProfile m _ _ n _ _ z _ vx vc hn HM.out).mono ?_; rintro e wq ⟨rfl, hq⟩; have bt := Below.on bt hq))
      all_goals go_wp2_with fail
      all_goals go_meet
      all_goals first | exact ⟨rfl, bt⟩ | exact ⟨rfl, bt.drew⟩
    case rest =>
      clear q0 q1 qv0 qv1 sP sPv br0q br1q bx0q bx1q by0q by1q bg0q bg1q
      obtain ⟨rfl, b⟩ := hcut
      obtain ⟨w11, rfl⟩ : ∃ wX : World, wX = wc := ⟨_, rfl⟩
      have bl := Below.on bl b
      have bS := Below.on bS b
      have sz11 := b.size
      clear b
      have r := (r.on bS)
      have px := (px.on bS)
      have xv := (own_below xv bS (Nat.le_refl _))
      have g := (g.on bS)
      have br0 := (bS.cell (p := ⟨gbr, 0, none⟩) brs).trans br0
      have br1 := (bS.cell (p := ⟨gbr, 1, none⟩) brs).trans br1
      have brs := Nat.lt_of_lt_of_le brs bS.size
      have bx0 := (bS.cell (p := ⟨w4.heap.size, 0, none⟩) bxs).trans bx0
      have bx1 := (bS.cell (p := ⟨w4.heap.size, 1, none⟩) bxs).trans bx1
      have bxs := Nat.lt_of_lt_of_le bxs bS.size
      have by0 := (bS.cell (p := ⟨w6.heap.size, 0, none⟩) bys).trans by0
      have by1 := (bS.cell (p := ⟨w6.heap.size, 1, none⟩) bys).trans by1
      have bys := Nat.lt_of_lt_of_le bys bS.size
      have bg0 := (bS.cell (p := ⟨w8.heap.size, 0, none⟩) bgs).trans bg0
      have bg1 := (bS.cell (p := ⟨w8.heap.size, 1, none⟩) bgs).trans bg1
      have bgs := Nat.lt_of_lt_of_le bgs bS.size
      clear bS
      have bS := Below.refl w11.heap.size w11
      have q0 := (bl.cell (p := ⟨w.heap.size, 0, none⟩) sW).trans k0
      have qv0 := (bl.cell (p := ⟨w.heap.size + 1, 0, none⟩) sWv).trans kv0
      have q1 := (bl.cell (p := ⟨w.heap.size, 1, none⟩) sW).trans k1
      have qv1 := (bl.cell (p := ⟨w.heap.size + 1, 1, none⟩) sWv).trans kv1
      have sP := Nat.lt_of_lt_of_le sW bl.size
      have sPv := Nat.lt_of_lt_of_le sWv bl.size
      have br0q := (bS.cell (p := ⟨gbr, 0, none⟩) brs).trans br0
      have br1q := (bS.cell (p := ⟨gbr, 1, none⟩) brs).trans br1
      have bx0q := (bS.cell (p := ⟨w4.heap.size, 0, none⟩) bxs).trans bx0
      have bx1q := (bS.cell (p := ⟨w4.heap.size, 1, none⟩) bxs).trans bx1
      have by0q := (bS.cell (p := ⟨w6.heap.size, 0, none⟩) bys).trans by0
      have by1q := (bS.cell (p := ⟨w6.heap.size, 1, none⟩) bys).trans by1
      have bg0q := (bS.cell (p := ⟨w8.heap.size, 0, none⟩) bgs).trans bg0
      have bg1q := (bS.cell (p := ⟨w8.heap.size, 1, none⟩) bgs).trans bg1
      go_upto_region 16 with fail
      go_cut [63] (fun u wx => u = .bool false ∧ Below w11.heap.size w11 wx)
      case first =>
        have bd := Below.drew (Below.refl w11.heap.size w11)
        go_region_with (first | (go_at_call 43; refine (toVote A1 n1 c1 z1 t1 _ (h1.on (Below.on (Below.on bW bl) bd)) hn1).mono ?_; rintro e wp ⟨gc, rfl, ovc, hb⟩; have bt := bd.trans hb; have ovx := own_below xv (Below.on bS bt) (Nat.le_refl _); have by0r := (bt.cell (p := ⟨w6.heap.size, 0, none⟩) (Nat.lt_of_lt_of_le bys bS.size)).trans by0q; have by1r := (bt.cell (p := ⟨w6.heap.size, 1, none⟩) (Nat.lt_of_lt_of_le bys bS.size)).trans by1q) | (go_at_call 45; refine (eqVote _ _ n1 _ _ z1 t1 _ (Ints.of_own ovx) (Ints.of_own ovc) hn1).mono ?_; rintro e wq ⟨rfl, hq⟩; have bt := Below.on bt hq))
        all_goals go_wp2_with fail
        all_goals go_meet
        all_goals first | exact ⟨rfl, bt⟩ | exact ⟨rfl, bt.drew⟩
      case rest =>
        clear q0 q1 qv0 qv1 sP sPv br0q br1q bx0q bx1q by0q by1q bg0q bg1q
        obtain ⟨rfl, b⟩ := hcut
        obtain ⟨w12, rfl⟩ : ∃ wX : World, wX = wc := ⟨_, rfl⟩
        have bl := Below.on bl b
        have bS := Below.on bS b
        have sz12 := b.size
        clear b
        have r := (r.on bS)
        have px := (px.on bS)
        have xv := (own_below xv bS (Nat.le_refl _))
        have g := (g.on bS)
        have br0 := (bS.cell (p := ⟨gbr, 0, none⟩) brs).trans br0
        have br1 := (bS.cell (p := ⟨gbr, 1, none⟩) brs).trans br1
        have brs := Nat.lt_of_lt_of_le brs bS.size
        have bx0 := (bS.cell (p := ⟨w4.heap.size, 0, none⟩) bxs).trans bx0
        have bx1 := (bS.cell (p := ⟨w4.heap.size, 1, none⟩) bxs).trans bx1
        have bxs := Nat.lt_of_lt_of_le bxs bS.size
        have by0 := (bS.cell (p := ⟨w6.heap.size, 0, none⟩) bys).trans by0
        have by1 := (bS.cell (p := ⟨w6.heap.size, 1, none⟩) bys).trans by1
        have bys := Nat.lt_of_lt_of_le bys bS.size
        have bg0 := (bS.cell (p := ⟨w8.heap.size, 0, none⟩) bgs).trans bg0
        have bg1 := (bS.cell (p := ⟨w8.heap.size, 1, none⟩) bgs).trans bg1
        have bgs := Nat.lt_of_lt_of_le bgs bS.size
        clear bS
        have bS := Below.refl w12.heap.size w12
        have q0 := (bl.cell (p := ⟨w.heap.size, 0, none⟩) sW).trans k0
        have qv0 := (bl.cell (p := ⟨w.heap.size + 1, 0, none⟩) sWv).trans kv0
        have q1 := (bl.cell (p := ⟨w.heap.size, 1, none⟩) sW).trans k1
        have qv1 := (bl.cell (p := ⟨w.heap.size + 1, 1, none⟩) sWv).trans kv1
        have sP := Nat.lt_of_lt_of_le sW bl.size
        have sPv := Nat.lt_of_lt_of_le sWv bl.size
        have br0q := (bS.cell (p := ⟨gbr, 0, none⟩) brs).trans br0
        have br1q := (bS.cell (p := ⟨gbr, 1, none⟩) brs).trans br1
        have bx0q := (bS.cell (p := ⟨w4.heap.size, 0, none⟩) bxs).trans bx0
        have bx1q := (bS.cell (p := ⟨w4.heap.size, 1, none⟩) bxs).trans bx1
        have by0q := (bS.cell (p := ⟨w6.heap.size, 0, none⟩) bys).trans by0
        have by1q := (bS.cell (p := ⟨w6.heap.size, 1, none⟩) bys).trans by1
        have bg0q := (bS.cell (p := ⟨w8.heap.size, 0, none⟩) bgs).trans bg0
        have bg1q := (bS.cell (p := ⟨w8.heap.size, 1, none⟩) bgs).trans bg1
        go_wp2_with fail
        clear q0 q1 qv0 qv1 sP sPv br0q br1q bx0q bx1q by0q by1q bg0q bg1q
        refine (markProfile m _ n n _ _ _ _ _ 1 _ _ (px.on bS) hin hn HM.out (by omega)).mono ?_; rintro e w13 ⟨rfl, _, mid⟩
        have r := (r.on bS).mid mid (fun a ha => by have h1 := gr a ha; omega) (fun k hk a ha => by have h1 := lr.2 k hk a ha; have h2 := (own_ge (r.each k hk) a ha).1; omega)
        have xv := own_mid (own_below xv bS (Nat.le_refl _)) mid (fun a ha => by have h1 := lxv a ha; omega)
        have g := (g.on bS).mid mid (fun a ha => by have h1 := gg a ha; omega) (fun k hk a ha => by have h1 := lg.2 k hk a ha; have h2 := (own_ge (g.each k hk) a ha).1; omega)
        have br0 := (mid.cell (p := ⟨gbr, 0, none⟩) (Nat.lt_of_lt_of_le brs bS.size) (by show gbr < _ ∨ _ ≤ gbr; omega)).trans ((bS.cell (p := ⟨gbr, 0, none⟩) brs).trans br0)
        have br1 := (mid.cell (p := ⟨gbr, 1, none⟩) (Nat.lt_of_lt_of_le brs bS.size) (by show gbr < _ ∨ _ ≤ gbr; omega)).trans ((bS.cell (p := ⟨gbr, 1, none⟩) brs).trans br1)
        have brs := Nat.lt_of_lt_of_le brs (Nat.le_trans bS.size mid.size)
        have by0 := (mid.cell (p := ⟨w6.heap.size, 0, none⟩) (Nat.lt_of_lt_of_le bys bS.size) (by show w6.heap.size < _ ∨ _ ≤ w6.heap.size; omega)).trans ((bS.cell (p := ⟨w6.heap.size, 0, none⟩) bys).trans by0)
        have by1 := (mid.cell (p := ⟨w6.heap.size, 1, none⟩) (Nat.lt_of_lt_of_le bys bS.size) (by show w6.heap.size < _ ∨ _ ≤ w6.heap.size; omega)).trans ((bS.cell (p := ⟨w6.heap.size, 1, none⟩) bys).trans by1)
        have bys := Nat.lt_of_lt_of_le bys (Nat.le_trans bS.size mid.size)
        have bg0 := (mid.cell (p := ⟨w8.heap.size, 0, none⟩) (Nat.lt_of_lt_of_le bgs bS.size) (by show w8.heap.size < _ ∨ _ ≤ w8.heap.size; omega)).trans ((bS.cell (p := ⟨w8.heap.size, 0, none⟩) bgs).trans bg0)
        have bg1 := (mid.cell (p := ⟨w8.heap.size, 1, none⟩) (Nat.lt_of_lt_of_le bgs bS.size) (by show w8.heap.size < _ ∨ _ ≤ w8.heap.size; omega)).trans ((bS.cell (p := ⟨w8.heap.size, 1, none⟩) bgs).trans bg1)
        have bgs := Nat.lt_of_lt_of_le bgs (Nat.le_trans bS.size mid.size)
        have bl := Below.mid bl mid (by omega) (by omega)
        have sz13 := mid.size
        clear mid bS
        have bS := Below.refl w13.heap.size w13
        have hpr := prv_le (rk z) n HM.out n (Nat.le_refl _)
        have q0 := (bl.cell (p := ⟨w.heap.size, 0, none⟩) sW).trans k0
        have qv0 := (bl.cell (p := ⟨w.heap.size + 1, 0, none⟩) sWv).trans kv0
        have q1 := (bl.cell (p := ⟨w.heap.size, 1, none⟩) sW).trans k1
        have qv1 := (bl.cell (p := ⟨w.heap.size + 1, 1, none⟩) sWv).trans kv1
        have sP := Nat.lt_of_lt_of_le sW bl.size
        have sPv := Nat.lt_of_lt_of_le sWv bl.size
        have br0q := (bS.cell (p := ⟨gbr, 0, none⟩) brs).trans br0
        have br1q := (bS.cell (p := ⟨gbr, 1, none⟩) brs).trans br1
        have by0q := (bS.cell (p := ⟨w6.heap.size, 0, none⟩) bys).trans by0
        have by1q := (bS.cell (p := ⟨w6.heap.size, 1, none⟩) bys).trans by1
        have bg0q := (bS.cell (p := ⟨w8.heap.size, 0, none⟩) bgs).trans bg0
        have bg1q := (bS.cell (p := ⟨w8.heap.size, 1, none⟩) bgs).trans bg1
        go_wp2_with fail
        clear q0 q1 qv0 qv1 sP sPv br0q br1q by0q by1q bg0q bg1q
        refine (markVote _ _ _ _ _ t1 (1 + (prv (rk z) n : Int)) _ (own_below xv bS (Nat.le_refl _)) hn1 (by omega)).mono ?_; rintro e w14 ⟨rfl, o, grw⟩
        have mid := Mid.of_grown (lo := Xbx.heap.size) (hi := w6.heap.size) grw (fun q hq => by obtain ⟨a1, ha1, he⟩ := map_block hq.symm; have h2 := lxv a1 ha1; omega)
        have r := (r.on bS).mid mid (fun a ha => by have h1 := gr a ha; omega) (fun k hk a ha => by have h1 := lr.2 k hk a ha; have h2 := (own_ge (r.each k hk) a ha).1; omega)
        have g := (g.on bS).mid mid (fun a ha => by have h1 := gg a ha; omega) (fun k hk a ha => by have h1 := lg.2 k hk a ha; have h2 := (own_ge (g.each k hk) a ha).1; omega)
        have br0 := (mid.cell (p := ⟨gbr, 0, none⟩) (Nat.lt_of_lt_of_le brs bS.size) (by show gbr < _ ∨ _ ≤ gbr; omega)).trans ((bS.cell (p := ⟨gbr, 0, none⟩) brs).trans br0)
        have br1 := (mid.cell (p := ⟨gbr, 1, none⟩) (Nat.lt_of_lt_of_le brs bS.size) (by show gbr < _ ∨ _ ≤ gbr; omega)).trans ((bS.cell (p := ⟨gbr, 1, none⟩) brs).trans br1)
        have brs := Nat.lt_of_lt_of_le brs (Nat.le_trans bS.size mid.size)
        have bg0 := (mid.cell (p := ⟨w8.heap.size, 0, none⟩) (Nat.lt_of_lt_of_le bgs bS.size) (by show w8.heap.size < _ ∨ _ ≤ w8.heap.size; omega)).trans ((bS.cell (p := ⟨w8.heap.size, 0, none⟩) bgs).trans bg0)
        have bg1 := (mid.cell (p := ⟨w8.heap.size, 1, none⟩) (Nat.lt_of_lt_of_le bgs bS.size) (by show w8.heap.size < _ ∨ _ ≤ w8.heap.size; omega)).trans ((bS.cell (p := ⟨w8.heap.size, 1, none⟩) bgs).trans bg1)
        have bgs := Nat.lt_of_lt_of_le bgs (Nat.le_trans bS.size mid.size)
        have bl := Below.mid bl mid (by omega) (by omega)
        clear o
        have sz14 := mid.size; clear mid grw bS
        have bS := Below.refl w14.heap.size w14
        have q0 := (bl.cell (p := ⟨w.heap.size, 0, none⟩) sW).trans k0
        have qv0 := (bl.cell (p := ⟨w.heap.size + 1, 0, none⟩) sWv).trans kv0
        have q1 := (bl.cell (p := ⟨w.heap.size, 1, none⟩) sW).trans k1
        have qv1 := (bl.cell (p := ⟨w.heap.size + 1, 1, none⟩) sWv).trans kv1
        have sP := Nat.lt_of_lt_of_le sW bl.size
        have sPv := Nat.lt_of_lt_of_le sWv bl.size
        have br0q := (bS.cell (p := ⟨gbr, 0, none⟩) brs).trans br0
        have br1q := (bS.cell (p := ⟨gbr, 1, none⟩) brs).trans br1
        have bg0q := (bS.cell (p := ⟨w8.heap.size, 0, none⟩) bgs).trans bg0
        have bg1q := (bS.cell (p := ⟨w8.heap.size, 1, none⟩) bgs).trans bg1
        go_wp2_with fail
        clear q0 q1 qv0 qv1 sP sPv br0q br1q bg0q bg1q
        refine (eqProfile (adM m z z1 t1) _ _ (adV m z z1 t1).length _ _ (adV m z z1 t1) _ ((g.on bS).votes rfl (fun _ _ => rfl) (fun _ _ => rfl)) ((r.on bS).votes rfl (fun _ _ => rfl) (fun _ _ => rfl)) hng HYG.out).mono ?_; rintro e w15 ⟨rfl, b⟩
        have bl := Below.on bl b
        have bS := Below.on bS b
        have sz15 := b.size
        clear b
        have r := (r.on bS)
        have g := (g.on bS)
        have br0 := (bS.cell (p := ⟨gbr, 0, none⟩) brs).trans br0
        have br1 := (bS.cell (p := ⟨gbr, 1, none⟩) brs).trans br1
        have brs := Nat.lt_of_lt_of_le brs bS.size
        have bg0 := (bS.cell (p := ⟨w8.heap.size, 0, none⟩) bgs).trans bg0
        have bg1 := (bS.cell (p := ⟨w8.heap.size, 1, none⟩) bgs).trans bg1
        have bgs := Nat.lt_of_lt_of_le bgs bS.size
        clear bS
        have bS := Below.refl w15.heap.size w15
        have hpg := prv_le (rk (adV m z z1 t1)) (adV m z z1 t1).length HYG.out (adV m z z1 t1).length (Nat.le_refl _)
        have hig := lg
        have q0 := (bl.cell (p := ⟨w.heap.size, 0, none⟩) sW).trans k0
        have qv0 := (bl.cell (p := ⟨w.heap.size + 1, 0, none⟩) sWv).trans kv0
        have q1 := (bl.cell (p := ⟨w.heap.size, 1, none⟩) sW).trans k1
        have qv1 := (bl.cell (p := ⟨w.heap.size + 1, 1, none⟩) sWv).trans kv1
        have sP := Nat.lt_of_lt_of_le sW bl.size
        have sPv := Nat.lt_of_lt_of_le sWv bl.size
        have br0q := (bS.cell (p := ⟨gbr, 0, none⟩) brs).trans br0
        have br1q := (bS.cell (p := ⟨gbr, 1, none⟩) brs).trans br1
        have bg0q := (bS.cell (p := ⟨w8.heap.size, 0, none⟩) bgs).trans bg0
        have bg1q := (bS.cell (p := ⟨w8.heap.size, 1, none⟩) bgs).trans bg1
        go_wp2_with fail
        clear q0 q1 qv0 qv1 sP sPv br0q br1q bg0q bg1q
        refine (markProfile (adM m z z1 t1) _ _ _ _ _ _ _ _ 1 _ _ (g.on bS) hig hng HYG.out (by omega)).mono ?_; rintro e w16 ⟨rfl, o, mid⟩
        have r := (r.on bS).mid mid (fun a ha => by have h1 := gr a ha; omega) (fun k hk a ha => by have h1 := lr.2 k hk a ha; have h2 := (own_ge (r.each k hk) a ha).1; omega)
        have br0 := (mid.cell (p := ⟨gbr, 0, none⟩) (Nat.lt_of_lt_of_le brs bS.size) (by show gbr < _ ∨ _ ≤ gbr; omega)).trans ((bS.cell (p := ⟨gbr, 0, none⟩) brs).trans br0)
        have br1 := (mid.cell (p := ⟨gbr, 1, none⟩) (Nat.lt_of_lt_of_le brs bS.size) (by show gbr < _ ∨ _ ≤ gbr; omega)).trans ((bS.cell (p := ⟨gbr, 1, none⟩) brs).trans br1)
        have brs := Nat.lt_of_lt_of_le brs (Nat.le_trans bS.size mid.size)
        have bg0 := (mid.cell (p := ⟨w8.heap.size, 0, none⟩) (Nat.lt_of_lt_of_le bgs bS.size) (by show w8.heap.size < _ ∨ _ ≤ w8.heap.size; omega)).trans ((bS.cell (p := ⟨w8.heap.size, 0, none⟩) bgs).trans bg0)
        have bg1 := (mid.cell (p := ⟨w8.heap.size, 1, none⟩) (Nat.lt_of_lt_of_le bgs bS.size) (by show w8.heap.size < _ ∨ _ ≤ w8.heap.size; omega)).trans ((bS.cell (p := ⟨w8.heap.size, 1, none⟩) bgs).trans bg1)
        have bgs := Nat.lt_of_lt_of_le bgs (Nat.le_trans bS.size mid.size)
        have bl := Below.mid bl mid (by omega) (by omega)
        have g := o; clear o
        have sz16 := mid.size
        clear mid bS
        have bS := Below.refl w16.heap.size w16
        have q0 := (bl.cell (p := ⟨w.heap.size, 0, none⟩) sW).trans k0
        have qv0 := (bl.cell (p := ⟨w.heap.size + 1, 0, none⟩) sWv).trans kv0
        have q1 := (bl.cell (p := ⟨w.heap.size, 1, none⟩) sW).trans k1
        have qv1 := (bl.cell (p := ⟨w.heap.size + 1, 1, none⟩) sWv).trans kv1
        have sP := Nat.lt_of_lt_of_le sW bl.size
        have sPv := Nat.lt_of_lt_of_le sWv bl.size
        have br0q := (bS.cell (p := ⟨gbr, 0, none⟩) brs).trans br0
        have br1q := (bS.cell (p := ⟨gbr, 1, none⟩) brs).trans br1
        have bg0q := (bS.cell (p := ⟨w8.heap.size, 0, none⟩) bgs).trans bg0
        have bg1q := (bS.cell (p := ⟨w8.heap.size, 1, none⟩) bgs).trans bg1
        go_wp2_with fail
        clear q0 q1 qv0 qv1 sP sPv br0q br1q bg0q bg1q
        refine (heldProfile (adM m z z1 t1) _ _ _ _ _ _ _ _ 1 _ (g.on bS) hng HYG.out (by omega)).mono ?_; rintro e w17 ⟨rfl, b⟩
        have bl := Below.on bl b
        have bS := Below.on bS b
        have sz17 := b.size
        clear b
        have r := (r.on bS)
        have g := (g.on bS)
        have br0 := (bS.cell (p := ⟨gbr, 0, none⟩) brs).trans br0
        have br1 := (bS.cell (p := ⟨gbr, 1, none⟩) brs).trans br1
        have brs := Nat.lt_of_lt_of_le brs bS.size
        have bg0 := (bS.cell (p := ⟨w8.heap.size, 0, none⟩) bgs).trans bg0
        have bg1 := (bS.cell (p := ⟨w8.heap.size, 1, none⟩) bgs).trans bg1
        have bgs := Nat.lt_of_lt_of_le bgs bS.size
        clear bS
        have bS := Below.refl w17.heap.size w17
        have q0 := (bl.cell (p := ⟨w.heap.size, 0, none⟩) sW).trans k0
        have qv0 := (bl.cell (p := ⟨w.heap.size + 1, 0, none⟩) sWv).trans kv0
        have q1 := (bl.cell (p := ⟨w.heap.size, 1, none⟩) sW).trans k1
        have qv1 := (bl.cell (p := ⟨w.heap.size + 1, 1, none⟩) sWv).trans kv1
        have sP := Nat.lt_of_lt_of_le sW bl.size
        have sPv := Nat.lt_of_lt_of_le sWv bl.size
        have br0q := (bS.cell (p := ⟨gbr, 0, none⟩) brs).trans br0
        have br1q := (bS.cell (p := ⟨gbr, 1, none⟩) brs).trans br1
        have bg0q := (bS.cell (p := ⟨w8.heap.size, 0, none⟩) bgs).trans bg0
        have bg1q := (bS.cell (p := ⟨w8.heap.size, 1, none⟩) bgs).trans bg1
        go_upto_region 31 with fail
        go_cut [15, 16] (fun u v wx => ∃ (gb : Nat) (Ax : Option Addr) (cx : Nat) (Gx : Nat → Option Addr) (Cx : Nat → Nat), u = .pointer (some ⟨gb, 0, none⟩) ∧ v = .bool (adOk m z z1 t1) ∧ OwnV wx w17.heap.size Ax (adV m z z1 t1).length cx Gx Cx (rk (adV m z z1 t1)) (ct (adV m z z1 t1)) ∧ wx.cell? ⟨gb, 0, none⟩ = some (.int .i64 (adM m z z1 t1)) ∧ wx.cell? ⟨gb, 1, none⟩ = some (.slice Ax (adV m z z1 t1).length cx) ∧ w17.heap.size ≤ gb ∧ gb < wx.heap.size ∧ Below w17.heap.size w17 wx)
        case first =>
          have bd := Below.drew (Below.refl w17.heap.size w17)
          go_region_held_law (fun w' => w'.cell? ⟨w.heap.size, 0, none⟩ = some (.int .i64 m) ∧ w'.cell? ⟨w.heap.size, 1, none⟩ = some (.slice A n c) ∧ w'.cell? ⟨w.heap.size + 1, 0, none⟩ = some (.slice A1 n1 c1) ∧ w'.cell? ⟨w.heap.size + 1, 1, none⟩ = some (.int .i64 t1)) (go_keep) (first
            | (go_simp; go_at_call 20; (fail_if_success have zq := zc0); refine (toProfileD m A n c z w17.drew (h.on (Below.on (Below.on bW bl) bd)) hn HM.out).mono ?_; rintro e wa ⟨ga, rfl, ⟨Ga, va⟩, ba⟩; have bta := bd.trans (Below.mono ba (by have := bd.size; omega)); have e0 := (bta.cell (p := ⟨w.heap.size, 0, none⟩) sP).trans q0; have e1 := (bta.cell (p := ⟨w.heap.size, 1, none⟩) sP).trans q1; have e2 := (bta.cell (p := ⟨w.heap.size + 1, 0, none⟩) sPv).trans qv0; have e3 := (bta.cell (p := ⟨w.heap.size + 1, 1, none⟩) sPv).trans qv1; have va := va.votes h.1 (fun _ _ => rfl) (fun _ _ => rfl))
            | (go_simp; go_at_call 20; refine (toProfileD m A n c z (w17.drew.alloc (.cells #[.int .i64 0, .slice none 0 0] 40)) (h.on (Below.on (Below.on bW bl) (Below.alloc bd (by have := bd.size; omega) (.cells #[.int .i64 0, .slice none 0 0] 40)))) hn HM.out).mono ?_; rintro e wa ⟨ga, rfl, ⟨Ga, va⟩, ba⟩; have bta := (Below.alloc bd (by have := bd.size; omega) (.cells #[.int .i64 0, .slice none 0 0] 40)).trans (Below.mono ba (by have := (Below.alloc bd (by have := bd.size; omega) (.cells #[.int .i64 0, .slice none 0 0] 40)).size; omega)); have e0 := (bta.cell (p := ⟨w.heap.size, 0, none⟩) sP).trans q0; have e1 := (bta.cell (p := ⟨w.heap.size, 1, none⟩) sP).trans q1; have e2 := (bta.cell (p := ⟨w.heap.size + 1, 0, none⟩) sPv).trans qv0; have e3 := (bta.cell (p := ⟨w.heap.size + 1, 1, none⟩) sPv).trans qv1; have va := va.votes h.1 (fun _ _ => rfl) (fun _ _ => rfl); obtain ⟨gb, hgb⟩ : ∃ gb, gb = w17.heap.size := ⟨_, rfl⟩; have zs := Nat.lt_of_lt_of_le (show gb < (w17.drew.alloc (.cells #[.int .i64 0, .slice none 0 0] 40)).heap.size by rw [hgb]; simp) ba.size; have zc0 := (ba.cell (p := ⟨gb, 0, none⟩) (show gb < (w17.drew.alloc (.cells #[.int .i64 0, .slice none 0 0] 40)).heap.size by rw [hgb]; simp)).trans ((World.cell?_alloc_at (w := w17.drew) #[.int .i64 0, .slice none 0 0] 40 gb 0 (hgb.trans rfl)).trans (rfl : _ = some (Value.int .i64 0))); have zc1 := (ba.cell (p := ⟨gb, 1, none⟩) (show gb < (w17.drew.alloc (.cells #[.int .i64 0, .slice none 0 0] 40)).heap.size by rw [hgb]; simp)).trans ((World.cell?_alloc_at (w := w17.drew) #[.int .i64 0, .slice none 0 0] 40 gb 1 (hgb.trans rfl)).trans (rfl : _ = some (Value.slice none 0 0))); have zf0 := (ba.frozen (p := ⟨gb, 0, none⟩) (show gb < (w17.drew.alloc (.cells #[.int .i64 0, .slice none 0 0] 40)).heap.size by rw [hgb]; simp)).trans (World.frozen?_alloc_at (w := w17.drew) #[.int .i64 0, .slice none 0 0] 40 gb 0 (hgb.trans rfl)); have zf1 := (ba.frozen (p := ⟨gb, 1, none⟩) (show gb < (w17.drew.alloc (.cells #[.int .i64 0, .slice none 0 0] 40)).heap.size by rw [hgb]; simp)).trans (World.frozen?_alloc_at (w := w17.drew) #[.int .i64 0, .slice none 0 0] 40 gb 1 (hgb.trans rfl)); have hgl : w17.heap.size ≤ gb := (by have := bd.size; rw [hgb]; first | exact this | omega); have zs0 : gb < (w17.drew.alloc (.cells #[.int .i64 0, .slice none 0 0] 40)).heap.size := (by rw [hgb]; simp); have sg1 : ¬ w.heap.size = gb := (by omega); have sg2 : ¬ w.heap.size + 1 = gb := (by omega); have sg3 : ¬ gb = w.heap.size := (by omega); have sg4 : ¬ gb = w.heap.size + 1 := (by omega); rw [← hgb]; clear hgb)
            | (go_simp; go_at_call 43; have zq := zc0; clear zq; refine (toVote A1 n1 c1 z1 t1 wa (h1.on (Below.on (Below.on bW bl) bta)) hn1).mono ?_; rintro e wb ⟨gv, rfl, ov, bb⟩; have btb := bta.trans (Below.mono bb (by have := bta.size; omega)); have e0 := (btb.cell (p := ⟨w.heap.size, 0, none⟩) sP).trans q0; have e1 := (btb.cell (p := ⟨w.heap.size, 1, none⟩) sP).trans q1; have e2 := (btb.cell (p := ⟨w.heap.size + 1, 0, none⟩) sPv).trans qv0; have e3 := (btb.cell (p := ⟨w.heap.size + 1, 1, none⟩) sPv).trans qv1; have va := va.on bb; replace zc0 := (bb.cell (p := ⟨gb, 0, none⟩) zs).trans zc0; replace zc1 := (bb.cell (p := ⟨gb, 1, none⟩) zs).trans zc1; replace zf0 := (bb.frozen (p := ⟨gb, 0, none⟩) zs).trans zf0; replace zf1 := (bb.frozen (p := ⟨gb, 1, none⟩) zs).trans zf1; have zs0 := zs; replace zs := Nat.lt_of_lt_of_le zs bb.size)
            | (go_simp; go_at_call 43; (fail_if_success have zq := zc0); refine (toVote A1 n1 c1 z1 t1 wa (h1.on (Below.on (Below.on bW bl) bta)) hn1).mono ?_; rintro e wb ⟨gv, rfl, ov, bb⟩; have btb := bta.trans (Below.mono bb (by have := bta.size; omega)); have e0 := (btb.cell (p := ⟨w.heap.size, 0, none⟩) sP).trans q0; have e1 := (btb.cell (p := ⟨w.heap.size, 1, none⟩) sP).trans q1; have e2 := (btb.cell (p := ⟨w.heap.size + 1, 0, none⟩) sPv).trans qv0; have e3 := (btb.cell (p := ⟨w.heap.size + 1, 1, none⟩) sPv).trans qv1; have va := va.on bb)
            | (go_simp; go_at_call 43; refine (toVote A1 n1 c1 z1 t1 (wa.alloc (.cells #[.int .i64 0, .slice none 0 0] 40)) (h1.on (Below.on (Below.on bW bl) (Below.alloc bta (by have := bta.size; omega) (.cells #[.int .i64 0, .slice none 0 0] 40)))) hn1).mono ?_; rintro e wb ⟨gv, rfl, ov, bb⟩; have btb := (Below.alloc bta (by have := bta.size; omega) (.cells #[.int .i64 0, .slice none 0 0] 40)).trans (Below.mono bb (by have := (Below.alloc bta (by have := bta.size; omega) (.cells #[.int .i64 0, .slice none 0 0] 40)).size; omega)); have e0 := (btb.cell (p := ⟨w.heap.size, 0, none⟩) sP).trans q0; have e1 := (btb.cell (p := ⟨w.heap.size, 1, none⟩) sP).trans q1; have e2 := (btb.cell (p := ⟨w.heap.size + 1, 0, none⟩) sPv).trans qv0; have e3 := (btb.cell (p := ⟨w.heap.size + 1, 1, none⟩) sPv).trans qv1; have va := (va.on (Below.alloc (Below.refl wa.heap.size wa) (Nat.le_refl _) (.cells #[.int .i64 0, .slice none 0 0] 40))).on bb; obtain ⟨gb, hgb⟩ : ∃ gb, gb = wa.heap.size := ⟨_, rfl⟩; have zs := Nat.lt_of_lt_of_le (show gb < (wa.alloc (.cells #[.int .i64 0, .slice none 0 0] 40)).heap.size by rw [hgb]; simp) bb.size; have zc0 := (bb.cell (p := ⟨gb, 0, none⟩) (show gb < (wa.alloc (.cells #[.int .i64 0, .slice none 0 0] 40)).heap.size by rw [hgb]; simp)).trans ((World.cell?_alloc_at (w := wa) #[.int .i64 0, .slice none 0 0] 40 gb 0 (hgb.trans rfl)).trans (rfl : _ = some (Value.int .i64 0))); have zc1 := (bb.cell (p := ⟨gb, 1, none⟩) (show gb < (wa.alloc (.cells #[.int .i64 0, .slice none 0 0] 40)).heap.size by rw [hgb]; simp)).trans ((World.cell?_alloc_at (w := wa) #[.int .i64 0, .slice none 0 0] 40 gb 1 (hgb.trans rfl)).trans (rfl : _ = some (Value.slice none 0 0))); have zf0 := (bb.frozen (p := ⟨gb, 0, none⟩) (show gb < (wa.alloc (.cells #[.int .i64 0, .slice none 0 0] 40)).heap.size by rw [hgb]; simp)).trans (World.frozen?_alloc_at (w := wa) #[.int .i64 0, .slice none 0 0] 40 gb 0 (hgb.trans rfl)); have zf1 := (bb.frozen (p := ⟨gb, 1, none⟩) (show gb < (wa.alloc (.cells #[.int .i64 0, .slice none 0 0] 40)).heap.size by rw [hgb]; simp)).trans (World.frozen?_alloc_at (w := wa) #[.int .i64 0, .slice none 0 0] 40 gb 1 (hgb.trans rfl)); have hgl : w17.heap.size ≤ gb := (by have := bta.size; rw [hgb]; first | exact this | omega); have zs0 : gb < (wa.alloc (.cells #[.int .i64 0, .slice none 0 0] 40)).heap.size := (by rw [hgb]; simp); have sg1 : ¬ w.heap.size = gb := (by omega); have sg2 : ¬ w.heap.size + 1 = gb := (by omega); have sg3 : ¬ gb = w.heap.size := (by omega); have sg4 : ¬ gb = w.heap.size + 1 := (by omega); rw [← hgb]; clear hgb)
            | (go_simp; go_at_call 44; refine (implAddVote m _ n n z _ n1 n1 z1 t1 (wb.alloc (.cells #[.int .i64 0, .slice none 0 0] 40)) (va.on (Below.alloc (Below.refl wb.heap.size wb) (Nat.le_refl _) (.cells #[.int .i64 0, .slice none 0 0] 40))) hn HM.out ((Ints.of_own ov).on (Below.alloc (Below.refl wb.heap.size wb) (Nat.le_refl _) (.cells #[.int .i64 0, .slice none 0 0] 40))) hn1).mono ?_; rintro e wd ⟨Ax, cx, Gx, Cx, rfl, ox, bdd⟩; have btd := (Below.alloc btb (by have := btb.size; omega) (.cells #[.int .i64 0, .slice none 0 0] 40)).trans (Below.mono bdd (by have := (Below.alloc btb (by have := btb.size; omega) (.cells #[.int .i64 0, .slice none 0 0] 40)).size; omega)); have e0 := (btd.cell (p := ⟨w.heap.size, 0, none⟩) sP).trans q0; have e1 := (btd.cell (p := ⟨w.heap.size, 1, none⟩) sP).trans q1; have e2 := (btd.cell (p := ⟨w.heap.size + 1, 0, none⟩) sPv).trans qv0; have e3 := (btd.cell (p := ⟨w.heap.size + 1, 1, none⟩) sPv).trans qv1; have sdn1 : ¬ w.heap.size = wd.heap.size := (by have := btd.size; omega); have sdn2 : ¬ w.heap.size + 1 = wd.heap.size := (by have := btd.size; omega); obtain ⟨gb, hgb⟩ : ∃ gb, gb = wb.heap.size := ⟨_, rfl⟩; have zs := Nat.lt_of_lt_of_le (show gb < (wb.alloc (.cells #[.int .i64 0, .slice none 0 0] 40)).heap.size by rw [hgb]; simp) bdd.size; have zc0 := (bdd.cell (p := ⟨gb, 0, none⟩) (show gb < (wb.alloc (.cells #[.int .i64 0, .slice none 0 0] 40)).heap.size by rw [hgb]; simp)).trans ((World.cell?_alloc_at (w := wb) #[.int .i64 0, .slice none 0 0] 40 gb 0 (hgb.trans rfl)).trans (rfl : _ = some (Value.int .i64 0))); have zc1 := (bdd.cell (p := ⟨gb, 1, none⟩) (show gb < (wb.alloc (.cells #[.int .i64 0, .slice none 0 0] 40)).heap.size by rw [hgb]; simp)).trans ((World.cell?_alloc_at (w := wb) #[.int .i64 0, .slice none 0 0] 40 gb 1 (hgb.trans rfl)).trans (rfl : _ = some (Value.slice none 0 0))); have zf0 := (bdd.frozen (p := ⟨gb, 0, none⟩) (show gb < (wb.alloc (.cells #[.int .i64 0, .slice none 0 0] 40)).heap.size by rw [hgb]; simp)).trans (World.frozen?_alloc_at (w := wb) #[.int .i64 0, .slice none 0 0] 40 gb 0 (hgb.trans rfl)); have zf1 := (bdd.frozen (p := ⟨gb, 1, none⟩) (show gb < (wb.alloc (.cells #[.int .i64 0, .slice none 0 0] 40)).heap.size by rw [hgb]; simp)).trans (World.frozen?_alloc_at (w := wb) #[.int .i64 0, .slice none 0 0] 40 gb 1 (hgb.trans rfl)); have hgl : w17.heap.size ≤ gb := (by have := btb.size; rw [hgb]; first | exact this | omega); have zs0 : gb < (wb.alloc (.cells #[.int .i64 0, .slice none 0 0] 40)).heap.size := (by rw [hgb]; simp); have sg1 : ¬ w.heap.size = gb := (by omega); have sg2 : ¬ w.heap.size + 1 = gb := (by omega); have sg3 : ¬ gb = w.heap.size := (by omega); have sg4 : ¬ gb = w.heap.size + 1 := (by omega); rw [← hgb]; clear hgb)
            | (go_simp; go_at_call 44; (fail_if_success have zq := zc0); refine (implAddVote m _ n n z _ n1 n1 z1 t1 wb va hn HM.out (Ints.of_own ov) hn1).mono ?_; rintro e wd ⟨Ax, cx, Gx, Cx, rfl, ox, bdd⟩; have btd := btb.trans (Below.mono bdd (by have := btb.size; omega)); have e0 := (btd.cell (p := ⟨w.heap.size, 0, none⟩) sP).trans q0; have e1 := (btd.cell (p := ⟨w.heap.size, 1, none⟩) sP).trans q1; have e2 := (btd.cell (p := ⟨w.heap.size + 1, 0, none⟩) sPv).trans qv0; have e3 := (btd.cell (p := ⟨w.heap.size + 1, 1, none⟩) sPv).trans qv1; have sdn1 : ¬ w.heap.size = wd.heap.size := (by have := btd.size; omega); have sdn2 : ¬ w.heap.size + 1 = wd.heap.size := (by have := btd.size; omega))
            | (go_simp; go_at_call 44; have zq := zc0; clear zq; refine (implAddVote m _ n n z _ n1 n1 z1 t1 wb va hn HM.out (Ints.of_own ov) hn1).mono ?_; rintro e wd ⟨Ax, cx, Gx, Cx, rfl, ox, bdd⟩; have btd := btb.trans (Below.mono bdd (by have := btb.size; omega)); have e0 := (btd.cell (p := ⟨w.heap.size, 0, none⟩) sP).trans q0; have e1 := (btd.cell (p := ⟨w.heap.size, 1, none⟩) sP).trans q1; have e2 := (btd.cell (p := ⟨w.heap.size + 1, 0, none⟩) sPv).trans qv0; have e3 := (btd.cell (p := ⟨w.heap.size + 1, 1, none⟩) sPv).trans qv1; have sdn1 : ¬ w.heap.size = wd.heap.size := (by have := btd.size; omega); have sdn2 : ¬ w.heap.size + 1 = wd.heap.size := (by have := btd.size; omega); replace zc0 := (bdd.cell (p := ⟨gb, 0, none⟩) zs).trans zc0; replace zc1 := (bdd.cell (p := ⟨gb, 1, none⟩) zs).trans zc1; replace zf0 := (bdd.frozen (p := ⟨gb, 0, none⟩) zs).trans zf0; replace zf1 := (bdd.frozen (p := ⟨gb, 1, none⟩) zs).trans zf1; have zs0 := zs; replace zs := Nat.lt_of_lt_of_le zs bdd.size))
          all_goals go_simp
          all_goals go_wp2_with fail
          all_goals go_meet
          all_goals have szd := btd.size
          all_goals have szb := btb.size
          all_goals first
            | exact ⟨wd.heap.size, Ax, cx, Gx, Cx, rfl, rfl, (ox.on ((Below.refl wd.heap.size wd).alloc (Nat.le_refl _) _)).mono szb, by simp, by simp, szd, by simp, btd.alloc szd _⟩
            | exact ⟨gb, Ax, cx, Gx, Cx, rfl, rfl, ((ox.setOther (p := ⟨gb, 0, none⟩) zs0 _).setOther (p := ⟨gb, 1, none⟩) zs0 _).mono (by first | exact szb | (simp; omega)), by simp [go_sem, zc0], by simp [go_sem, zc1], hgl, by simp; exact zs, (btd.setCell (p := ⟨gb, 0, none⟩) hgl _).setCell (p := ⟨gb, 1, none⟩) hgl _⟩
        case rest =>
          clear q0 q1 qv0 qv1 sP sPv br0q br1q bg0q bg1q
          obtain ⟨gbu, Au, cu, Gu, Cu, rfl, rfl, u, bu0, bu1, bul, bus, b⟩ := hcut
          obtain ⟨w18, rfl⟩ : ∃ wX : World, wX = wc := ⟨_, rfl⟩
          have bl := Below.on bl b
          have bS := Below.on bS b
          have sz18 := b.size
          clear b
          have r := (r.on bS)
          have g := (g.on bS)
          have br0 := (bS.cell (p := ⟨gbr, 0, none⟩) brs).trans br0
          have br1 := (bS.cell (p := ⟨gbr, 1, none⟩) brs).trans br1
          have brs := Nat.lt_of_lt_of_le brs bS.size
          have bg0 := (bS.cell (p := ⟨w8.heap.size, 0, none⟩) bgs).trans bg0
          have bg1 := (bS.cell (p := ⟨w8.heap.size, 1, none⟩) bgs).trans bg1
          have bgs := Nat.lt_of_lt_of_le bgs bS.size
          clear bS
          have bS := Below.refl w18.heap.size w18
          have lu := u.inn
          have gu := u.ge
          have q0 := (bl.cell (p := ⟨w.heap.size, 0, none⟩) sW).trans k0
          have qv0 := (bl.cell (p := ⟨w.heap.size + 1, 0, none⟩) sWv).trans kv0
          have q1 := (bl.cell (p := ⟨w.heap.size, 1, none⟩) sW).trans k1
          have qv1 := (bl.cell (p := ⟨w.heap.size + 1, 1, none⟩) sWv).trans kv1
          have sP := Nat.lt_of_lt_of_le sW bl.size
          have sPv := Nat.lt_of_lt_of_le sWv bl.size
          have br0q := (bS.cell (p := ⟨gbr, 0, none⟩) brs).trans br0
          have br1q := (bS.cell (p := ⟨gbr, 1, none⟩) brs).trans br1
          have bg0q := (bS.cell (p := ⟨w8.heap.size, 0, none⟩) bgs).trans bg0
          have bg1q := (bS.cell (p := ⟨w8.heap.size, 1, none⟩) bgs).trans bg1
          have bu0q := (bS.cell (p := ⟨gbu, 0, none⟩) bus).trans bu0
          have bu1q := (bS.cell (p := ⟨gbu, 1, none⟩) bus).trans bu1
          go_wp2_with fail
          clear q0 q1 qv0 qv1 sP sPv br0q br1q bg0q bg1q bu0q bu1q
          refine (eqProfile (adM m z z1 t1) _ _ (adV m z z1 t1).length _ _ (adV m z z1 t1) _ ((u.on bS).votes rfl (fun _ _ => rfl) (fun _ _ => rfl)) ((r.on bS).votes rfl (fun _ _ => rfl) (fun _ _ => rfl)) hng HYG.out).mono ?_; rintro e w19 ⟨rfl, b⟩
          have bl := Below.on bl b
          have bS := Below.on bS b
          have sz19 := b.size
          clear b
          have q0 := (bl.cell (p := ⟨w.heap.size, 0, none⟩) sW).trans k0
          have qv0 := (bl.cell (p := ⟨w.heap.size + 1, 0, none⟩) sWv).trans kv0
          have q1 := (bl.cell (p := ⟨w.heap.size, 1, none⟩) sW).trans k1
          have qv1 := (bl.cell (p := ⟨w.heap.size + 1, 1, none⟩) sWv).trans kv1
          have sP := Nat.lt_of_lt_of_le sW bl.size
          have sPv := Nat.lt_of_lt_of_le sWv bl.size
          have br0q := (bS.cell (p := ⟨gbr, 0, none⟩) brs).trans br0
          have br1q := (bS.cell (p := ⟨gbr, 1, none⟩) brs).trans br1
          have bg0q := (bS.cell (p := ⟨w8.heap.size, 0, none⟩) bgs).trans bg0
          have bg1q := (bS.cell (p := ⟨w8.heap.size, 1, none⟩) bgs).trans bg1
          have bu0q := (bS.cell (p := ⟨gbu, 0, none⟩) bus).trans bu0
          have bu1q := (bS.cell (p := ⟨gbu, 1, none⟩) bus).trans bu1
          go_wp2_with fail
          clear q0 q1 qv0 qv1 sP sPv br0q br1q bg0q bg1q bu0q bu1q
          refine (heldProfile (adM m z z1 t1) _ _ _ _ _ _ _ _ 1 _ (g.on bS) hng HYG.out (by omega)).mono ?_; rintro e w20 ⟨rfl, b⟩
          have bl := Below.on bl b
          have bS := Below.on bS b
          have sz20 := b.size
          clear b
          have q0 := (bl.cell (p := ⟨w.heap.size, 0, none⟩) sW).trans k0
          have qv0 := (bl.cell (p := ⟨w.heap.size + 1, 0, none⟩) sWv).trans kv0
          have q1 := (bl.cell (p := ⟨w.heap.size, 1, none⟩) sW).trans k1
          have qv1 := (bl.cell (p := ⟨w.heap.size + 1, 1, none⟩) sWv).trans kv1
          have sP := Nat.lt_of_lt_of_le sW bl.size
          have sPv := Nat.lt_of_lt_of_le sWv bl.size
          have br0q := (bS.cell (p := ⟨gbr, 0, none⟩) brs).trans br0
          have br1q := (bS.cell (p := ⟨gbr, 1, none⟩) brs).trans br1
          have bg0q := (bS.cell (p := ⟨w8.heap.size, 0, none⟩) bgs).trans bg0
          have bg1q := (bS.cell (p := ⟨w8.heap.size, 1, none⟩) bgs).trans bg1
          have bu0q := (bS.cell (p := ⟨gbu, 0, none⟩) bus).trans bu0
          have bu1q := (bS.cell (p := ⟨gbu, 1, none⟩) bus).trans bu1
          go_wp2_with fail
          go_ret
          exact ⟨rfl, Below.on bW bl⟩

set_option maxRecDepth 100000 in
theorem lifted (os : Os) (started : os.Started) (H : Type) (enc : TypeId × Value → H) :
    ReturnsInHanded {} Try.checked os 11 .any (Rows.fnExactAddVoteSpec.pre6 enc Try.prog Try.f11 Rows.fnExactAddVoteRow.domain false) (Rows.fnExactAddVoteSpec.post enc Try.prog Try.f11 false true false false) := by
  refine returnsInHanded_of_change (C := Try.checked) own started (by kernel_rfl) Try.func11
    (ChangeSpec.witness6 (enc := enc) (C := Try.checked) false ⟨#[], #[.agg #[.int .i64 0, .slice none 0 0], .agg #[.slice none 0 0, .int .i64 0]], []⟩ 8 (by kernel_rfl) (by kernel_rfl) (by kernel_rfl) (by kernel_rfl)) ?_
  intro W base args ds gs before hval0 hW hcnd _
  have hval : ∀ (j : Nat) t v, Try.f11.params[j]? = some t → args[j]? = some v → Value.okWide Try.prog W .any base t v := hval0
  have hW' := hW
  obtain ⟨p, q, hA0, hV, rfl, hfz, hnd⟩ := hW
  have hA : DataW.TrodAll enc Try.prog W 0 (fun _ => true) true Try.f11.params.toList args.toList ds p := hA0
  rw [Try.params11] at hA hval
  obtain ⟨v0, vs0, d0, ds0, p0, q0, hargs, rfl, rfl, h0, r0⟩ := trodAll_cons hA
  obtain ⟨v1, vs1, d1, ds1, p1, q1, rfl, rfl, rfl, h1, r1⟩ := trodAll_cons r0
  obtain ⟨rfl, rfl, rfl⟩ := trodAll_nil r1
  obtain rfl : args = #[v0, v1] := by cases args; simp_all
  obtain ⟨rfl, rfl⟩ := trodVars_none hV
  have k0 := h0
  have lt0 : ∀ x ∈ p0, x.block < W.heap.size := by obtain ⟨m, hm⟩ := k0; exact DataW.trod_lt m _ _ _ hm
  obtain ⟨m0, A0, n0, c0, z0, rfl, w0⟩ := open_prof_arg (hval 0 35 v0 rfl rfl) h0
  have k1 := h1
  have lt1 : ∀ x ∈ p1, x.block < W.heap.size := by obtain ⟨m, hm⟩ := k1; exact DataW.trod_lt m _ _ _ hm
  obtain ⟨A1, n1, c1, z1, t1, rfl, w1⟩ := open_vote_arg (hval 1 59 v1 rfl rfl) h1
  clear hA0 hval0
  refine (walk m0 A0 n0 c0 z0 A1 n1 c1 z1 t1 W w0 w1).mono fun e W' ⟨he, bel⟩ => ?_
  subst he
  exact ⟨_, rfl, _, _, _, [], _, [], hW', trodAll_mk1 (shut_bool Try.underlying4 _), (trodAll_cons_mk (Below.trod laidOut (by kernel_rfl) (of_decide_eq_true (by kernel_rfl)) k0 bel lt0) (trodAll_cons_mk (Below.trod laidOut (by kernel_rfl) (of_decide_eq_true (by kernel_rfl)) k1 bel lt1) trodAll_mk0)), rfl, bel.frame _, fun h => by cases h⟩

theorem over : Rows.fnExactAddVoteRow.holds Try.pinned (OpenSpec.ofChange Rows.fnExactAddVoteSpec) :=
  OpenClaim.holds_of_wide 11 Try.f11 rfl rfl rfl rfl rfl rfl rfl ⟨rfl, rfl, rfl, rfl, rfl⟩ rfl rfl rfl rfl rfl (by kernel_rfl) Try.func11
    (joined_by _ _ _ _ _ (by kernel_rfl) laidOut mapsRowedYes (by kernel_rfl) (by kernel_rfl) (by kernel_rfl) stopsNone (by kernel_rfl) knobsNone (by kernel_rfl) (by kernel_rfl) (by kernel_rfl) (by kernel_rfl) (by kernel_rfl) (by kernel_rfl) (by kernel_rfl) (by kernel_rfl) (by kernel_rfl) (by kernel_rfl) (by kernel_rfl) (by kernel_rfl) (by kernel_rfl)
      (keys_fit _ _ keysPlain rfl) rfl heard mayEnterYes (lifted_fits _ _ liftsNo rfl) (make_fits _ _ makeCut rfl) rfl rfl (by kernel_rfl) (by kernel_rfl) (by kernel_rfl))
    (of_decide_eq_true (by kernel_rfl)) (by unfold Func.isWrapper; first | (rw [if_pos (by decide +kernel)]; kernel_rfl) | (rw [if_neg (by decide +kernel)]; exact ⟨rfl, rfl⟩))
    (fun os started H enc _ => lifted os started H enc)

theorem proved : Rows.FnExactAddVoteSaid := over
end Go.Proofs.Ytblofiimfhbkdaa.fnExactAddVote
