/- The reference's MergeProfile. -/
import Derived.Test.YtaclpilehlednaaMerV
import Derived.Test.YtaclpilehlednaaPlainMer
import Derived.Test.YtaclpilehlednaaAllS
namespace Go.Proofs.Ytaclpilehlednaa
open Go.RowKit
set_option maxRecDepth 100000

theorem rk_snoc {vs : List (List Int × Int)} {p : List Int × Int} {j : Nat} (hj : j < vs.length + 1) : (if j = vs.length then p.1 else rk vs j) = rk (vs ++ [p]) j := by
  by_cases e : j = vs.length
  · subst e; simp [rk, vnth, List.getD]
  · have : j < vs.length := by omega
    simp [rk, vnth, List.getD, e, List.getElem?_append_left this]
theorem ct_snoc {vs : List (List Int × Int)} {p : List Int × Int} {j : Nat} (hj : j < vs.length + 1) : (if j = vs.length then p.2 else ct vs j) = ct (vs ++ [p]) j := by
  by_cases e : j = vs.length
  · subst e; simp [ct, vnth, List.getD]
  · have : j < vs.length := by omega
    simp [ct, vnth, List.getD, e, List.getElem?_append_left this]
theorem OwnL.mid {w w' : World} {base lo hi : Nat} {A : Option Addr} {n c : Nat} {hs : List Hd} (h : OwnL w base A n c hs) (k : Mid lo hi w w') (hb : hi ≤ base) : OwnL w' base A n c hs :=
  ⟨own_mid h.row k (fun a ha => Or.inr (Nat.le_trans hb (own_ge h.row a ha).1)), fun j hj => own_mid (h.each j hj) k (fun a ha => Or.inr (Nat.le_trans hb (own_ge (h.each j hj) a ha).1)), h.apart, h.off⟩
theorem rank_len5 {m : Int} {xs : List Int} (h : rankOkP m xs = true) : (xs.length : Int) ≤ 5 := by
  have := rank_len h
  omega
theorem mer_rl (m : Int) (vs : List (List Int × Int)) : ∀ j, j < (merP m vs).length → (rl (merP m vs) j : Int) ≤ 1048576 := fun j hj => by
  have hmem : vnth (merP m vs) j ∈ merP m vs := by
    rw [show vnth (merP m vs) j = (merP m vs)[j] by simp [vnth, List.getD, hj]]
    exact List.getElem_mem hj
  have := rank_len5 (ranks_mem (mer_mem hmem).1)
  show (((vnth (merP m vs) j).1).length : Int) ≤ 1048576
  omega
set_option maxHeartbeats 2000000 in
theorem specMergeF (m : Int) (A : Option Addr) (n c : Nat) (vs : List (List Int × Int)) (w : World) (h : Votes w A n vs) (hn : (n : Int) ≤ 1048576) (hm : ∀ j, j < n → (rl vs j : Int) ≤ 1048576) (hp : profP m vs = false) :
    Calls Try.prog 33 #[.agg #[.int .i64 m, .slice A n c]] w fun e w' => e = .returned (.tuple #[.agg #[.int .i64 0, .slice none 0 0], .bool false]) ∧ Below w.heap.size w w' := by
  have HP := Lib.hid hp; clear hp
  have bl : Below w.heap.size w ((w.alloc (.cells #[.int .i64 m, .slice A n c] 56)).alloc (.cells #[.int .i64 0, .slice none 0 0] 56)) := ((Below.refl _ _).alloc (Nat.le_refl _) _).alloc (by simp) _
  have k0 : ((w.alloc (.cells #[.int .i64 m, .slice A n c] 56)).alloc (.cells #[.int .i64 0, .slice none 0 0] 56)).cell? ⟨w.heap.size, 0, none⟩ = some (.int .i64 m) := by simp
  have k1 : ((w.alloc (.cells #[.int .i64 m, .slice A n c] 56)).alloc (.cells #[.int .i64 0, .slice none 0 0] 56)).cell? ⟨w.heap.size, 1, none⟩ = some (.slice A n c) := by simp
  have r0 : ((w.alloc (.cells #[.int .i64 m, .slice A n c] 56)).alloc (.cells #[.int .i64 0, .slice none 0 0] 56)).cell? ⟨w.heap.size + 1, 0, none⟩ = some (.int .i64 0) := by simp
  have r1 : ((w.alloc (.cells #[.int .i64 m, .slice A n c] 56)).alloc (.cells #[.int .i64 0, .slice none 0 0] 56)).cell? ⟨w.heap.size + 1, 1, none⟩ = some (.slice none 0 0) := by simp
  have rf0 : ((w.alloc (.cells #[.int .i64 m, .slice A n c] 56)).alloc (.cells #[.int .i64 0, .slice none 0 0] 56)).frozen? ⟨w.heap.size + 1, 0, none⟩ = false := by simp
  have rf1 : ((w.alloc (.cells #[.int .i64 m, .slice A n c] 56)).alloc (.cells #[.int .i64 0, .slice none 0 0] 56)).frozen? ⟨w.heap.size + 1, 1, none⟩ = false := by simp
  have sk : w.heap.size < ((w.alloc (.cells #[.int .i64 m, .slice A n c] 56)).alloc (.cells #[.int .i64 0, .slice none 0 0] 56)).heap.size := by simp; try omega
  have sr : w.heap.size + 1 < ((w.alloc (.cells #[.int .i64 m, .slice A n c] 56)).alloc (.cells #[.int .i64 0, .slice none 0 0] 56)).heap.size := by simp
  have hV := h.on bl
  have HM := Lib.hid hm; clear hm
  go_enter Try.func33, Try.ntmps33
  go_wp2_with fail
  generalize ((w.alloc (.cells #[.int .i64 m, .slice A n c] 56)).alloc (.cells #[.int .i64 0, .slice none 0 0] 56)) = W at *
  refine (specProfileOk m A n c vs _ hV hn HM.out).mono ?_; rintro e w1 ⟨rfl, b1⟩
  rw [HP.out]
  have bl1 := Below.on bl b1
  replace k0 := (b1.cell (p := ⟨w.heap.size, 0, none⟩) sk).trans k0
  replace k1 := (b1.cell (p := ⟨w.heap.size, 1, none⟩) sk).trans k1
  replace r0 := (b1.cell (p := ⟨w.heap.size + 1, 0, none⟩) sr).trans r0
  replace r1 := (b1.cell (p := ⟨w.heap.size + 1, 1, none⟩) sr).trans r1
  replace rf0 := (b1.frozen (p := ⟨w.heap.size + 1, 0, none⟩) sr).trans rf0
  replace rf1 := (b1.frozen (p := ⟨w.heap.size + 1, 1, none⟩) sr).trans rf1
  replace sk := Nat.lt_of_lt_of_le sk b1.size
  replace sr := Nat.lt_of_lt_of_le sr b1.size
  go_wp2_with fail
  exact bodyPost_ret (v := .tuple #[.agg #[.int .i64 0, .slice none 0 0], .bool false]) (by simp [results, Try.results33, go_sem, r0, r1]) rfl ⟨rfl, (bl1.setCell (by show w.heap.size ≤ w.heap.size + 1; omega) _).setCell (by show w.heap.size ≤ w.heap.size + 1; omega) _⟩

set_option maxHeartbeats 8000000 in
theorem specMergeT (m : Int) (A : Option Addr) (n c : Nat) (vs : List (List Int × Int)) (w : World) (h : Votes w A n vs) (hn : (n : Int) ≤ 1048576) (hm : ∀ j, j < n → (rl vs j : Int) ≤ 1048576) (hp : profP m vs = true) (bb : Bool) (hq : profP m (merP m vs) = bb) (M : Int) (V : List (List Int × Int)) (hMV : Hid ((bb = true ∧ M = m ∧ V = merP m vs) ∨ (bb = false ∧ M = 0 ∧ V = []))) :
    Calls Try.prog 33 #[.agg #[.int .i64 m, .slice A n c]] w fun e w' => ∃ A' c' G C, e = .returned (.tuple #[.agg #[.int .i64 M, .slice A' V.length c'], .bool bb]) ∧ OwnV w' w.heap.size A' V.length c' G C (rk V) (ct V) ∧ Below w.heap.size w w' := by
  have HQ := Lib.hid hq; clear hq
  have HP : Hid (profP m vs = true) := hp
  have hn24 := (of_prof hp).2.1
  have hvl := h.1
  rw [hvl] at hn24
  have HVL := Lib.hid hvl; clear hvl
  clear hp
  have bl : Below w.heap.size w ((w.alloc (.cells #[.int .i64 m, .slice A n c] 56)).alloc (.cells #[.int .i64 0, .slice none 0 0] 56)) := ((Below.refl _ _).alloc (Nat.le_refl _) _).alloc (by simp) _
  have k0 : ((w.alloc (.cells #[.int .i64 m, .slice A n c] 56)).alloc (.cells #[.int .i64 0, .slice none 0 0] 56)).cell? ⟨w.heap.size, 0, none⟩ = some (.int .i64 m) := by simp
  have k1 : ((w.alloc (.cells #[.int .i64 m, .slice A n c] 56)).alloc (.cells #[.int .i64 0, .slice none 0 0] 56)).cell? ⟨w.heap.size, 1, none⟩ = some (.slice A n c) := by simp
  have r0 : ((w.alloc (.cells #[.int .i64 m, .slice A n c] 56)).alloc (.cells #[.int .i64 0, .slice none 0 0] 56)).cell? ⟨w.heap.size + 1, 0, none⟩ = some (.int .i64 0) := by simp
  have r1 : ((w.alloc (.cells #[.int .i64 m, .slice A n c] 56)).alloc (.cells #[.int .i64 0, .slice none 0 0] 56)).cell? ⟨w.heap.size + 1, 1, none⟩ = some (.slice none 0 0) := by simp
  have rf0 : ((w.alloc (.cells #[.int .i64 m, .slice A n c] 56)).alloc (.cells #[.int .i64 0, .slice none 0 0] 56)).frozen? ⟨w.heap.size + 1, 0, none⟩ = false := by simp
  have rf1 : ((w.alloc (.cells #[.int .i64 m, .slice A n c] 56)).alloc (.cells #[.int .i64 0, .slice none 0 0] 56)).frozen? ⟨w.heap.size + 1, 1, none⟩ = false := by simp
  have sk : w.heap.size < ((w.alloc (.cells #[.int .i64 m, .slice A n c] 56)).alloc (.cells #[.int .i64 0, .slice none 0 0] 56)).heap.size := by simp; try omega
  have sr : w.heap.size + 1 < ((w.alloc (.cells #[.int .i64 m, .slice A n c] 56)).alloc (.cells #[.int .i64 0, .slice none 0 0] 56)).heap.size := by simp
  have hV := h.on bl
  have HM := Lib.hid hm; clear hm
  go_enter Try.func33, Try.ntmps33
  go_wp2_with fail
  generalize ((w.alloc (.cells #[.int .i64 m, .slice A n c] 56)).alloc (.cells #[.int .i64 0, .slice none 0 0] 56)) = W at *
  refine (specProfileOk m A n c vs _ hV hn HM.out).mono ?_; rintro e w1 ⟨rfl, b1⟩
  rw [HP.out]
  have bl1 := Below.on bl b1
  have hV1 := hV.on b1
  replace k0 := (b1.cell (p := ⟨w.heap.size, 0, none⟩) sk).trans k0
  replace k1 := (b1.cell (p := ⟨w.heap.size, 1, none⟩) sk).trans k1
  replace r0 := (b1.cell (p := ⟨w.heap.size + 1, 0, none⟩) sr).trans r0
  replace r1 := (b1.cell (p := ⟨w.heap.size + 1, 1, none⟩) sr).trans r1
  replace rf0 := (b1.frozen (p := ⟨w.heap.size + 1, 0, none⟩) sr).trans rf0
  replace rf1 := (b1.frozen (p := ⟨w.heap.size + 1, 1, none⟩) sr).trans rf1
  replace sk := Nat.lt_of_lt_of_le sk b1.size
  replace sr := Nat.lt_of_lt_of_le sr b1.size
  clear b1 hV bl
  have b1 : Below w1.heap.size w1 (w1.alloc (.cells #[.int .i64 m, .slice none 0 0] 56)) := (Below.refl _ _).alloc (Nat.le_refl _) _
  have sq0 := sr
  have k0z := k0
  have q0 : (w1.alloc (.cells #[.int .i64 m, .slice none 0 0] 56)).cell? ⟨w1.heap.size, 0, none⟩ = some (.int .i64 m) := by simp
  have q1 : (w1.alloc (.cells #[.int .i64 m, .slice none 0 0] 56)).cell? ⟨w1.heap.size, 1, none⟩ = some (.slice none 0 0) := by simp
  have qf : (w1.alloc (.cells #[.int .i64 m, .slice none 0 0] 56)).frozen? ⟨w1.heap.size, 1, none⟩ = false := by simp
  have sq : w1.heap.size < (w1.alloc (.cells #[.int .i64 m, .slice none 0 0] 56)).heap.size := by simp
  have sqB := sq
  have bl2 := Below.on bl1 b1
  have hV2 := hV1.on b1
  replace k0 := (b1.cell (p := ⟨w.heap.size, 0, none⟩) sk).trans k0
  replace k1 := (b1.cell (p := ⟨w.heap.size, 1, none⟩) sk).trans k1
  replace r0 := (b1.cell (p := ⟨w.heap.size + 1, 0, none⟩) sr).trans r0
  replace r1 := (b1.cell (p := ⟨w.heap.size + 1, 1, none⟩) sr).trans r1
  replace rf0 := (b1.frozen (p := ⟨w.heap.size + 1, 0, none⟩) sr).trans rf0
  replace rf1 := (b1.frozen (p := ⟨w.heap.size + 1, 1, none⟩) sr).trans rf1
  replace sk := Nat.lt_of_lt_of_le sk b1.size
  replace sr := Nat.lt_of_lt_of_le sr b1.size
  clear b1 hV1 bl1
  go_wp2_with fail
  clear k0z
  generalize (w1.alloc (.cells #[.int .i64 m, .slice none 0 0] 56)) = W2 at *
  generalize w1.heap.size = q at *
  refine (specAllRankings m _).mono ?_; rintro e w3 ⟨L, nL, cL, rfl, hs, oL, hcont, b1⟩
  have HC := Lib.hid hcont; clear hcont
  have bl3 := Below.on bl2 b1
  have hV3 := hV2.on b1
  replace k0 := (b1.cell (p := ⟨w.heap.size, 0, none⟩) sk).trans k0
  replace k1 := (b1.cell (p := ⟨w.heap.size, 1, none⟩) sk).trans k1
  replace r0 := (b1.cell (p := ⟨w.heap.size + 1, 0, none⟩) sr).trans r0
  replace r1 := (b1.cell (p := ⟨w.heap.size + 1, 1, none⟩) sr).trans r1
  replace rf0 := (b1.frozen (p := ⟨w.heap.size + 1, 0, none⟩) sr).trans rf0
  replace rf1 := (b1.frozen (p := ⟨w.heap.size + 1, 1, none⟩) sr).trans rf1
  replace q0 := (b1.cell (p := ⟨q, 0, none⟩) sq).trans q0
  replace q1 := (b1.cell (p := ⟨q, 1, none⟩) sq).trans q1
  replace qf := (b1.frozen (p := ⟨q, 1, none⟩) sq).trans qf
  replace sk := Nat.lt_of_lt_of_le sk b1.size
  replace sq := Nat.lt_of_lt_of_le sq b1.size
  replace sr := Nat.lt_of_lt_of_le sr b1.size
  have hnl : hs.length = nL := oL.len
  have hnL : (nL : Int) ≤ 120 := by have := ranks_len m; rw [← HC.out, cont_len] at this; omega
  have HNL := Lib.hid hnl; clear hnl
  have HK : Hid (∀ k, k < nL → (ranksP m)[k]? = some (hx hs k)) := fun k hk => by rw [← HC.out]; exact cont_nth (by rw [HNL.out]; exact hk)
  have HLEN : Hid ((ranksP m).length = nL) := by rw [Hid, ← HC.out, cont_len]; exact HNL.out
  have HR : Hid (∀ k, k < nL → (hl hs k : Int) ≤ 5) := fun k hk => by
    have h1 := ranks_mem (List.mem_of_getElem? (HK.out k hk))
    exact rank_len5 h1
  have hqR : w.heap.size + 1 < q := sq0
  have hB3 := b1.size
  clear b1 hV2 bl2 hV3
  generalize W2.heap.size = B0 at *
  have HB0 := Lib.hid (show q < B0 from sqB)
  have bw3 := bl3
  clear bl3 sqB
  have OL := Lib.hid oL; clear oL
  go_wp2_with fail
  go_loopw [21] (fun u wr => ∃ (k : Nat) (A4 : Option Addr) (c4 : Nat) (G4 : Nat → Option Addr) (C4 : Nat → Nat), (k : Int) ≤ nL ∧ u = .int .i64 k ∧ wr.cell? ⟨q, 0, none⟩ = some (.int .i64 m) ∧ wr.cell? ⟨q, 1, none⟩ = some (.slice A4 (merK m vs k).length c4) ∧ wr.frozen? ⟨q, 1, none⟩ = false ∧ OwnV wr B0 A4 (merK m vs k).length c4 G4 C4 (rk (merK m vs k)) (ct (merK m vs k)) ∧ FromL A4 (merK m vs k).length G4 hs k ∧ (∀ a, A4 = some a → w3.heap.size ≤ a.block) ∧ Mid q (q + 1) w3 wr ∧ Below w.heap.size w wr) (fun u _ => nL - (intOf u).toNat)
  case atStart => exact ⟨0, none, 0, fun _ => none, fun _ => 0, by omega, rfl, q0, q1, qf, OwnV.nil_ _ _ _ _ _ _, FromL.start _ _, (fun a ha => by cases ha), Mid.refl _ _ _, bw3⟩
  case round =>
    obtain ⟨k, A4, c4, G4, C4, hk, rfl, y0, y1, yf, ov, fl, hge, md, bw⟩ := hrel
    obtain ⟨wo, rfl⟩ : ∃ wo : World, wo = wr := ⟨_, rfl⟩
    have hso := md.size
    have e0 := (md.cell (p := ⟨w.heap.size, 0, none⟩) sk (Or.inl (by show w.heap.size < q; omega))).trans k0
    have e1 := (md.cell (p := ⟨w.heap.size, 1, none⟩) sk (Or.inl (by show w.heap.size < q; omega))).trans k1
    have f0 := (md.cell (p := ⟨w.heap.size + 1, 0, none⟩) sr (Or.inl hqR)).trans r0
    have f1 := (md.cell (p := ⟨w.heap.size + 1, 1, none⟩) sr (Or.inl hqR)).trans r1
    have g0 := (md.frozen (p := ⟨w.heap.size + 1, 0, none⟩) sr (Or.inl hqR)).trans rf0
    have g1 := (md.frozen (p := ⟨w.heap.size + 1, 1, none⟩) sr (Or.inl hqR)).trans rf1
    have sko := Nat.lt_of_lt_of_le sk hso
    have sro := Nat.lt_of_lt_of_le sr hso
    have sqo := Nat.lt_of_lt_of_le sq hso
    have hVo := h.on bw
    have OLo := Lib.hid (OL.out.mid md (show q + 1 ≤ B0 from HB0.out))
    have OV := Lib.hid ov; clear ov
    have FL := Lib.hid fl; clear fl
    have HGE := Lib.hid hge; clear hge
    by_cases hlt : (k : Int) < nL
    · have hkn : k < nL := by omega
      obtain ⟨b, ob, rfl, hbs, hcL, _, _, hI⟩ := OLo.out.lists.at_ (k := k) hkn
      have hl5 := HR.out k hkn
      have HKK := Lib.hid (HK.out k hkn)
      go_wp2_with fail
      go_loopw [7, 28] (fun u v wx => ∃ j : Nat, (j : Int) ≤ n ∧ u = .int .i64 (cnt vs (hx hs k) j) ∧ v = .int .i64 j ∧ Below wo.heap.size wo wx) (fun _ v _ => n - (intOf v).toNat)
      case atStart => exact ⟨0, by omega, rfl, rfl, Below.refl _ _⟩
      case round =>
        obtain ⟨j, hj, rfl, rfl, hb⟩ := hrel
        obtain ⟨wi, rfl⟩ : ∃ wi : World, wi = wr := ⟨_, rfl⟩
        have hbs2 := hb.size
        have cb := cnt_bd HP.out (hx hs k) j (by rw [HVL.out]; omega)
        by_cases hlt2 : (j : Int) < n
        · obtain ⟨b', ob', rfl, hbs', ⟨B, d, v1, v2, v3, v4, v5⟩⟩ := (hVo.on hb).at_ (k := j) (by omega)
          have hct := (of_votes (of_prof HP.out).2.2 (k := j) (by rw [HVL.out]; omega)).2
          have hrl := HM.out j (by omega)
          have hal : Below wi.heap.size wi (wi.alloc (.cells #[.slice B (rl vs j) d, .int .i64 (ct vs j)] 89)) := (Below.refl _ _).alloc (Nat.le_refl _) _
          have x0 : (wi.alloc (.cells #[.slice B (rl vs j) d, .int .i64 (ct vs j)] 89)).cell? ⟨wi.heap.size, 0, none⟩ = some (.slice B (rl vs j) d) := by simp
          have x1 : (wi.alloc (.cells #[.slice B (rl vs j) d, .int .i64 (ct vs j)] 89)).cell? ⟨wi.heap.size, 1, none⟩ = some (.int .i64 (ct vs j)) := by simp
          have HS := Lib.hid (specSame B (hA hs k) (rl vs j) d (hl hs k) (hc hs k) (rk vs j) (hx hs k) _ (v4.on hal) ((hI.on hb).on hal) hrl (by omega))
          have hbA := hb.trans (hal.mono hbs2)
          go_wp2_with fail
          generalize wi.alloc (.cells #[.slice B (rl vs j) d, .int .i64 (ct vs j)] 89) = V at *
          refine HS.out.mono ?_; rintro e w4 ⟨rfl, rfl⟩
          by_cases hsame : rk vs j = hx hs k
          · rw [decide_eq_true hsame]
            have HCN := Lib.hid (cnt_yes hsame)
            clear hsame
            go_wp2_with fail
            go_roundw
            case rel => exact ⟨j + 1, by omega, by rw [HCN.out], by go_num, hbA⟩
            case measure => simp [intOf]; omega
          · rw [decide_eq_false hsame]
            have HCN := Lib.hid (cnt_no hsame)
            clear hsame
            go_wp2_with fail
            go_roundw
            case rel => exact ⟨j + 1, by omega, by rw [HCN.out], by go_num, hbA⟩
            case measure => simp [intOf]; omega
        · obtain rfl : j = n := by omega
          have HB := Lib.hid (hb)
          have HOVi := Lib.hid (OV.out.on hb)
          have HLi := Lib.hid (OLo.out.below hb (Nat.le_refl _))
          have z0 := (hb.cell (p := ⟨q, 0, none⟩) sqo).trans y0
          have z1 := (hb.cell (p := ⟨q, 1, none⟩) sqo).trans y1
          have zf := (hb.frozen (p := ⟨q, 1, none⟩) sqo).trans yf
          have sqi := Nat.lt_of_lt_of_le sqo hbs2
          obtain ⟨cc, hcc⟩ : ∃ cc, cc = cnt vs (hx hs k) j := ⟨_, rfl⟩
          rw [← hcc] at cb ⊢
          have HCC := Lib.hid hcc; clear hcc
          have hlen := mer_len_le m vs k
          have hcj : cc ≤ 24000 := by omega
          by_cases hpos : 0 < cc
          · have HMY := Lib.hid (mer_yes (m := m) (vs := vs) HKK.out (by rw [HVL.out, ← HCC.out]; exact hpos))
            have hal : Below wi.heap.size wi (wi.alloc (.cells #[.slice (hA hs k) (hl hs k) (hc hs k), .int .i64 cc] 89)) := (Below.refl _ _).alloc (Nat.le_refl _) _
            have x0 : (wi.alloc (.cells #[.slice (hA hs k) (hl hs k) (hc hs k), .int .i64 cc] 89)).cell? ⟨wi.heap.size, 0, none⟩ = some (.slice (hA hs k) (hl hs k) (hc hs k)) := by simp
            have x1 : (wi.alloc (.cells #[.slice (hA hs k) (hl hs k) (hc hs k), .int .i64 cc] 89)).cell? ⟨wi.heap.size, 1, none⟩ = some (.int .i64 cc) := by simp
            have hOV2 := HOVi.out.on hal
            have hOL2 := HLi.out.below hal (Nat.le_refl _)
            have hON := hOL2.each k (by rw [HNL.out]; exact hkn)
            have hA1 := FL.out.ap1 hOL2 (by rw [HNL.out]; exact hkn)
            have hA2 := FL.out.off k (by rw [HNL.out]; exact hkn)
            have z1w := z1
            replace z0 := (hal.cell (p := ⟨q, 0, none⟩) sqi).trans z0
            replace z1 := (hal.cell (p := ⟨q, 1, none⟩) sqi).trans z1
            replace zf := (hal.frozen (p := ⟨q, 1, none⟩) sqi).trans zf
            have sqV := Nat.lt_of_lt_of_le sqi hal.size
            have hbb : B0 ≤ (wi.alloc (.cells #[.slice (hA hs k) (hl hs k) (hc hs k), .int .i64 cc] 89)).heap.size := by have := hal.size; omega
            have hk20 : (merK m vs k).length ≤ 1048576 := by omega
            have HNQ := Lib.hid (fun (a : Addr) (ha : A4 = some a) => show a.block ≠ q by have := HGE.out a ha; omega)
            go_wp2_with (first | (at_builtin; refine wpList_apW _ rfl (.tmp 44) (.tmp 48) rfl B0 A4 (merK m vs k).length c4 G4 C4 (rk (merK m vs k)) (ct (merK m vs k)) rfl hOV2 (hA hs k) (hc hs k) (hx hs k) cc wi.heap.size 1 rfl x0 x1 hON hA1 hA2 hk20 hbb ?_; intro A5 c5 w5 o5 g5 p5; have u0 := far_cell g5 sqV HNQ.out z0; have u1 := far_cell g5 sqV HNQ.out z1; have uf := far_frozen g5 sqV HNQ.out zf))
            go_roundw
            case rel =>
              have hL1 : (merK m vs (k + 1)).length = (merK m vs k).length + 1 := by rw [HMY.out]; simp
              have hcq : cnt vs (hx hs k) vs.length = cc := by rw [HVL.out, HCC.out]
              have o6 := (o5.setOther (p := ⟨q, 1, none⟩) (show q < B0 from HB0.out) (.slice A5 ((merK m vs k).length + 1) c5)).congr (R' := rk (merK m vs (k + 1))) (T' := ct (merK m vs (k + 1))) (fun i hi => by rw [HMY.out, ← rk_snoc hi]) (fun i hi => by rw [HMY.out, ← ct_snoc hi, hcq])
              have fl6 := FL.out.snoc hOL2 (by rw [HNL.out]; exact hkn) p5
              have m6 := (((md.on HB.out).on hal).grown g5 (fun r hr => by obtain ⟨a0, h1, h2⟩ := map_block hr.symm; have := HGE.out a0 h1; omega)).trans (Mid.setCell w5 (p := ⟨q, 1, none⟩) (show q ≤ q ∧ q < q + 1 by omega) (.slice A5 ((merK m vs k).length + 1) c5))
              have hwB : w.heap.size ≤ B0 := by have := HB0.out; omega
              have b6 := (below_apV (Below.on (Below.on bw HB.out) hal) (hOV2.mono hwB) g5 (by omega)).setCell (p := ⟨q, 1, none⟩) (show w.heap.size ≤ q by omega) (.slice A5 ((merK m vs k).length + 1) c5)
              refine ⟨k + 1, A5, c5, _, _, by omega, by go_num, (World.cell?_setCell_other _ _ _ _ (by simp)).trans u0, by rw [hL1]; exact World.cell?_setCell_same _ _ _ u1, by simp [go_sem, uf], by rw [hL1]; exact o6, by rw [hL1]; exact fl6, ?_, m6, b6⟩
              intro a ha
              rcases p5 with e | e
              · rw [ha] at e
                obtain ⟨a0, h1, h2⟩ := map_block e
                have := HGE.out a0 h1
                simp only [] at h2
                omega
              · rw [ha] at e
                injection e with e
                have := hal.size
                simp only [] at e
                omega
            case measure => simp [intOf]; omega
          · have HMN := Lib.hid (mer_no (m := m) (vs := vs) HKK.out (by rw [HVL.out, ← HCC.out]; exact hpos))
            go_wp2_with fail
            go_roundw
            case rel =>
              exact ⟨k + 1, A4, c4, G4, C4, by omega, by go_num, z0, by rw [HMN.out]; exact z1, zf, by rw [HMN.out]; exact HOVi.out, by rw [HMN.out]; exact FL.out.next, HGE.out, md.on HB.out, Below.on bw HB.out⟩
            case measure => simp [intOf]; omega
    · have HMP : Hid (merK m vs k = merP m vs) := by
        rw [Hid, merP, HLEN.out]
        congr 1; omega
      have OV2 := OV.out
      rw [HMP.out] at OV2 y1
      have hv4 := OV2.votes rfl (fun _ _ => rfl) (fun _ _ => rfl)
      have hmf := mer_few m vs
      have hml : ((merP m vs).length : Int) ≤ 1048576 := by have := HVL.out; omega
      have hmr := mer_rl m vs
      have hwB : w.heap.size ≤ B0 := by have := HB0.out; omega
      have OV2 := Lib.hid OV2
      clear hmf
      go_wp2_with fail
      refine (specProfileOk m A4 _ c4 (merP m vs) _ hv4 hml hmr).mono ?_; rintro e w5 ⟨rfl, b5⟩
      have OV5 := OV2.out.on b5
      have bl5 := Below.on bw b5
      replace y0 := (b5.cell (p := ⟨q, 0, none⟩) sqo).trans y0
      replace y1 := (b5.cell (p := ⟨q, 1, none⟩) sqo).trans y1
      replace f0 := (b5.cell (p := ⟨w.heap.size + 1, 0, none⟩) sro).trans f0
      replace f1 := (b5.cell (p := ⟨w.heap.size + 1, 1, none⟩) sro).trans f1
      replace g0 := (b5.frozen (p := ⟨w.heap.size + 1, 0, none⟩) sro).trans g0
      replace g1 := (b5.frozen (p := ⟨w.heap.size + 1, 1, none⟩) sro).trans g1
      have hRB : w.heap.size + 1 < B0 := by have := HB0.out; omega
      have OV5 := Lib.hid OV5
      clear hv4 hml hmr
      rw [HQ.out]
      rcases hMV.out with ⟨rfl, rfl, rfl⟩ | ⟨rfl, rfl, rfl⟩
      · go_wp2_with fail
        exact bodyPost_ret (v := .tuple #[.agg #[.int .i64 M, .slice A4 (merP M vs).length c4], .bool true]) (by simp [results, Try.results33, go_sem, f0, f1]) rfl ⟨A4, c4, G4, C4, rfl, ((OV5.out.setOther (p := ⟨w.heap.size + 1, 0, none⟩) hRB _).setOther (p := ⟨w.heap.size + 1, 1, none⟩) hRB _).mono hwB, (bl5.setCell (by show w.heap.size ≤ w.heap.size + 1; omega) _).setCell (by show w.heap.size ≤ w.heap.size + 1; omega) _⟩
      · go_wp2_with fail
        exact bodyPost_ret (v := .tuple #[.agg #[.int .i64 0, .slice none 0 0], .bool false]) (by simp [results, Try.results33, go_sem, f0, f1]) rfl ⟨none, 0, fun _ => none, fun _ => 0, rfl, OwnV.nil_ _ _ _ _ _ _, (bl5.setCell (by show w.heap.size ≤ w.heap.size + 1; omega) _).setCell (by show w.heap.size ≤ w.heap.size + 1; omega) _⟩
end Go.Proofs.Ytaclpilehlednaa
