/- The table of places and its columns: what the reference's functions compute. -/
import Derived.Test.YtblofiimfhbkdabPlainPlace
import Derived.Test.YtblofiimfhbkdabAppendL
import Derived.Test.YtblofiimfhbkdabRank1
import Derived.Deep.RegionWith
import Derived.Deep.DeepCutAuto
import Derived.Deep.DrawnRows
namespace Go.Proofs.Ytblofiimfhbkdab
open Go.RowKit
set_option maxRecDepth 100000

theorem ownL_empty (w : World) {base : Nat} (h : base ≤ w.heap.size) : OwnL (w.alloc (.cells #[] 26)) base (some ⟨w.heap.size, 0, none⟩) 0 0 [] :=
  ⟨World.ownsRow_lit (e := 26) (size := 1) w #[] 0 h (Nat.zero_le _) rfl, fun k hk => absurd hk (by simp), fun i j _ hj => absurd hj (by simp), fun k hk => absurd hk (by simp)⟩
/-- What a walk over a valid profile's votes needs. -/
theorem pl_facts {q n : Nat} {vs : List (List Int × Int)} (hl : vs.length = n) (h : profP q vs = true) : (1 ≤ q ∧ q ≤ 5) ∧ n ≤ 24 ∧ ∀ k, k < n → rankOkP q (rk vs k) = true ∧ rl vs k = q ∧ (1 ≤ ct vs k ∧ ct vs k ≤ 1000) := by
  have h1 := of_prof h
  refine ⟨by omega, by omega, fun k hk => ?_⟩
  have h2 := of_votes h1.2.2 (k := k) (by omega)
  have h3 := of_rank h2.1
  have h4 : (rk vs k).length = rl vs k := rfl
  exact ⟨h2.1, by omega, h2.2⟩
theorem hx_snoc {hs : List Hd} {a : Nat} (hl : hs.length = a) (h1 : Hd) (f : Nat → List Int) (hall : ∀ i, i < a → hx hs i = f i) (he : h1.2.2 = f a) : ∀ i, i < a + 1 → hx (hs ++ [h1]) i = f i := by
  intro i hi
  by_cases e : i = a
  · subst e
    rw [← he]
    unfold hx
    rw [← hl, hnth_last]
  · rw [← hall i (by omega)]
    unfold hx
    rw [hnth_lt (by omega)]

attribute [local go_sem ↓] Go.wp_at_zero Go.wp_at_succ
set_option maxHeartbeats 8000000 in
theorem specPlaceTable (q : Nat) (A : Option Addr) (n c : Nat) (vs : List (List Int × Int)) (w : World) (h : Votes w A n vs) (hn : (n : Int) ≤ 1048576) (hm : ∀ j, j < n → (rl vs j : Int) ≤ 1048576) (hp : profP q vs = true) :
    Calls Try.prog 71 #[.agg #[.int .i64 (q : Int), .slice A n c]] w fun e w' => ∃ A' c' hs, e = .returned (.slice A' q c') ∧ OwnL w' w.heap.size A' q c' hs ∧ (∀ i, i < q → hx hs i = plRow vs n q i) ∧ Below w.heap.size w w' := by
  have bl : Below w.heap.size w (w.alloc (.cells #[.int .i64 (q : Int), .slice A n c] 30)) := (Below.refl _ _).alloc (Nat.le_refl _) _
  have k0 : (w.alloc (.cells #[.int .i64 (q : Int), .slice A n c] 30)).cell? ⟨w.heap.size, 0, none⟩ = some (.int .i64 (q : Int)) := by simp
  have k1 : (w.alloc (.cells #[.int .i64 (q : Int), .slice A n c] 30)).cell? ⟨w.heap.size, 1, none⟩ = some (.slice A n c) := by simp
  have sW : w.heap.size < (w.alloc (.cells #[.int .i64 (q : Int), .slice A n c] 30)).heap.size := by simp
  have hV := h.on bl
  obtain ⟨hq5, hn24, hf5⟩ := pl_facts h.1 hp
  have HP : Hid (profP q vs = true) := hp
  have HF5 := Lib.hid hf5; clear hf5 hp
  have HM := Lib.hid hm; clear hm
  have hnn : (n : Int) ≤ 24 := by omega
  have hqq : (q : Int) ≤ 5 := by omega
  go_enter Try.func71, Try.ntmps71
  go_wp2_with fail
  refine (specProfileOk q A n c vs _ hV hn HM.out).mono ?_; rintro e w1 ⟨rfl, b1⟩
  rw [HP.out]
  have bl1 := Below.on bl b1
  have hV1 := hV.on b1
  have k0 := (b1.cell (p := ⟨w.heap.size, 0, none⟩) sW).trans k0
  have k1 := (b1.cell (p := ⟨w.heap.size, 1, none⟩) sW).trans k1
  have s1 := Nat.lt_of_lt_of_le sW b1.size
  clear b1 sW
  go_wp2_with fail
  have hst := ownL_empty w1 (base := w1.heap.size) (Nat.le_refl _)
  have hbl : Below w1.heap.size w1 (w1.alloc (.cells #[] 26)) := (Below.refl _ _).alloc (Nat.le_refl _) _
  have HMK := Lib.hid (run_make_row' (P := Try.prog) 26 3 (.int .i64 0) 8 Try.underlying26 infoInt rfl .i64 .i64 q (by omega) (by omega))
  generalize w1.alloc (.cells #[] 26) = W0 at *
  go_loopw [3, 4] (fun u v wr => ∃ (a : Nat) (A' : Option Addr) (c' : Nat) (hs : List Hd), (a : Int) ≤ q ∧ u = .slice A' a c' ∧ v = .int .i64 a ∧ OwnL wr w1.heap.size A' a c' hs ∧ (∀ i, i < a → hx hs i = plRow vs n q i) ∧ Below w1.heap.size w1 wr) (fun _ v _ => q - (intOf v).toNat)
  case atStart => exact ⟨0, _, 0, [], by omega, rfl, rfl, hst, fun i hi => absurd hi (by omega), hbl⟩
  case round =>
    obtain ⟨a, A', c', hs, ha, rfl, rfl, hL, hall, hb⟩ := hrel
    obtain ⟨wo, rfl⟩ : ∃ wo : World, wo = wr := ⟨_, rfl⟩
    have hbs0 := hb.size
    have k0o := (hb.cell (p := ⟨w.heap.size, 0, none⟩) s1).trans k0
    have k1o := (hb.cell (p := ⟨w.heap.size, 1, none⟩) s1).trans k1
    have so := Nat.lt_of_lt_of_le s1 hbs0
    have HAL := Lib.hid hall; clear hall
    by_cases hlt : (a : Int) < q
    · have haq : a < q := by omega
      have hmk := HMK.out
      go_wp2_with fail
      clear hmk
      have hst2 : (wo.alloc (.cells (madeCells #[.int .i64 0] q) 3)).rowIs wo.heap.size 3 q (fun p => .int .i64 (plT vs 0 p a)) := (World.rowIs_made wo (.int .i64 0) q 3).congr fun j _ => by rw [plT_zero]
      have hbl2 : Below wo.heap.size wo (wo.alloc (.cells (madeCells #[.int .i64 0] q) 3)) := (Below.refl _ _).alloc (Nat.le_refl _) _
      have k0r := (hbl2.cell (p := ⟨w.heap.size, 0, none⟩) so).trans k0o
      have k1r := (hbl2.cell (p := ⟨w.heap.size, 1, none⟩) so).trans k1o
      generalize wo.alloc (.cells (madeCells #[.int .i64 0] q) 3) = W2 at *
      have HL := Lib.hid hL; clear hL
      go_loopw [25] (fun u wr => ∃ k : Nat, (k : Int) ≤ n ∧ u = .int .i64 k ∧ wr.rowIs wo.heap.size 3 q (fun p => .int .i64 (plT vs k p a)) ∧ Below wo.heap.size wo wr) (fun u _ => n - (intOf u).toNat)
      case atStart => exact ⟨0, by omega, rfl, hst2, hbl2⟩
      case round =>
        obtain ⟨k, hk, rfl, hrow, hb2⟩ := hrel
        obtain ⟨wi, rfl⟩ : ∃ wi : World, wi = wr := ⟨_, rfl⟩
        by_cases hlt2 : (k : Int) < n
        · obtain ⟨b, ob, rfl, hbs, ⟨B, d, q1, q2, q3, q4, q5⟩⟩ := ((hV1.on hb).on hb2).at_ (k := k) (by omega)
          obtain ⟨hrk, hrl, hct⟩ := HF5.out k (by omega)
          obtain ⟨p, hpq, hpi⟩ := place_ex hrk haq
          have hlb : (q : Int) ≤ 1048576 := by omega
          rw [hrl] at q1 q2 q4
          clear hrl
          have tb := plT_bd (vs := vs) p a k (fun j hj => (HF5.out j (by omega)).2.2)
          have hc4 := hrow.cell (i := p) hpq
          have hf4 := hrow.frozen p
          have hsi := hrow.lt
          have HST := Lib.hid (pl_store (vs := vs) hrk hpi hpq)
          clear hrk
          have hp0 : (p : Int) < q := by omega
          have bA : Below wi.heap.size wi (wi.alloc (.cells #[.slice B q d, .int .i64 (ct vs k)] 63)) := (Below.refl _ _).alloc (Nat.le_refl _) _
          have v0 : (wi.alloc (.cells #[.slice B q d, .int .i64 (ct vs k)] 63)).cell? ⟨wi.heap.size, 0, none⟩ = some (.slice B q d) := by simp
          have v1 : (wi.alloc (.cells #[.slice B q d, .int .i64 (ct vs k)] 63)).cell? ⟨wi.heap.size, 1, none⟩ = some (.int .i64 (ct vs k)) := by simp
          have sV : wi.heap.size < (wi.alloc (.cells #[.slice B q d, .int .i64 (ct vs k)] 63)).heap.size := by simp
          have hPO := specPlaceOf B q d (rk vs k) (a : Int) _ (q4.on bA) hlb
          rw [hpi] at hPO
          have HPO := Lib.hid hPO; clear hPO
          have hrA := hrow.of_block (bA.block _ hsi)
          have hcA := hrA.cell (i := p) hpq
          have hfA := hrA.frozen p
          have hbA := hb2.trans (bA.mono hb2.size)
          clear hc4 hf4
          go_wp2_with fail
          generalize wi.alloc (.cells #[.slice B q d, .int .i64 (ct vs k)] 63) = V at *
          refine HPO.out.mono ?_; rintro e w3 ⟨rfl, rfl⟩
          have hsA := hrA.lt
          go_wp2_with fail
          go_region
          go_simp
          go_wp2_with fail
          go_roundw
          case rel => exact ⟨k + 1, by omega, by go_num, (hrA.set p _).congr fun j hj => HST.out j hj, (hbA.setCell (Nat.le_refl _) _).drew⟩
          case measure => simp [intOf]; omega
        · obtain rfl : k = n := by omega
          have hown := own_of_row hrow (Nat.le_refl _) (by simp only [maxLen]; omega) (by rw [iv_len]; exact plRow_len vs k q a) (fun j hj => by rw [iv_at (by rw [plRow_len]; exact hj), plRow_nth hj])
          have hLi := HL.out.below hb2 (Nat.le_refl _)
          have hin := HL.out.inn
          have hsz2 := hb2.size
          have hrl3 := plRow_len vs k q a
          have HOW := Lib.hid hown; clear hown
          have HLI := Lib.hid hLi; clear hLi
          have HIN := Lib.hid hin; clear hin
          have hL1 := own_allocL HLI.out (.cells #[.slice (some ⟨wo.heap.size, 0, none⟩) q q] 26)
          have hO1 := own_alloc (own_mono HOW.out hbs0) (.cells #[.slice (some ⟨wo.heap.size, 0, none⟩) q q] 26)
          have HRL := Lib.hid hrl3; clear hrl3
          have ho1 : Own (wi.alloc (.cells #[.slice (some ⟨wo.heap.size, 0, none⟩) q q] 26)) w1.heap.size (some ⟨wo.heap.size, 0, none⟩) (plRow vs k q a).length q (plRow vs k q a) := by rw [HRL.out]; exact hO1
          have HO1 := Lib.hid ho1; clear ho1 hO1
          have HL1 := Lib.hid hL1; clear hL1
          have hcl : (wi.alloc (.cells #[.slice (some ⟨wo.heap.size, 0, none⟩) q q] 26)).cell? ⟨wi.heap.size, 0, none⟩ = some (hv (some ⟨wo.heap.size, 0, none⟩, q, plRow vs k q a)) := by simp [hv, HRL.out]
          have HCL := Lib.hid hcl; clear hcl
          have hbL : Below w1.heap.size w1 (wi.alloc (.cells #[.slice (some ⟨wo.heap.size, 0, none⟩) q q] 26)) := (Below.on hb hb2).alloc (by omega) _
          have hszL : w1.heap.size ≤ (wi.alloc (.cells #[.slice (some ⟨wo.heap.size, 0, none⟩) q q] 26)).heap.size := by simp; omega
          go_wp2_with (first | (at_builtin; refine wpList_apL _ rfl _ _ rfl w1.heap.size A' a c' hs rfl HL1.out (some ⟨wo.heap.size, 0, none⟩, q, plRow vs k q a) wi.heap.size 1 rfl HCL.out HO1.out wo.heap.size HIN.out (fun a ha => by injection ha with ha; subst ha; exact Nat.le_refl _) (by omega) hszL ?_; intro A2 c2 w4 hL4 hg4 hblk))
          go_roundw
          case rel => exact ⟨a + 1, A2, c2, _, by omega, rfl, by go_num, hL4, hx_snoc HL.out.len _ _ HAL.out rfl, below_apL hbL HL1.out hg4 hszL⟩
          case measure => simp [intOf]; omega
    · obtain rfl : a = q := by omega
      go_wp2_with fail
      go_ret
      exact ⟨A', c', rfl, hs, hL.mono (by have := bl1.size; omega), HAL.out, Below.on bl1 hb⟩

set_option maxHeartbeats 2000000 in
theorem specPlaceTableNo (m : Int) (A : Option Addr) (n c : Nat) (vs : List (List Int × Int)) (w : World) (h : Votes w A n vs) (hn : (n : Int) ≤ 1048576) (hm : ∀ j, j < n → (rl vs j : Int) ≤ 1048576) (hp : profP m vs = false) :
    Calls Try.prog 71 #[.agg #[.int .i64 m, .slice A n c]] w fun e w' => e = .returned (.slice none 0 0) ∧ Below w.heap.size w w' := by
  have bl : Below w.heap.size w (w.alloc (.cells #[.int .i64 m, .slice A n c] 30)) := (Below.refl _ _).alloc (Nat.le_refl _) _
  have hV := h.on bl
  have HP : Hid (profP m vs = false) := hp
  have HM := Lib.hid hm; clear hm
  clear hp
  go_enter Try.func71, Try.ntmps71
  go_wp2_with fail
  refine (specProfileOk m A n c vs _ hV hn HM.out).mono ?_; rintro e w1 ⟨rfl, b1⟩
  rw [HP.out]
  go_wp2_with fail
  go_ret
  exact ⟨rfl, Below.on bl b1⟩

set_option maxHeartbeats 4000000 in
theorem specL05Column (m : Int) (A : Option Addr) (n c : Nat) (vs : List (List Int × Int)) (last : Bool) (w : World) (h : Votes w A n vs) (hn : (n : Int) ≤ 1048576) (hm : ∀ j, j < n → (rl vs j : Int) ≤ 1048576) :
    Calls Try.prog 40 #[.agg #[.int .i64 m, .slice A n c], .bool last] w fun e w' => ∃ A' c', e = .returned (.slice A' (colP m vs last).length c') ∧ Own w' w.heap.size A' (colP m vs last).length c' (colP m vs last) ∧ Below w.heap.size w w' := by
  have bl : Below w.heap.size w ((w.alloc (.cells #[.int .i64 m, .slice A n c] 30)).alloc (.cells #[] 3)) := ((Below.refl _ _).alloc (Nat.le_refl _) _).alloc (by simp) _
  have he : Own ((w.alloc (.cells #[.int .i64 m, .slice A n c] 30)).alloc (.cells #[] 3)) w.heap.size (some ⟨w.heap.size + 1, 0, none⟩) 0 0 [] := by
    have := own_empty (w.alloc (.cells #[.int .i64 m, .slice A n c] 30)) (base := w.heap.size) (by simp)
    simpa using this
  have hV := h.on bl
  have HM := Lib.hid hm; clear hm
  have HL := Lib.hid h.1
  cases hp : profP m vs with
  | false =>
    have HN := Lib.hid (specPlaceTableNo m A n c vs _ hV hn HM.out hp)
    rw [col_no hp]
    go_enter Try.func40, Try.ntmps40
    go_wp2_with fail
    refine HN.out.mono ?_; rintro e w1 ⟨rfl, b1⟩
    have he1 := own_below he b1 (Nat.le_refl _)
    go_wp2_with fail
    go_loopw [5, 12] (fun v u wr => v = .slice (some ⟨w.heap.size + 1, 0, none⟩) 0 0 ∧ u = .int .i64 0 ∧ w1 = wr) (fun _ _ _ => 0)
    case atStart => exact ⟨rfl, rfl, rfl⟩
    case round =>
      obtain ⟨rfl, rfl, rfl⟩ := hrel
      go_wp2_with fail
      go_ret
      exact ⟨_, 0, rfl, he1, Below.on bl b1⟩
  | true =>
    obtain ⟨q, rfl⟩ : ∃ q : Nat, m = (q : Int) := ⟨m.toNat, by have := (of_prof hp).1; omega⟩
    have hq5 := (of_prof hp).1
    have HN := Lib.hid (specPlaceTable q A n c vs _ hV hn HM.out hp)
    rw [col_yes HL.out hp, plCol_len]
    have hlp : lastPl last (q : Int) < q := by unfold lastPl; split <;> omega
    have HLP : Hid (lastPl last (q : Int) = if last then q - 1 else 0) := by show lastPl last (q : Int) = _; unfold lastPl; rw [Int.toNat_natCast]
    obtain ⟨pl, hpl⟩ : ∃ pl, pl = lastPl last (q : Int) := ⟨_, rfl⟩
    rw [← hpl] at hlp HLP ⊢
    clear hpl hp
    go_enter Try.func40, Try.ntmps40
    go_wp2_with fail
    refine HN.out.mono ?_; rintro e w1 ⟨A1, c1, hs, rfl, hL, hall, b1⟩
    have he1 := own_below he b1 (Nat.le_refl _)
    have bl1 := Below.on bl b1
    have bsz := bl1.size
    have HA := Lib.hid hall; clear hall
    have hT : ((w.alloc (.cells #[.int .i64 (q : Int), .slice A n c] 30)).alloc (.cells #[] 3)).heap.size = w.heap.size + 1 + 1 := by simp
    rw [hT] at hL
    have HIN := Lib.hid hL.inn
    have HL1 := Lib.hid hL
    have hqn : (q : Int) ≤ 5 := by omega
    have h2w : w.heap.size + 1 + 1 ≤ w1.heap.size := by have := b1.size; omega
    clear hL bl b1 he hT
    go_wp2_with fail
    go_loopw [5, 12] (fun v u wr => ∃ (a : Nat) (B : Option Addr) (d : Nat), (a : Int) ≤ q ∧ u = .int .i64 a ∧ v = .slice B a d ∧ Own wr w.heap.size B a d (plCol vs n a pl) ∧ Below w.heap.size w wr ∧ OwnL wr (w.heap.size + 1 + 1) A1 q c1 hs ∧ (∀ r, B.map (·.block) = some r → r < w.heap.size + 1 + 1 ∨ w1.heap.size ≤ r) ∧ w1.heap.size ≤ wr.heap.size) (fun _ u _ => q - (intOf u).toNat)
    case atStart => exact ⟨0, _, 0, by omega, rfl, rfl, he1, bl1, HL1.out, fun r hr => .inl (by injection hr with hr; subst hr; show w.heap.size + 1 < _; omega), Nat.le_refl _⟩
    case round =>
      obtain ⟨a, B, d, ha, rfl, rfl, hown, hb, hLo, hfr, hw1⟩ := hrel
      have hLs := hLo.lists
      obtain ⟨wo, rfl⟩ : ∃ wo : World, wo = wr := ⟨_, rfl⟩
      have hbs0 := hb.size
      by_cases hlt : (a : Int) < q
      · have haq : a < q := by omega
        obtain ⟨b, ob, rfl, hbs, hcl, hcap, hmx, hri⟩ := hLs.at_ (k := a) haq
        have hrow := HA.out a haq
        have hln : hl hs a = q := by unfold hl; rw [hrow, plRow_len]
        rw [hrow, hln] at hri
        rw [hln] at hcl
        obtain ⟨b2, o2, hA2, hbs2, hx2⟩ := hri.at_ (k := pl) hlp
        rw [plRow_nth hlp] at hx2
        rw [hA2] at hcl
        have HSN := Lib.hid (plCol_succ vs n a pl)
        have HOW := Lib.hid hown; clear hown
        have HLO := Lib.hid hLo; clear hLo hLs
        have HFR := Lib.hid hfr; clear hfr
        clear hln hrow hri hA2
        have hbx : Below w.heap.size w (wo.alloc (.cells #[.int .i64 (plT vs n pl a)] 3)) := hb.alloc hbs0 _
        have hszx : w.heap.size ≤ (wo.alloc (.cells #[.int .i64 (plT vs n pl a)] 3)).heap.size := by simp; omega
        cases last with
        | true =>
          have hpl : (pl : Int) = q - 1 := by have := HLP.out; simp only [if_true] at this; omega
          have hqp : (q : Int) - 1 = pl := by omega
          clear hpl
          go_wp2_with (first | (at_builtin; refine wpList_ap _ rfl _ _ rfl w.heap.size B a d (plCol vs n a pl) rfl (own_alloc HOW.out _) (some ⟨wo.heap.size, 0, none⟩) 1 1 [plT vs n pl a] rfl (ints_one wo _ _) (by omega) (by simp; omega) ?_; intro A' c' w3 hown' hg hblk))
          rw [← HSN.out] at hown'
          go_roundw
          case rel => exact ⟨a + 1, A', c', by omega, by go_num, rfl, hown', below_ap hbx (own_alloc HOW.out _) hg hszx, (own_allocL HLO.out _).far hg HIN.out HFR.out, fun r hr => by rcases hblk with e | e <;> rw [e] at hr; exact HFR.out r hr; injection hr with hr; subst hr; right; simp; omega, by have := hg.size; simp at this; omega⟩
          case measure => simp [intOf]; omega
        | false =>
          rw [show pl = 0 by have := HLP.out; simpa using this, Nat.add_zero] at hx2
          obtain rfl : pl = 0 := by have := HLP.out; simp only [Bool.false_eq_true, if_false] at this; omega
          go_wp2_with (first | (at_builtin; refine wpList_ap _ rfl _ _ rfl w.heap.size B a d (plCol vs n a 0) rfl (own_alloc HOW.out _) (some ⟨wo.heap.size, 0, none⟩) 1 1 [plT vs n 0 a] rfl (ints_one wo _ _) (by omega) (by simp; omega) ?_; intro A' c' w3 hown' hg hblk))
          rw [← HSN.out] at hown'
          go_roundw
          case rel => exact ⟨a + 1, A', c', by omega, by go_num, rfl, hown', below_ap hbx (own_alloc HOW.out _) hg hszx, (own_allocL HLO.out _).far hg HIN.out HFR.out, fun r hr => by rcases hblk with e | e <;> rw [e] at hr; exact HFR.out r hr; injection hr with hr; subst hr; right; simp; omega, by have := hg.size; simp at this; omega⟩
          case measure => simp [intOf]; omega
      · obtain rfl : a = q := by omega
        go_wp2_with fail
        go_ret
        exact ⟨B, d, rfl, hown, hb⟩
end Go.Proofs.Ytblofiimfhbkdab
