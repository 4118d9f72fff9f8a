/- The program's MergeProfile. -/
import Derived.Test.YtaclpilehlednaaMergeS
import Derived.Test.YtaclpilehlednaaGreat
import Derived.Test.YtaclpilehlednaaNum
import Derived.Test.YtaclpilehlednaaOrders
import Derived.Deep.RegionHeld3
import Derived.Deep.RegionHeldLaw
/-! The program's MergeProfile. -/
namespace Go.Proofs.Ytaclpilehlednaa
open Go.RowKit
set_option maxRecDepth 100000

theorem num_atI {m : Int} {xs : List Int} (h : rankOkP m xs = true) : ∃ i : Nat, numP xs = (i : Int) ∧ i < (ranksP m).length ∧ (ranksP m)[i]? = some xs := by
  have hm := rank_len h
  obtain ⟨q, rfl⟩ : ∃ q : Nat, m = (q : Int) := ⟨m.toNat, by omega⟩
  obtain ⟨h1, h2, h3⟩ := num_at h
  exact ⟨(numP xs).toNat, by omega, by omega, h3⟩
theorem step_apW (w : World) {ops : Array Oper} {o : Oper} {a : Act} {K : Act → World → Prop} {Q : Exit → Act → World → Prop} {E : Prop} (hgd : o.guard = none) (s x : Operand)
    (ho : o.op = .call { callee := .builtin .append, args := #[s, x], argTypes := #[54, 54] })
    (base : Nat) (A : Option Addr) (n c : Nat) (G : Nat → Option Addr) (C : Nat → Nat) (R : Nat → List Int) (T : Nat → Int) (he : a.eval s = .slice A n c) (hown : OwnV w base A n c G C R T) (G1 : Option Addr) (C1 : Nat) (R1 : List Int) (T1 : Int) (g d : Nat) (hx : a.eval x = .slice (some ⟨g, 0, none⟩) 1 d)
    (hcell : w.cell? ⟨g, 0, none⟩ = some (.slice G1 R1.length C1)) (hcell1 : w.cell? ⟨g, 1, none⟩ = some (.int .i64 T1)) (hon : Own w base G1 R1.length C1 R1) (hap1 : ∀ k, k < n → ∀ a b, G k = some a → G1 = some b → a.block ≠ b.block) (hap2 : ∀ a g, G1 = some a → A = some g → a.block ≠ g.block) (hlen : n ≤ 1048576) (hbase : base ≤ w.heap.size)
    (hK : ∀ A' c' w', OwnV w' base A' (n + 1) c' (fun j => if j = n then G1 else G j) (fun j => if j = n then C1 else C j) (fun j => if j = n then R1 else R j) (fun j => if j = n then T1 else T j) → w.grownBy w' (A.map (·.block)) → (A'.map (·.block) = A.map (·.block) ∨ A'.map (·.block) = some w.heap.size) → K (a.put o.dst (.slice A' (n + 1) c')) w') :
    if Region.wanted o (yielded ops a.tmps) = true then Oper.wp Try.prog o a w K Q else E := by
  have hw : Region.wanted o (yielded ops a.tmps) = true := by simp [Region.wanted, hgd]
  rw [if_pos hw]
  obtain ⟨A', c', w', q1, q2, q3, q4⟩ := run_apW hown G1 C1 R1 T1 g d hcell hcell1 hon hap1 hap2 o.type hlen hbase
  unfold Oper.wp execOp
  simp only [ho, resolve, invoke, builtin, Sem.run_bind, Sem.run_pure, Result.andThen_ok, List.map_toArray, List.map_cons, List.map_nil, he, hx, q1]
  exact hK A' c' w' q2 q3 q4

theorem cL_next {m : Int} {vs : List (List Int × Int)} {k i : Nat} (h : (ranksP m)[i]? = some (rk vs k)) (j : Nat) : (if j = i then Value.int .i64 (nth (cL m vs k) i + ct vs k) else Value.int .i64 (nth (cL m vs k) j)) = Value.int .i64 (nth (cL m vs (k + 1)) j) := by
  have hi : i < (cL m vs k).length := by rw [cL_len]; exact (List.getElem?_eq_some_iff.1 h).1
  rw [← cL_step h, nth_set hi]
  split <;> rfl
set_option maxHeartbeats 2000000 in
theorem implMergeF (m : Int) (A : Option Addr) (n c : Nat) (vs : List (List Int × Int)) (w : World) (h : Votes w A n vs) (hn : (n : Int) ≤ 1048576) (hm : ∀ j, j < n → (rl vs j : Int) ≤ 1048576) (hp : profP m vs = false) :
    Calls Try.prog 35 #[.agg #[.int .i64 m, .slice A n c]] w fun e w' => e = .returned (.tuple #[.agg #[.int .i64 0, .slice none 0 0], .bool false]) ∧ Below w.heap.size w w' := by
  have HP := Lib.hid hp; clear hp
  have bl : Below w.heap.size w ((w.alloc (.cells #[.int .i64 m, .slice A n c] 56)).alloc (.cells #[.int .i64 0, .slice none 0 0] 56)) := ((Below.refl _ _).alloc (Nat.le_refl _) _).alloc (by simp) _
  have k0 : ((w.alloc (.cells #[.int .i64 m, .slice A n c] 56)).alloc (.cells #[.int .i64 0, .slice none 0 0] 56)).cell? ⟨w.heap.size, 0, none⟩ = some (.int .i64 m) := by simp
  have k1 : ((w.alloc (.cells #[.int .i64 m, .slice A n c] 56)).alloc (.cells #[.int .i64 0, .slice none 0 0] 56)).cell? ⟨w.heap.size, 1, none⟩ = some (.slice A n c) := by simp
  have r0 : ((w.alloc (.cells #[.int .i64 m, .slice A n c] 56)).alloc (.cells #[.int .i64 0, .slice none 0 0] 56)).cell? ⟨w.heap.size + 1, 0, none⟩ = some (.int .i64 0) := by simp
  have r1 : ((w.alloc (.cells #[.int .i64 m, .slice A n c] 56)).alloc (.cells #[.int .i64 0, .slice none 0 0] 56)).cell? ⟨w.heap.size + 1, 1, none⟩ = some (.slice none 0 0) := by simp
  have rf0 : ((w.alloc (.cells #[.int .i64 m, .slice A n c] 56)).alloc (.cells #[.int .i64 0, .slice none 0 0] 56)).frozen? ⟨w.heap.size + 1, 0, none⟩ = false := by simp
  have rf1 : ((w.alloc (.cells #[.int .i64 m, .slice A n c] 56)).alloc (.cells #[.int .i64 0, .slice none 0 0] 56)).frozen? ⟨w.heap.size + 1, 1, none⟩ = false := by simp
  have sk : w.heap.size < ((w.alloc (.cells #[.int .i64 m, .slice A n c] 56)).alloc (.cells #[.int .i64 0, .slice none 0 0] 56)).heap.size := by simp; try omega
  have sr : w.heap.size + 1 < ((w.alloc (.cells #[.int .i64 m, .slice A n c] 56)).alloc (.cells #[.int .i64 0, .slice none 0 0] 56)).heap.size := by simp
  have hV := h.on bl
  have HM := Lib.hid hm; clear hm
  go_enter Try.func35, Try.ntmps35
  go_wp2_with fail
  generalize ((w.alloc (.cells #[.int .i64 m, .slice A n c] 56)).alloc (.cells #[.int .i64 0, .slice none 0 0] 56)) = W at *
  refine (implProfileOk m A n c vs _ hV hn HM.out).mono ?_; rintro e w1 ⟨rfl, b1⟩
  rw [HP.out]
  have bl1 := Below.on bl b1
  replace k0 := (b1.cell (p := ⟨w.heap.size, 0, none⟩) sk).trans k0
  replace k1 := (b1.cell (p := ⟨w.heap.size, 1, none⟩) sk).trans k1
  replace r0 := (b1.cell (p := ⟨w.heap.size + 1, 0, none⟩) sr).trans r0
  replace r1 := (b1.cell (p := ⟨w.heap.size + 1, 1, none⟩) sr).trans r1
  replace rf0 := (b1.frozen (p := ⟨w.heap.size + 1, 0, none⟩) sr).trans rf0
  replace rf1 := (b1.frozen (p := ⟨w.heap.size + 1, 1, none⟩) sr).trans rf1
  replace sk := Nat.lt_of_lt_of_le sk b1.size
  replace sr := Nat.lt_of_lt_of_le sr b1.size
  go_wp2_with fail
  exact bodyPost_ret (v := .tuple #[.agg #[.int .i64 0, .slice none 0 0], .bool false]) (by simp [results, Try.results35, go_sem, r0, r1]) rfl ⟨rfl, (bl1.setCell (by show w.heap.size ≤ w.heap.size + 1; omega) _).setCell (by show w.heap.size ≤ w.heap.size + 1; omega) _⟩

set_option maxHeartbeats 8000000 in
theorem implMergeT (m : Int) (A : Option Addr) (n c : Nat) (vs : List (List Int × Int)) (w : World) (h : Votes w A n vs) (hn : (n : Int) ≤ 1048576) (hm : ∀ j, j < n → (rl vs j : Int) ≤ 1048576) (hp : profP m vs = true) (bb : Bool) (hq : profP m (merP m vs) = bb) (M : Int) (V : List (List Int × Int)) (hMV : Hid ((bb = true ∧ M = m ∧ V = merP m vs) ∨ (bb = false ∧ M = 0 ∧ V = []))) :
    Calls Try.prog 35 #[.agg #[.int .i64 m, .slice A n c]] w fun e w' => ∃ A' c' G C, e = .returned (.tuple #[.agg #[.int .i64 M, .slice A' V.length c'], .bool bb]) ∧ OwnV w' w.heap.size A' V.length c' G C (rk V) (ct V) ∧ Below w.heap.size w w' := by
  have HQ := Lib.hid hq; clear hq
  have HP : Hid (profP m vs = true) := hp
  have hn24 := (of_prof hp).2.1
  have hvl := h.1
  rw [hvl] at hn24
  have HVL := Lib.hid hvl; clear hvl
  clear hp
  have bl : Below w.heap.size w ((w.alloc (.cells #[.int .i64 m, .slice A n c] 56)).alloc (.cells #[.int .i64 0, .slice none 0 0] 56)) := ((Below.refl _ _).alloc (Nat.le_refl _) _).alloc (by simp) _
  have k0 : ((w.alloc (.cells #[.int .i64 m, .slice A n c] 56)).alloc (.cells #[.int .i64 0, .slice none 0 0] 56)).cell? ⟨w.heap.size, 0, none⟩ = some (.int .i64 m) := by simp
  have k1 : ((w.alloc (.cells #[.int .i64 m, .slice A n c] 56)).alloc (.cells #[.int .i64 0, .slice none 0 0] 56)).cell? ⟨w.heap.size, 1, none⟩ = some (.slice A n c) := by simp
  have r0 : ((w.alloc (.cells #[.int .i64 m, .slice A n c] 56)).alloc (.cells #[.int .i64 0, .slice none 0 0] 56)).cell? ⟨w.heap.size + 1, 0, none⟩ = some (.int .i64 0) := by simp
  have r1 : ((w.alloc (.cells #[.int .i64 m, .slice A n c] 56)).alloc (.cells #[.int .i64 0, .slice none 0 0] 56)).cell? ⟨w.heap.size + 1, 1, none⟩ = some (.slice none 0 0) := by simp
  have rf0 : ((w.alloc (.cells #[.int .i64 m, .slice A n c] 56)).alloc (.cells #[.int .i64 0, .slice none 0 0] 56)).frozen? ⟨w.heap.size + 1, 0, none⟩ = false := by simp
  have rf1 : ((w.alloc (.cells #[.int .i64 m, .slice A n c] 56)).alloc (.cells #[.int .i64 0, .slice none 0 0] 56)).frozen? ⟨w.heap.size + 1, 1, none⟩ = false := by simp
  have sk : w.heap.size < ((w.alloc (.cells #[.int .i64 m, .slice A n c] 56)).alloc (.cells #[.int .i64 0, .slice none 0 0] 56)).heap.size := by simp; try omega
  have sr : w.heap.size + 1 < ((w.alloc (.cells #[.int .i64 m, .slice A n c] 56)).alloc (.cells #[.int .i64 0, .slice none 0 0] 56)).heap.size := by simp
  have hV := h.on bl
  have HM := Lib.hid hm; clear hm
  go_enter Try.func35, Try.ntmps35
  go_wp2_with fail
  generalize ((w.alloc (.cells #[.int .i64 m, .slice A n c] 56)).alloc (.cells #[.int .i64 0, .slice none 0 0] 56)) = W at *
  refine (implProfileOk m A n c vs _ hV hn HM.out).mono ?_; rintro e w1 ⟨rfl, b1⟩
  rw [HP.out]
  have bl1 := Below.on bl b1
  replace k0 := (b1.cell (p := ⟨w.heap.size, 0, none⟩) sk).trans k0
  replace k1 := (b1.cell (p := ⟨w.heap.size, 1, none⟩) sk).trans k1
  replace r0 := (b1.cell (p := ⟨w.heap.size + 1, 0, none⟩) sr).trans r0
  replace r1 := (b1.cell (p := ⟨w.heap.size + 1, 1, none⟩) sr).trans r1
  replace rf0 := (b1.frozen (p := ⟨w.heap.size + 1, 0, none⟩) sr).trans rf0
  replace rf1 := (b1.frozen (p := ⟨w.heap.size + 1, 1, none⟩) sr).trans rf1
  replace sk := Nat.lt_of_lt_of_le sk b1.size
  replace sr := Nat.lt_of_lt_of_le sr b1.size
  clear b1 hV bl
  go_wp2_with fail
  refine (implAllRankings m _).mono ?_; rintro e w3 ⟨L0, nL, cL0, rfl, hs0, oL0, hcont0, b1⟩
  have HLEN : Hid ((ranksP m).length = nL) := by rw [Hid, ← hcont0, cont_len]; exact oL0.len
  have hnL : (nL : Int) ≤ 120 := by have := ranks_len m; rw [HLEN.out] at this; omega
  have bl3 := Below.on bl1 b1
  replace k0 := (b1.cell (p := ⟨w.heap.size, 0, none⟩) sk).trans k0
  replace k1 := (b1.cell (p := ⟨w.heap.size, 1, none⟩) sk).trans k1
  replace r0 := (b1.cell (p := ⟨w.heap.size + 1, 0, none⟩) sr).trans r0
  replace r1 := (b1.cell (p := ⟨w.heap.size + 1, 1, none⟩) sr).trans r1
  replace rf0 := (b1.frozen (p := ⟨w.heap.size + 1, 0, none⟩) sr).trans rf0
  replace rf1 := (b1.frozen (p := ⟨w.heap.size + 1, 1, none⟩) sr).trans rf1
  replace sk := Nat.lt_of_lt_of_le sk b1.size
  replace sr := Nat.lt_of_lt_of_le sr b1.size
  clear b1 bl1 oL0 hcont0
  have hmk := run_make_row' (P := Try.prog) 22 3 (.int .i64 0) 8 Try.underlying22 infoInt rfl .i64 .i64 nL (by omega) (by omega)
  go_wp2_with fail
  clear hmk
  have hst : (w3.alloc (.cells (madeCells #[.int .i64 0] nL) 3)).rowIs w3.heap.size 3 nL (fun p => .int .i64 (nth (cL m vs 0) p)) := (World.rowIs_made w3 (.int .i64 0) nL 3).congr fun j _ => by rw [cL_zero]
  have hbl : Below w3.heap.size w3 (w3.alloc (.cells (madeCells #[.int .i64 0] nL) 3)) := (Below.refl _ _).alloc (Nat.le_refl _) _
  generalize w3.alloc (.cells (madeCells #[.int .i64 0] nL) 3) = W0 at *
  go_loopw [22] (fun u wr => ∃ k : Nat, (k : Int) ≤ n ∧ u = .int .i64 k ∧ wr.rowIs w3.heap.size 3 nL (fun p => .int .i64 (nth (cL m vs k) p)) ∧ Below w3.heap.size w3 wr) (fun u _ => n - (intOf u).toNat)
  case atStart => exact ⟨0, by omega, rfl, hst, hbl⟩
  case round =>
    obtain ⟨k, hk, rfl, hrow, hb⟩ := hrel
    obtain ⟨wi, rfl⟩ : ∃ wi : World, wi = wr := ⟨_, rfl⟩
    have hVo := h.on (Below.on bl3 hb)
    by_cases hlt : (k : Int) < n
    · obtain ⟨b', ob', rfl, hbs', ⟨B, d, v1, v2, v3, v4, v5⟩⟩ := hVo.at_ (k := k) (by omega)
      have hvt := of_votes (of_prof HP.out).2.2 (k := k) (by rw [HVL.out]; omega)
      have hct := hvt.2
      have hrl := HM.out k (by omega)
      obtain ⟨i, hi1, hi2, hi3⟩ := num_atI hvt.1
      have cb := cnt_bd HP.out (rk vs k) k (by rw [HVL.out]; omega)
      rw [HLEN.out] at hi2
      have hce := cL_at (vs := vs) (k := k) hi3
      rw [← hce] at cb
      have HSTEP := Lib.hid (cL_next (m := m) (vs := vs) (k := k) hi3)
      clear hvt hi3 hce
      have hal : Below wi.heap.size wi (wi.alloc (.cells #[.slice B (rl vs k) d, .int .i64 (ct vs k)] 89)) := (Below.refl _ _).alloc (Nat.le_refl _) _
      have x0 : (wi.alloc (.cells #[.slice B (rl vs k) d, .int .i64 (ct vs k)] 89)).cell? ⟨wi.heap.size, 0, none⟩ = some (.slice B (rl vs k) d) := by simp
      have x1 : (wi.alloc (.cells #[.slice B (rl vs k) d, .int .i64 (ct vs k)] 89)).cell? ⟨wi.heap.size, 1, none⟩ = some (.int .i64 (ct vs k)) := by simp
      have sV : wi.heap.size < (wi.alloc (.cells #[.slice B (rl vs k) d, .int .i64 (ct vs k)] 89)).heap.size := by simp
      have hrA := hrow.of_block (hal.block _ hrow.lt)
      have hbA := hb.trans (hal.mono hb.size)
      have hzi := hrow.lt
      have hIA := v4.on hal
      clear hrow
      go_wp2_with fail
      generalize wi.alloc (.cells #[.slice B (rl vs k) d, .int .i64 (ct vs k)] 89) = V at *
      generalize wi.heap.size = z at *
      go_region_with (first
        | (go_at_call 12; refine (implRankingNumber B (rl vs k) d (rk vs k) _ (by first | exact hIA | exact hIA.drew) hrl).mono ?_; rintro e w4 ⟨rfl, b4⟩; have bV : Below V.heap.size V w4 := (by first | exact b4 | exact (Below.drew (Below.refl V.heap.size V)).trans b4); have e0 := (bV.cell (p := ⟨z, 0, none⟩) sV).trans x0; have e1 := (bV.cell (p := ⟨z, 1, none⟩) sV).trans x1; have hr4 := hrA.of_block (bV.block _ hrA.lt); have hc4 := hr4.cell (i := i) hi2; have hf4 := hr4.frozen i; rw [hi1]))
      all_goals go_simp
      all_goals go_wp2_with fail
      all_goals go_roundw
      all_goals first
        | exact ⟨k + 1, by omega, by go_num, (hr4.set i _).congr fun j _ => HSTEP.out j, (Below.on hbA bV).setCell (Nat.le_refl _) _⟩
        | exact ⟨k + 1, by omega, by go_num, (hr4.set i _).congr fun j _ => HSTEP.out j, ((Below.on hbA bV).setCell (Nat.le_refl _) _).drew⟩
        | (simp [intOf]; omega)
    · obtain rfl : k = n := by omega
      have hwB := Below.on bl3 hb
      have hQ0 := hrow.lt
      replace k0 := (hb.cell (p := ⟨w.heap.size, 0, none⟩) sk).trans k0
      replace k1 := (hb.cell (p := ⟨w.heap.size, 1, none⟩) sk).trans k1
      replace r0 := (hb.cell (p := ⟨w.heap.size + 1, 0, none⟩) sr).trans r0
      replace r1 := (hb.cell (p := ⟨w.heap.size + 1, 1, none⟩) sr).trans r1
      replace rf0 := (hb.frozen (p := ⟨w.heap.size + 1, 0, none⟩) sr).trans rf0
      replace rf1 := (hb.frozen (p := ⟨w.heap.size + 1, 1, none⟩) sr).trans rf1
      have sq0 := Nat.lt_of_lt_of_le sr hb.size
      replace sk := Nat.lt_of_lt_of_le sk hb.size
      have hZw := sr
      replace sr := Nat.lt_of_lt_of_le sr hb.size
      have k0z := k0
      have hal : Below wi.heap.size wi (wi.alloc (.cells #[.int .i64 m, .slice none 0 0] 56)) := (Below.refl _ _).alloc (Nat.le_refl _) _
      have q0 : (wi.alloc (.cells #[.int .i64 m, .slice none 0 0] 56)).cell? ⟨wi.heap.size, 0, none⟩ = some (.int .i64 m) := by simp
      have q1 : (wi.alloc (.cells #[.int .i64 m, .slice none 0 0] 56)).cell? ⟨wi.heap.size, 1, none⟩ = some (.slice none 0 0) := by simp
      have qf : (wi.alloc (.cells #[.int .i64 m, .slice none 0 0] 56)).frozen? ⟨wi.heap.size, 1, none⟩ = false := by simp
      have sq : wi.heap.size < (wi.alloc (.cells #[.int .i64 m, .slice none 0 0] 56)).heap.size := by simp
      have sqB := sq
      have rowQ := hrow.of_block (hal.block _ hrow.lt)
      have bw2 := Below.on hwB hal
      replace k0 := (hal.cell (p := ⟨w.heap.size, 0, none⟩) sk).trans k0
      replace k1 := (hal.cell (p := ⟨w.heap.size, 1, none⟩) sk).trans k1
      replace r0 := (hal.cell (p := ⟨w.heap.size + 1, 0, none⟩) sr).trans r0
      replace r1 := (hal.cell (p := ⟨w.heap.size + 1, 1, none⟩) sr).trans r1
      replace rf0 := (hal.frozen (p := ⟨w.heap.size + 1, 0, none⟩) sr).trans rf0
      replace rf1 := (hal.frozen (p := ⟨w.heap.size + 1, 1, none⟩) sr).trans rf1
      replace sk := Nat.lt_of_lt_of_le sk hal.size
      replace sr := Nat.lt_of_lt_of_le sr hal.size
      clear hal hrow hst hbl hb
      go_wp2_with fail
      clear k0z
      generalize wi.alloc (.cells #[.int .i64 m, .slice none 0 0] 56) = W2 at *
      generalize wi.heap.size = q at *
      refine (implAllRankings m _).mono ?_; rintro e w5 ⟨L, nL5, cLq, rfl, hs, oL, hcont, b1⟩
      have HC := Lib.hid hcont; clear hcont
      obtain rfl : nL5 = nL := by have h1 := oL.len; have h2 := HLEN.out; rw [← HC.out, cont_len] at h2; omega
      have HNL := Lib.hid oL.len
      have HK : Hid (∀ k, k < nL5 → (ranksP m)[k]? = some (hx hs k)) := fun k hk => by rw [← HC.out]; exact cont_nth (by rw [HNL.out]; exact hk)
      have rowQ := rowQ.of_block (b1.block _ rowQ.lt)
      have bw5 := Below.on bw2 b1
      replace k0 := (b1.cell (p := ⟨w.heap.size, 0, none⟩) sk).trans k0
      replace k1 := (b1.cell (p := ⟨w.heap.size, 1, none⟩) sk).trans k1
      replace r0 := (b1.cell (p := ⟨w.heap.size + 1, 0, none⟩) sr).trans r0
      replace r1 := (b1.cell (p := ⟨w.heap.size + 1, 1, none⟩) sr).trans r1
      replace rf0 := (b1.frozen (p := ⟨w.heap.size + 1, 0, none⟩) sr).trans rf0
      replace rf1 := (b1.frozen (p := ⟨w.heap.size + 1, 1, none⟩) sr).trans rf1
      replace q0 := (b1.cell (p := ⟨q, 0, none⟩) sq).trans q0
      replace q1 := (b1.cell (p := ⟨q, 1, none⟩) sq).trans q1
      replace qf := (b1.frozen (p := ⟨q, 1, none⟩) sq).trans qf
      replace sk := Nat.lt_of_lt_of_le sk b1.size
      replace sr := Nat.lt_of_lt_of_le sr b1.size
      replace sq := Nat.lt_of_lt_of_le sq b1.size
      have hB5 := b1.size
      clear b1 bw2 hVo
      generalize W2.heap.size = B0 at *
      have HB0 := Lib.hid (show q < B0 from sqB); clear sqB
      have OL := Lib.hid oL; clear oL
      go_wp2_with fail
      go_loopw [44] (fun u wr => ∃ (j : Nat) (A4 : Option Addr) (c4 : Nat) (G4 : Nat → Option Addr) (C4 : Nat → Nat), (j : Int) ≤ nL5 ∧ u = .int .i64 j ∧ wr.cell? ⟨q, 0, none⟩ = some (.int .i64 m) ∧ wr.cell? ⟨q, 1, none⟩ = some (.slice A4 (merK m vs j).length c4) ∧ wr.frozen? ⟨q, 1, none⟩ = false ∧ OwnV wr B0 A4 (merK m vs j).length c4 G4 C4 (rk (merK m vs j)) (ct (merK m vs j)) ∧ FromL A4 (merK m vs j).length G4 hs j ∧ (∀ a, A4 = some a → w5.heap.size ≤ a.block) ∧ Mid q (q + 1) w5 wr ∧ Below w.heap.size w wr) (fun u _ => nL5 - (intOf u).toNat)
      case atStart => exact ⟨0, none, 0, fun _ => none, fun _ => 0, by omega, rfl, q0, q1, qf, OwnV.nil_ _ _ _ _ _ _, FromL.start _ _, (fun a ha => by cases ha), Mid.refl _ _ _, bw5⟩
      case round =>
        obtain ⟨j, A4, c4, G4, C4, hk, rfl, y0, y1, yf, ov, fl, hge, md, bw⟩ := hrel
        obtain ⟨wo, rfl⟩ : ∃ wo : World, wo = wr := ⟨_, rfl⟩
        have hso := md.size
        have e0 := (md.cell (p := ⟨w.heap.size, 0, none⟩) sk (Or.inl (by show w.heap.size < q; omega))).trans k0
        have e1 := (md.cell (p := ⟨w.heap.size, 1, none⟩) sk (Or.inl (by show w.heap.size < q; omega))).trans k1
        have f0 := (md.cell (p := ⟨w.heap.size + 1, 0, none⟩) sr (Or.inl sq0)).trans r0
        have f1 := (md.cell (p := ⟨w.heap.size + 1, 1, none⟩) sr (Or.inl sq0)).trans r1
        have g0 := (md.frozen (p := ⟨w.heap.size + 1, 0, none⟩) sr (Or.inl sq0)).trans rf0
        have g1 := (md.frozen (p := ⟨w.heap.size + 1, 1, none⟩) sr (Or.inl sq0)).trans rf1
        have sko := Nat.lt_of_lt_of_le sk hso
        have sro := Nat.lt_of_lt_of_le sr hso
        have sqo := Nat.lt_of_lt_of_le sq hso
        have rowo := rowQ.of_block (md.block _ rowQ.lt (Or.inl hQ0))
        have OLo := Lib.hid (OL.out.mid md (show q + 1 ≤ B0 from HB0.out))
        have OV := Lib.hid ov; clear ov
        have FL := Lib.hid fl; clear fl
        have HGE := Lib.hid hge; clear hge
        by_cases hlt : (j : Int) < nL5
        · have hkn : j < nL5 := by omega
          obtain ⟨b, ob, rfl, hbs, hcL, _, _, hI⟩ := OLo.out.lists.at_ (k := j) hkn
          have HKK := Lib.hid (HK.out j hkn)
          obtain ⟨cc, hcc⟩ : ∃ cc, cc = cnt vs (hx hs j) k := ⟨_, rfl⟩
          have hcz := rowo.cell (i := j) hkn
          rw [cL_at HKK.out, ← hcc] at hcz
          have cb := cnt_bd HP.out (hx hs j) k (by rw [HVL.out]; omega)
          rw [← hcc] at cb
          have HCC := Lib.hid hcc; clear hcc
          have hlen := mer_len_le m vs j
          have hcj : cc ≤ 24000 := by omega
          have hZz := rowo.lt
          by_cases hpos : 0 < cc
          · have HMY := Lib.hid (mer_yes (m := m) (vs := vs) HKK.out (by rw [HVL.out, ← HCC.out]; exact hpos))
            have bd := Below.drew (Below.refl wo.heap.size wo)
            have hal : Below wo.drew.heap.size wo.drew (wo.drew.alloc (.cells #[.slice (hA hs j) (hl hs j) (hc hs j), .int .i64 cc] 89)) := (Below.refl _ _).alloc (Nat.le_refl _) _
            have HX0 : Hid ((wo.drew.alloc (.cells #[.slice (hA hs j) (hl hs j) (hc hs j), .int .i64 cc] 89)).cell? ⟨wo.heap.size, 0, none⟩ = some (.slice (hA hs j) (hl hs j) (hc hs j))) := (show ∀ v : World, (v.alloc (.cells #[.slice (hA hs j) (hl hs j) (hc hs j), .int .i64 cc] 89)).cell? ⟨v.heap.size, 0, none⟩ = _ from fun v => by simp) wo.drew
            have HX1 : Hid ((wo.drew.alloc (.cells #[.slice (hA hs j) (hl hs j) (hc hs j), .int .i64 cc] 89)).cell? ⟨wo.heap.size, 1, none⟩ = some (.int .i64 cc)) := (show ∀ v : World, (v.alloc (.cells #[.slice (hA hs j) (hl hs j) (hc hs j), .int .i64 cc] 89)).cell? ⟨v.heap.size, 1, none⟩ = _ from fun v => by simp) wo.drew
            have HOVX := Lib.hid ((OV.out.on bd).on hal)
            have HOLX := Lib.hid ((OLo.out.below bd (Nat.le_refl _)).below hal (Nat.le_refl _))
            have HON := Lib.hid (HOLX.out.each j (by rw [HNL.out]; exact hkn))
            have HA1 := Lib.hid (FL.out.ap1 HOLX.out (by rw [HNL.out]; exact hkn))
            have HA2 := Lib.hid (FL.out.off j (by rw [HNL.out]; exact hkn))
            have HZ0 := Lib.hid ((hal.cell (p := ⟨q, 0, none⟩) sqo).trans y0)
            have HZ1 := Lib.hid ((hal.cell (p := ⟨q, 1, none⟩) sqo).trans y1)
            have HZF := Lib.hid ((hal.frozen (p := ⟨q, 1, none⟩) sqo).trans yf)
            have HCZ := Lib.hid ((hal.cell (p := ⟨w3.heap.size, j, none⟩) hZz).trans hcz)
            have HSQ := Lib.hid (Nat.lt_of_lt_of_le sqo hal.size)
            have HSZ := Lib.hid (Nat.lt_of_lt_of_le hZz hal.size)
            have HBB : Hid (B0 ≤ (wo.drew.alloc (.cells #[.slice (hA hs j) (hl hs j) (hc hs j), .int .i64 cc] 89)).heap.size) := by have h1 := hal.size; have h2 : wo.drew.heap.size = wo.heap.size := rfl; rw [Hid]; omega
            have HSX : Hid (w5.heap.size ≤ (wo.drew.alloc (.cells #[.slice (hA hs j) (hl hs j) (hc hs j), .int .i64 cc] 89)).heap.size) := by have h1 := hal.size; have h2 : wo.drew.heap.size = wo.heap.size := rfl; rw [Hid]; omega
            have hk20 : (merK m vs j).length ≤ 1048576 := by omega
            have HNQ := Lib.hid (fun (a : Addr) (ha : A4 = some a) => show a.block ≠ q by have := HGE.out a ha; omega)
            have HNZ := Lib.hid (fun (a : Addr) (ha : A4 = some a) => show a.block ≠ w3.heap.size by have := HGE.out a ha; omega)
            have HGQ := Lib.hid (fun (r : Nat) (hr : A4.map (·.block) = some r) => show w5.heap.size ≤ r by obtain ⟨a0, h1, h2⟩ := map_block hr.symm; have := HGE.out a0 h1; omega)
            have HMX := Lib.hid ((md.drew).on hal)
            have HBX := Lib.hid (Below.on (Below.on bw bd) hal)
            have hq3 : ¬ q = wo.heap.size := by omega
            have hq4 : ¬ w3.heap.size = q := by omega
            have hq5 : ¬ q = w3.heap.size := by omega
            have hq6 : w3.heap.size < wo.heap.size := hZz
            clear hal bd
            go_wp2_with fail
            refine wp_region_held_drew (S := (fun w' => w'.cell? ⟨w3.heap.size, j, none⟩ = some (.int .i64 cc))) (by kernel_rfl) ?_ (fun hHeld => ?_)
            · (try dsimp only); go_keep
            refine wpAnyH_take (i := 0) (v := ?_) rfl (by kernel_rfl) (by kernel_rfl) (by kernel_rfl) (fun _ _ _ h => h) (Or.inl ⟨by rfl, ?_⟩) (by assumption) ?_
            rotate_left
            · intro wq hSw; (try dsimp only at hSw); go_simp; (try with_reducible rfl)
            simp only [Act.put]
            refine wpAnyH_take (i := 2) (v := ?_) rfl (by kernel_rfl) (by kernel_rfl) (by kernel_rfl) (fun _ _ _ h => h) (Or.inl ⟨by rfl, ?_⟩) (by assumption) ?_
            rotate_left
            · intro wq hSw; (try dsimp only at hSw); go_simp; (try with_reducible rfl)
            simp only [Act.put]
            refine wpAnyH_take (i := 3) (v := ?_) rfl (by kernel_rfl) (by kernel_rfl) (by kernel_rfl) (fun _ _ _ h => h) (Or.inl ⟨by rfl, ?_⟩) (by assumption) ?_
            rotate_left
            · intro wq hSw; (try dsimp only at hSw); go_simp; (try with_reducible rfl)
            simp only [Act.put]
            refine wpAnyH_take (i := 4) (v := ?_) rfl (by kernel_rfl) (by kernel_rfl) (by kernel_rfl) (fun _ _ _ h => h) (Or.inl ⟨by rfl, ?_⟩) (by assumption) ?_
            rotate_left
            · intro wq hSw; (try dsimp only at hSw); go_simp; (try with_reducible rfl)
            simp only [Act.put]
            refine wpAnyH_take (i := 5) (v := ?_) rfl (by kernel_rfl) (by kernel_rfl) (by kernel_rfl) (fun _ _ _ h => h) (Or.inl ⟨by rfl, ?_⟩) (by assumption) ?_
            rotate_left
            · intro wq hSw; (try dsimp only at hSw); go_simp; (try with_reducible rfl)
            simp only [Act.put]
            refine wpAnyH_take (i := 6) (v := ?_) rfl (by kernel_rfl) (by kernel_rfl) (by kernel_rfl) (fun _ _ _ h => h) (Or.inl ⟨by rfl, ?_⟩) (by assumption) ?_
            rotate_left
            · intro wq hSw; (try dsimp only at hSw); go_simp; (try with_reducible rfl)
            simp only [Act.put]
            refine wpAnyH_take (i := 7) (v := ?_) rfl (by kernel_rfl) (by kernel_rfl) (by kernel_rfl) (fun _ _ _ h => h) (Or.inl ⟨by rfl, ?_⟩) (by assumption) ?_
            rotate_left
            · intro wq hSw; (try dsimp only at hSw); go_simp; (try with_reducible rfl)
            simp only [Act.put]
            refine wpAnyH_ready (rs := [1, 8]) (by kernel_rfl) (by simp) ?_
            refine AllReadyH.cons rfl (fun K hK => ?_) ?_
            · skip
              go_simp
              refine hK.out _ _ ?_ (fun hHeld => ?_)
              · (try dsimp only); go_keep
              clear hK K
              refine wpAnyH_ready (rs := [8]) (by kernel_rfl) (by simp) ?_
              refine AllReadyH.cons rfl (fun K hK => ?_) ?_
              · skip
                go_simp
                refine hK.out _ _ ?_ (fun hHeld => ?_)
                · (try dsimp only); go_keep
                clear hK K
                refine wpAnyH_ready (rs := [9]) (by kernel_rfl) (by simp) ?_
                refine AllReadyH.cons rfl (fun K hK => ?_) ?_
                · skip
                  refine step_apW (wo.drew.alloc (.cells #[.slice (hA hs j) (hl hs j) (hc hs j), .int .i64 cc] 89)) rfl (.tmp 55) (.tmp 62) rfl B0 A4 (merK m vs j).length c4 G4 C4 (rk (merK m vs j)) (ct (merK m vs j)) rfl HOVX.out (hA hs j) (hc hs j) (hx hs j) cc wo.heap.size 1 rfl HX0.out HX1.out HON.out HA1.out HA2.out hk20 HBB.out ?_
                  intro A5 c5 w6 o5 g5 p5
                  have u0 := far_cell g5 HSQ.out HNQ.out HZ0.out
                  have u1 := far_cell g5 HSQ.out HNQ.out HZ1.out
                  have uf := far_frozen g5 HSQ.out HNQ.out HZF.out
                  have uz := far_cell g5 HSZ.out HNZ.out HCZ.out
                  have O5 := Lib.hid o5; have G5 := Lib.hid g5; have P5 := Lib.hid p5
                  clear o5 g5 p5
                  refine hK.out _ _ ?_ (fun hHeld => ?_)
                  · (try dsimp only); go_keep
                  clear hK K
                  refine wpAnyH_take (i := 10) (v := ?_) rfl (by kernel_rfl) (by kernel_rfl) (by kernel_rfl) (fun _ _ _ h => h) (Or.inl ⟨by rfl, ?_⟩) (by assumption) ?_
                  rotate_left
                  · intro wq hSw; (try dsimp only at hSw); go_simp; (try with_reducible rfl)
                  simp only [Act.put]
                  refine wpAnyH_ready (rs := [11]) (by kernel_rfl) (by simp) ?_
                  refine AllReadyH.cons rfl (fun K hK => ?_) ?_
                  · skip
                    go_simp
                    refine hK.out _ _ ?_ (fun hHeld => ?_)
                    · (try dsimp only); go_keep
                    clear hK K
                    refine wpAnyH_done (by kernel_rfl) ?_ _
                    go_simp
                    go_wp2_with fail
                    go_roundw
                    case rel =>
                      have hL1 : (merK m vs (j + 1)).length = (merK m vs j).length + 1 := by rw [HMY.out]; simp
                      have hcq : cnt vs (hx hs j) vs.length = cc := by rw [HVL.out, HCC.out]
                      have o6 := (O5.out.setOther (p := ⟨q, 1, none⟩) (show q < B0 from HB0.out) (.slice A5 ((merK m vs j).length + 1) c5)).congr (R' := rk (merK m vs (j + 1))) (T' := ct (merK m vs (j + 1))) (fun i hi => by rw [HMY.out, ← rk_snoc hi]) (fun i hi => by rw [HMY.out, ← ct_snoc hi, hcq])
                      have fl6 := FL.out.snoc HOLX.out (by rw [HNL.out]; exact hkn) P5.out
                      have m6 := (HMX.out.grown G5.out HGQ.out).trans (Mid.setCell w6 (p := ⟨q, 1, none⟩) (show q ≤ q ∧ q < q + 1 by omega) (.slice A5 ((merK m vs j).length + 1) c5))
                      have hwB : w.heap.size ≤ B0 := by have := HB0.out; omega
                      have b6 := (below_apV HBX.out (HOVX.out.mono hwB) G5.out (Nat.le_trans hwB HBB.out)).setCell (p := ⟨q, 1, none⟩) (show w.heap.size ≤ q by omega) (.slice A5 ((merK m vs j).length + 1) c5)
                      refine ⟨j + 1, A5, c5, _, _, by omega, by go_num, (World.cell?_setCell_other _ _ _ _ (by simp)).trans u0, by rw [hL1]; exact World.cell?_setCell_same _ _ _ u1, by simp [go_sem, uf], by rw [hL1]; exact o6, by rw [hL1]; exact fl6, ?_, m6, b6⟩
                      intro a ha
                      rcases P5.out with e | e
                      · rw [ha] at e
                        obtain ⟨a0, h1, h2⟩ := map_block e
                        have := HGE.out a0 h1
                        simp only [] at h2
                        omega
                      · rw [ha] at e
                        injection e with e
                        have := HSX.out
                        simp only [] at e
                        omega
                    case measure => simp [intOf]; omega
                  exact AllReadyH.nil
                exact AllReadyH.nil
              exact AllReadyH.nil
            refine AllReadyH.cons rfl (fun K hK => ?_) ?_
            · skip
              go_simp
              refine hK.out _ _ ?_ (fun hHeld => ?_)
              · (try dsimp only); go_keep
              clear hK K
              refine wpAnyH_ready (rs := [1]) (by kernel_rfl) (by simp) ?_
              refine AllReadyH.cons rfl (fun K hK => ?_) ?_
              · skip
                go_simp
                refine hK.out _ _ ?_ (fun hHeld => ?_)
                · (try dsimp only); go_keep
                clear hK K
                refine wpAnyH_ready (rs := [9]) (by kernel_rfl) (by simp) ?_
                refine AllReadyH.cons rfl (fun K hK => ?_) ?_
                · skip
                  refine step_apW (wo.drew.alloc (.cells #[.slice (hA hs j) (hl hs j) (hc hs j), .int .i64 cc] 89)) rfl (.tmp 55) (.tmp 62) rfl B0 A4 (merK m vs j).length c4 G4 C4 (rk (merK m vs j)) (ct (merK m vs j)) rfl HOVX.out (hA hs j) (hc hs j) (hx hs j) cc wo.heap.size 1 rfl HX0.out HX1.out HON.out HA1.out HA2.out hk20 HBB.out ?_
                  intro A5 c5 w6 o5 g5 p5
                  have u0 := far_cell g5 HSQ.out HNQ.out HZ0.out
                  have u1 := far_cell g5 HSQ.out HNQ.out HZ1.out
                  have uf := far_frozen g5 HSQ.out HNQ.out HZF.out
                  have uz := far_cell g5 HSZ.out HNZ.out HCZ.out
                  have O5 := Lib.hid o5; have G5 := Lib.hid g5; have P5 := Lib.hid p5
                  clear o5 g5 p5
                  refine hK.out _ _ ?_ (fun hHeld => ?_)
                  · (try dsimp only); go_keep
                  clear hK K
                  refine wpAnyH_take (i := 10) (v := ?_) rfl (by kernel_rfl) (by kernel_rfl) (by kernel_rfl) (fun _ _ _ h => h) (Or.inl ⟨by rfl, ?_⟩) (by assumption) ?_
                  rotate_left
                  · intro wq hSw; (try dsimp only at hSw); go_simp; (try with_reducible rfl)
                  simp only [Act.put]
                  refine wpAnyH_ready (rs := [11]) (by kernel_rfl) (by simp) ?_
                  refine AllReadyH.cons rfl (fun K hK => ?_) ?_
                  · skip
                    go_simp
                    refine hK.out _ _ ?_ (fun hHeld => ?_)
                    · (try dsimp only); go_keep
                    clear hK K
                    refine wpAnyH_done (by kernel_rfl) ?_ _
                    go_simp
                    go_wp2_with fail
                    go_roundw
                    case rel =>
                      have hL1 : (merK m vs (j + 1)).length = (merK m vs j).length + 1 := by rw [HMY.out]; simp
                      have hcq : cnt vs (hx hs j) vs.length = cc := by rw [HVL.out, HCC.out]
                      have o6 := (O5.out.setOther (p := ⟨q, 1, none⟩) (show q < B0 from HB0.out) (.slice A5 ((merK m vs j).length + 1) c5)).congr (R' := rk (merK m vs (j + 1))) (T' := ct (merK m vs (j + 1))) (fun i hi => by rw [HMY.out, ← rk_snoc hi]) (fun i hi => by rw [HMY.out, ← ct_snoc hi, hcq])
                      have fl6 := FL.out.snoc HOLX.out (by rw [HNL.out]; exact hkn) P5.out
                      have m6 := (HMX.out.grown G5.out HGQ.out).trans (Mid.setCell w6 (p := ⟨q, 1, none⟩) (show q ≤ q ∧ q < q + 1 by omega) (.slice A5 ((merK m vs j).length + 1) c5))
                      have hwB : w.heap.size ≤ B0 := by have := HB0.out; omega
                      have b6 := (below_apV HBX.out (HOVX.out.mono hwB) G5.out (Nat.le_trans hwB HBB.out)).setCell (p := ⟨q, 1, none⟩) (show w.heap.size ≤ q by omega) (.slice A5 ((merK m vs j).length + 1) c5)
                      refine ⟨j + 1, A5, c5, _, _, by omega, by go_num, (World.cell?_setCell_other _ _ _ _ (by simp)).trans u0, by rw [hL1]; exact World.cell?_setCell_same _ _ _ u1, by simp [go_sem, uf], by rw [hL1]; exact o6, by rw [hL1]; exact fl6, ?_, m6, b6⟩
                      intro a ha
                      rcases P5.out with e | e
                      · rw [ha] at e
                        obtain ⟨a0, h1, h2⟩ := map_block e
                        have := HGE.out a0 h1
                        simp only [] at h2
                        omega
                      · rw [ha] at e
                        injection e with e
                        have := HSX.out
                        simp only [] at e
                        omega
                    case measure => simp [intOf]; omega
                  exact AllReadyH.nil
                exact AllReadyH.nil
              exact AllReadyH.nil
            exact AllReadyH.nil
          · have HMN := Lib.hid (mer_no (m := m) (vs := vs) HKK.out (by rw [HVL.out, ← HCC.out]; exact hpos))
            go_wp2_with fail
            go_roundw
            case rel =>
              exact ⟨j + 1, A4, c4, G4, C4, by omega, by go_num, y0, by rw [HMN.out]; exact y1, yf, by rw [HMN.out]; exact OV.out, by rw [HMN.out]; exact FL.out.next, HGE.out, md, bw⟩
            case measure => simp [intOf]; omega
        · have HMP : Hid (merK m vs j = merP m vs) := by
            rw [Hid, merP, HLEN.out]
            congr 1; omega
          have OV2 := OV.out
          rw [HMP.out] at OV2 y1
          have hv4 := OV2.votes rfl (fun _ _ => rfl) (fun _ _ => rfl)
          have hmf := mer_few m vs
          have hml : ((merP m vs).length : Int) ≤ 1048576 := by have := HVL.out; omega
          have hmr := mer_rl m vs
          have hwB : w.heap.size ≤ B0 := by have := HB0.out; omega
          have OV2 := Lib.hid OV2
          clear hmf
          go_wp2_with fail
          refine (implProfileOk m A4 _ c4 (merP m vs) _ hv4 hml hmr).mono ?_; rintro e w6 ⟨rfl, b5⟩
          have OV5 := OV2.out.on b5
          have bl5 := Below.on bw b5
          have row6 := rowo.of_block (b5.block _ rowo.lt)
          replace y0 := (b5.cell (p := ⟨q, 0, none⟩) sqo).trans y0
          replace y1 := (b5.cell (p := ⟨q, 1, none⟩) sqo).trans y1
          replace f0 := (b5.cell (p := ⟨w.heap.size + 1, 0, none⟩) sro).trans f0
          replace f1 := (b5.cell (p := ⟨w.heap.size + 1, 1, none⟩) sro).trans f1
          replace g0 := (b5.frozen (p := ⟨w.heap.size + 1, 0, none⟩) sro).trans g0
          replace g1 := (b5.frozen (p := ⟨w.heap.size + 1, 1, none⟩) sro).trans g1
          have hRB : w.heap.size + 1 < B0 := by have := HB0.out; omega
          have OV5 := Lib.hid OV5
          clear hv4 hml hmr
          rw [HQ.out]
          rcases hMV.out with ⟨rfl, rfl, rfl⟩ | ⟨rfl, rfl, rfl⟩
          · go_wp2_with fail
            exact bodyPost_ret (v := .tuple #[.agg #[.int .i64 M, .slice A4 (merP M vs).length c4], .bool true]) (by simp [results, Try.results35, go_sem, f0, f1]) rfl ⟨A4, c4, G4, C4, rfl, ((OV5.out.setOther (p := ⟨w.heap.size + 1, 0, none⟩) hRB _).setOther (p := ⟨w.heap.size + 1, 1, none⟩) hRB _).mono hwB, (bl5.setCell (by show w.heap.size ≤ w.heap.size + 1; omega) _).setCell (by show w.heap.size ≤ w.heap.size + 1; omega) _⟩
          · obtain ⟨i, hi1, hi2⟩ := mer_fail HP.out HQ.out
            rw [HVL.out] at hi2
            rw [HLEN.out] at hi1
            have hI6 : Ints w6 (some ⟨w3.heap.size, 0, none⟩) nL5 (cL m vs k) := ⟨by rw [cL_len, HLEN.out], fun _ => ⟨w3.heap.size, 0, rfl, row6.lt, fun i hi => by rw [Nat.zero_add]; exact row6.cell hi⟩⟩
            have hmx := mxP_ge (cL m vs k) (nL5 - 1) i (by omega)
            obtain ⟨mx, hmxe⟩ : ∃ mx, mx = mxP (cL m vs k) (nL5 - 1) := ⟨_, rfl⟩
            have hmx2 : 1000 < mx := by omega
            have HMXE := Lib.hid hmxe; clear hmxe hmx hi2
            have hpos5 : 0 < nL5 := by omega
            go_wp2_with fail
            refine (libMax (some ⟨w3.heap.size, 0, none⟩) nL5 nL5 (cL m vs k) _ hI6 (by omega) hpos5).mono ?_; rintro e w7 ⟨rfl, rfl⟩
            rw [← HMXE.out]
            go_wp2_with fail
            exact bodyPost_ret (v := .tuple #[.agg #[.int .i64 0, .slice none 0 0], .bool false]) (by simp [results, Try.results35, go_sem, f0, f1]) rfl ⟨none, 0, fun _ => none, fun _ => 0, rfl, OwnV.nil_ _ _ _ _ _ _, (bl5.setCell (by show w.heap.size ≤ w.heap.size + 1; omega) _).setCell (by show w.heap.size ≤ w.heap.size + 1; omega) _⟩
end Go.Proofs.Ytaclpilehlednaa

/-! MergeProfile: what the program's and the reference's functions compute, for every profile. -/
namespace Go.Proofs.Ytaclpilehlednaa
open Go.RowKit
set_option maxRecDepth 100000

/-- Whether a profile can be merged. -/
def mgB (m : Int) (vs : List (List Int × Int)) : Bool := profP m vs && profP m (merP m vs)
def mgM (m : Int) (vs : List (List Int × Int)) : Int := if mgB m vs then m else 0
def mgV (m : Int) (vs : List (List Int × Int)) : List (List Int × Int) := if mgB m vs then merP m vs else []
theorem mg_prof {m : Int} {vs : List (List Int × Int)} (h : mgB m vs = true) : profP (mgM m vs) (mgV m vs) = true := by
  have h2 := h
  rw [mgB, Bool.and_eq_true] at h2
  rw [mgM, mgV, if_pos h, if_pos h]
  exact h2.2
theorem mg_no {m : Int} {vs : List (List Int × Int)} (h : mgB m vs = false) : mgM m vs = 0 ∧ mgV m vs = [] := by
  rw [mgM, mgV, h]
  exact ⟨rfl, rfl⟩
theorem mg_small (m : Int) (vs : List (List Int × Int)) : ((mgV m vs).length : Int) ≤ 1048576 ∧ ∀ j, j < (mgV m vs).length → (rl (mgV m vs) j : Int) ≤ 1048576 := by
  cases h : mgB m vs with
  | false =>
    rw [(mg_no h).2]
    exact ⟨by simp, fun j hj => absurd hj (by simp)⟩
  | true =>
    have hp := mg_prof h
    have h1 := (of_prof hp).2.1
    refine ⟨by omega, ?_⟩
    rw [mgV, if_pos h]
    exact mer_rl m vs
theorem mg_cases (m : Int) (vs : List (List Int × Int)) : Hid ((mgB m vs = true ∧ mgM m vs = m ∧ mgV m vs = merP m vs) ∨ (mgB m vs = false ∧ mgM m vs = 0 ∧ mgV m vs = [])) := by
  rw [Hid]
  cases hb : mgB m vs with
  | false => exact Or.inr ⟨rfl, mg_no hb⟩
  | true => exact Or.inl ⟨rfl, by rw [mgM, if_pos hb], by rw [mgV, if_pos hb]⟩

theorem specMergeProfile (m : Int) (A : Option Addr) (n c : Nat) (vs : List (List Int × Int)) (w : World) (h : Votes w A n vs) (hn : (n : Int) ≤ 1048576) (hm : ∀ j, j < n → (rl vs j : Int) ≤ 1048576) :
    Calls Try.prog 33 #[.agg #[.int .i64 m, .slice A n c]] w fun e w' => ∃ A' c' G C, e = .returned (.tuple #[.agg #[.int .i64 (mgM m vs), .slice A' (mgV m vs).length c'], .bool (mgB m vs)]) ∧ OwnV w' w.heap.size A' (mgV m vs).length c' G C (rk (mgV m vs)) (ct (mgV m vs)) ∧ Below w.heap.size w w' := by
  cases hp : profP m vs with
  | false =>
    have eb : mgB m vs = false := by rw [mgB, hp]; rfl
    rw [eb, (mg_no eb).1, (mg_no eb).2]
    refine (specMergeF m A n c vs w h hn hm hp).mono ?_; rintro e w1 ⟨rfl, b⟩
    exact ⟨none, 0, fun _ => none, fun _ => 0, rfl, OwnV.nil_ _ _ _ _ _ _, b⟩
  | true => exact specMergeT m A n c vs w h hn hm hp (mgB m vs) (by rw [mgB, hp, Bool.true_and]) (mgM m vs) (mgV m vs) (mg_cases m vs)

theorem implMergeProfile (m : Int) (A : Option Addr) (n c : Nat) (vs : List (List Int × Int)) (w : World) (h : Votes w A n vs) (hn : (n : Int) ≤ 1048576) (hm : ∀ j, j < n → (rl vs j : Int) ≤ 1048576) :
    Calls Try.prog 35 #[.agg #[.int .i64 m, .slice A n c]] w fun e w' => ∃ A' c' G C, e = .returned (.tuple #[.agg #[.int .i64 (mgM m vs), .slice A' (mgV m vs).length c'], .bool (mgB m vs)]) ∧ OwnV w' w.heap.size A' (mgV m vs).length c' G C (rk (mgV m vs)) (ct (mgV m vs)) ∧ Below w.heap.size w w' := by
  cases hp : profP m vs with
  | false =>
    have eb : mgB m vs = false := by rw [mgB, hp]; rfl
    rw [eb, (mg_no eb).1, (mg_no eb).2]
    refine (implMergeF m A n c vs w h hn hm hp).mono ?_; rintro e w1 ⟨rfl, b⟩
    exact ⟨none, 0, fun _ => none, fun _ => 0, rfl, OwnV.nil_ _ _ _ _ _ _, b⟩
  | true => exact implMergeT m A n c vs w h hn hm hp (mgB m vs) (by rw [mgB, hp, Bool.true_and]) (mgM m vs) (mgV m vs) (mg_cases m vs)
end Go.Proofs.Ytaclpilehlednaa
