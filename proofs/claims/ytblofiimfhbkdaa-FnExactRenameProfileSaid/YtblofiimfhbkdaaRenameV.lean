/- Candidates are renamed, ranking by ranking: what the program's and the reference's functions compute. -/
import Derived.Test.YtblofiimfhbkdaaChangeV
namespace Go.Proofs.Ytblofiimfhbkdaa
open Go.RowKit
set_option maxRecDepth 100000

theorem byName_snoc {ys xs : List Int} {k : Nat} (h : k < xs.length) : (byName ys xs).take (k + 1) = (byName ys xs).take k ++ [nth ys (nth xs k).toNat] := by
  have hb : k < (byName ys xs).length := by rw [byName_len]; exact h
  rw [List.take_succ_eq_append_getElem hb, nth_get h]
  simp [byName]
/-- A valid profile's candidates are names' places. -/
theorem rn_facts {m : Int} {vs : List (List Int × Int)} {ys : List Int} {n nd k : Nat} (hp : profP m vs = true) (hr : rankOkP m ys = true) (hl : vs.length = n) (hy : ys.length = nd) (hk : k < n) : ∀ i, i < rl vs k → 0 ≤ nth (rk vs k) i ∧ nth (rk vs k) i < nd := by
  intro i hi
  have h1 := of_rank (of_votes (of_prof hp).2.2 (k := k) (by omega)).1
  have h2 := of_rank hr
  have h3 := h1.2.2.1 i hi
  omega

set_option maxHeartbeats 2000000 in
theorem renClo (A : Option Addr) (n c : Nat) (xs : List Int) (p : Nat) (D : Option Addr) (nd cd : Nat) (ys : List Int) (w : World) (h : Ints w A n xs) (hn : (n : Int) ≤ 1048576) (hp : w.cell? ⟨p, 0, none⟩ = some (.slice D nd cd)) (hps : p < w.heap.size) (hy : Ints w D nd ys) (hix : ∀ i, i < n → 0 ≤ nth xs i ∧ nth xs i < nd) :
    Calls Try.prog 72 #[.slice A n c, .pointer (some ⟨p, 0, none⟩)] w fun e w' => ∃ A' c', e = .returned (.slice A' n c') ∧ Own w' w.heap.size A' n c' (byName ys xs) ∧ Below w.heap.size w w' := by
  have HIX := Lib.hid hix; clear hix
  have HLX := Lib.hid h.1
  have HYL := Lib.hid hy.1
  go_enter Try.func72, Try.ntmps72
  go_wp2_with fail
  go_loopw [4, 9] (fun v u wr => ∃ (i : Nat) (E : Option Addr) (f : Nat), (i : Int) ≤ n ∧ v = .slice E i f ∧ u = .int .i64 i ∧ Own wr w.heap.size E i f ((byName ys xs).take i) ∧ Below w.heap.size w wr) (fun _ u _ => n - (intOf u).toNat)
  case atStart => exact ⟨0, none, 0, by omega, rfl, rfl, own_nil _ _, Below.refl _ _⟩
  case round =>
    obtain ⟨i, E, f, hi, rfl, rfl, hown, hbi⟩ := hrel
    obtain ⟨wi, rfl⟩ : ∃ wi : World, wi = wr := ⟨_, rfl⟩
    by_cases hlt2 : (i : Int) < n
    · obtain ⟨b4, o4, rfl, hbs4, hx4⟩ := (h.on hbi).at_ (k := i) (by omega)
      have hix := HIX.out i (by omega)
      have HSN := Lib.hid (byName_snoc (ys := ys) (xs := xs) (k := i) (by rw [HLX.out]; omega))
      obtain ⟨a, ha⟩ : ∃ a : Nat, nth (xs) i = (a : Int) := ⟨(nth (xs) i).toNat, by omega⟩
      rw [ha] at hx4 hix
      have hsn2 : (byName ys xs).take (i + 1) = (byName ys xs).take i ++ [nth ys a] := by rw [HSN.out, ha]; simp
      have HSN2 := Lib.hid hsn2
      clear ha hsn2
      obtain ⟨b5, o5, rfl, hbs5, hx5⟩ := (hy.on hbi).at_ (k := a) (by omega)
      have hbz := hbi.size
      have HOW := Lib.hid hown; clear hown
      have hpi := (hbi.cell (p := ⟨p, 0, none⟩) hps).trans hp
      go_wp2_with (first | (at_builtin; refine wpList_ap _ rfl _ _ rfl w.heap.size E i f ((byName ys xs).take i) rfl (own_alloc HOW.out _) (some ⟨wi.heap.size, 0, none⟩) 1 1 [nth ys a] rfl (ints_one wi _ _) (by omega) (by simp; omega) ?_; intro E' f' w9 hown' hg hblk))
      rw [← HSN2.out] at hown'
      go_roundw
      case rel => exact ⟨i + 1, E', f', by omega, rfl, by go_num, hown', below_ap (hbi.alloc hbz _) (own_alloc HOW.out _) hg (by simp; omega)⟩
      case measure => simp [intOf]; omega
    · obtain rfl : i = n := by omega
      go_wp2_with fail
      go_ret
      rw [List.take_of_length_le (by rw [byName_len, HLX.out]; exact Nat.le_refl _)] at hown
      exact ⟨E, f, rfl, hown, hbi⟩

set_option maxHeartbeats 8000000 in
theorem changedRenT (m : Int) (A : Option Addr) (n c : Nat) (vs : List (List Int × Int)) (p : Nat) (D : Option Addr) (nd cd : Nat) (ys : List Int) (w : World) (h : Votes w A n vs) (hn : (n : Int) ≤ 1048576) (hm : ∀ j, j < n → (rl vs j : Int) ≤ 1048576) (hp2 : w.cell? ⟨p, 0, none⟩ = some (.slice D nd cd)) (hps : p < w.heap.size) (hy : Ints w D nd ys) (hok : rankOkP m ys = true) (hp : profP m vs = true) :
    Calls Try.prog 71 #[.agg #[.int .i64 m, .slice A n c], .int .i64 m, .func (.func 72) #[] #[.pointer (some ⟨p, 0, none⟩)]] w fun e w' => ∃ A' c' G C, e = .returned (.tuple #[.agg #[.int .i64 m, .slice A' n c'], .bool true]) ∧ OwnV w' w.heap.size A' n c' G C (fun j => byName ys (rk vs j)) (ct vs) ∧ Below w.heap.size w w' := by
  have HM := Lib.hid hm; clear hm
  have HP : Hid (profP m vs = true) := hp
  clear hp
  have bl : Below w.heap.size w ((w.alloc (.cells #[.int .i64 m, .slice A n c] 40)).alloc (.cells #[.int .i64 0, .slice none 0 0] 40)) := ((Below.refl _ _).alloc (Nat.le_refl _) _).alloc (by simp) _
  have k0 : ((w.alloc (.cells #[.int .i64 m, .slice A n c] 40)).alloc (.cells #[.int .i64 0, .slice none 0 0] 40)).cell? ⟨w.heap.size, 0, none⟩ = some (.int .i64 m) := by simp [go_sem]
  have k1 : ((w.alloc (.cells #[.int .i64 m, .slice A n c] 40)).alloc (.cells #[.int .i64 0, .slice none 0 0] 40)).cell? ⟨w.heap.size, 1, none⟩ = some (.slice A n c) := by simp [go_sem]
  have r0 : ((w.alloc (.cells #[.int .i64 m, .slice A n c] 40)).alloc (.cells #[.int .i64 0, .slice none 0 0] 40)).cell? ⟨w.heap.size + 1, 0, none⟩ = some (.int .i64 0) := by simp [go_sem]
  have r1 : ((w.alloc (.cells #[.int .i64 m, .slice A n c] 40)).alloc (.cells #[.int .i64 0, .slice none 0 0] 40)).cell? ⟨w.heap.size + 1, 1, none⟩ = some (.slice none 0 0) := by simp [go_sem]
  have rf0 : ((w.alloc (.cells #[.int .i64 m, .slice A n c] 40)).alloc (.cells #[.int .i64 0, .slice none 0 0] 40)).frozen? ⟨w.heap.size + 1, 0, none⟩ = false := by simp [go_sem]
  have rf1 : ((w.alloc (.cells #[.int .i64 m, .slice A n c] 40)).alloc (.cells #[.int .i64 0, .slice none 0 0] 40)).frozen? ⟨w.heap.size + 1, 1, none⟩ = false := by simp [go_sem]
  have sp : w.heap.size < ((w.alloc (.cells #[.int .i64 m, .slice A n c] 40)).alloc (.cells #[.int .i64 0, .slice none 0 0] 40)).heap.size := by simp; omega
  have sr : w.heap.size + 1 < ((w.alloc (.cells #[.int .i64 m, .slice A n c] 40)).alloc (.cells #[.int .i64 0, .slice none 0 0] 40)).heap.size := by simp
  have hV := h.on bl
  go_enter Try.func71, Try.ntmps71
  go_wp2_with fail
  refine (implProfileOk m A n c vs _ hV hn HM.out).mono ?_; rintro e w1 ⟨rfl, b1⟩
  rw [HP.out]
  have bl1 := Below.on bl b1
  replace k0 := (b1.cell (p := ⟨w.heap.size, 0, none⟩) sp).trans k0
  replace k1 := (b1.cell (p := ⟨w.heap.size, 1, none⟩) sp).trans k1
  replace r0 := (b1.cell (p := ⟨w.heap.size + 1, 0, none⟩) sr).trans r0
  replace r1 := (b1.cell (p := ⟨w.heap.size + 1, 1, none⟩) sr).trans r1
  replace rf0 := (b1.frozen (p := ⟨w.heap.size + 1, 0, none⟩) sr).trans rf0
  replace rf1 := (b1.frozen (p := ⟨w.heap.size + 1, 1, none⟩) sr).trans rf1
  have hqr : w.heap.size + 1 < w1.heap.size := Nat.lt_of_lt_of_le sr b1.size
  have hqw : w.heap.size ≤ w1.heap.size := by omega
  clear b1 sp sr
  clear hV bl
  have bW : Below w.heap.size w (w1.alloc (.cells #[.int .i64 m, .slice none 0 0] 40)) := bl1.alloc hqw _
  have q0 : (w1.alloc (.cells #[.int .i64 m, .slice none 0 0] 40)).cell? ⟨w1.heap.size, 0, none⟩ = some (.int .i64 m) := by simp
  have q1 : (w1.alloc (.cells #[.int .i64 m, .slice none 0 0] 40)).cell? ⟨w1.heap.size, 1, none⟩ = some (.slice none 0 0) := by simp
  have qf1 : (w1.alloc (.cells #[.int .i64 m, .slice none 0 0] 40)).frozen? ⟨w1.heap.size, 1, none⟩ = false := by simp [go_sem]
  have hqW : w1.heap.size < (w1.alloc (.cells #[.int .i64 m, .slice none 0 0] 40)).heap.size := by simp
  have hpq : w.heap.size < w1.heap.size := by omega
  replace k1 := (World.cell?_alloc_past (w := w1) (.cells #[.int .i64 m, .slice none 0 0] 40) (w.heap.size) 1 hpq).trans k1
  replace r0 := (World.cell?_alloc_past (w := w1) (.cells #[.int .i64 m, .slice none 0 0] 40) (w.heap.size + 1) 0 hqr).trans r0
  replace r1 := (World.cell?_alloc_past (w := w1) (.cells #[.int .i64 m, .slice none 0 0] 40) (w.heap.size + 1) 1 hqr).trans r1
  replace rf0 := (World.frozen?_alloc_past (w := w1) (.cells #[.int .i64 m, .slice none 0 0] 40) (w.heap.size + 1) 0 hqr).trans rf0
  replace rf1 := (World.frozen?_alloc_past (w := w1) (.cells #[.int .i64 m, .slice none 0 0] 40) (w.heap.size + 1) 1 hqr).trans rf1
  go_wp2_with fail
  generalize w1.alloc (.cells #[.int .i64 m, .slice none 0 0] 40) = W at *
  generalize w1.heap.size = q at *
  clear bl1 hpq
  go_loopw [20] (fun u wr => ∃ (k : Nat) (A' : Option Addr) (c' : Nat) (G : Nat → Option Addr) (C : Nat → Nat), (k : Int) ≤ n ∧ u = .int .i64 k ∧ OwnV wr W.heap.size A' k c' G C (fun j => byName ys (rk vs j)) (ct vs) ∧ wr.cell? ⟨q, 0, none⟩ = some (.int .i64 m) ∧ wr.cell? ⟨q, 1, none⟩ = some (.slice A' k c') ∧ wr.frozen? ⟨q, 1, none⟩ = false ∧ Mid q (q + 1) W wr) (fun u _ => n - (intOf u).toNat)
  case atStart => exact ⟨0, none, 0, fun _ => none, fun _ => 0, by omega, rfl, OwnV.nil_ _ _ _ _ _ _, q0, q1, qf1, Mid.refl _ _ _⟩
  case round =>
    obtain ⟨k, A', c', G, C, hk, rfl, hOV, p0, p1, pf1, hmid⟩ := hrel
    obtain ⟨wo, rfl⟩ : ∃ wo : World, wo = wr := ⟨_, rfl⟩
    have hms := hmid.size
    have bo : Below w.heap.size w wo := Below.mid bW hmid hqw (by omega)
    by_cases hlt : (k : Int) < n
    · obtain ⟨b, ob, rfl, hbs, ⟨B, d, q1k, q2k, q3k, q4k, q5k⟩⟩ := (h.on bo).at_ (k := k) (by omega)
      have hlb := HM.out k (by omega)
      have bA : Below wo.heap.size wo (wo.alloc (.cells #[.slice B (rl vs k) d, .int .i64 (ct vs k)] 62)) := (Below.refl _ _).alloc (Nat.le_refl _) _
      have v0 : (wo.alloc (.cells #[.slice B (rl vs k) d, .int .i64 (ct vs k)] 62)).cell? ⟨wo.heap.size, 0, none⟩ = some (.slice B (rl vs k) d) := by simp
      have v1 : (wo.alloc (.cells #[.slice B (rl vs k) d, .int .i64 (ct vs k)] 62)).cell? ⟨wo.heap.size, 1, none⟩ = some (.int .i64 (ct vs k)) := by simp
      have sV : wo.heap.size < (wo.alloc (.cells #[.slice B (rl vs k) d, .int .i64 (ct vs k)] 62)).heap.size := by simp
      have sq : q < wo.heap.size := by omega
      have q4d := (q4k.on bA).drew
      have hOd := (hOV.on bA).on (Below.drew (Below.refl _ _))
      have x0 := (bA.cell (p := ⟨q, 0, none⟩) sq).trans p0
      have x1 := (bA.cell (p := ⟨q, 1, none⟩) sq).trans p1
      have xf := (bA.frozen (p := ⟨q, 1, none⟩) sq).trans pf1
      have hmA := hmid.on bA
      have hin := hOV.inn
      have HIN := Lib.hid hin; clear hin
      have HOV := Lib.hid hOV; clear hOV
      have HLEN : Hid ((byName ys (rk vs k)).length = rl vs k) := byName_len ys (rk vs k)
      have bVw : Below w.heap.size w (wo.alloc (.cells #[.slice B (rl vs k) d, .int .i64 (ct vs k)] 62)) := Below.on bo bA
      have HIX := Lib.hid (rn_facts (k := k) HP.out hok h.1 hy.1 (by omega))
      have hpc := (bVw.cell (p := ⟨p, 0, none⟩) hps).trans hp2
      have hpz := Nat.lt_of_lt_of_le hps bVw.size
      have hyd := (hy.on bVw).drew
      clear hmid
      go_wp2_with fail
      generalize wo.alloc (.cells #[.slice B (rl vs k) d, .int .i64 (ct vs k)] 62) = V at *
      have sqV : q < V.heap.size := by omega
      have hnv1 : ¬ wo.heap.size = q := by omega
      have hnv2 : ¬ q = wo.heap.size := by omega
      have hWV : W.heap.size ≤ V.heap.size := by omega
      have HOD := Lib.hid hOd; clear hOd
      have HMA := Lib.hid hmA; clear hmA
      have hlb2 : rl vs k ≤ 1099511627776 := by omega
      have hk20 : k ≤ 1048576 := by omega
      have HNV := Lib.hid (fun (a : Addr) (ha : A' = some a) => Nat.ne_of_lt (HIN.out.1 a ha))
      have HNQ := Lib.hid (fun (a : Addr) (ha : A' = some a) => show a.block ≠ q by have := (HOV.out.ge a ha).1; omega)
      have HGW := Lib.hid (fun (r : Nat) (hr : A'.map (·.block) = some r) => show W.heap.size ≤ r by
        obtain ⟨a, ha, hb⟩ := map_block hr.symm
        have := (HOV.out.ge a ha).1
        omega)
      refine wp_region_held_drew (S := (fun w' => w'.cell? ⟨wo.heap.size, 0, none⟩ = some (.slice B (rl vs k) d) ∧ w'.cell? ⟨wo.heap.size, 1, none⟩ = some (.int .i64 (ct vs k)))) (by kernel_rfl) ?_ (fun hHeld => ?_)
      · (try dsimp only); go_keep
      refine wpAnyH_take (i := 0) (v := ?_) rfl (by kernel_rfl) (by kernel_rfl) (by kernel_rfl) (fun _ _ _ h => h) (Or.inl ⟨by rfl, ?_⟩) (by assumption) ?_
      rotate_left
      · intro wq hSw; (try dsimp only at hSw); go_simp; (try with_reducible rfl)
      simp only [Act.put]
      refine wpAnyH_take (i := 2) (v := ?_) rfl (by kernel_rfl) (by kernel_rfl) (by kernel_rfl) (fun _ _ _ h => h) (Or.inl ⟨by rfl, ?_⟩) (by assumption) ?_
      rotate_left
      · intro wq hSw; (try dsimp only at hSw); go_simp; (try with_reducible rfl)
      simp only [Act.put]
      refine wpAnyH_take (i := 3) (v := ?_) rfl (by kernel_rfl) (by kernel_rfl) (by kernel_rfl) (fun _ _ _ h => h) (Or.inl ⟨by rfl, ?_⟩) (by assumption) ?_
      rotate_left
      · intro wq hSw; (try dsimp only at hSw); go_simp; (try with_reducible rfl)
      simp only [Act.put]
      refine wpAnyH_take (i := 4) (v := ?_) rfl (by kernel_rfl) (by kernel_rfl) (by kernel_rfl) (fun _ _ _ h => h) (Or.inl ⟨by rfl, ?_⟩) (by assumption) ?_
      rotate_left
      · intro wq hSw; (try dsimp only at hSw); go_simp; (try with_reducible rfl)
      simp only [Act.put]
      refine wpAnyH_take (i := 6) (v := ?_) rfl (by kernel_rfl) (by kernel_rfl) (by kernel_rfl) (fun _ _ _ h => h) (Or.inl ⟨by rfl, ?_⟩) (by assumption) ?_
      rotate_left
      · intro wq hSw; (try dsimp only at hSw); go_simp; (try with_reducible rfl)
      simp only [Act.put]
      refine wpAnyH_take (i := 7) (v := ?_) rfl (by kernel_rfl) (by kernel_rfl) (by kernel_rfl) (fun _ _ _ h => h) (Or.inl ⟨by rfl, ?_⟩) (by assumption) ?_
      rotate_left
      · intro wq hSw; (try dsimp only at hSw); go_simp; (try with_reducible rfl)
      simp only [Act.put]
      refine wpAnyH_ready (rs := [1, 5]) (by kernel_rfl) (by simp) ?_
      refine AllReadyH.cons rfl (fun K hK => ?_) ?_
      · skip
        go_simp
        refine hK.out _ _ ?_ (fun hHeld => ?_)
        · (try dsimp only); go_keep
        clear hK K
        refine wpAnyH_ready (rs := [5]) (by kernel_rfl) (by simp) ?_
        refine AllReadyH.cons rfl (fun K hK => ?_) ?_
        · skip
          go_simp
          go_at_call 72
          refine (renClo B (rl vs k) d (rk vs k) p D nd cd ys V.drew q4d hlb hpc hpz hyd HIX.out).mono ?_
          rintro e w3 ⟨A1, c1x, rfl, o3, b3⟩
          have b3x : Below V.heap.size V w3 := (Below.drew (Below.refl _ _)).trans b3
          have e0 := (b3x.cell (p := ⟨wo.heap.size, 0, none⟩) sV).trans v0
          have e1 := (b3x.cell (p := ⟨wo.heap.size, 1, none⟩) sV).trans v1
          have e2 := (b3x.cell (p := ⟨q, 1, none⟩) sqV).trans x1
          have ef := (b3x.frozen (p := ⟨q, 1, none⟩) sqV).trans xf
          have e4 := (b3x.cell (p := ⟨q, 0, none⟩) sqV).trans x0
          have s3 := b3x.size
          have hw3 : q < w3.heap.size := by omega
          have hw4 : ¬ q = w3.heap.size := by omega
          have hv3 : wo.heap.size < w3.heap.size := by omega
          clear b3x
          refine hK.out _ _ ?_ (fun hHeld => ?_)
          · (try dsimp only); go_keep
          clear hK K
          refine wpAnyH_take (i := 8) (v := ?_) rfl (by kernel_rfl) (by kernel_rfl) (by kernel_rfl) (fun _ _ _ h => h) (Or.inl ⟨by rfl, ?_⟩) (by assumption) ?_
          rotate_left
          · intro wq hSw; (try dsimp only at hSw); go_simp; (try with_reducible rfl)
          simp only [Act.put]
          refine wpAnyH_ready (rs := [9]) (by kernel_rfl) (by simp) ?_
          refine AllReadyH.cons rfl (fun K hK => ?_) ?_
          · skip
            go_simp
            refine hK.out _ _ ?_ (fun hHeld => ?_)
            · (try dsimp only); go_keep
            clear hK K
            refine wpAnyH_ready (rs := [10]) (by kernel_rfl) (by simp) ?_
            refine AllReadyH.cons rfl (fun K hK => ?_) ?_
            · skip
              have hov := (HOD.out.on b3).alloc (.cells #[.slice A1 (rl vs k) c1x, .int .i64 (ct vs k)] 62)
              have ho1 := own_alloc (own_mono o3 hWV) (.cells #[.slice A1 (rl vs k) c1x, .int .i64 (ct vs k)] 62)
              have hc0 : (w3.alloc (.cells #[.slice A1 (rl vs k) c1x, .int .i64 (ct vs k)] 62)).cell? ⟨w3.heap.size, 0, none⟩ = some (.slice A1 (byName ys (rk vs k)).length c1x) := by rw [HLEN.out]; simp
              have hc1 : (w3.alloc (.cells #[.slice A1 (rl vs k) c1x, .int .i64 (ct vs k)] 62)).cell? ⟨w3.heap.size, 1, none⟩ = some (.int .i64 (ct vs k)) := by simp
              have ho2 : Own (w3.alloc (.cells #[.slice A1 (rl vs k) c1x, .int .i64 (ct vs k)] 62)) W.heap.size A1 (byName ys (rk vs k)).length c1x (byName ys (rk vs k)) := by rw [HLEN.out]; exact ho1
              have hbs3 : W.heap.size ≤ (w3.alloc (.cells #[.slice A1 (rl vs k) c1x, .int .i64 (ct vs k)] 62)).heap.size := by simp; omega
              have hfar : ∀ a, A1 = some a → wo.heap.size ≤ a.block := fun a ha => Nat.le_trans (Nat.le_of_lt sV) (own_ge o3 a ha).1
              have hz3 : wo.heap.size < (w3.alloc (.cells #[.slice A1 (rl vs k) c1x, .int .i64 (ct vs k)] 62)).heap.size := by simp; omega
              have hq3 : q < (w3.alloc (.cells #[.slice A1 (rl vs k) c1x, .int .i64 (ct vs k)] 62)).heap.size := by simp; omega
              have y0 := (World.cell?_alloc_past (w := w3) (.cells #[.slice A1 (rl vs k) c1x, .int .i64 (ct vs k)] 62) wo.heap.size 0 hv3).trans e0
              have y1 := (World.cell?_alloc_past (w := w3) (.cells #[.slice A1 (rl vs k) c1x, .int .i64 (ct vs k)] 62) wo.heap.size 1 hv3).trans e1
              have y2 := (World.cell?_alloc_past (w := w3) (.cells #[.slice A1 (rl vs k) c1x, .int .i64 (ct vs k)] 62) q 1 hw3).trans e2
              have y4 := (World.cell?_alloc_past (w := w3) (.cells #[.slice A1 (rl vs k) c1x, .int .i64 (ct vs k)] 62) q 0 hw3).trans e4
              have yf := (World.frozen?_alloc_past (w := w3) (.cells #[.slice A1 (rl vs k) c1x, .int .i64 (ct vs k)] 62) q 1 hw3).trans ef
              refine step_apV (w3.alloc (.cells #[.slice A1 (rl vs k) c1x, .int .i64 (ct vs k)] 62)) rfl (.tmp 25) (.tmp 33) rfl W.heap.size A' k c' G C (fun j => byName ys (rk vs j)) (ct vs) rfl hov A1 c1x (byName ys (rk vs k)) (ct vs k) w3.heap.size 1 rfl hc0 hc1 ho2 wo.heap.size HIN.out hfar hk20 hbs3 ?_
              intro A2 c2 w4 o4 g4 p4
              have f0 := far_cell g4 hz3 HNV.out y0
              have f1 := far_cell g4 hz3 HNV.out y1
              have f2 := far_cell g4 hq3 HNQ.out y2
              have f4 := far_cell g4 hq3 HNQ.out y4
              have ff := far_frozen g4 hq3 HNQ.out yf
              have hmd := Mid.grown ((Mid.on (HMA.out.drew) b3).on ((Below.refl _ _).alloc (Nat.le_refl _) (.cells #[.slice A1 (rl vs k) c1x, .int .i64 (ct vs k)] 62))) g4 HGW.out
              have u0 : (w4.setCell ⟨q, 1, none⟩ (.slice A2 (k + 1) c2)).cell? ⟨q, 0, none⟩ = some (.int .i64 m) := by simp [go_sem, f4]
              have u1 : (w4.setCell ⟨q, 1, none⟩ (.slice A2 (k + 1) c2)).cell? ⟨q, 1, none⟩ = some (.slice A2 (k + 1) c2) := by simp [go_sem, f2]
              have u2 : (w4.setCell ⟨q, 1, none⟩ (.slice A2 (k + 1) c2)).frozen? ⟨q, 1, none⟩ = false := by simp [go_sem, ff]
              have U0 := Lib.hid u0; have U1 := Lib.hid u1; have U2 := Lib.hid u2
              clear u0 u1 u2
              have HO4 := Lib.hid o4
              have HMD := Lib.hid hmd
              clear hov ho1 hc0 hc1 ho2 hbs3 hfar hz3 hq3 y0 y1 y2 y4 yf o4 g4 p4 hmd
              refine hK.out _ _ ?_ (fun hHeld => ?_)
              · (try dsimp only); go_keep
              clear hK K
              refine wpAnyH_take (i := 11) (v := ?_) rfl (by kernel_rfl) (by kernel_rfl) (by kernel_rfl) (fun _ _ _ h => h) (Or.inl ⟨by rfl, ?_⟩) (by assumption) ?_
              rotate_left
              · intro wq hSw; (try dsimp only at hSw); go_simp; (try with_reducible rfl)
              simp only [Act.put]
              refine wpAnyH_ready (rs := [12]) (by kernel_rfl) (by simp) ?_
              refine AllReadyH.cons rfl (fun K hK => ?_) ?_
              · skip
                go_simp
                refine hK.out _ _ ?_ (fun hHeld => ?_)
                · (try dsimp only); go_keep
                clear hK K
                refine wpAnyH_done (by kernel_rfl) ?_ _
                go_simp
                go_wp2_with fail
                go_roundw
                case rel => exact ⟨k + 1, A2, c2, _, _, by omega, by go_num, (HO4.out.setOther hqW _).congr (fun j _ => upd_same (fun j => byName ys (rk vs j)) k j) (fun j _ => upd_same (ct vs) k j), U0.out, U1.out, U2.out, HMD.out.trans (Mid.setCell (p := ⟨q, 1, none⟩) _ ⟨Nat.le_refl q, Nat.lt_succ_self q⟩ _)⟩
                case measure => simp [intOf]; omega
              exact AllReadyH.nil
            exact AllReadyH.nil
          exact AllReadyH.nil
        exact AllReadyH.nil
      refine AllReadyH.cons rfl (fun K hK => ?_) ?_
      · skip
        go_simp
        go_at_call 72
        refine (renClo B (rl vs k) d (rk vs k) p D nd cd ys V.drew q4d hlb hpc hpz hyd HIX.out).mono ?_
        rintro e w3 ⟨A1, c1x, rfl, o3, b3⟩
        have b3x : Below V.heap.size V w3 := (Below.drew (Below.refl _ _)).trans b3
        have e0 := (b3x.cell (p := ⟨wo.heap.size, 0, none⟩) sV).trans v0
        have e1 := (b3x.cell (p := ⟨wo.heap.size, 1, none⟩) sV).trans v1
        have e2 := (b3x.cell (p := ⟨q, 1, none⟩) sqV).trans x1
        have ef := (b3x.frozen (p := ⟨q, 1, none⟩) sqV).trans xf
        have e4 := (b3x.cell (p := ⟨q, 0, none⟩) sqV).trans x0
        have s3 := b3x.size
        have hw3 : q < w3.heap.size := by omega
        have hw4 : ¬ q = w3.heap.size := by omega
        have hv3 : wo.heap.size < w3.heap.size := by omega
        clear b3x
        refine hK.out _ _ ?_ (fun hHeld => ?_)
        · (try dsimp only); go_keep
        clear hK K
        refine wpAnyH_take (i := 8) (v := ?_) rfl (by kernel_rfl) (by kernel_rfl) (by kernel_rfl) (fun _ _ _ h => h) (Or.inl ⟨by rfl, ?_⟩) (by assumption) ?_
        rotate_left
        · intro wq hSw; (try dsimp only at hSw); go_simp; (try with_reducible rfl)
        simp only [Act.put]
        refine wpAnyH_ready (rs := [1, 9]) (by kernel_rfl) (by simp) ?_
        refine AllReadyH.cons rfl (fun K hK => ?_) ?_
        · skip
          go_simp
          refine hK.out _ _ ?_ (fun hHeld => ?_)
          · (try dsimp only); go_keep
          clear hK K
          refine wpAnyH_ready (rs := [9]) (by kernel_rfl) (by simp) ?_
          refine AllReadyH.cons rfl (fun K hK => ?_) ?_
          · skip
            go_simp
            refine hK.out _ _ ?_ (fun hHeld => ?_)
            · (try dsimp only); go_keep
            clear hK K
            refine wpAnyH_ready (rs := [10]) (by kernel_rfl) (by simp) ?_
            refine AllReadyH.cons rfl (fun K hK => ?_) ?_
            · skip
              have hov := (HOD.out.on b3).alloc (.cells #[.slice A1 (rl vs k) c1x, .int .i64 (ct vs k)] 62)
              have ho1 := own_alloc (own_mono o3 hWV) (.cells #[.slice A1 (rl vs k) c1x, .int .i64 (ct vs k)] 62)
              have hc0 : (w3.alloc (.cells #[.slice A1 (rl vs k) c1x, .int .i64 (ct vs k)] 62)).cell? ⟨w3.heap.size, 0, none⟩ = some (.slice A1 (byName ys (rk vs k)).length c1x) := by rw [HLEN.out]; simp
              have hc1 : (w3.alloc (.cells #[.slice A1 (rl vs k) c1x, .int .i64 (ct vs k)] 62)).cell? ⟨w3.heap.size, 1, none⟩ = some (.int .i64 (ct vs k)) := by simp
              have ho2 : Own (w3.alloc (.cells #[.slice A1 (rl vs k) c1x, .int .i64 (ct vs k)] 62)) W.heap.size A1 (byName ys (rk vs k)).length c1x (byName ys (rk vs k)) := by rw [HLEN.out]; exact ho1
              have hbs3 : W.heap.size ≤ (w3.alloc (.cells #[.slice A1 (rl vs k) c1x, .int .i64 (ct vs k)] 62)).heap.size := by simp; omega
              have hfar : ∀ a, A1 = some a → wo.heap.size ≤ a.block := fun a ha => Nat.le_trans (Nat.le_of_lt sV) (own_ge o3 a ha).1
              have hz3 : wo.heap.size < (w3.alloc (.cells #[.slice A1 (rl vs k) c1x, .int .i64 (ct vs k)] 62)).heap.size := by simp; omega
              have hq3 : q < (w3.alloc (.cells #[.slice A1 (rl vs k) c1x, .int .i64 (ct vs k)] 62)).heap.size := by simp; omega
              have y0 := (World.cell?_alloc_past (w := w3) (.cells #[.slice A1 (rl vs k) c1x, .int .i64 (ct vs k)] 62) wo.heap.size 0 hv3).trans e0
              have y1 := (World.cell?_alloc_past (w := w3) (.cells #[.slice A1 (rl vs k) c1x, .int .i64 (ct vs k)] 62) wo.heap.size 1 hv3).trans e1
              have y2 := (World.cell?_alloc_past (w := w3) (.cells #[.slice A1 (rl vs k) c1x, .int .i64 (ct vs k)] 62) q 1 hw3).trans e2
              have y4 := (World.cell?_alloc_past (w := w3) (.cells #[.slice A1 (rl vs k) c1x, .int .i64 (ct vs k)] 62) q 0 hw3).trans e4
              have yf := (World.frozen?_alloc_past (w := w3) (.cells #[.slice A1 (rl vs k) c1x, .int .i64 (ct vs k)] 62) q 1 hw3).trans ef
              refine step_apV (w3.alloc (.cells #[.slice A1 (rl vs k) c1x, .int .i64 (ct vs k)] 62)) rfl (.tmp 25) (.tmp 33) rfl W.heap.size A' k c' G C (fun j => byName ys (rk vs j)) (ct vs) rfl hov A1 c1x (byName ys (rk vs k)) (ct vs k) w3.heap.size 1 rfl hc0 hc1 ho2 wo.heap.size HIN.out hfar hk20 hbs3 ?_
              intro A2 c2 w4 o4 g4 p4
              have f0 := far_cell g4 hz3 HNV.out y0
              have f1 := far_cell g4 hz3 HNV.out y1
              have f2 := far_cell g4 hq3 HNQ.out y2
              have f4 := far_cell g4 hq3 HNQ.out y4
              have ff := far_frozen g4 hq3 HNQ.out yf
              have hmd := Mid.grown ((Mid.on (HMA.out.drew) b3).on ((Below.refl _ _).alloc (Nat.le_refl _) (.cells #[.slice A1 (rl vs k) c1x, .int .i64 (ct vs k)] 62))) g4 HGW.out
              have u0 : (w4.setCell ⟨q, 1, none⟩ (.slice A2 (k + 1) c2)).cell? ⟨q, 0, none⟩ = some (.int .i64 m) := by simp [go_sem, f4]
              have u1 : (w4.setCell ⟨q, 1, none⟩ (.slice A2 (k + 1) c2)).cell? ⟨q, 1, none⟩ = some (.slice A2 (k + 1) c2) := by simp [go_sem, f2]
              have u2 : (w4.setCell ⟨q, 1, none⟩ (.slice A2 (k + 1) c2)).frozen? ⟨q, 1, none⟩ = false := by simp [go_sem, ff]
              have U0 := Lib.hid u0; have U1 := Lib.hid u1; have U2 := Lib.hid u2
              clear u0 u1 u2
              have HO4 := Lib.hid o4
              have HMD := Lib.hid hmd
              clear hov ho1 hc0 hc1 ho2 hbs3 hfar hz3 hq3 y0 y1 y2 y4 yf o4 g4 p4 hmd
              refine hK.out _ _ ?_ (fun hHeld => ?_)
              · (try dsimp only); go_keep
              clear hK K
              refine wpAnyH_take (i := 11) (v := ?_) rfl (by kernel_rfl) (by kernel_rfl) (by kernel_rfl) (fun _ _ _ h => h) (Or.inl ⟨by rfl, ?_⟩) (by assumption) ?_
              rotate_left
              · intro wq hSw; (try dsimp only at hSw); go_simp; (try with_reducible rfl)
              simp only [Act.put]
              refine wpAnyH_ready (rs := [12]) (by kernel_rfl) (by simp) ?_
              refine AllReadyH.cons rfl (fun K hK => ?_) ?_
              · skip
                go_simp
                refine hK.out _ _ ?_ (fun hHeld => ?_)
                · (try dsimp only); go_keep
                clear hK K
                refine wpAnyH_done (by kernel_rfl) ?_ _
                go_simp
                go_wp2_with fail
                go_roundw
                case rel => exact ⟨k + 1, A2, c2, _, _, by omega, by go_num, (HO4.out.setOther hqW _).congr (fun j _ => upd_same (fun j => byName ys (rk vs j)) k j) (fun j _ => upd_same (ct vs) k j), U0.out, U1.out, U2.out, HMD.out.trans (Mid.setCell (p := ⟨q, 1, none⟩) _ ⟨Nat.le_refl q, Nat.lt_succ_self q⟩ _)⟩
                case measure => simp [intOf]; omega
              exact AllReadyH.nil
            exact AllReadyH.nil
          exact AllReadyH.nil
        refine AllReadyH.cons rfl (fun K hK => ?_) ?_
        · skip
          go_simp
          refine hK.out _ _ ?_ (fun hHeld => ?_)
          · (try dsimp only); go_keep
          clear hK K
          refine wpAnyH_ready (rs := [1]) (by kernel_rfl) (by simp) ?_
          refine AllReadyH.cons rfl (fun K hK => ?_) ?_
          · skip
            go_simp
            refine hK.out _ _ ?_ (fun hHeld => ?_)
            · (try dsimp only); go_keep
            clear hK K
            refine wpAnyH_ready (rs := [10]) (by kernel_rfl) (by simp) ?_
            refine AllReadyH.cons rfl (fun K hK => ?_) ?_
            · skip
              have hov := (HOD.out.on b3).alloc (.cells #[.slice A1 (rl vs k) c1x, .int .i64 (ct vs k)] 62)
              have ho1 := own_alloc (own_mono o3 hWV) (.cells #[.slice A1 (rl vs k) c1x, .int .i64 (ct vs k)] 62)
              have hc0 : (w3.alloc (.cells #[.slice A1 (rl vs k) c1x, .int .i64 (ct vs k)] 62)).cell? ⟨w3.heap.size, 0, none⟩ = some (.slice A1 (byName ys (rk vs k)).length c1x) := by rw [HLEN.out]; simp
              have hc1 : (w3.alloc (.cells #[.slice A1 (rl vs k) c1x, .int .i64 (ct vs k)] 62)).cell? ⟨w3.heap.size, 1, none⟩ = some (.int .i64 (ct vs k)) := by simp
              have ho2 : Own (w3.alloc (.cells #[.slice A1 (rl vs k) c1x, .int .i64 (ct vs k)] 62)) W.heap.size A1 (byName ys (rk vs k)).length c1x (byName ys (rk vs k)) := by rw [HLEN.out]; exact ho1
              have hbs3 : W.heap.size ≤ (w3.alloc (.cells #[.slice A1 (rl vs k) c1x, .int .i64 (ct vs k)] 62)).heap.size := by simp; omega
              have hfar : ∀ a, A1 = some a → wo.heap.size ≤ a.block := fun a ha => Nat.le_trans (Nat.le_of_lt sV) (own_ge o3 a ha).1
              have hz3 : wo.heap.size < (w3.alloc (.cells #[.slice A1 (rl vs k) c1x, .int .i64 (ct vs k)] 62)).heap.size := by simp; omega
              have hq3 : q < (w3.alloc (.cells #[.slice A1 (rl vs k) c1x, .int .i64 (ct vs k)] 62)).heap.size := by simp; omega
              have y0 := (World.cell?_alloc_past (w := w3) (.cells #[.slice A1 (rl vs k) c1x, .int .i64 (ct vs k)] 62) wo.heap.size 0 hv3).trans e0
              have y1 := (World.cell?_alloc_past (w := w3) (.cells #[.slice A1 (rl vs k) c1x, .int .i64 (ct vs k)] 62) wo.heap.size 1 hv3).trans e1
              have y2 := (World.cell?_alloc_past (w := w3) (.cells #[.slice A1 (rl vs k) c1x, .int .i64 (ct vs k)] 62) q 1 hw3).trans e2
              have y4 := (World.cell?_alloc_past (w := w3) (.cells #[.slice A1 (rl vs k) c1x, .int .i64 (ct vs k)] 62) q 0 hw3).trans e4
              have yf := (World.frozen?_alloc_past (w := w3) (.cells #[.slice A1 (rl vs k) c1x, .int .i64 (ct vs k)] 62) q 1 hw3).trans ef
              refine step_apV (w3.alloc (.cells #[.slice A1 (rl vs k) c1x, .int .i64 (ct vs k)] 62)) rfl (.tmp 25) (.tmp 33) rfl W.heap.size A' k c' G C (fun j => byName ys (rk vs j)) (ct vs) rfl hov A1 c1x (byName ys (rk vs k)) (ct vs k) w3.heap.size 1 rfl hc0 hc1 ho2 wo.heap.size HIN.out hfar hk20 hbs3 ?_
              intro A2 c2 w4 o4 g4 p4
              have f0 := far_cell g4 hz3 HNV.out y0
              have f1 := far_cell g4 hz3 HNV.out y1
              have f2 := far_cell g4 hq3 HNQ.out y2
              have f4 := far_cell g4 hq3 HNQ.out y4
              have ff := far_frozen g4 hq3 HNQ.out yf
              have hmd := Mid.grown ((Mid.on (HMA.out.drew) b3).on ((Below.refl _ _).alloc (Nat.le_refl _) (.cells #[.slice A1 (rl vs k) c1x, .int .i64 (ct vs k)] 62))) g4 HGW.out
              have u0 : (w4.setCell ⟨q, 1, none⟩ (.slice A2 (k + 1) c2)).cell? ⟨q, 0, none⟩ = some (.int .i64 m) := by simp [go_sem, f4]
              have u1 : (w4.setCell ⟨q, 1, none⟩ (.slice A2 (k + 1) c2)).cell? ⟨q, 1, none⟩ = some (.slice A2 (k + 1) c2) := by simp [go_sem, f2]
              have u2 : (w4.setCell ⟨q, 1, none⟩ (.slice A2 (k + 1) c2)).frozen? ⟨q, 1, none⟩ = false := by simp [go_sem, ff]
              have U0 := Lib.hid u0; have U1 := Lib.hid u1; have U2 := Lib.hid u2
              clear u0 u1 u2
              have HO4 := Lib.hid o4
              have HMD := Lib.hid hmd
              clear hov ho1 hc0 hc1 ho2 hbs3 hfar hz3 hq3 y0 y1 y2 y4 yf o4 g4 p4 hmd
              refine hK.out _ _ ?_ (fun hHeld => ?_)
              · (try dsimp only); go_keep
              clear hK K
              refine wpAnyH_take (i := 11) (v := ?_) rfl (by kernel_rfl) (by kernel_rfl) (by kernel_rfl) (fun _ _ _ h => h) (Or.inl ⟨by rfl, ?_⟩) (by assumption) ?_
              rotate_left
              · intro wq hSw; (try dsimp only at hSw); go_simp; (try with_reducible rfl)
              simp only [Act.put]
              refine wpAnyH_ready (rs := [12]) (by kernel_rfl) (by simp) ?_
              refine AllReadyH.cons rfl (fun K hK => ?_) ?_
              · skip
                go_simp
                refine hK.out _ _ ?_ (fun hHeld => ?_)
                · (try dsimp only); go_keep
                clear hK K
                refine wpAnyH_done (by kernel_rfl) ?_ _
                go_simp
                go_wp2_with fail
                go_roundw
                case rel => exact ⟨k + 1, A2, c2, _, _, by omega, by go_num, (HO4.out.setOther hqW _).congr (fun j _ => upd_same (fun j => byName ys (rk vs j)) k j) (fun j _ => upd_same (ct vs) k j), U0.out, U1.out, U2.out, HMD.out.trans (Mid.setCell (p := ⟨q, 1, none⟩) _ ⟨Nat.le_refl q, Nat.lt_succ_self q⟩ _)⟩
                case measure => simp [intOf]; omega
              exact AllReadyH.nil
            exact AllReadyH.nil
          exact AllReadyH.nil
        exact AllReadyH.nil
      exact AllReadyH.nil
    · obtain rfl : k = n := by omega
      have z0 := (hmid.cell (p := ⟨w.heap.size + 1, 0, none⟩) (by show w.heap.size + 1 < W.heap.size; omega) (.inl hqr)).trans r0
      have z1 := (hmid.cell (p := ⟨w.heap.size + 1, 1, none⟩) (by show w.heap.size + 1 < W.heap.size; omega) (.inl hqr)).trans r1
      have zf0 := (hmid.frozen (p := ⟨w.heap.size + 1, 0, none⟩) (by show w.heap.size + 1 < W.heap.size; omega) (.inl hqr)).trans rf0
      have zf1 := (hmid.frozen (p := ⟨w.heap.size + 1, 1, none⟩) (by show w.heap.size + 1 < W.heap.size; omega) (.inl hqr)).trans rf1
      have HOV := Lib.hid (hOV.mono (base' := q) (by omega)); clear hOV hmid
      go_wp2_with fail
      refine bodyPost_ret (v := .tuple #[.agg #[.int .i64 m, .slice A' k c'], .bool true]) (by simp [results, Try.results71, go_sem, z0, z1]) rfl ⟨A', c', rfl, ⟨G, C, ?_⟩, ?_⟩
      · exact ((HOV.out.setOther hqr _).setOther hqr _).mono hqw
      · exact (bo.setCell (Nat.le_succ _) _).setCell (Nat.le_succ _) _
set_option maxHeartbeats 2000000 in
theorem changedRenF (m : Int) (A : Option Addr) (n c : Nat) (vs : List (List Int × Int)) (p : Nat) (D : Option Addr) (nd cd : Nat) (ys : List Int) (w : World) (h : Votes w A n vs) (hn : (n : Int) ≤ 1048576) (hm : ∀ j, j < n → (rl vs j : Int) ≤ 1048576) (_hp2 : w.cell? ⟨p, 0, none⟩ = some (.slice D nd cd)) (_hps : p < w.heap.size) (_hy : Ints w D nd ys) (_hok : rankOkP m ys = true) (hp : profP m vs = false) :
    Calls Try.prog 71 #[.agg #[.int .i64 m, .slice A n c], .int .i64 m, .func (.func 72) #[] #[.pointer (some ⟨p, 0, none⟩)]] w fun e w' => e = .returned (.tuple #[.agg #[.int .i64 0, .slice none 0 0], .bool false]) ∧ Below w.heap.size w w' := by
  have HM := Lib.hid hm; clear hm
  have HP : Hid (profP m vs = false) := hp
  clear hp
  have bl : Below w.heap.size w ((w.alloc (.cells #[.int .i64 m, .slice A n c] 40)).alloc (.cells #[.int .i64 0, .slice none 0 0] 40)) := ((Below.refl _ _).alloc (Nat.le_refl _) _).alloc (by simp) _
  have k0 : ((w.alloc (.cells #[.int .i64 m, .slice A n c] 40)).alloc (.cells #[.int .i64 0, .slice none 0 0] 40)).cell? ⟨w.heap.size, 0, none⟩ = some (.int .i64 m) := by simp [go_sem]
  have k1 : ((w.alloc (.cells #[.int .i64 m, .slice A n c] 40)).alloc (.cells #[.int .i64 0, .slice none 0 0] 40)).cell? ⟨w.heap.size, 1, none⟩ = some (.slice A n c) := by simp [go_sem]
  have r0 : ((w.alloc (.cells #[.int .i64 m, .slice A n c] 40)).alloc (.cells #[.int .i64 0, .slice none 0 0] 40)).cell? ⟨w.heap.size + 1, 0, none⟩ = some (.int .i64 0) := by simp [go_sem]
  have r1 : ((w.alloc (.cells #[.int .i64 m, .slice A n c] 40)).alloc (.cells #[.int .i64 0, .slice none 0 0] 40)).cell? ⟨w.heap.size + 1, 1, none⟩ = some (.slice none 0 0) := by simp [go_sem]
  have rf0 : ((w.alloc (.cells #[.int .i64 m, .slice A n c] 40)).alloc (.cells #[.int .i64 0, .slice none 0 0] 40)).frozen? ⟨w.heap.size + 1, 0, none⟩ = false := by simp [go_sem]
  have rf1 : ((w.alloc (.cells #[.int .i64 m, .slice A n c] 40)).alloc (.cells #[.int .i64 0, .slice none 0 0] 40)).frozen? ⟨w.heap.size + 1, 1, none⟩ = false := by simp [go_sem]
  have sp : w.heap.size < ((w.alloc (.cells #[.int .i64 m, .slice A n c] 40)).alloc (.cells #[.int .i64 0, .slice none 0 0] 40)).heap.size := by simp; omega
  have sr : w.heap.size + 1 < ((w.alloc (.cells #[.int .i64 m, .slice A n c] 40)).alloc (.cells #[.int .i64 0, .slice none 0 0] 40)).heap.size := by simp
  have hV := h.on bl
  go_enter Try.func71, Try.ntmps71
  go_wp2_with fail
  refine (implProfileOk m A n c vs _ hV hn HM.out).mono ?_; rintro e w1 ⟨rfl, b1⟩
  rw [HP.out]
  have bl1 := Below.on bl b1
  replace k0 := (b1.cell (p := ⟨w.heap.size, 0, none⟩) sp).trans k0
  replace k1 := (b1.cell (p := ⟨w.heap.size, 1, none⟩) sp).trans k1
  replace r0 := (b1.cell (p := ⟨w.heap.size + 1, 0, none⟩) sr).trans r0
  replace r1 := (b1.cell (p := ⟨w.heap.size + 1, 1, none⟩) sr).trans r1
  replace rf0 := (b1.frozen (p := ⟨w.heap.size + 1, 0, none⟩) sr).trans rf0
  replace rf1 := (b1.frozen (p := ⟨w.heap.size + 1, 1, none⟩) sr).trans rf1
  have hqr : w.heap.size + 1 < w1.heap.size := Nat.lt_of_lt_of_le sr b1.size
  have hqw : w.heap.size ≤ w1.heap.size := by omega
  clear b1 sp sr
  go_wp2_with fail
  exact bodyPost_ret (v := .tuple #[.agg #[.int .i64 0, .slice none 0 0], .bool false]) (by simp [results, Try.results71, go_sem, r0, r1]) rfl ⟨rfl, (bl1.setCell (Nat.le_succ _) _).setCell (Nat.le_succ _) _⟩
set_option maxHeartbeats 8000000 in
theorem specRenameProfileT (m : Int) (A : Option Addr) (n c : Nat) (vs : List (List Int × Int)) (D : Option Addr) (nd cd : Nat) (ys : List Int) (w : World) (h : Votes w A n vs) (hn : (n : Int) ≤ 1048576) (hm : ∀ j, j < n → (rl vs j : Int) ≤ 1048576) (hy : Ints w D nd ys) (hnd : (nd : Int) ≤ 1048576) (hok : rankOkP m ys = true) (hp : profP m vs = true) :
    Calls Try.prog 34 #[.agg #[.int .i64 m, .slice A n c], .slice D nd cd] w fun e w' => ∃ A' c' G C, e = .returned (.tuple #[.agg #[.int .i64 m, .slice A' n c'], .bool true]) ∧ OwnV w' w.heap.size A' n c' G C (fun j => byName ys (rk vs j)) (ct vs) ∧ Below w.heap.size w w' := by
  have HM := Lib.hid hm; clear hm
  have HP : Hid (profP m vs = true) := hp
  clear hp
  have bl : Below w.heap.size w ((w.alloc (.cells #[.int .i64 m, .slice A n c] 40)).alloc (.cells #[.int .i64 0, .slice none 0 0] 40)) := ((Below.refl _ _).alloc (Nat.le_refl _) _).alloc (by simp) _
  have k0 : ((w.alloc (.cells #[.int .i64 m, .slice A n c] 40)).alloc (.cells #[.int .i64 0, .slice none 0 0] 40)).cell? ⟨w.heap.size, 0, none⟩ = some (.int .i64 m) := by simp [go_sem]
  have k1 : ((w.alloc (.cells #[.int .i64 m, .slice A n c] 40)).alloc (.cells #[.int .i64 0, .slice none 0 0] 40)).cell? ⟨w.heap.size, 1, none⟩ = some (.slice A n c) := by simp [go_sem]
  have r0 : ((w.alloc (.cells #[.int .i64 m, .slice A n c] 40)).alloc (.cells #[.int .i64 0, .slice none 0 0] 40)).cell? ⟨w.heap.size + 1, 0, none⟩ = some (.int .i64 0) := by simp [go_sem]
  have r1 : ((w.alloc (.cells #[.int .i64 m, .slice A n c] 40)).alloc (.cells #[.int .i64 0, .slice none 0 0] 40)).cell? ⟨w.heap.size + 1, 1, none⟩ = some (.slice none 0 0) := by simp [go_sem]
  have rf0 : ((w.alloc (.cells #[.int .i64 m, .slice A n c] 40)).alloc (.cells #[.int .i64 0, .slice none 0 0] 40)).frozen? ⟨w.heap.size + 1, 0, none⟩ = false := by simp [go_sem]
  have rf1 : ((w.alloc (.cells #[.int .i64 m, .slice A n c] 40)).alloc (.cells #[.int .i64 0, .slice none 0 0] 40)).frozen? ⟨w.heap.size + 1, 1, none⟩ = false := by simp [go_sem]
  have sp : w.heap.size < ((w.alloc (.cells #[.int .i64 m, .slice A n c] 40)).alloc (.cells #[.int .i64 0, .slice none 0 0] 40)).heap.size := by simp; omega
  have sr : w.heap.size + 1 < ((w.alloc (.cells #[.int .i64 m, .slice A n c] 40)).alloc (.cells #[.int .i64 0, .slice none 0 0] 40)).heap.size := by simp
  have hV := h.on bl
  go_enter Try.func34, Try.ntmps34
  go_wp2_with fail
  refine (specProfileOk m A n c vs _ hV hn HM.out).mono ?_; rintro e wa ⟨rfl, ba⟩
  rw [HP.out]
  have k0a := (ba.cell (p := ⟨w.heap.size, 0, none⟩) sp).trans k0
  have hya := hy.on (Below.on bl ba)
  have HOK := Lib.hid hok; clear hok
  go_wp2_with fail
  refine (specRankingOk m D nd cd ys _ hya hnd).mono ?_; rintro e w1 ⟨rfl, bb⟩
  rw [HOK.out]
  have b1 := Below.on ba bb
  clear ba bb k0a hya
  have bl1 := Below.on bl b1
  replace k0 := (b1.cell (p := ⟨w.heap.size, 0, none⟩) sp).trans k0
  replace k1 := (b1.cell (p := ⟨w.heap.size, 1, none⟩) sp).trans k1
  replace r0 := (b1.cell (p := ⟨w.heap.size + 1, 0, none⟩) sr).trans r0
  replace r1 := (b1.cell (p := ⟨w.heap.size + 1, 1, none⟩) sr).trans r1
  replace rf0 := (b1.frozen (p := ⟨w.heap.size + 1, 0, none⟩) sr).trans rf0
  replace rf1 := (b1.frozen (p := ⟨w.heap.size + 1, 1, none⟩) sr).trans rf1
  have hqr : w.heap.size + 1 < w1.heap.size := Nat.lt_of_lt_of_le sr b1.size
  have hqw : w.heap.size ≤ w1.heap.size := by omega
  clear b1 sp sr
  clear hV bl
  have bW : Below w.heap.size w (w1.alloc (.cells #[.int .i64 m, .slice none 0 0] 40)) := bl1.alloc hqw _
  have q0 : (w1.alloc (.cells #[.int .i64 m, .slice none 0 0] 40)).cell? ⟨w1.heap.size, 0, none⟩ = some (.int .i64 m) := by simp
  have q1 : (w1.alloc (.cells #[.int .i64 m, .slice none 0 0] 40)).cell? ⟨w1.heap.size, 1, none⟩ = some (.slice none 0 0) := by simp
  have qf1 : (w1.alloc (.cells #[.int .i64 m, .slice none 0 0] 40)).frozen? ⟨w1.heap.size, 1, none⟩ = false := by simp [go_sem]
  have hqW : w1.heap.size < (w1.alloc (.cells #[.int .i64 m, .slice none 0 0] 40)).heap.size := by simp
  have hpq : w.heap.size < w1.heap.size := by omega
  replace k1 := (World.cell?_alloc_past (w := w1) (.cells #[.int .i64 m, .slice none 0 0] 40) (w.heap.size) 1 hpq).trans k1
  replace r0 := (World.cell?_alloc_past (w := w1) (.cells #[.int .i64 m, .slice none 0 0] 40) (w.heap.size + 1) 0 hqr).trans r0
  replace r1 := (World.cell?_alloc_past (w := w1) (.cells #[.int .i64 m, .slice none 0 0] 40) (w.heap.size + 1) 1 hqr).trans r1
  replace rf0 := (World.frozen?_alloc_past (w := w1) (.cells #[.int .i64 m, .slice none 0 0] 40) (w.heap.size + 1) 0 hqr).trans rf0
  replace rf1 := (World.frozen?_alloc_past (w := w1) (.cells #[.int .i64 m, .slice none 0 0] 40) (w.heap.size + 1) 1 hqr).trans rf1
  go_wp2_with fail
  generalize w1.alloc (.cells #[.int .i64 m, .slice none 0 0] 40) = W at *
  generalize w1.heap.size = q at *
  clear bl1 hpq
  go_loopw [29] (fun u wr => ∃ (k : Nat) (A' : Option Addr) (c' : Nat) (G : Nat → Option Addr) (C : Nat → Nat), (k : Int) ≤ n ∧ u = .int .i64 k ∧ OwnV wr W.heap.size A' k c' G C (fun j => byName ys (rk vs j)) (ct vs) ∧ wr.cell? ⟨q, 0, none⟩ = some (.int .i64 m) ∧ wr.cell? ⟨q, 1, none⟩ = some (.slice A' k c') ∧ wr.frozen? ⟨q, 1, none⟩ = false ∧ Mid q (q + 1) W wr) (fun u _ => n - (intOf u).toNat)
  case atStart => exact ⟨0, none, 0, fun _ => none, fun _ => 0, by omega, rfl, OwnV.nil_ _ _ _ _ _ _, q0, q1, qf1, Mid.refl _ _ _⟩
  case round =>
    obtain ⟨k, A', c', G, C, hk, rfl, hOV, p0, p1, pf1, hmid⟩ := hrel
    obtain ⟨wo, rfl⟩ : ∃ wo : World, wo = wr := ⟨_, rfl⟩
    have hms := hmid.size
    have bo : Below w.heap.size w wo := Below.mid bW hmid hqw (by omega)
    by_cases hlt : (k : Int) < n
    · obtain ⟨b, ob, rfl, hbs, ⟨B, d, q1k, q2k, q3k, q4k, q5k⟩⟩ := (h.on bo).at_ (k := k) (by omega)
      have hlb := HM.out k (by omega)
      have bA : Below wo.heap.size wo (wo.alloc (.cells #[.slice B (rl vs k) d, .int .i64 (ct vs k)] 62)) := (Below.refl _ _).alloc (Nat.le_refl _) _
      have v0 : (wo.alloc (.cells #[.slice B (rl vs k) d, .int .i64 (ct vs k)] 62)).cell? ⟨wo.heap.size, 0, none⟩ = some (.slice B (rl vs k) d) := by simp
      have v1 : (wo.alloc (.cells #[.slice B (rl vs k) d, .int .i64 (ct vs k)] 62)).cell? ⟨wo.heap.size, 1, none⟩ = some (.int .i64 (ct vs k)) := by simp
      have sV : wo.heap.size < (wo.alloc (.cells #[.slice B (rl vs k) d, .int .i64 (ct vs k)] 62)).heap.size := by simp
      have sq : q < wo.heap.size := by omega
      have q4d := (q4k.on bA).drew
      have hOd := (hOV.on bA).on (Below.drew (Below.refl _ _))
      have x0 := (bA.cell (p := ⟨q, 0, none⟩) sq).trans p0
      have x1 := (bA.cell (p := ⟨q, 1, none⟩) sq).trans p1
      have xf := (bA.frozen (p := ⟨q, 1, none⟩) sq).trans pf1
      have hmA := hmid.on bA
      have hin := hOV.inn
      have HIN := Lib.hid hin; clear hin
      have HOV := Lib.hid hOV; clear hOV
      have HLEN : Hid ((byName ys (rk vs k)).length = rl vs k) := byName_len ys (rk vs k)
      have bVw : Below w.heap.size w (wo.alloc (.cells #[.slice B (rl vs k) d, .int .i64 (ct vs k)] 62)) := Below.on bo bA
      have HIX := Lib.hid (rn_facts (k := k) HP.out HOK.out h.1 hy.1 (by omega))
      have HLX : Hid ((rk vs k).length = rl vs k) := rfl
      have HVS : Hid ((wo.alloc (.cells #[.slice B (rl vs k) d, .int .i64 (ct vs k)] 62)).heap.size = wo.heap.size + 1) := by show _ = _; simp
      have hyV := hy.on bVw
      have q4V := q4k.on bA
      clear hmid
      go_wp2_with fail
      generalize wo.alloc (.cells #[.slice B (rl vs k) d, .int .i64 (ct vs k)] 62) = V at *
      have sqV : q < V.heap.size := by omega
      have hnv1 : ¬ wo.heap.size = q := by omega
      have hnv2 : ¬ q = wo.heap.size := by omega
      have hWV : W.heap.size ≤ V.heap.size := by omega
      have HOD := Lib.hid hOd; clear hOd
      have HMA := Lib.hid hmA; clear hmA
      have hlb2 : rl vs k ≤ 1099511627776 := by omega
      have hk20 : k ≤ 1048576 := by omega
      have HNV := Lib.hid (fun (a : Addr) (ha : A' = some a) => Nat.ne_of_lt (HIN.out.1 a ha))
      have HNQ := Lib.hid (fun (a : Addr) (ha : A' = some a) => show a.block ≠ q by have := (HOV.out.ge a ha).1; omega)
      have HGW := Lib.hid (fun (r : Nat) (hr : A'.map (·.block) = some r) => show W.heap.size ≤ r by
        obtain ⟨a, ha, hb⟩ := map_block hr.symm
        have := (HOV.out.ge a ha).1
        omega)
      go_loopw [9, 37] (fun v u wr => ∃ (i : Nat) (A1 : Option Addr) (c1x : Nat), (i : Int) ≤ (rl vs k) ∧ v = .slice A1 i c1x ∧ u = .int .i64 i ∧ Own wr V.heap.size A1 i c1x ((byName ys (rk vs k)).take i) ∧ Below V.heap.size V wr) (fun _ u _ => (rl vs k) - (intOf u).toNat)
      case atStart => exact ⟨0, some ⟨wo.heap.size + 1, 0, none⟩, 0, by omega, rfl, rfl, by have h0 := own_empty V (base := wo.heap.size + 1) (by omega); rw [HVS.out] at h0; rw [HVS.out]; exact h0, (Below.refl _ _).alloc (Nat.le_refl _) _⟩
      case round =>
        obtain ⟨i, A1, c1x, hi, rfl, rfl, hown, hbi⟩ := hrel
        obtain ⟨wi, rfl⟩ : ∃ wi : World, wi = wr := ⟨_, rfl⟩
        by_cases hlt2 : (i : Int) < (rl vs k)
        · obtain ⟨b4, o4, rfl, hbs4, hx4⟩ := (q4V.on hbi).at_ (k := i) (by omega)
          have hix := HIX.out i (by omega)
          have HSN := Lib.hid (byName_snoc (ys := ys) (xs := (rk vs k)) (k := i) (by rw [HLX.out]; omega))
          obtain ⟨a, ha⟩ : ∃ a : Nat, nth ((rk vs k)) i = (a : Int) := ⟨(nth ((rk vs k)) i).toNat, by omega⟩
          rw [ha] at hx4 hix
          have hsn2 : (byName ys (rk vs k)).take (i + 1) = (byName ys (rk vs k)).take i ++ [nth ys a] := by rw [HSN.out, ha]; simp
          have HSN2 := Lib.hid hsn2
          clear ha hsn2
          obtain ⟨b5, o5, rfl, hbs5, hx5⟩ := (hyV.on hbi).at_ (k := a) (by omega)
          have hbz := hbi.size
          have HOW := Lib.hid hown; clear hown
          go_wp2_with (first | (at_builtin; refine wpList_ap _ rfl _ _ rfl V.heap.size A1 i c1x ((byName ys (rk vs k)).take i) rfl (own_alloc HOW.out _) (some ⟨wi.heap.size, 0, none⟩) 1 1 [nth ys a] rfl (ints_one wi _ _) (by omega) (by simp; omega) ?_; intro E' f' w9 hown' hg hblk))
          rw [← HSN2.out] at hown'
          go_roundw
          case rel => exact ⟨i + 1, E', f', by omega, rfl, by go_num, hown', below_ap (hbi.alloc hbz _) (own_alloc HOW.out _) hg (by simp; omega)⟩
          case measure => simp [intOf]; omega
        · obtain rfl : i = rl vs k := by omega
          rw [List.take_of_length_le (by rw [byName_len]; exact Nat.le_refl _)] at hown
          have o3 : Own wi V.drew.heap.size A1 (rl vs k) c1x (byName ys (rk vs k)) := hown
          have b3 : Below V.drew.heap.size V.drew wi := ⟨hbi.os, hbi.tape, hbi.output, hbi.size, hbi.block⟩
          clear hown
          have b3x : Below V.heap.size V wi := hbi
          have e0 := (b3x.cell (p := ⟨wo.heap.size, 0, none⟩) sV).trans v0
          have e1 := (b3x.cell (p := ⟨wo.heap.size, 1, none⟩) sV).trans v1
          have e2 := (b3x.cell (p := ⟨q, 1, none⟩) sqV).trans x1
          have ef := (b3x.frozen (p := ⟨q, 1, none⟩) sqV).trans xf
          have e4 := (b3x.cell (p := ⟨q, 0, none⟩) sqV).trans x0
          have s3 := b3x.size
          have hw3 : q < wi.heap.size := by omega
          have hw4 : ¬ q = wi.heap.size := by omega
          have hv3 : wo.heap.size < wi.heap.size := by omega
          clear b3x
          have hov := (HOD.out.on b3).alloc (.cells #[.slice A1 (rl vs k) c1x, .int .i64 (ct vs k)] 62)
          have ho1 := own_alloc (own_mono o3 hWV) (.cells #[.slice A1 (rl vs k) c1x, .int .i64 (ct vs k)] 62)
          have hc0 : (wi.alloc (.cells #[.slice A1 (rl vs k) c1x, .int .i64 (ct vs k)] 62)).cell? ⟨wi.heap.size, 0, none⟩ = some (.slice A1 (byName ys (rk vs k)).length c1x) := by rw [HLEN.out]; simp
          have hc1 : (wi.alloc (.cells #[.slice A1 (rl vs k) c1x, .int .i64 (ct vs k)] 62)).cell? ⟨wi.heap.size, 1, none⟩ = some (.int .i64 (ct vs k)) := by simp
          have ho2 : Own (wi.alloc (.cells #[.slice A1 (rl vs k) c1x, .int .i64 (ct vs k)] 62)) W.heap.size A1 (byName ys (rk vs k)).length c1x (byName ys (rk vs k)) := by rw [HLEN.out]; exact ho1
          have hbs3 : W.heap.size ≤ (wi.alloc (.cells #[.slice A1 (rl vs k) c1x, .int .i64 (ct vs k)] 62)).heap.size := by simp; omega
          have hfar : ∀ a, A1 = some a → wo.heap.size ≤ a.block := fun a ha => Nat.le_trans (Nat.le_of_lt sV) (own_ge o3 a ha).1
          have hz3 : wo.heap.size < (wi.alloc (.cells #[.slice A1 (rl vs k) c1x, .int .i64 (ct vs k)] 62)).heap.size := by simp; omega
          have hq3 : q < (wi.alloc (.cells #[.slice A1 (rl vs k) c1x, .int .i64 (ct vs k)] 62)).heap.size := by simp; omega
          have y0 := (World.cell?_alloc_past (w := wi) (.cells #[.slice A1 (rl vs k) c1x, .int .i64 (ct vs k)] 62) wo.heap.size 0 hv3).trans e0
          have y1 := (World.cell?_alloc_past (w := wi) (.cells #[.slice A1 (rl vs k) c1x, .int .i64 (ct vs k)] 62) wo.heap.size 1 hv3).trans e1
          have y2 := (World.cell?_alloc_past (w := wi) (.cells #[.slice A1 (rl vs k) c1x, .int .i64 (ct vs k)] 62) q 1 hw3).trans e2
          have y4 := (World.cell?_alloc_past (w := wi) (.cells #[.slice A1 (rl vs k) c1x, .int .i64 (ct vs k)] 62) q 0 hw3).trans e4
          have yf := (World.frozen?_alloc_past (w := wi) (.cells #[.slice A1 (rl vs k) c1x, .int .i64 (ct vs k)] 62) q 1 hw3).trans ef
          go_wp2_with (first | (at_builtin; refine wpList_apV _ rfl (.tmp 50) (.tmp 55) rfl W.heap.size A' k c' G C (fun j => byName ys (rk vs j)) (ct vs) rfl hov A1 c1x (byName ys (rk vs k)) (ct vs k) wi.heap.size 1 rfl hc0 hc1 ho2 wo.heap.size HIN.out hfar hk20 hbs3 ?_; intro A2 c2 w4 o4 g4 p4; have f0 := far_cell g4 hz3 HNV.out y0; have f1 := far_cell g4 hz3 HNV.out y1; have f2 := far_cell g4 hq3 HNQ.out y2; have f4 := far_cell g4 hq3 HNQ.out y4; have ff := far_frozen g4 hq3 HNQ.out yf))
          have hmd := Mid.grown ((Mid.on (HMA.out.drew) b3).on ((Below.refl _ _).alloc (Nat.le_refl _) (.cells #[.slice A1 (rl vs k) c1x, .int .i64 (ct vs k)] 62))) g4 HGW.out
          have u0 : (w4.setCell ⟨q, 1, none⟩ (.slice A2 (k + 1) c2)).cell? ⟨q, 0, none⟩ = some (.int .i64 m) := by simp [go_sem, f4]
          have u1 : (w4.setCell ⟨q, 1, none⟩ (.slice A2 (k + 1) c2)).cell? ⟨q, 1, none⟩ = some (.slice A2 (k + 1) c2) := by simp [go_sem, f2]
          have u2 : (w4.setCell ⟨q, 1, none⟩ (.slice A2 (k + 1) c2)).frozen? ⟨q, 1, none⟩ = false := by simp [go_sem, ff]
          have U0 := Lib.hid u0; have U1 := Lib.hid u1; have U2 := Lib.hid u2
          clear u0 u1 u2
          have HO4 := Lib.hid o4
          have HMD := Lib.hid hmd
          clear hov ho1 hc0 hc1 ho2 hbs3 hfar hz3 hq3 y0 y1 y2 y4 yf o4 g4 p4 hmd
          go_roundw
          case rel => exact ⟨k + 1, A2, c2, _, _, by omega, by go_num, (HO4.out.setOther hqW _).congr (fun j _ => upd_same (fun j => byName ys (rk vs j)) k j) (fun j _ => upd_same (ct vs) k j), U0.out, U1.out, U2.out, HMD.out.trans (Mid.setCell (p := ⟨q, 1, none⟩) _ ⟨Nat.le_refl q, Nat.lt_succ_self q⟩ _)⟩
          case measure => simp [intOf]; omega
    · obtain rfl : k = n := by omega
      have z0 := (hmid.cell (p := ⟨w.heap.size + 1, 0, none⟩) (by show w.heap.size + 1 < W.heap.size; omega) (.inl hqr)).trans r0
      have z1 := (hmid.cell (p := ⟨w.heap.size + 1, 1, none⟩) (by show w.heap.size + 1 < W.heap.size; omega) (.inl hqr)).trans r1
      have zf0 := (hmid.frozen (p := ⟨w.heap.size + 1, 0, none⟩) (by show w.heap.size + 1 < W.heap.size; omega) (.inl hqr)).trans rf0
      have zf1 := (hmid.frozen (p := ⟨w.heap.size + 1, 1, none⟩) (by show w.heap.size + 1 < W.heap.size; omega) (.inl hqr)).trans rf1
      have HOV := Lib.hid (hOV.mono (base' := q) (by omega)); clear hOV hmid
      go_wp2_with fail
      refine bodyPost_ret (v := .tuple #[.agg #[.int .i64 m, .slice A' k c'], .bool true]) (by simp [results, Try.results34, go_sem, z0, z1]) rfl ⟨A', c', rfl, ⟨G, C, ?_⟩, ?_⟩
      · exact ((HOV.out.setOther hqr _).setOther hqr _).mono hqw
      · exact (bo.setCell (Nat.le_succ _) _).setCell (Nat.le_succ _) _
set_option maxHeartbeats 2000000 in
theorem specRenameProfileF1 (m : Int) (A : Option Addr) (n c : Nat) (vs : List (List Int × Int)) (D : Option Addr) (nd cd : Nat) (_ys : List Int) (w : World) (h : Votes w A n vs) (hn : (n : Int) ≤ 1048576) (hm : ∀ j, j < n → (rl vs j : Int) ≤ 1048576) (hp : profP m vs = false) :
    Calls Try.prog 34 #[.agg #[.int .i64 m, .slice A n c], .slice D nd cd] w fun e w' => e = .returned (.tuple #[.agg #[.int .i64 0, .slice none 0 0], .bool false]) ∧ Below w.heap.size w w' := by
  have HM := Lib.hid hm; clear hm
  have HP : Hid (profP m vs = false) := hp
  clear hp
  have bl : Below w.heap.size w ((w.alloc (.cells #[.int .i64 m, .slice A n c] 40)).alloc (.cells #[.int .i64 0, .slice none 0 0] 40)) := ((Below.refl _ _).alloc (Nat.le_refl _) _).alloc (by simp) _
  have k0 : ((w.alloc (.cells #[.int .i64 m, .slice A n c] 40)).alloc (.cells #[.int .i64 0, .slice none 0 0] 40)).cell? ⟨w.heap.size, 0, none⟩ = some (.int .i64 m) := by simp [go_sem]
  have k1 : ((w.alloc (.cells #[.int .i64 m, .slice A n c] 40)).alloc (.cells #[.int .i64 0, .slice none 0 0] 40)).cell? ⟨w.heap.size, 1, none⟩ = some (.slice A n c) := by simp [go_sem]
  have r0 : ((w.alloc (.cells #[.int .i64 m, .slice A n c] 40)).alloc (.cells #[.int .i64 0, .slice none 0 0] 40)).cell? ⟨w.heap.size + 1, 0, none⟩ = some (.int .i64 0) := by simp [go_sem]
  have r1 : ((w.alloc (.cells #[.int .i64 m, .slice A n c] 40)).alloc (.cells #[.int .i64 0, .slice none 0 0] 40)).cell? ⟨w.heap.size + 1, 1, none⟩ = some (.slice none 0 0) := by simp [go_sem]
  have rf0 : ((w.alloc (.cells #[.int .i64 m, .slice A n c] 40)).alloc (.cells #[.int .i64 0, .slice none 0 0] 40)).frozen? ⟨w.heap.size + 1, 0, none⟩ = false := by simp [go_sem]
  have rf1 : ((w.alloc (.cells #[.int .i64 m, .slice A n c] 40)).alloc (.cells #[.int .i64 0, .slice none 0 0] 40)).frozen? ⟨w.heap.size + 1, 1, none⟩ = false := by simp [go_sem]
  have sp : w.heap.size < ((w.alloc (.cells #[.int .i64 m, .slice A n c] 40)).alloc (.cells #[.int .i64 0, .slice none 0 0] 40)).heap.size := by simp; omega
  have sr : w.heap.size + 1 < ((w.alloc (.cells #[.int .i64 m, .slice A n c] 40)).alloc (.cells #[.int .i64 0, .slice none 0 0] 40)).heap.size := by simp
  have hV := h.on bl
  go_enter Try.func34, Try.ntmps34
  go_wp2_with fail
  refine (specProfileOk m A n c vs _ hV hn HM.out).mono ?_; rintro e w1 ⟨rfl, b1⟩
  rw [HP.out]
  have bl1 := Below.on bl b1
  replace k0 := (b1.cell (p := ⟨w.heap.size, 0, none⟩) sp).trans k0
  replace k1 := (b1.cell (p := ⟨w.heap.size, 1, none⟩) sp).trans k1
  replace r0 := (b1.cell (p := ⟨w.heap.size + 1, 0, none⟩) sr).trans r0
  replace r1 := (b1.cell (p := ⟨w.heap.size + 1, 1, none⟩) sr).trans r1
  replace rf0 := (b1.frozen (p := ⟨w.heap.size + 1, 0, none⟩) sr).trans rf0
  replace rf1 := (b1.frozen (p := ⟨w.heap.size + 1, 1, none⟩) sr).trans rf1
  have hqr : w.heap.size + 1 < w1.heap.size := Nat.lt_of_lt_of_le sr b1.size
  have hqw : w.heap.size ≤ w1.heap.size := by omega
  clear b1 sp sr
  go_wp2_with fail
  exact bodyPost_ret (v := .tuple #[.agg #[.int .i64 0, .slice none 0 0], .bool false]) (by simp [results, Try.results34, go_sem, r0, r1]) rfl ⟨rfl, (bl1.setCell (Nat.le_succ _) _).setCell (Nat.le_succ _) _⟩

set_option maxHeartbeats 2000000 in
theorem specRenameProfileF2 (m : Int) (A : Option Addr) (n c : Nat) (vs : List (List Int × Int)) (D : Option Addr) (nd cd : Nat) (ys : List Int) (w : World) (h : Votes w A n vs) (hn : (n : Int) ≤ 1048576) (hm : ∀ j, j < n → (rl vs j : Int) ≤ 1048576) (hp : profP m vs = true) (hy : Ints w D nd ys) (hnd : (nd : Int) ≤ 1048576) (hok : rankOkP m ys = false) :
    Calls Try.prog 34 #[.agg #[.int .i64 m, .slice A n c], .slice D nd cd] w fun e w' => e = .returned (.tuple #[.agg #[.int .i64 0, .slice none 0 0], .bool false]) ∧ Below w.heap.size w w' := by
  have HM := Lib.hid hm; clear hm
  have HP : Hid (profP m vs = true) := hp
  clear hp
  have bl : Below w.heap.size w ((w.alloc (.cells #[.int .i64 m, .slice A n c] 40)).alloc (.cells #[.int .i64 0, .slice none 0 0] 40)) := ((Below.refl _ _).alloc (Nat.le_refl _) _).alloc (by simp) _
  have k0 : ((w.alloc (.cells #[.int .i64 m, .slice A n c] 40)).alloc (.cells #[.int .i64 0, .slice none 0 0] 40)).cell? ⟨w.heap.size, 0, none⟩ = some (.int .i64 m) := by simp [go_sem]
  have k1 : ((w.alloc (.cells #[.int .i64 m, .slice A n c] 40)).alloc (.cells #[.int .i64 0, .slice none 0 0] 40)).cell? ⟨w.heap.size, 1, none⟩ = some (.slice A n c) := by simp [go_sem]
  have r0 : ((w.alloc (.cells #[.int .i64 m, .slice A n c] 40)).alloc (.cells #[.int .i64 0, .slice none 0 0] 40)).cell? ⟨w.heap.size + 1, 0, none⟩ = some (.int .i64 0) := by simp [go_sem]
  have r1 : ((w.alloc (.cells #[.int .i64 m, .slice A n c] 40)).alloc (.cells #[.int .i64 0, .slice none 0 0] 40)).cell? ⟨w.heap.size + 1, 1, none⟩ = some (.slice none 0 0) := by simp [go_sem]
  have rf0 : ((w.alloc (.cells #[.int .i64 m, .slice A n c] 40)).alloc (.cells #[.int .i64 0, .slice none 0 0] 40)).frozen? ⟨w.heap.size + 1, 0, none⟩ = false := by simp [go_sem]
  have rf1 : ((w.alloc (.cells #[.int .i64 m, .slice A n c] 40)).alloc (.cells #[.int .i64 0, .slice none 0 0] 40)).frozen? ⟨w.heap.size + 1, 1, none⟩ = false := by simp [go_sem]
  have sp : w.heap.size < ((w.alloc (.cells #[.int .i64 m, .slice A n c] 40)).alloc (.cells #[.int .i64 0, .slice none 0 0] 40)).heap.size := by simp; omega
  have sr : w.heap.size + 1 < ((w.alloc (.cells #[.int .i64 m, .slice A n c] 40)).alloc (.cells #[.int .i64 0, .slice none 0 0] 40)).heap.size := by simp
  have hV := h.on bl
  go_enter Try.func34, Try.ntmps34
  go_wp2_with fail
  refine (specProfileOk m A n c vs _ hV hn HM.out).mono ?_; rintro e wa ⟨rfl, ba⟩
  rw [HP.out]
  have k0a := (ba.cell (p := ⟨w.heap.size, 0, none⟩) sp).trans k0
  have hya := hy.on (Below.on bl ba)
  have HOK := Lib.hid hok; clear hok
  go_wp2_with fail
  refine (specRankingOk m D nd cd ys _ hya hnd).mono ?_; rintro e w1 ⟨rfl, bb⟩
  rw [HOK.out]
  have b1 := Below.on ba bb
  clear ba bb k0a hya
  have bl1 := Below.on bl b1
  replace k0 := (b1.cell (p := ⟨w.heap.size, 0, none⟩) sp).trans k0
  replace k1 := (b1.cell (p := ⟨w.heap.size, 1, none⟩) sp).trans k1
  replace r0 := (b1.cell (p := ⟨w.heap.size + 1, 0, none⟩) sr).trans r0
  replace r1 := (b1.cell (p := ⟨w.heap.size + 1, 1, none⟩) sr).trans r1
  replace rf0 := (b1.frozen (p := ⟨w.heap.size + 1, 0, none⟩) sr).trans rf0
  replace rf1 := (b1.frozen (p := ⟨w.heap.size + 1, 1, none⟩) sr).trans rf1
  have hqr : w.heap.size + 1 < w1.heap.size := Nat.lt_of_lt_of_le sr b1.size
  have hqw : w.heap.size ≤ w1.heap.size := by omega
  clear b1 sp sr
  go_wp2_with fail
  exact bodyPost_ret (v := .tuple #[.agg #[.int .i64 0, .slice none 0 0], .bool false]) (by simp [results, Try.results34, go_sem, r0, r1]) rfl ⟨rfl, (bl1.setCell (Nat.le_succ _) _).setCell (Nat.le_succ _) _⟩

set_option maxHeartbeats 2000000 in
theorem implRenameProfileF1 (m : Int) (A : Option Addr) (n c : Nat) (vs : List (List Int × Int)) (D : Option Addr) (nd cd : Nat) (ys : List Int) (w : World) (h : Votes w A n vs) (_hn : (n : Int) ≤ 1048576) (hm : ∀ j, j < n → (rl vs j : Int) ≤ 1048576) (hy : Ints w D nd ys) (hnd : (nd : Int) ≤ 1048576) (hdc : (nd : Int) ≤ cd) (hok : rankOkP m ys = false) :
    Calls Try.prog 35 #[.agg #[.int .i64 m, .slice A n c], .slice D nd cd] w fun e w' => e = .returned (.tuple #[.agg #[.int .i64 0, .slice none 0 0], .bool false]) ∧ Below w.heap.size w w' := by
  have HM := Lib.hid hm; clear hm
  have HOK := Lib.hid hok; clear hok
  have bl : Below w.heap.size w (((w.alloc (.cells #[.int .i64 m, .slice A n c] 40)).alloc (.cells #[.slice D nd cd] 44)).alloc (.cells #[.int .i64 0, .slice none 0 0] 40)) := (((Below.refl _ _).alloc (Nat.le_refl _) _).alloc (by simp) _).alloc (by simp; omega) _
  have k0 : (((w.alloc (.cells #[.int .i64 m, .slice A n c] 40)).alloc (.cells #[.slice D nd cd] 44)).alloc (.cells #[.int .i64 0, .slice none 0 0] 40)).cell? ⟨w.heap.size, 0, none⟩ = some (.int .i64 m) := by simp [go_sem]
  have k1 : (((w.alloc (.cells #[.int .i64 m, .slice A n c] 40)).alloc (.cells #[.slice D nd cd] 44)).alloc (.cells #[.int .i64 0, .slice none 0 0] 40)).cell? ⟨w.heap.size, 1, none⟩ = some (.slice A n c) := by simp [go_sem]
  have kn : (((w.alloc (.cells #[.int .i64 m, .slice A n c] 40)).alloc (.cells #[.slice D nd cd] 44)).alloc (.cells #[.int .i64 0, .slice none 0 0] 40)).cell? ⟨w.heap.size + 1, 0, none⟩ = some (.slice D nd cd) := by simp [go_sem]
  have r0 : (((w.alloc (.cells #[.int .i64 m, .slice A n c] 40)).alloc (.cells #[.slice D nd cd] 44)).alloc (.cells #[.int .i64 0, .slice none 0 0] 40)).cell? ⟨w.heap.size + 1 + 1, 0, none⟩ = some (.int .i64 0) := by simp [go_sem]
  have r1 : (((w.alloc (.cells #[.int .i64 m, .slice A n c] 40)).alloc (.cells #[.slice D nd cd] 44)).alloc (.cells #[.int .i64 0, .slice none 0 0] 40)).cell? ⟨w.heap.size + 1 + 1, 1, none⟩ = some (.slice none 0 0) := by simp [go_sem]
  have rf0 : (((w.alloc (.cells #[.int .i64 m, .slice A n c] 40)).alloc (.cells #[.slice D nd cd] 44)).alloc (.cells #[.int .i64 0, .slice none 0 0] 40)).frozen? ⟨w.heap.size + 1 + 1, 0, none⟩ = false := by simp [go_sem]
  have rf1 : (((w.alloc (.cells #[.int .i64 m, .slice A n c] 40)).alloc (.cells #[.slice D nd cd] 44)).alloc (.cells #[.int .i64 0, .slice none 0 0] 40)).frozen? ⟨w.heap.size + 1 + 1, 1, none⟩ = false := by simp [go_sem]
  have sn : w.heap.size + 1 < (((w.alloc (.cells #[.int .i64 m, .slice A n c] 40)).alloc (.cells #[.slice D nd cd] 44)).alloc (.cells #[.int .i64 0, .slice none 0 0] 40)).heap.size := by simp
  have sr : w.heap.size + 1 + 1 < (((w.alloc (.cells #[.int .i64 m, .slice A n c] 40)).alloc (.cells #[.slice D nd cd] 44)).alloc (.cells #[.int .i64 0, .slice none 0 0] 40)).heap.size := by simp
  have hV := h.on bl
  have hyD := hy.on bl
  go_enter Try.func35, Try.ntmps35
  go_wp2_with fail
  refine (implRankingOk m D nd cd ys _ hyD hnd hdc).mono ?_; rintro e wa ⟨rfl, rfl⟩
  rw [HOK.out]
  go_wp2_with fail
  exact bodyPost_ret (v := .tuple #[.agg #[.int .i64 0, .slice none 0 0], .bool false]) (by simp [results, Try.results35, go_sem]) rfl ⟨rfl, bl⟩

set_option maxHeartbeats 2000000 in
theorem implRenameProfileF2 (m : Int) (A : Option Addr) (n c : Nat) (vs : List (List Int × Int)) (D : Option Addr) (nd cd : Nat) (ys : List Int) (w : World) (h : Votes w A n vs) (hn : (n : Int) ≤ 1048576) (hm : ∀ j, j < n → (rl vs j : Int) ≤ 1048576) (hy : Ints w D nd ys) (hnd : (nd : Int) ≤ 1048576) (hdc : (nd : Int) ≤ cd) (hok : rankOkP m ys = true) (hp : profP m vs = false) :
    Calls Try.prog 35 #[.agg #[.int .i64 m, .slice A n c], .slice D nd cd] w fun e w' => e = .returned (.tuple #[.agg #[.int .i64 0, .slice none 0 0], .bool false]) ∧ Below w.heap.size w w' := by
  have HP := Lib.hid hp; clear hp
  have HM := Lib.hid hm; clear hm
  have HOK := Lib.hid hok; clear hok
  have bl : Below w.heap.size w (((w.alloc (.cells #[.int .i64 m, .slice A n c] 40)).alloc (.cells #[.slice D nd cd] 44)).alloc (.cells #[.int .i64 0, .slice none 0 0] 40)) := (((Below.refl _ _).alloc (Nat.le_refl _) _).alloc (by simp) _).alloc (by simp; omega) _
  have k0 : (((w.alloc (.cells #[.int .i64 m, .slice A n c] 40)).alloc (.cells #[.slice D nd cd] 44)).alloc (.cells #[.int .i64 0, .slice none 0 0] 40)).cell? ⟨w.heap.size, 0, none⟩ = some (.int .i64 m) := by simp [go_sem]
  have k1 : (((w.alloc (.cells #[.int .i64 m, .slice A n c] 40)).alloc (.cells #[.slice D nd cd] 44)).alloc (.cells #[.int .i64 0, .slice none 0 0] 40)).cell? ⟨w.heap.size, 1, none⟩ = some (.slice A n c) := by simp [go_sem]
  have kn : (((w.alloc (.cells #[.int .i64 m, .slice A n c] 40)).alloc (.cells #[.slice D nd cd] 44)).alloc (.cells #[.int .i64 0, .slice none 0 0] 40)).cell? ⟨w.heap.size + 1, 0, none⟩ = some (.slice D nd cd) := by simp [go_sem]
  have r0 : (((w.alloc (.cells #[.int .i64 m, .slice A n c] 40)).alloc (.cells #[.slice D nd cd] 44)).alloc (.cells #[.int .i64 0, .slice none 0 0] 40)).cell? ⟨w.heap.size + 1 + 1, 0, none⟩ = some (.int .i64 0) := by simp [go_sem]
  have r1 : (((w.alloc (.cells #[.int .i64 m, .slice A n c] 40)).alloc (.cells #[.slice D nd cd] 44)).alloc (.cells #[.int .i64 0, .slice none 0 0] 40)).cell? ⟨w.heap.size + 1 + 1, 1, none⟩ = some (.slice none 0 0) := by simp [go_sem]
  have rf0 : (((w.alloc (.cells #[.int .i64 m, .slice A n c] 40)).alloc (.cells #[.slice D nd cd] 44)).alloc (.cells #[.int .i64 0, .slice none 0 0] 40)).frozen? ⟨w.heap.size + 1 + 1, 0, none⟩ = false := by simp [go_sem]
  have rf1 : (((w.alloc (.cells #[.int .i64 m, .slice A n c] 40)).alloc (.cells #[.slice D nd cd] 44)).alloc (.cells #[.int .i64 0, .slice none 0 0] 40)).frozen? ⟨w.heap.size + 1 + 1, 1, none⟩ = false := by simp [go_sem]
  have sn : w.heap.size + 1 < (((w.alloc (.cells #[.int .i64 m, .slice A n c] 40)).alloc (.cells #[.slice D nd cd] 44)).alloc (.cells #[.int .i64 0, .slice none 0 0] 40)).heap.size := by simp
  have sr : w.heap.size + 1 + 1 < (((w.alloc (.cells #[.int .i64 m, .slice A n c] 40)).alloc (.cells #[.slice D nd cd] 44)).alloc (.cells #[.int .i64 0, .slice none 0 0] 40)).heap.size := by simp
  have hV := h.on bl
  have hyD := hy.on bl
  go_enter Try.func35, Try.ntmps35
  go_wp2_with fail
  refine (implRankingOk m D nd cd ys _ hyD hnd hdc).mono ?_; rintro e wa ⟨rfl, rfl⟩
  rw [HOK.out]
  go_wp2_with fail
  refine (changedRenF m A n c vs (w.heap.size + 1) D nd cd ys _ hV hn HM.out kn sn hyD HOK.out HP.out).mono ?_; rintro e w1 ⟨rfl, b1⟩
  have bl1 := Below.on bl b1
  replace r0 := (b1.cell (p := ⟨w.heap.size + 1 + 1, 0, none⟩) sr).trans r0
  replace r1 := (b1.cell (p := ⟨w.heap.size + 1 + 1, 1, none⟩) sr).trans r1
  replace rf0 := (b1.frozen (p := ⟨w.heap.size + 1 + 1, 0, none⟩) sr).trans rf0
  replace rf1 := (b1.frozen (p := ⟨w.heap.size + 1 + 1, 1, none⟩) sr).trans rf1
  go_wp2_with fail
  exact bodyPost_ret (v := .tuple #[.agg #[.int .i64 0, .slice none 0 0], .bool false]) (by simp [results, Try.results35, go_sem, r0, r1]) rfl ⟨rfl, (bl1.setCell (by show w.heap.size ≤ w.heap.size + 1 + 1; omega) _).setCell (by show w.heap.size ≤ w.heap.size + 1 + 1; omega) _⟩

set_option maxHeartbeats 2000000 in
theorem implRenameProfileT (m : Int) (A : Option Addr) (n c : Nat) (vs : List (List Int × Int)) (D : Option Addr) (nd cd : Nat) (ys : List Int) (w : World) (h : Votes w A n vs) (hn : (n : Int) ≤ 1048576) (hm : ∀ j, j < n → (rl vs j : Int) ≤ 1048576) (hy : Ints w D nd ys) (hnd : (nd : Int) ≤ 1048576) (hdc : (nd : Int) ≤ cd) (hok : rankOkP m ys = true) (hp : profP m vs = true) :
    Calls Try.prog 35 #[.agg #[.int .i64 m, .slice A n c], .slice D nd cd] w fun e w' => ∃ A' c' G C, e = .returned (.tuple #[.agg #[.int .i64 m, .slice A' n c'], .bool true]) ∧ OwnV w' w.heap.size A' n c' G C (fun j => byName ys (rk vs j)) (ct vs) ∧ Below w.heap.size w w' := by
  have HP := Lib.hid hp; clear hp
  have HM := Lib.hid hm; clear hm
  have HOK := Lib.hid hok; clear hok
  have bl : Below w.heap.size w (((w.alloc (.cells #[.int .i64 m, .slice A n c] 40)).alloc (.cells #[.slice D nd cd] 44)).alloc (.cells #[.int .i64 0, .slice none 0 0] 40)) := (((Below.refl _ _).alloc (Nat.le_refl _) _).alloc (by simp) _).alloc (by simp; omega) _
  have k0 : (((w.alloc (.cells #[.int .i64 m, .slice A n c] 40)).alloc (.cells #[.slice D nd cd] 44)).alloc (.cells #[.int .i64 0, .slice none 0 0] 40)).cell? ⟨w.heap.size, 0, none⟩ = some (.int .i64 m) := by simp [go_sem]
  have k1 : (((w.alloc (.cells #[.int .i64 m, .slice A n c] 40)).alloc (.cells #[.slice D nd cd] 44)).alloc (.cells #[.int .i64 0, .slice none 0 0] 40)).cell? ⟨w.heap.size, 1, none⟩ = some (.slice A n c) := by simp [go_sem]
  have kn : (((w.alloc (.cells #[.int .i64 m, .slice A n c] 40)).alloc (.cells #[.slice D nd cd] 44)).alloc (.cells #[.int .i64 0, .slice none 0 0] 40)).cell? ⟨w.heap.size + 1, 0, none⟩ = some (.slice D nd cd) := by simp [go_sem]
  have r0 : (((w.alloc (.cells #[.int .i64 m, .slice A n c] 40)).alloc (.cells #[.slice D nd cd] 44)).alloc (.cells #[.int .i64 0, .slice none 0 0] 40)).cell? ⟨w.heap.size + 1 + 1, 0, none⟩ = some (.int .i64 0) := by simp [go_sem]
  have r1 : (((w.alloc (.cells #[.int .i64 m, .slice A n c] 40)).alloc (.cells #[.slice D nd cd] 44)).alloc (.cells #[.int .i64 0, .slice none 0 0] 40)).cell? ⟨w.heap.size + 1 + 1, 1, none⟩ = some (.slice none 0 0) := by simp [go_sem]
  have rf0 : (((w.alloc (.cells #[.int .i64 m, .slice A n c] 40)).alloc (.cells #[.slice D nd cd] 44)).alloc (.cells #[.int .i64 0, .slice none 0 0] 40)).frozen? ⟨w.heap.size + 1 + 1, 0, none⟩ = false := by simp [go_sem]
  have rf1 : (((w.alloc (.cells #[.int .i64 m, .slice A n c] 40)).alloc (.cells #[.slice D nd cd] 44)).alloc (.cells #[.int .i64 0, .slice none 0 0] 40)).frozen? ⟨w.heap.size + 1 + 1, 1, none⟩ = false := by simp [go_sem]
  have sn : w.heap.size + 1 < (((w.alloc (.cells #[.int .i64 m, .slice A n c] 40)).alloc (.cells #[.slice D nd cd] 44)).alloc (.cells #[.int .i64 0, .slice none 0 0] 40)).heap.size := by simp
  have sr : w.heap.size + 1 + 1 < (((w.alloc (.cells #[.int .i64 m, .slice A n c] 40)).alloc (.cells #[.slice D nd cd] 44)).alloc (.cells #[.int .i64 0, .slice none 0 0] 40)).heap.size := by simp
  have hV := h.on bl
  have hyD := hy.on bl
  go_enter Try.func35, Try.ntmps35
  go_wp2_with fail
  refine (implRankingOk m D nd cd ys _ hyD hnd hdc).mono ?_; rintro e wa ⟨rfl, rfl⟩
  rw [HOK.out]
  go_wp2_with fail
  refine (changedRenT m A n c vs (w.heap.size + 1) D nd cd ys _ hV hn HM.out kn sn hyD HOK.out HP.out).mono ?_; rintro e w1 ⟨A1, c1, G1, C1, rfl, o1, b1⟩
  have bl1 := Below.on bl b1
  replace r0 := (b1.cell (p := ⟨w.heap.size + 1 + 1, 0, none⟩) sr).trans r0
  replace r1 := (b1.cell (p := ⟨w.heap.size + 1 + 1, 1, none⟩) sr).trans r1
  replace rf0 := (b1.frozen (p := ⟨w.heap.size + 1 + 1, 0, none⟩) sr).trans rf0
  replace rf1 := (b1.frozen (p := ⟨w.heap.size + 1 + 1, 1, none⟩) sr).trans rf1
  have o1 := o1.setOther (p := ⟨w.heap.size + 1 + 1, 0, none⟩) sr (.int .i64 m)
  have o1 := o1.setOther (p := ⟨w.heap.size + 1 + 1, 1, none⟩) sr (.slice A1 n c1)
  have o1 := o1.mono (base' := w.heap.size) (by simp; omega)
  have HO := Lib.hid o1
  clear o1
  go_wp2_with fail
  exact bodyPost_ret (v := .tuple #[.agg #[.int .i64 m, .slice A1 n c1], .bool true]) (by simp [results, Try.results35, go_sem, r0, r1]) rfl ⟨A1, c1, G1, C1, rfl, HO.out, (bl1.setCell (by show w.heap.size ≤ w.heap.size + 1 + 1; omega) _).setCell (by show w.heap.size ≤ w.heap.size + 1 + 1; omega) _⟩

theorem specRenameProfile (m : Int) (A : Option Addr) (n c : Nat) (vs : List (List Int × Int)) (D : Option Addr) (nd cd : Nat) (ys : List Int) (w : World) (h : Votes w A n vs) (hn : (n : Int) ≤ 1048576) (hm : ∀ j, j < n → (rl vs j : Int) ≤ 1048576) (hy : Ints w D nd ys) (hnd : (nd : Int) ≤ 1048576) :
    Calls Try.prog 34 #[.agg #[.int .i64 m, .slice A n c], .slice D nd cd] w fun e w' => ∃ A' c' G C, e = .returned (.tuple #[.agg #[.int .i64 (rnM m vs ys), .slice A' (rnV m vs ys).length c'], .bool (rnOk m vs ys)]) ∧ OwnV w' w.heap.size A' (rnV m vs ys).length c' G C (rk (rnV m vs ys)) (ct (rnV m vs ys)) ∧ Below w.heap.size w w' := by
  have hl := h.1
  have no : rnOk m vs ys = false → (Calls Try.prog 34 #[.agg #[.int .i64 m, .slice A n c], .slice D nd cd] w fun e w' => e = .returned (.tuple #[.agg #[.int .i64 0, .slice none 0 0], .bool false]) ∧ Below w.heap.size w w') → (Calls Try.prog 34 #[.agg #[.int .i64 m, .slice A n c], .slice D nd cd] w fun e w' => ∃ A' c' G C, e = .returned (.tuple #[.agg #[.int .i64 (rnM m vs ys), .slice A' (rnV m vs ys).length c'], .bool (rnOk m vs ys)]) ∧ OwnV w' w.heap.size A' (rnV m vs ys).length c' G C (rk (rnV m vs ys)) (ct (rnV m vs ys)) ∧ Below w.heap.size w w') := by
    intro hf hc
    have eM : rnM m vs ys = 0 := by unfold rnM; rw [hf]; rfl
    have eV : rnV m vs ys = [] := by unfold rnV; rw [hf]; rfl
    rw [eM, eV, hf]
    refine hc.mono ?_; rintro e w1 ⟨rfl, b⟩
    exact ⟨none, 0, fun _ => none, fun _ => 0, rfl, OwnV.nil_ _ _ _ _ _ _, b⟩
  cases hp : profP m vs with
  | false =>
    have hf : rnOk m vs ys = false := by simp [rnOk, hp]
    exact no hf (specRenameProfileF1 m A n c vs D nd cd ys w h hn hm hp)
  | true =>
    cases hok : rankOkP m ys with
    | false => exact no (by simp [rnOk, hok]) (specRenameProfileF2 m A n c vs D nd cd ys w h hn hm hp hy hnd hok)
    | true =>
      have hf : rnOk m vs ys = true := by simp [rnOk, hp, hok]
      have eM : rnM m vs ys = m := by unfold rnM; rw [hf]; rfl
      have eV : rnV m vs ys = mapV (byName ys) vs := by unfold rnV; rw [hf]; rfl
      have eL : (mapV (byName ys) vs).length = n := by rw [mapV_len]; exact hl
      rw [eM, eV, eL, hf]
      refine (specRenameProfileT m A n c vs D nd cd ys w h hn hm hy hnd hok hp).mono ?_; rintro e w1 ⟨A1, c1, G1, C1, rfl, o, b⟩
      exact ⟨A1, c1, G1, C1, rfl, o.congr (fun j hj => (mapV_rk _ (by omega)).symm) (fun j hj => (mapV_ct _ (by omega)).symm), b⟩

theorem implRenameProfile (m : Int) (A : Option Addr) (n c : Nat) (vs : List (List Int × Int)) (D : Option Addr) (nd cd : Nat) (ys : List Int) (w : World) (h : Votes w A n vs) (hn : (n : Int) ≤ 1048576) (hm : ∀ j, j < n → (rl vs j : Int) ≤ 1048576) (hy : Ints w D nd ys) (hnd : (nd : Int) ≤ 1048576) (hdc : (nd : Int) ≤ cd) :
    Calls Try.prog 35 #[.agg #[.int .i64 m, .slice A n c], .slice D nd cd] w fun e w' => ∃ A' c' G C, e = .returned (.tuple #[.agg #[.int .i64 (rnM m vs ys), .slice A' (rnV m vs ys).length c'], .bool (rnOk m vs ys)]) ∧ OwnV w' w.heap.size A' (rnV m vs ys).length c' G C (rk (rnV m vs ys)) (ct (rnV m vs ys)) ∧ Below w.heap.size w w' := by
  have hl := h.1
  have no : rnOk m vs ys = false → (Calls Try.prog 35 #[.agg #[.int .i64 m, .slice A n c], .slice D nd cd] w fun e w' => e = .returned (.tuple #[.agg #[.int .i64 0, .slice none 0 0], .bool false]) ∧ Below w.heap.size w w') → (Calls Try.prog 35 #[.agg #[.int .i64 m, .slice A n c], .slice D nd cd] w fun e w' => ∃ A' c' G C, e = .returned (.tuple #[.agg #[.int .i64 (rnM m vs ys), .slice A' (rnV m vs ys).length c'], .bool (rnOk m vs ys)]) ∧ OwnV w' w.heap.size A' (rnV m vs ys).length c' G C (rk (rnV m vs ys)) (ct (rnV m vs ys)) ∧ Below w.heap.size w w') := by
    intro hf hc
    have eM : rnM m vs ys = 0 := by unfold rnM; rw [hf]; rfl
    have eV : rnV m vs ys = [] := by unfold rnV; rw [hf]; rfl
    rw [eM, eV, hf]
    refine hc.mono ?_; rintro e w1 ⟨rfl, b⟩
    exact ⟨none, 0, fun _ => none, fun _ => 0, rfl, OwnV.nil_ _ _ _ _ _ _, b⟩
  cases hp : profP m vs with
  | false =>
    have hf : rnOk m vs ys = false := by simp [rnOk, hp]
    cases hok : rankOkP m ys with
    | false => exact no hf (implRenameProfileF1 m A n c vs D nd cd ys w h hn hm hy hnd hdc hok)
    | true => exact no hf (implRenameProfileF2 m A n c vs D nd cd ys w h hn hm hy hnd hdc hok hp)
  | true =>
    cases hok : rankOkP m ys with
    | false => exact no (by simp [rnOk, hok]) (implRenameProfileF1 m A n c vs D nd cd ys w h hn hm hy hnd hdc hok)
    | true =>
      have hf : rnOk m vs ys = true := by simp [rnOk, hp, hok]
      have eM : rnM m vs ys = m := by unfold rnM; rw [hf]; rfl
      have eV : rnV m vs ys = mapV (byName ys) vs := by unfold rnV; rw [hf]; rfl
      have eL : (mapV (byName ys) vs).length = n := by rw [mapV_len]; exact hl
      rw [eM, eV, eL, hf]
      refine (implRenameProfileT m A n c vs D nd cd ys w h hn hm hy hnd hdc hok hp).mono ?_; rintro e w1 ⟨A1, c1, G1, C1, rfl, o, b⟩
      exact ⟨A1, c1, G1, C1, rfl, o.congr (fun j hj => (mapV_rk _ (by omega)).symm) (fun j hj => (mapV_ct _ (by omega)).symm), b⟩
end Go.Proofs.Ytblofiimfhbkdaa
