/- Profiles that are copied vote by vote: what the program's and the reference's functions compute. -/
import Derived.Test.YtblofiimfhbkdaaStepV
import Derived.Test.YtblofiimfhbkdaaPlainV
import Derived.Test.YtblofiimfhbkdaaRev
namespace Go.Proofs.Ytblofiimfhbkdaa
open Go.RowKit
set_option maxRecDepth 100000

set_option maxHeartbeats 8000000 in
theorem specL04Copy (m : Int) (A : Option Addr) (n c : Nat) (vs : List (List Int × Int)) (w : World) (h : Votes w A n vs) (hn : (n : Int) ≤ 1048576) (hm : ∀ j, j < n → (rl vs j : Int) ≤ 1048576) :
    Calls Try.prog 77 #[.agg #[.int .i64 m, .slice A n c]] w fun e w' => ∃ A' c' G C, e = .returned (.agg #[.int .i64 m, .slice A' n c']) ∧ OwnV w' w.heap.size A' n c' G C (rk vs) (ct vs) ∧ Below w.heap.size w w' := by
  have HM := Lib.hid hm; clear hm
  have bW : Below w.heap.size w (((w.alloc (.cells #[.int .i64 m, .slice A n c] 40)).alloc (.cells #[.int .i64 0, .slice none 0 0] 40)).alloc (.cells #[.int .i64 m, .slice none 0 0] 40)) := (((Below.refl _ _).alloc (Nat.le_refl _) _).alloc (by simp) _).alloc (by simp; omega) _
  have q0 : (((w.alloc (.cells #[.int .i64 m, .slice A n c] 40)).alloc (.cells #[.int .i64 0, .slice none 0 0] 40)).alloc (.cells #[.int .i64 m, .slice none 0 0] 40)).cell? ⟨w.heap.size + 1 + 1, 0, none⟩ = some (.int .i64 m) := by simp [go_sem]
  have q1 : (((w.alloc (.cells #[.int .i64 m, .slice A n c] 40)).alloc (.cells #[.int .i64 0, .slice none 0 0] 40)).alloc (.cells #[.int .i64 m, .slice none 0 0] 40)).cell? ⟨w.heap.size + 1 + 1, 1, none⟩ = some (.slice none 0 0) := by simp [go_sem]
  have qf1 : (((w.alloc (.cells #[.int .i64 m, .slice A n c] 40)).alloc (.cells #[.int .i64 0, .slice none 0 0] 40)).alloc (.cells #[.int .i64 m, .slice none 0 0] 40)).frozen? ⟨w.heap.size + 1 + 1, 1, none⟩ = false := by simp [go_sem]
  have sW : (((w.alloc (.cells #[.int .i64 m, .slice A n c] 40)).alloc (.cells #[.int .i64 0, .slice none 0 0] 40)).alloc (.cells #[.int .i64 m, .slice none 0 0] 40)).heap.size = w.heap.size + 1 + 1 + 1 := by simp
  have k1 : (((w.alloc (.cells #[.int .i64 m, .slice A n c] 40)).alloc (.cells #[.int .i64 0, .slice none 0 0] 40)).alloc (.cells #[.int .i64 m, .slice none 0 0] 40)).cell? ⟨w.heap.size, 1, none⟩ = some (.slice A n c) := by simp [go_sem]
  have r0 : (((w.alloc (.cells #[.int .i64 m, .slice A n c] 40)).alloc (.cells #[.int .i64 0, .slice none 0 0] 40)).alloc (.cells #[.int .i64 m, .slice none 0 0] 40)).cell? ⟨w.heap.size + 1, 0, none⟩ = some (.int .i64 0) := by simp [go_sem]
  have r1 : (((w.alloc (.cells #[.int .i64 m, .slice A n c] 40)).alloc (.cells #[.int .i64 0, .slice none 0 0] 40)).alloc (.cells #[.int .i64 m, .slice none 0 0] 40)).cell? ⟨w.heap.size + 1, 1, none⟩ = some (.slice none 0 0) := by simp [go_sem]
  have rf0 : (((w.alloc (.cells #[.int .i64 m, .slice A n c] 40)).alloc (.cells #[.int .i64 0, .slice none 0 0] 40)).alloc (.cells #[.int .i64 m, .slice none 0 0] 40)).frozen? ⟨w.heap.size + 1, 0, none⟩ = false := by simp [go_sem]
  have rf1 : (((w.alloc (.cells #[.int .i64 m, .slice A n c] 40)).alloc (.cells #[.int .i64 0, .slice none 0 0] 40)).alloc (.cells #[.int .i64 m, .slice none 0 0] 40)).frozen? ⟨w.heap.size + 1, 1, none⟩ = false := by simp [go_sem]
  go_enter Try.func77, Try.ntmps77
  go_wp2_with fail
  obtain ⟨q, hqq⟩ : ∃ q, q = w.heap.size + 1 + 1 := ⟨_, rfl⟩
  rw [← hqq] at q0 q1 qf1 sW
  simp only [← hqq]
  generalize ((w.alloc (.cells #[.int .i64 m, .slice A n c] 40)).alloc (.cells #[.int .i64 0, .slice none 0 0] 40)).alloc (.cells #[.int .i64 m, .slice none 0 0] 40) = W at *
  have hqw : w.heap.size ≤ q := by omega
  have hqr : w.heap.size + 1 < q := by omega
  have hqW : q < W.heap.size := by omega
  clear hqq sW
  go_loopw [12] (fun u wr => ∃ (k : Nat) (A' : Option Addr) (c' : Nat) (G : Nat → Option Addr) (C : Nat → Nat), (k : Int) ≤ n ∧ u = .int .i64 k ∧ OwnV wr W.heap.size A' k c' G C (rk vs) (ct vs) ∧ wr.cell? ⟨q, 0, none⟩ = some (.int .i64 m) ∧ wr.cell? ⟨q, 1, none⟩ = some (.slice A' k c') ∧ wr.frozen? ⟨q, 1, none⟩ = false ∧ Mid q (q + 1) W wr) (fun u _ => n - (intOf u).toNat)
  case atStart => exact ⟨0, none, 0, fun _ => none, fun _ => 0, by omega, rfl, OwnV.nil_ _ _ _ _ _ _, q0, q1, qf1, Mid.refl _ _ _⟩
  case round =>
    obtain ⟨k, A', c', G, C, hk, rfl, hOV, p0, p1, pf1, hmid⟩ := hrel
    obtain ⟨wo, rfl⟩ : ∃ wo : World, wo = wr := ⟨_, rfl⟩
    have hms := hmid.size
    have bo : Below w.heap.size w wo := Below.mid bW hmid hqw (by omega)
    by_cases hlt : (k : Int) < n
    · obtain ⟨b, ob, rfl, hbs, ⟨B, d, q1k, q2k, q3k, q4k, q5k⟩⟩ := (h.on bo).at_ (k := k) (by omega)
      have hlb := HM.out k (by omega)
      have bA : Below wo.heap.size wo (wo.alloc (.cells #[.slice B (rl vs k) d, .int .i64 (ct vs k)] 62)) := (Below.refl _ _).alloc (Nat.le_refl _) _
      have v0 : (wo.alloc (.cells #[.slice B (rl vs k) d, .int .i64 (ct vs k)] 62)).cell? ⟨wo.heap.size, 0, none⟩ = some (.slice B (rl vs k) d) := by simp
      have v1 : (wo.alloc (.cells #[.slice B (rl vs k) d, .int .i64 (ct vs k)] 62)).cell? ⟨wo.heap.size, 1, none⟩ = some (.int .i64 (ct vs k)) := by simp
      have sV : wo.heap.size < (wo.alloc (.cells #[.slice B (rl vs k) d, .int .i64 (ct vs k)] 62)).heap.size := by simp
      have sq : q < wo.heap.size := by omega
      have q4d := (q4k.on bA).drew
      have hOd := (hOV.on bA).on (Below.drew (Below.refl _ _))
      have x0 := (bA.cell (p := ⟨q, 0, none⟩) sq).trans p0
      have x1 := (bA.cell (p := ⟨q, 1, none⟩) sq).trans p1
      have xf := (bA.frozen (p := ⟨q, 1, none⟩) sq).trans pf1
      have hmA := hmid.on bA
      have hin := hOV.inn
      have HIN := Lib.hid hin; clear hin
      have HOV := Lib.hid hOV; clear hOV
      have HLEN : Hid ((rk vs k).length = rl vs k) := rfl
      have bVw : Below w.heap.size w (wo.alloc (.cells #[.slice B (rl vs k) d, .int .i64 (ct vs k)] 62)) := Below.on bo bA
      clear hmid
      go_wp2_with fail
      generalize wo.alloc (.cells #[.slice B (rl vs k) d, .int .i64 (ct vs k)] 62) = V at *
      have sqV : q < V.heap.size := by omega
      have hnv1 : ¬ wo.heap.size = q := by omega
      have hnv2 : ¬ q = wo.heap.size := by omega
      have hWV : W.heap.size ≤ V.heap.size := by omega
      have HOD := Lib.hid hOd; clear hOd
      have HMA := Lib.hid hmA; clear hmA
      have hlb2 : rl vs k ≤ 1099511627776 := by omega
      have hk20 : k ≤ 1048576 := by omega
      have HNV := Lib.hid (fun (a : Addr) (ha : A' = some a) => Nat.ne_of_lt (HIN.out.1 a ha))
      have HNQ := Lib.hid (fun (a : Addr) (ha : A' = some a) => show a.block ≠ q by have := (HOV.out.ge a ha).1; omega)
      have HGW := Lib.hid (fun (r : Nat) (hr : A'.map (·.block) = some r) => show W.heap.size ≤ r by
        obtain ⟨a, ha, hb⟩ := map_block hr.symm
        have := (HOV.out.ge a ha).1
        omega)
      refine wp_region_held_drew (S := (fun w' => w'.cell? ⟨wo.heap.size, 0, none⟩ = some (.slice B (rl vs k) d) ∧ w'.cell? ⟨wo.heap.size, 1, none⟩ = some (.int .i64 (ct vs k)))) (by kernel_rfl) ?_ (fun hHeld => ?_)
      · (try dsimp only); go_keep
      refine wpAnyH_take (i := 0) (v := ?_) rfl (by kernel_rfl) (by kernel_rfl) (by kernel_rfl) (fun _ _ _ h => h) (Or.inl ⟨by rfl, ?_⟩) (by assumption) ?_
      rotate_left
      · intro wq hSw; (try dsimp only at hSw); go_simp; (try with_reducible rfl)
      simp only [Act.put]
      refine wpAnyH_take (i := 3) (v := ?_) rfl (by kernel_rfl) (by kernel_rfl) (by kernel_rfl) (fun _ _ _ h => h) (Or.inl ⟨by rfl, ?_⟩) (by assumption) ?_
      rotate_left
      · intro wq hSw; (try dsimp only at hSw); go_simp; (try with_reducible rfl)
      simp only [Act.put]
      refine wpAnyH_take (i := 4) (v := ?_) rfl (by kernel_rfl) (by kernel_rfl) (by kernel_rfl) (fun _ _ _ h => h) (Or.inl ⟨by rfl, ?_⟩) (by assumption) ?_
      rotate_left
      · intro wq hSw; (try dsimp only at hSw); go_simp; (try with_reducible rfl)
      simp only [Act.put]
      refine wpAnyH_take (i := 6) (v := ?_) rfl (by kernel_rfl) (by kernel_rfl) (by kernel_rfl) (fun _ _ _ h => h) (Or.inl ⟨by rfl, ?_⟩) (by assumption) ?_
      rotate_left
      · intro wq hSw; (try dsimp only at hSw); go_simp; (try with_reducible rfl)
      simp only [Act.put]
      refine wpAnyH_take (i := 7) (v := ?_) rfl (by kernel_rfl) (by kernel_rfl) (by kernel_rfl) (fun _ _ _ h => h) (Or.inl ⟨by rfl, ?_⟩) (by assumption) ?_
      rotate_left
      · intro wq hSw; (try dsimp only at hSw); go_simp; (try with_reducible rfl)
      simp only [Act.put]
      refine wpAnyH_ready (rs := [1, 2]) (by kernel_rfl) (by simp) ?_
      refine AllReadyH.cons rfl (fun K hK => ?_) ?_
      · skip
        go_simp
        refine hK.out _ _ ?_ (fun hHeld => ?_)
        · (try dsimp only); go_keep
        clear hK K
        refine wpAnyH_ready (rs := [2]) (by kernel_rfl) (by simp) ?_
        refine AllReadyH.cons rfl (fun K hK => ?_) ?_
        · skip
          go_simp
          refine hK.out _ _ ?_ (fun hHeld => ?_)
          · (try dsimp only); go_keep
          clear hK K
          refine wpAnyH_ready (rs := [5]) (by kernel_rfl) (by simp) ?_
          refine AllReadyH.cons rfl (fun K hK => ?_) ?_
          · skip
            refine step_apnew V.drew rfl (.tmp 18) (.tmp 20) rfl rfl B (rl vs k) d (rk vs k) rfl q4d hlb2 ?_
            intro A1 c1x w3 o3 b3
            have b3x : Below V.heap.size V w3 := (Below.drew (Below.refl _ _)).trans b3
            have e0 := (b3x.cell (p := ⟨wo.heap.size, 0, none⟩) sV).trans v0
            have e1 := (b3x.cell (p := ⟨wo.heap.size, 1, none⟩) sV).trans v1
            have e2 := (b3x.cell (p := ⟨q, 1, none⟩) sqV).trans x1
            have ef := (b3x.frozen (p := ⟨q, 1, none⟩) sqV).trans xf
            have e4 := (b3x.cell (p := ⟨q, 0, none⟩) sqV).trans x0
            have s3 := b3x.size
            have hw3 : q < w3.heap.size := by omega
            have hw4 : ¬ q = w3.heap.size := by omega
            have hv3 : wo.heap.size < w3.heap.size := by omega
            clear b3x
            refine hK.out _ _ ?_ (fun hHeld => ?_)
            · (try dsimp only); go_keep
            clear hK K
            refine wpAnyH_take (i := 8) (v := ?_) rfl (by kernel_rfl) (by kernel_rfl) (by kernel_rfl) (fun _ _ _ h => h) (Or.inl ⟨by rfl, ?_⟩) (by assumption) ?_
            rotate_left
            · intro wq hSw; (try dsimp only at hSw); go_simp; (try with_reducible rfl)
            simp only [Act.put]
            refine wpAnyH_ready (rs := [9]) (by kernel_rfl) (by simp) ?_
            refine AllReadyH.cons rfl (fun K hK => ?_) ?_
            · skip
              go_simp
              refine hK.out _ _ ?_ (fun hHeld => ?_)
              · (try dsimp only); go_keep
              clear hK K
              refine wpAnyH_ready (rs := [10]) (by kernel_rfl) (by simp) ?_
              refine AllReadyH.cons rfl (fun K hK => ?_) ?_
              · skip
                have hov := (HOD.out.on b3).alloc (.cells #[.slice A1 (rl vs k) c1x, .int .i64 (ct vs k)] 62)
                have ho1 := own_alloc (own_mono o3 hWV) (.cells #[.slice A1 (rl vs k) c1x, .int .i64 (ct vs k)] 62)
                have hc0 : (w3.alloc (.cells #[.slice A1 (rl vs k) c1x, .int .i64 (ct vs k)] 62)).cell? ⟨w3.heap.size, 0, none⟩ = some (.slice A1 (rk vs k).length c1x) := by rw [HLEN.out]; simp
                have hc1 : (w3.alloc (.cells #[.slice A1 (rl vs k) c1x, .int .i64 (ct vs k)] 62)).cell? ⟨w3.heap.size, 1, none⟩ = some (.int .i64 (ct vs k)) := by simp
                have ho2 : Own (w3.alloc (.cells #[.slice A1 (rl vs k) c1x, .int .i64 (ct vs k)] 62)) W.heap.size A1 (rk vs k).length c1x (rk vs k) := by rw [HLEN.out]; exact ho1
                have hbs3 : W.heap.size ≤ (w3.alloc (.cells #[.slice A1 (rl vs k) c1x, .int .i64 (ct vs k)] 62)).heap.size := by simp; omega
                have hfar : ∀ a, A1 = some a → wo.heap.size ≤ a.block := fun a ha => Nat.le_trans (Nat.le_of_lt sV) (own_ge o3 a ha).1
                have hz3 : wo.heap.size < (w3.alloc (.cells #[.slice A1 (rl vs k) c1x, .int .i64 (ct vs k)] 62)).heap.size := by simp; omega
                have hq3 : q < (w3.alloc (.cells #[.slice A1 (rl vs k) c1x, .int .i64 (ct vs k)] 62)).heap.size := by simp; omega
                have y0 := (World.cell?_alloc_past (w := w3) (.cells #[.slice A1 (rl vs k) c1x, .int .i64 (ct vs k)] 62) wo.heap.size 0 hv3).trans e0
                have y1 := (World.cell?_alloc_past (w := w3) (.cells #[.slice A1 (rl vs k) c1x, .int .i64 (ct vs k)] 62) wo.heap.size 1 hv3).trans e1
                have y2 := (World.cell?_alloc_past (w := w3) (.cells #[.slice A1 (rl vs k) c1x, .int .i64 (ct vs k)] 62) q 1 hw3).trans e2
                have y4 := (World.cell?_alloc_past (w := w3) (.cells #[.slice A1 (rl vs k) c1x, .int .i64 (ct vs k)] 62) q 0 hw3).trans e4
                have yf := (World.frozen?_alloc_past (w := w3) (.cells #[.slice A1 (rl vs k) c1x, .int .i64 (ct vs k)] 62) q 1 hw3).trans ef
                refine step_apV (w3.alloc (.cells #[.slice A1 (rl vs k) c1x, .int .i64 (ct vs k)] 62)) rfl (.tmp 17) (.tmp 25) rfl W.heap.size A' k c' G C (rk vs) (ct vs) rfl hov A1 c1x (rk vs k) (ct vs k) w3.heap.size 1 rfl hc0 hc1 ho2 wo.heap.size HIN.out hfar hk20 hbs3 ?_
                intro A2 c2 w4 o4 g4 p4
                have f0 := far_cell g4 hz3 HNV.out y0
                have f1 := far_cell g4 hz3 HNV.out y1
                have f2 := far_cell g4 hq3 HNQ.out y2
                have f4 := far_cell g4 hq3 HNQ.out y4
                have ff := far_frozen g4 hq3 HNQ.out yf
                have hmd := Mid.grown ((Mid.on (HMA.out.drew) b3).on ((Below.refl _ _).alloc (Nat.le_refl _) (.cells #[.slice A1 (rl vs k) c1x, .int .i64 (ct vs k)] 62))) g4 HGW.out
                have u0 : (w4.setCell ⟨q, 1, none⟩ (.slice A2 (k + 1) c2)).cell? ⟨q, 0, none⟩ = some (.int .i64 m) := by simp [go_sem, f4]
                have u1 : (w4.setCell ⟨q, 1, none⟩ (.slice A2 (k + 1) c2)).cell? ⟨q, 1, none⟩ = some (.slice A2 (k + 1) c2) := by simp [go_sem, f2]
                have u2 : (w4.setCell ⟨q, 1, none⟩ (.slice A2 (k + 1) c2)).frozen? ⟨q, 1, none⟩ = false := by simp [go_sem, ff]
                have U0 := Lib.hid u0; have U1 := Lib.hid u1; have U2 := Lib.hid u2
                clear u0 u1 u2
                have HO4 := Lib.hid o4
                have HMD := Lib.hid hmd
                clear hov ho1 hc0 hc1 ho2 hbs3 hfar hz3 hq3 y0 y1 y2 y4 yf o4 g4 p4 hmd
                refine hK.out _ _ ?_ (fun hHeld => ?_)
                · (try dsimp only); go_keep
                clear hK K
                refine wpAnyH_take (i := 11) (v := ?_) rfl (by kernel_rfl) (by kernel_rfl) (by kernel_rfl) (fun _ _ _ h => h) (Or.inl ⟨by rfl, ?_⟩) (by assumption) ?_
                rotate_left
                · intro wq hSw; (try dsimp only at hSw); go_simp; (try with_reducible rfl)
                simp only [Act.put]
                refine wpAnyH_ready (rs := [12]) (by kernel_rfl) (by simp) ?_
                refine AllReadyH.cons rfl (fun K hK => ?_) ?_
                · skip
                  go_simp
                  refine hK.out _ _ ?_ (fun hHeld => ?_)
                  · (try dsimp only); go_keep
                  clear hK K
                  refine wpAnyH_done (by kernel_rfl) ?_ _
                  go_simp
                  go_wp2_with fail
                  go_roundw
                  case rel => exact ⟨k + 1, A2, c2, _, _, by omega, by go_num, (HO4.out.setOther hqW _).congr (fun j _ => upd_same (rk vs) k j) (fun j _ => upd_same (ct vs) k j), U0.out, U1.out, U2.out, HMD.out.trans (Mid.setCell (p := ⟨q, 1, none⟩) _ ⟨Nat.le_refl q, Nat.lt_succ_self q⟩ _)⟩
                  case measure => simp [intOf]; omega
                exact AllReadyH.nil
              exact AllReadyH.nil
            exact AllReadyH.nil
          exact AllReadyH.nil
        exact AllReadyH.nil
      refine AllReadyH.cons rfl (fun K hK => ?_) ?_
      · skip
        go_simp
        refine hK.out _ _ ?_ (fun hHeld => ?_)
        · (try dsimp only); go_keep
        clear hK K
        refine wpAnyH_ready (rs := [1, 5]) (by kernel_rfl) (by simp) ?_
        refine AllReadyH.cons rfl (fun K hK => ?_) ?_
        · skip
          go_simp
          refine hK.out _ _ ?_ (fun hHeld => ?_)
          · (try dsimp only); go_keep
          clear hK K
          refine wpAnyH_ready (rs := [5]) (by kernel_rfl) (by simp) ?_
          refine AllReadyH.cons rfl (fun K hK => ?_) ?_
          · skip
            refine step_apnew V.drew rfl (.tmp 18) (.tmp 20) rfl rfl B (rl vs k) d (rk vs k) rfl q4d hlb2 ?_
            intro A1 c1x w3 o3 b3
            have b3x : Below V.heap.size V w3 := (Below.drew (Below.refl _ _)).trans b3
            have e0 := (b3x.cell (p := ⟨wo.heap.size, 0, none⟩) sV).trans v0
            have e1 := (b3x.cell (p := ⟨wo.heap.size, 1, none⟩) sV).trans v1
            have e2 := (b3x.cell (p := ⟨q, 1, none⟩) sqV).trans x1
            have ef := (b3x.frozen (p := ⟨q, 1, none⟩) sqV).trans xf
            have e4 := (b3x.cell (p := ⟨q, 0, none⟩) sqV).trans x0
            have s3 := b3x.size
            have hw3 : q < w3.heap.size := by omega
            have hw4 : ¬ q = w3.heap.size := by omega
            have hv3 : wo.heap.size < w3.heap.size := by omega
            clear b3x
            refine hK.out _ _ ?_ (fun hHeld => ?_)
            · (try dsimp only); go_keep
            clear hK K
            refine wpAnyH_take (i := 8) (v := ?_) rfl (by kernel_rfl) (by kernel_rfl) (by kernel_rfl) (fun _ _ _ h => h) (Or.inl ⟨by rfl, ?_⟩) (by assumption) ?_
            rotate_left
            · intro wq hSw; (try dsimp only at hSw); go_simp; (try with_reducible rfl)
            simp only [Act.put]
            refine wpAnyH_ready (rs := [9]) (by kernel_rfl) (by simp) ?_
            refine AllReadyH.cons rfl (fun K hK => ?_) ?_
            · skip
              go_simp
              refine hK.out _ _ ?_ (fun hHeld => ?_)
              · (try dsimp only); go_keep
              clear hK K
              refine wpAnyH_ready (rs := [10]) (by kernel_rfl) (by simp) ?_
              refine AllReadyH.cons rfl (fun K hK => ?_) ?_
              · skip
                have hov := (HOD.out.on b3).alloc (.cells #[.slice A1 (rl vs k) c1x, .int .i64 (ct vs k)] 62)
                have ho1 := own_alloc (own_mono o3 hWV) (.cells #[.slice A1 (rl vs k) c1x, .int .i64 (ct vs k)] 62)
                have hc0 : (w3.alloc (.cells #[.slice A1 (rl vs k) c1x, .int .i64 (ct vs k)] 62)).cell? ⟨w3.heap.size, 0, none⟩ = some (.slice A1 (rk vs k).length c1x) := by rw [HLEN.out]; simp
                have hc1 : (w3.alloc (.cells #[.slice A1 (rl vs k) c1x, .int .i64 (ct vs k)] 62)).cell? ⟨w3.heap.size, 1, none⟩ = some (.int .i64 (ct vs k)) := by simp
                have ho2 : Own (w3.alloc (.cells #[.slice A1 (rl vs k) c1x, .int .i64 (ct vs k)] 62)) W.heap.size A1 (rk vs k).length c1x (rk vs k) := by rw [HLEN.out]; exact ho1
                have hbs3 : W.heap.size ≤ (w3.alloc (.cells #[.slice A1 (rl vs k) c1x, .int .i64 (ct vs k)] 62)).heap.size := by simp; omega
                have hfar : ∀ a, A1 = some a → wo.heap.size ≤ a.block := fun a ha => Nat.le_trans (Nat.le_of_lt sV) (own_ge o3 a ha).1
                have hz3 : wo.heap.size < (w3.alloc (.cells #[.slice A1 (rl vs k) c1x, .int .i64 (ct vs k)] 62)).heap.size := by simp; omega
                have hq3 : q < (w3.alloc (.cells #[.slice A1 (rl vs k) c1x, .int .i64 (ct vs k)] 62)).heap.size := by simp; omega
                have y0 := (World.cell?_alloc_past (w := w3) (.cells #[.slice A1 (rl vs k) c1x, .int .i64 (ct vs k)] 62) wo.heap.size 0 hv3).trans e0
                have y1 := (World.cell?_alloc_past (w := w3) (.cells #[.slice A1 (rl vs k) c1x, .int .i64 (ct vs k)] 62) wo.heap.size 1 hv3).trans e1
                have y2 := (World.cell?_alloc_past (w := w3) (.cells #[.slice A1 (rl vs k) c1x, .int .i64 (ct vs k)] 62) q 1 hw3).trans e2
                have y4 := (World.cell?_alloc_past (w := w3) (.cells #[.slice A1 (rl vs k) c1x, .int .i64 (ct vs k)] 62) q 0 hw3).trans e4
                have yf := (World.frozen?_alloc_past (w := w3) (.cells #[.slice A1 (rl vs k) c1x, .int .i64 (ct vs k)] 62) q 1 hw3).trans ef
                refine step_apV (w3.alloc (.cells #[.slice A1 (rl vs k) c1x, .int .i64 (ct vs k)] 62)) rfl (.tmp 17) (.tmp 25) rfl W.heap.size A' k c' G C (rk vs) (ct vs) rfl hov A1 c1x (rk vs k) (ct vs k) w3.heap.size 1 rfl hc0 hc1 ho2 wo.heap.size HIN.out hfar hk20 hbs3 ?_
                intro A2 c2 w4 o4 g4 p4
                have f0 := far_cell g4 hz3 HNV.out y0
                have f1 := far_cell g4 hz3 HNV.out y1
                have f2 := far_cell g4 hq3 HNQ.out y2
                have f4 := far_cell g4 hq3 HNQ.out y4
                have ff := far_frozen g4 hq3 HNQ.out yf
                have hmd := Mid.grown ((Mid.on (HMA.out.drew) b3).on ((Below.refl _ _).alloc (Nat.le_refl _) (.cells #[.slice A1 (rl vs k) c1x, .int .i64 (ct vs k)] 62))) g4 HGW.out
                have u0 : (w4.setCell ⟨q, 1, none⟩ (.slice A2 (k + 1) c2)).cell? ⟨q, 0, none⟩ = some (.int .i64 m) := by simp [go_sem, f4]
                have u1 : (w4.setCell ⟨q, 1, none⟩ (.slice A2 (k + 1) c2)).cell? ⟨q, 1, none⟩ = some (.slice A2 (k + 1) c2) := by simp [go_sem, f2]
                have u2 : (w4.setCell ⟨q, 1, none⟩ (.slice A2 (k + 1) c2)).frozen? ⟨q, 1, none⟩ = false := by simp [go_sem, ff]
                have U0 := Lib.hid u0; have U1 := Lib.hid u1; have U2 := Lib.hid u2
                clear u0 u1 u2
                have HO4 := Lib.hid o4
                have HMD := Lib.hid hmd
                clear hov ho1 hc0 hc1 ho2 hbs3 hfar hz3 hq3 y0 y1 y2 y4 yf o4 g4 p4 hmd
                refine hK.out _ _ ?_ (fun hHeld => ?_)
                · (try dsimp only); go_keep
                clear hK K
                refine wpAnyH_take (i := 11) (v := ?_) rfl (by kernel_rfl) (by kernel_rfl) (by kernel_rfl) (fun _ _ _ h => h) (Or.inl ⟨by rfl, ?_⟩) (by assumption) ?_
                rotate_left
                · intro wq hSw; (try dsimp only at hSw); go_simp; (try with_reducible rfl)
                simp only [Act.put]
                refine wpAnyH_ready (rs := [12]) (by kernel_rfl) (by simp) ?_
                refine AllReadyH.cons rfl (fun K hK => ?_) ?_
                · skip
                  go_simp
                  refine hK.out _ _ ?_ (fun hHeld => ?_)
                  · (try dsimp only); go_keep
                  clear hK K
                  refine wpAnyH_done (by kernel_rfl) ?_ _
                  go_simp
                  go_wp2_with fail
                  go_roundw
                  case rel => exact ⟨k + 1, A2, c2, _, _, by omega, by go_num, (HO4.out.setOther hqW _).congr (fun j _ => upd_same (rk vs) k j) (fun j _ => upd_same (ct vs) k j), U0.out, U1.out, U2.out, HMD.out.trans (Mid.setCell (p := ⟨q, 1, none⟩) _ ⟨Nat.le_refl q, Nat.lt_succ_self q⟩ _)⟩
                  case measure => simp [intOf]; omega
                exact AllReadyH.nil
              exact AllReadyH.nil
            exact AllReadyH.nil
          exact AllReadyH.nil
        refine AllReadyH.cons rfl (fun K hK => ?_) ?_
        · skip
          refine step_apnew V.drew rfl (.tmp 18) (.tmp 20) rfl rfl B (rl vs k) d (rk vs k) rfl q4d hlb2 ?_
          intro A1 c1x w3 o3 b3
          have b3x : Below V.heap.size V w3 := (Below.drew (Below.refl _ _)).trans b3
          have e0 := (b3x.cell (p := ⟨wo.heap.size, 0, none⟩) sV).trans v0
          have e1 := (b3x.cell (p := ⟨wo.heap.size, 1, none⟩) sV).trans v1
          have e2 := (b3x.cell (p := ⟨q, 1, none⟩) sqV).trans x1
          have ef := (b3x.frozen (p := ⟨q, 1, none⟩) sqV).trans xf
          have e4 := (b3x.cell (p := ⟨q, 0, none⟩) sqV).trans x0
          have s3 := b3x.size
          have hw3 : q < w3.heap.size := by omega
          have hw4 : ¬ q = w3.heap.size := by omega
          have hv3 : wo.heap.size < w3.heap.size := by omega
          clear b3x
          refine hK.out _ _ ?_ (fun hHeld => ?_)
          · (try dsimp only); go_keep
          clear hK K
          refine wpAnyH_take (i := 8) (v := ?_) rfl (by kernel_rfl) (by kernel_rfl) (by kernel_rfl) (fun _ _ _ h => h) (Or.inl ⟨by rfl, ?_⟩) (by assumption) ?_
          rotate_left
          · intro wq hSw; (try dsimp only at hSw); go_simp; (try with_reducible rfl)
          simp only [Act.put]
          refine wpAnyH_ready (rs := [1, 9]) (by kernel_rfl) (by simp) ?_
          refine AllReadyH.cons rfl (fun K hK => ?_) ?_
          · skip
            go_simp
            refine hK.out _ _ ?_ (fun hHeld => ?_)
            · (try dsimp only); go_keep
            clear hK K
            refine wpAnyH_ready (rs := [9]) (by kernel_rfl) (by simp) ?_
            refine AllReadyH.cons rfl (fun K hK => ?_) ?_
            · skip
              go_simp
              refine hK.out _ _ ?_ (fun hHeld => ?_)
              · (try dsimp only); go_keep
              clear hK K
              refine wpAnyH_ready (rs := [10]) (by kernel_rfl) (by simp) ?_
              refine AllReadyH.cons rfl (fun K hK => ?_) ?_
              · skip
                have hov := (HOD.out.on b3).alloc (.cells #[.slice A1 (rl vs k) c1x, .int .i64 (ct vs k)] 62)
                have ho1 := own_alloc (own_mono o3 hWV) (.cells #[.slice A1 (rl vs k) c1x, .int .i64 (ct vs k)] 62)
                have hc0 : (w3.alloc (.cells #[.slice A1 (rl vs k) c1x, .int .i64 (ct vs k)] 62)).cell? ⟨w3.heap.size, 0, none⟩ = some (.slice A1 (rk vs k).length c1x) := by rw [HLEN.out]; simp
                have hc1 : (w3.alloc (.cells #[.slice A1 (rl vs k) c1x, .int .i64 (ct vs k)] 62)).cell? ⟨w3.heap.size, 1, none⟩ = some (.int .i64 (ct vs k)) := by simp
                have ho2 : Own (w3.alloc (.cells #[.slice A1 (rl vs k) c1x, .int .i64 (ct vs k)] 62)) W.heap.size A1 (rk vs k).length c1x (rk vs k) := by rw [HLEN.out]; exact ho1
                have hbs3 : W.heap.size ≤ (w3.alloc (.cells #[.slice A1 (rl vs k) c1x, .int .i64 (ct vs k)] 62)).heap.size := by simp; omega
                have hfar : ∀ a, A1 = some a → wo.heap.size ≤ a.block := fun a ha => Nat.le_trans (Nat.le_of_lt sV) (own_ge o3 a ha).1
                have hz3 : wo.heap.size < (w3.alloc (.cells #[.slice A1 (rl vs k) c1x, .int .i64 (ct vs k)] 62)).heap.size := by simp; omega
                have hq3 : q < (w3.alloc (.cells #[.slice A1 (rl vs k) c1x, .int .i64 (ct vs k)] 62)).heap.size := by simp; omega
                have y0 := (World.cell?_alloc_past (w := w3) (.cells #[.slice A1 (rl vs k) c1x, .int .i64 (ct vs k)] 62) wo.heap.size 0 hv3).trans e0
                have y1 := (World.cell?_alloc_past (w := w3) (.cells #[.slice A1 (rl vs k) c1x, .int .i64 (ct vs k)] 62) wo.heap.size 1 hv3).trans e1
                have y2 := (World.cell?_alloc_past (w := w3) (.cells #[.slice A1 (rl vs k) c1x, .int .i64 (ct vs k)] 62) q 1 hw3).trans e2
                have y4 := (World.cell?_alloc_past (w := w3) (.cells #[.slice A1 (rl vs k) c1x, .int .i64 (ct vs k)] 62) q 0 hw3).trans e4
                have yf := (World.frozen?_alloc_past (w := w3) (.cells #[.slice A1 (rl vs k) c1x, .int .i64 (ct vs k)] 62) q 1 hw3).trans ef
                refine step_apV (w3.alloc (.cells #[.slice A1 (rl vs k) c1x, .int .i64 (ct vs k)] 62)) rfl (.tmp 17) (.tmp 25) rfl W.heap.size A' k c' G C (rk vs) (ct vs) rfl hov A1 c1x (rk vs k) (ct vs k) w3.heap.size 1 rfl hc0 hc1 ho2 wo.heap.size HIN.out hfar hk20 hbs3 ?_
                intro A2 c2 w4 o4 g4 p4
                have f0 := far_cell g4 hz3 HNV.out y0
                have f1 := far_cell g4 hz3 HNV.out y1
                have f2 := far_cell g4 hq3 HNQ.out y2
                have f4 := far_cell g4 hq3 HNQ.out y4
                have ff := far_frozen g4 hq3 HNQ.out yf
                have hmd := Mid.grown ((Mid.on (HMA.out.drew) b3).on ((Below.refl _ _).alloc (Nat.le_refl _) (.cells #[.slice A1 (rl vs k) c1x, .int .i64 (ct vs k)] 62))) g4 HGW.out
                have u0 : (w4.setCell ⟨q, 1, none⟩ (.slice A2 (k + 1) c2)).cell? ⟨q, 0, none⟩ = some (.int .i64 m) := by simp [go_sem, f4]
                have u1 : (w4.setCell ⟨q, 1, none⟩ (.slice A2 (k + 1) c2)).cell? ⟨q, 1, none⟩ = some (.slice A2 (k + 1) c2) := by simp [go_sem, f2]
                have u2 : (w4.setCell ⟨q, 1, none⟩ (.slice A2 (k + 1) c2)).frozen? ⟨q, 1, none⟩ = false := by simp [go_sem, ff]
                have U0 := Lib.hid u0; have U1 := Lib.hid u1; have U2 := Lib.hid u2
                clear u0 u1 u2
                have HO4 := Lib.hid o4
                have HMD := Lib.hid hmd
                clear hov ho1 hc0 hc1 ho2 hbs3 hfar hz3 hq3 y0 y1 y2 y4 yf o4 g4 p4 hmd
                refine hK.out _ _ ?_ (fun hHeld => ?_)
                · (try dsimp only); go_keep
                clear hK K
                refine wpAnyH_take (i := 11) (v := ?_) rfl (by kernel_rfl) (by kernel_rfl) (by kernel_rfl) (fun _ _ _ h => h) (Or.inl ⟨by rfl, ?_⟩) (by assumption) ?_
                rotate_left
                · intro wq hSw; (try dsimp only at hSw); go_simp; (try with_reducible rfl)
                simp only [Act.put]
                refine wpAnyH_ready (rs := [12]) (by kernel_rfl) (by simp) ?_
                refine AllReadyH.cons rfl (fun K hK => ?_) ?_
                · skip
                  go_simp
                  refine hK.out _ _ ?_ (fun hHeld => ?_)
                  · (try dsimp only); go_keep
                  clear hK K
                  refine wpAnyH_done (by kernel_rfl) ?_ _
                  go_simp
                  go_wp2_with fail
                  go_roundw
                  case rel => exact ⟨k + 1, A2, c2, _, _, by omega, by go_num, (HO4.out.setOther hqW _).congr (fun j _ => upd_same (rk vs) k j) (fun j _ => upd_same (ct vs) k j), U0.out, U1.out, U2.out, HMD.out.trans (Mid.setCell (p := ⟨q, 1, none⟩) _ ⟨Nat.le_refl q, Nat.lt_succ_self q⟩ _)⟩
                  case measure => simp [intOf]; omega
                exact AllReadyH.nil
              exact AllReadyH.nil
            exact AllReadyH.nil
          refine AllReadyH.cons rfl (fun K hK => ?_) ?_
          · skip
            go_simp
            refine hK.out _ _ ?_ (fun hHeld => ?_)
            · (try dsimp only); go_keep
            clear hK K
            refine wpAnyH_ready (rs := [1]) (by kernel_rfl) (by simp) ?_
            refine AllReadyH.cons rfl (fun K hK => ?_) ?_
            · skip
              go_simp
              refine hK.out _ _ ?_ (fun hHeld => ?_)
              · (try dsimp only); go_keep
              clear hK K
              refine wpAnyH_ready (rs := [10]) (by kernel_rfl) (by simp) ?_
              refine AllReadyH.cons rfl (fun K hK => ?_) ?_
              · skip
                have hov := (HOD.out.on b3).alloc (.cells #[.slice A1 (rl vs k) c1x, .int .i64 (ct vs k)] 62)
                have ho1 := own_alloc (own_mono o3 hWV) (.cells #[.slice A1 (rl vs k) c1x, .int .i64 (ct vs k)] 62)
                have hc0 : (w3.alloc (.cells #[.slice A1 (rl vs k) c1x, .int .i64 (ct vs k)] 62)).cell? ⟨w3.heap.size, 0, none⟩ = some (.slice A1 (rk vs k).length c1x) := by rw [HLEN.out]; simp
                have hc1 : (w3.alloc (.cells #[.slice A1 (rl vs k) c1x, .int .i64 (ct vs k)] 62)).cell? ⟨w3.heap.size, 1, none⟩ = some (.int .i64 (ct vs k)) := by simp
                have ho2 : Own (w3.alloc (.cells #[.slice A1 (rl vs k) c1x, .int .i64 (ct vs k)] 62)) W.heap.size A1 (rk vs k).length c1x (rk vs k) := by rw [HLEN.out]; exact ho1
                have hbs3 : W.heap.size ≤ (w3.alloc (.cells #[.slice A1 (rl vs k) c1x, .int .i64 (ct vs k)] 62)).heap.size := by simp; omega
                have hfar : ∀ a, A1 = some a → wo.heap.size ≤ a.block := fun a ha => Nat.le_trans (Nat.le_of_lt sV) (own_ge o3 a ha).1
                have hz3 : wo.heap.size < (w3.alloc (.cells #[.slice A1 (rl vs k) c1x, .int .i64 (ct vs k)] 62)).heap.size := by simp; omega
                have hq3 : q < (w3.alloc (.cells #[.slice A1 (rl vs k) c1x, .int .i64 (ct vs k)] 62)).heap.size := by simp; omega
                have y0 := (World.cell?_alloc_past (w := w3) (.cells #[.slice A1 (rl vs k) c1x, .int .i64 (ct vs k)] 62) wo.heap.size 0 hv3).trans e0
                have y1 := (World.cell?_alloc_past (w := w3) (.cells #[.slice A1 (rl vs k) c1x, .int .i64 (ct vs k)] 62) wo.heap.size 1 hv3).trans e1
                have y2 := (World.cell?_alloc_past (w := w3) (.cells #[.slice A1 (rl vs k) c1x, .int .i64 (ct vs k)] 62) q 1 hw3).trans e2
                have y4 := (World.cell?_alloc_past (w := w3) (.cells #[.slice A1 (rl vs k) c1x, .int .i64 (ct vs k)] 62) q 0 hw3).trans e4
                have yf := (World.frozen?_alloc_past (w := w3) (.cells #[.slice A1 (rl vs k) c1x, .int .i64 (ct vs k)] 62) q 1 hw3).trans ef
                refine step_apV (w3.alloc (.cells #[.slice A1 (rl vs k) c1x, .int .i64 (ct vs k)] 62)) rfl (.tmp 17) (.tmp 25) rfl W.heap.size A' k c' G C (rk vs) (ct vs) rfl hov A1 c1x (rk vs k) (ct vs k) w3.heap.size 1 rfl hc0 hc1 ho2 wo.heap.size HIN.out hfar hk20 hbs3 ?_
                intro A2 c2 w4 o4 g4 p4
                have f0 := far_cell g4 hz3 HNV.out y0
                have f1 := far_cell g4 hz3 HNV.out y1
                have f2 := far_cell g4 hq3 HNQ.out y2
                have f4 := far_cell g4 hq3 HNQ.out y4
                have ff := far_frozen g4 hq3 HNQ.out yf
                have hmd := Mid.grown ((Mid.on (HMA.out.drew) b3).on ((Below.refl _ _).alloc (Nat.le_refl _) (.cells #[.slice A1 (rl vs k) c1x, .int .i64 (ct vs k)] 62))) g4 HGW.out
                have u0 : (w4.setCell ⟨q, 1, none⟩ (.slice A2 (k + 1) c2)).cell? ⟨q, 0, none⟩ = some (.int .i64 m) := by simp [go_sem, f4]
                have u1 : (w4.setCell ⟨q, 1, none⟩ (.slice A2 (k + 1) c2)).cell? ⟨q, 1, none⟩ = some (.slice A2 (k + 1) c2) := by simp [go_sem, f2]
                have u2 : (w4.setCell ⟨q, 1, none⟩ (.slice A2 (k + 1) c2)).frozen? ⟨q, 1, none⟩ = false := by simp [go_sem, ff]
                have U0 := Lib.hid u0; have U1 := Lib.hid u1; have U2 := Lib.hid u2
                clear u0 u1 u2
                have HO4 := Lib.hid o4
                have HMD := Lib.hid hmd
                clear hov ho1 hc0 hc1 ho2 hbs3 hfar hz3 hq3 y0 y1 y2 y4 yf o4 g4 p4 hmd
                refine hK.out _ _ ?_ (fun hHeld => ?_)
                · (try dsimp only); go_keep
                clear hK K
                refine wpAnyH_take (i := 11) (v := ?_) rfl (by kernel_rfl) (by kernel_rfl) (by kernel_rfl) (fun _ _ _ h => h) (Or.inl ⟨by rfl, ?_⟩) (by assumption) ?_
                rotate_left
                · intro wq hSw; (try dsimp only at hSw); go_simp; (try with_reducible rfl)
                simp only [Act.put]
                refine wpAnyH_ready (rs := [12]) (by kernel_rfl) (by simp) ?_
                refine AllReadyH.cons rfl (fun K hK => ?_) ?_
                · skip
                  go_simp
                  refine hK.out _ _ ?_ (fun hHeld => ?_)
                  · (try dsimp only); go_keep
                  clear hK K
                  refine wpAnyH_done (by kernel_rfl) ?_ _
                  go_simp
                  go_wp2_with fail
                  go_roundw
                  case rel => exact ⟨k + 1, A2, c2, _, _, by omega, by go_num, (HO4.out.setOther hqW _).congr (fun j _ => upd_same (rk vs) k j) (fun j _ => upd_same (ct vs) k j), U0.out, U1.out, U2.out, HMD.out.trans (Mid.setCell (p := ⟨q, 1, none⟩) _ ⟨Nat.le_refl q, Nat.lt_succ_self q⟩ _)⟩
                  case measure => simp [intOf]; omega
                exact AllReadyH.nil
              exact AllReadyH.nil
            exact AllReadyH.nil
          exact AllReadyH.nil
        exact AllReadyH.nil
      exact AllReadyH.nil
    · obtain rfl : k = n := by omega
      have z0 := (hmid.cell (p := ⟨w.heap.size + 1, 0, none⟩) (by show w.heap.size + 1 < W.heap.size; omega) (.inl hqr)).trans r0
      have z1 := (hmid.cell (p := ⟨w.heap.size + 1, 1, none⟩) (by show w.heap.size + 1 < W.heap.size; omega) (.inl hqr)).trans r1
      have zf0 := (hmid.frozen (p := ⟨w.heap.size + 1, 0, none⟩) (by show w.heap.size + 1 < W.heap.size; omega) (.inl hqr)).trans rf0
      have zf1 := (hmid.frozen (p := ⟨w.heap.size + 1, 1, none⟩) (by show w.heap.size + 1 < W.heap.size; omega) (.inl hqr)).trans rf1
      have HOV := Lib.hid (hOV.mono (base' := q) (by omega)); clear hOV hmid
      go_wp2_with fail
      refine bodyPost_ret (v := .agg #[.int .i64 m, .slice A' k c']) (by simp [results, Try.results77, go_sem, z0, z1]) rfl ⟨A', c', rfl, ⟨G, C, ?_⟩, ?_⟩
      · exact ((HOV.out.setOther hqr _).setOther hqr _).mono hqw
      · exact (bo.setCell (Nat.le_succ _) _).setCell (Nat.le_succ _) _

set_option maxHeartbeats 8000000 in
theorem implClone (m : Int) (A : Option Addr) (n c : Nat) (vs : List (List Int × Int)) (w : World) (h : Votes w A n vs) (hn : (n : Int) ≤ 1048576) (hm : ∀ j, j < n → (rl vs j : Int) ≤ 1048576) :
    Calls Try.prog 78 #[.agg #[.int .i64 m, .slice A n c]] w fun e w' => ∃ A' c' G C, e = .returned (.agg #[.int .i64 m, .slice A' n c']) ∧ OwnV w' w.heap.size A' n c' G C (rk vs) (ct vs) ∧ Below w.heap.size w w' := by
  have HM := Lib.hid hm; clear hm
  have bW : Below w.heap.size w (((w.alloc (.cells #[.int .i64 m, .slice A n c] 40)).alloc (.cells #[.int .i64 0, .slice none 0 0] 40)).alloc (.cells #[.int .i64 m, .slice none 0 0] 40)) := (((Below.refl _ _).alloc (Nat.le_refl _) _).alloc (by simp) _).alloc (by simp; omega) _
  have q0 : (((w.alloc (.cells #[.int .i64 m, .slice A n c] 40)).alloc (.cells #[.int .i64 0, .slice none 0 0] 40)).alloc (.cells #[.int .i64 m, .slice none 0 0] 40)).cell? ⟨w.heap.size + 1 + 1, 0, none⟩ = some (.int .i64 m) := by simp [go_sem]
  have q1 : (((w.alloc (.cells #[.int .i64 m, .slice A n c] 40)).alloc (.cells #[.int .i64 0, .slice none 0 0] 40)).alloc (.cells #[.int .i64 m, .slice none 0 0] 40)).cell? ⟨w.heap.size + 1 + 1, 1, none⟩ = some (.slice none 0 0) := by simp [go_sem]
  have qf1 : (((w.alloc (.cells #[.int .i64 m, .slice A n c] 40)).alloc (.cells #[.int .i64 0, .slice none 0 0] 40)).alloc (.cells #[.int .i64 m, .slice none 0 0] 40)).frozen? ⟨w.heap.size + 1 + 1, 1, none⟩ = false := by simp [go_sem]
  have sW : (((w.alloc (.cells #[.int .i64 m, .slice A n c] 40)).alloc (.cells #[.int .i64 0, .slice none 0 0] 40)).alloc (.cells #[.int .i64 m, .slice none 0 0] 40)).heap.size = w.heap.size + 1 + 1 + 1 := by simp
  have k1 : (((w.alloc (.cells #[.int .i64 m, .slice A n c] 40)).alloc (.cells #[.int .i64 0, .slice none 0 0] 40)).alloc (.cells #[.int .i64 m, .slice none 0 0] 40)).cell? ⟨w.heap.size, 1, none⟩ = some (.slice A n c) := by simp [go_sem]
  have r0 : (((w.alloc (.cells #[.int .i64 m, .slice A n c] 40)).alloc (.cells #[.int .i64 0, .slice none 0 0] 40)).alloc (.cells #[.int .i64 m, .slice none 0 0] 40)).cell? ⟨w.heap.size + 1, 0, none⟩ = some (.int .i64 0) := by simp [go_sem]
  have r1 : (((w.alloc (.cells #[.int .i64 m, .slice A n c] 40)).alloc (.cells #[.int .i64 0, .slice none 0 0] 40)).alloc (.cells #[.int .i64 m, .slice none 0 0] 40)).cell? ⟨w.heap.size + 1, 1, none⟩ = some (.slice none 0 0) := by simp [go_sem]
  have rf0 : (((w.alloc (.cells #[.int .i64 m, .slice A n c] 40)).alloc (.cells #[.int .i64 0, .slice none 0 0] 40)).alloc (.cells #[.int .i64 m, .slice none 0 0] 40)).frozen? ⟨w.heap.size + 1, 0, none⟩ = false := by simp [go_sem]
  have rf1 : (((w.alloc (.cells #[.int .i64 m, .slice A n c] 40)).alloc (.cells #[.int .i64 0, .slice none 0 0] 40)).alloc (.cells #[.int .i64 m, .slice none 0 0] 40)).frozen? ⟨w.heap.size + 1, 1, none⟩ = false := by simp [go_sem]
  go_enter Try.func78, Try.ntmps78
  go_wp2_with fail
  obtain ⟨q, hqq⟩ : ∃ q, q = w.heap.size + 1 + 1 := ⟨_, rfl⟩
  rw [← hqq] at q0 q1 qf1 sW
  simp only [← hqq]
  generalize ((w.alloc (.cells #[.int .i64 m, .slice A n c] 40)).alloc (.cells #[.int .i64 0, .slice none 0 0] 40)).alloc (.cells #[.int .i64 m, .slice none 0 0] 40) = W at *
  have hqw : w.heap.size ≤ q := by omega
  have hqr : w.heap.size + 1 < q := by omega
  have hqW : q < W.heap.size := by omega
  clear hqq sW
  go_loopw [12] (fun u wr => ∃ (k : Nat) (A' : Option Addr) (c' : Nat) (G : Nat → Option Addr) (C : Nat → Nat), (k : Int) ≤ n ∧ u = .int .i64 k ∧ OwnV wr W.heap.size A' k c' G C (rk vs) (ct vs) ∧ wr.cell? ⟨q, 0, none⟩ = some (.int .i64 m) ∧ wr.cell? ⟨q, 1, none⟩ = some (.slice A' k c') ∧ wr.frozen? ⟨q, 1, none⟩ = false ∧ Mid q (q + 1) W wr) (fun u _ => n - (intOf u).toNat)
  case atStart => exact ⟨0, none, 0, fun _ => none, fun _ => 0, by omega, rfl, OwnV.nil_ _ _ _ _ _ _, q0, q1, qf1, Mid.refl _ _ _⟩
  case round =>
    obtain ⟨k, A', c', G, C, hk, rfl, hOV, p0, p1, pf1, hmid⟩ := hrel
    obtain ⟨wo, rfl⟩ : ∃ wo : World, wo = wr := ⟨_, rfl⟩
    have hms := hmid.size
    have bo : Below w.heap.size w wo := Below.mid bW hmid hqw (by omega)
    by_cases hlt : (k : Int) < n
    · obtain ⟨b, ob, rfl, hbs, ⟨B, d, q1k, q2k, q3k, q4k, q5k⟩⟩ := (h.on bo).at_ (k := k) (by omega)
      have hlb := HM.out k (by omega)
      have bA : Below wo.heap.size wo (wo.alloc (.cells #[.slice B (rl vs k) d, .int .i64 (ct vs k)] 62)) := (Below.refl _ _).alloc (Nat.le_refl _) _
      have v0 : (wo.alloc (.cells #[.slice B (rl vs k) d, .int .i64 (ct vs k)] 62)).cell? ⟨wo.heap.size, 0, none⟩ = some (.slice B (rl vs k) d) := by simp
      have v1 : (wo.alloc (.cells #[.slice B (rl vs k) d, .int .i64 (ct vs k)] 62)).cell? ⟨wo.heap.size, 1, none⟩ = some (.int .i64 (ct vs k)) := by simp
      have sV : wo.heap.size < (wo.alloc (.cells #[.slice B (rl vs k) d, .int .i64 (ct vs k)] 62)).heap.size := by simp
      have sq : q < wo.heap.size := by omega
      have q4d := (q4k.on bA).drew
      have hOd := (hOV.on bA).on (Below.drew (Below.refl _ _))
      have x0 := (bA.cell (p := ⟨q, 0, none⟩) sq).trans p0
      have x1 := (bA.cell (p := ⟨q, 1, none⟩) sq).trans p1
      have xf := (bA.frozen (p := ⟨q, 1, none⟩) sq).trans pf1
      have hmA := hmid.on bA
      have hin := hOV.inn
      have HIN := Lib.hid hin; clear hin
      have HOV := Lib.hid hOV; clear hOV
      have HLEN : Hid ((rk vs k).length = rl vs k) := rfl
      have bVw : Below w.heap.size w (wo.alloc (.cells #[.slice B (rl vs k) d, .int .i64 (ct vs k)] 62)) := Below.on bo bA
      clear hmid
      go_wp2_with fail
      generalize wo.alloc (.cells #[.slice B (rl vs k) d, .int .i64 (ct vs k)] 62) = V at *
      have sqV : q < V.heap.size := by omega
      have hnv1 : ¬ wo.heap.size = q := by omega
      have hnv2 : ¬ q = wo.heap.size := by omega
      have hWV : W.heap.size ≤ V.heap.size := by omega
      have HOD := Lib.hid hOd; clear hOd
      have HMA := Lib.hid hmA; clear hmA
      have hlb2 : rl vs k ≤ 1099511627776 := by omega
      have hk20 : k ≤ 1048576 := by omega
      have HNV := Lib.hid (fun (a : Addr) (ha : A' = some a) => Nat.ne_of_lt (HIN.out.1 a ha))
      have HNQ := Lib.hid (fun (a : Addr) (ha : A' = some a) => show a.block ≠ q by have := (HOV.out.ge a ha).1; omega)
      have HGW := Lib.hid (fun (r : Nat) (hr : A'.map (·.block) = some r) => show W.heap.size ≤ r by
        obtain ⟨a, ha, hb⟩ := map_block hr.symm
        have := (HOV.out.ge a ha).1
        omega)
      refine wp_region_held_drew (S := (fun w' => w'.cell? ⟨wo.heap.size, 0, none⟩ = some (.slice B (rl vs k) d) ∧ w'.cell? ⟨wo.heap.size, 1, none⟩ = some (.int .i64 (ct vs k)))) (by kernel_rfl) ?_ (fun hHeld => ?_)
      · (try dsimp only); go_keep
      refine wpAnyH_take (i := 0) (v := ?_) rfl (by kernel_rfl) (by kernel_rfl) (by kernel_rfl) (fun _ _ _ h => h) (Or.inl ⟨by rfl, ?_⟩) (by assumption) ?_
      rotate_left
      · intro wq hSw; (try dsimp only at hSw); go_simp; (try with_reducible rfl)
      simp only [Act.put]
      refine wpAnyH_take (i := 2) (v := ?_) rfl (by kernel_rfl) (by kernel_rfl) (by kernel_rfl) (fun _ _ _ h => h) (Or.inl ⟨by rfl, ?_⟩) (by assumption) ?_
      rotate_left
      · intro wq hSw; (try dsimp only at hSw); go_simp; (try with_reducible rfl)
      simp only [Act.put]
      refine wpAnyH_take (i := 3) (v := ?_) rfl (by kernel_rfl) (by kernel_rfl) (by kernel_rfl) (fun _ _ _ h => h) (Or.inl ⟨by rfl, ?_⟩) (by assumption) ?_
      rotate_left
      · intro wq hSw; (try dsimp only at hSw); go_simp; (try with_reducible rfl)
      simp only [Act.put]
      refine wpAnyH_take (i := 5) (v := ?_) rfl (by kernel_rfl) (by kernel_rfl) (by kernel_rfl) (fun _ _ _ h => h) (Or.inl ⟨by rfl, ?_⟩) (by assumption) ?_
      rotate_left
      · intro wq hSw; (try dsimp only at hSw); go_simp; (try with_reducible rfl)
      simp only [Act.put]
      refine wpAnyH_take (i := 6) (v := ?_) rfl (by kernel_rfl) (by kernel_rfl) (by kernel_rfl) (fun _ _ _ h => h) (Or.inl ⟨by rfl, ?_⟩) (by assumption) ?_
      rotate_left
      · intro wq hSw; (try dsimp only at hSw); go_simp; (try with_reducible rfl)
      simp only [Act.put]
      refine wpAnyH_ready (rs := [1, 4]) (by kernel_rfl) (by simp) ?_
      refine AllReadyH.cons rfl (fun K hK => ?_) ?_
      · skip
        go_simp
        refine hK.out _ _ ?_ (fun hHeld => ?_)
        · (try dsimp only); go_keep
        clear hK K
        refine wpAnyH_ready (rs := [4]) (by kernel_rfl) (by simp) ?_
        refine AllReadyH.cons rfl (fun K hK => ?_) ?_
        · skip
          go_simp
          go_at_call 79
          refine (libClone B (rl vs k) d (rk vs k) V.drew q4d hlb).mono ?_
          rintro e w3 ⟨A1, c1x, rfl, o3, b3⟩
          have b3x : Below V.heap.size V w3 := (Below.drew (Below.refl _ _)).trans b3
          have e0 := (b3x.cell (p := ⟨wo.heap.size, 0, none⟩) sV).trans v0
          have e1 := (b3x.cell (p := ⟨wo.heap.size, 1, none⟩) sV).trans v1
          have e2 := (b3x.cell (p := ⟨q, 1, none⟩) sqV).trans x1
          have ef := (b3x.frozen (p := ⟨q, 1, none⟩) sqV).trans xf
          have e4 := (b3x.cell (p := ⟨q, 0, none⟩) sqV).trans x0
          have s3 := b3x.size
          have hw3 : q < w3.heap.size := by omega
          have hw4 : ¬ q = w3.heap.size := by omega
          have hv3 : wo.heap.size < w3.heap.size := by omega
          clear b3x
          refine hK.out _ _ ?_ (fun hHeld => ?_)
          · (try dsimp only); go_keep
          clear hK K
          refine wpAnyH_take (i := 7) (v := ?_) rfl (by kernel_rfl) (by kernel_rfl) (by kernel_rfl) (fun _ _ _ h => h) (Or.inl ⟨by rfl, ?_⟩) (by assumption) ?_
          rotate_left
          · intro wq hSw; (try dsimp only at hSw); go_simp; (try with_reducible rfl)
          simp only [Act.put]
          refine wpAnyH_ready (rs := [8]) (by kernel_rfl) (by simp) ?_
          refine AllReadyH.cons rfl (fun K hK => ?_) ?_
          · skip
            go_simp
            refine hK.out _ _ ?_ (fun hHeld => ?_)
            · (try dsimp only); go_keep
            clear hK K
            refine wpAnyH_ready (rs := [9]) (by kernel_rfl) (by simp) ?_
            refine AllReadyH.cons rfl (fun K hK => ?_) ?_
            · skip
              have hov := (HOD.out.on b3).alloc (.cells #[.slice A1 (rl vs k) c1x, .int .i64 (ct vs k)] 62)
              have ho1 := own_alloc (own_mono o3 hWV) (.cells #[.slice A1 (rl vs k) c1x, .int .i64 (ct vs k)] 62)
              have hc0 : (w3.alloc (.cells #[.slice A1 (rl vs k) c1x, .int .i64 (ct vs k)] 62)).cell? ⟨w3.heap.size, 0, none⟩ = some (.slice A1 (rk vs k).length c1x) := by rw [HLEN.out]; simp
              have hc1 : (w3.alloc (.cells #[.slice A1 (rl vs k) c1x, .int .i64 (ct vs k)] 62)).cell? ⟨w3.heap.size, 1, none⟩ = some (.int .i64 (ct vs k)) := by simp
              have ho2 : Own (w3.alloc (.cells #[.slice A1 (rl vs k) c1x, .int .i64 (ct vs k)] 62)) W.heap.size A1 (rk vs k).length c1x (rk vs k) := by rw [HLEN.out]; exact ho1
              have hbs3 : W.heap.size ≤ (w3.alloc (.cells #[.slice A1 (rl vs k) c1x, .int .i64 (ct vs k)] 62)).heap.size := by simp; omega
              have hfar : ∀ a, A1 = some a → wo.heap.size ≤ a.block := fun a ha => Nat.le_trans (Nat.le_of_lt sV) (own_ge o3 a ha).1
              have hz3 : wo.heap.size < (w3.alloc (.cells #[.slice A1 (rl vs k) c1x, .int .i64 (ct vs k)] 62)).heap.size := by simp; omega
              have hq3 : q < (w3.alloc (.cells #[.slice A1 (rl vs k) c1x, .int .i64 (ct vs k)] 62)).heap.size := by simp; omega
              have y0 := (World.cell?_alloc_past (w := w3) (.cells #[.slice A1 (rl vs k) c1x, .int .i64 (ct vs k)] 62) wo.heap.size 0 hv3).trans e0
              have y1 := (World.cell?_alloc_past (w := w3) (.cells #[.slice A1 (rl vs k) c1x, .int .i64 (ct vs k)] 62) wo.heap.size 1 hv3).trans e1
              have y2 := (World.cell?_alloc_past (w := w3) (.cells #[.slice A1 (rl vs k) c1x, .int .i64 (ct vs k)] 62) q 1 hw3).trans e2
              have y4 := (World.cell?_alloc_past (w := w3) (.cells #[.slice A1 (rl vs k) c1x, .int .i64 (ct vs k)] 62) q 0 hw3).trans e4
              have yf := (World.frozen?_alloc_past (w := w3) (.cells #[.slice A1 (rl vs k) c1x, .int .i64 (ct vs k)] 62) q 1 hw3).trans ef
              refine step_apV (w3.alloc (.cells #[.slice A1 (rl vs k) c1x, .int .i64 (ct vs k)] 62)) rfl (.tmp 17) (.tmp 24) rfl W.heap.size A' k c' G C (rk vs) (ct vs) rfl hov A1 c1x (rk vs k) (ct vs k) w3.heap.size 1 rfl hc0 hc1 ho2 wo.heap.size HIN.out hfar hk20 hbs3 ?_
              intro A2 c2 w4 o4 g4 p4
              have f0 := far_cell g4 hz3 HNV.out y0
              have f1 := far_cell g4 hz3 HNV.out y1
              have f2 := far_cell g4 hq3 HNQ.out y2
              have f4 := far_cell g4 hq3 HNQ.out y4
              have ff := far_frozen g4 hq3 HNQ.out yf
              have hmd := Mid.grown ((Mid.on (HMA.out.drew) b3).on ((Below.refl _ _).alloc (Nat.le_refl _) (.cells #[.slice A1 (rl vs k) c1x, .int .i64 (ct vs k)] 62))) g4 HGW.out
              have u0 : (w4.setCell ⟨q, 1, none⟩ (.slice A2 (k + 1) c2)).cell? ⟨q, 0, none⟩ = some (.int .i64 m) := by simp [go_sem, f4]
              have u1 : (w4.setCell ⟨q, 1, none⟩ (.slice A2 (k + 1) c2)).cell? ⟨q, 1, none⟩ = some (.slice A2 (k + 1) c2) := by simp [go_sem, f2]
              have u2 : (w4.setCell ⟨q, 1, none⟩ (.slice A2 (k + 1) c2)).frozen? ⟨q, 1, none⟩ = false := by simp [go_sem, ff]
              have U0 := Lib.hid u0; have U1 := Lib.hid u1; have U2 := Lib.hid u2
              clear u0 u1 u2
              have HO4 := Lib.hid o4
              have HMD := Lib.hid hmd
              clear hov ho1 hc0 hc1 ho2 hbs3 hfar hz3 hq3 y0 y1 y2 y4 yf o4 g4 p4 hmd
              refine hK.out _ _ ?_ (fun hHeld => ?_)
              · (try dsimp only); go_keep
              clear hK K
              refine wpAnyH_take (i := 10) (v := ?_) rfl (by kernel_rfl) (by kernel_rfl) (by kernel_rfl) (fun _ _ _ h => h) (Or.inl ⟨by rfl, ?_⟩) (by assumption) ?_
              rotate_left
              · intro wq hSw; (try dsimp only at hSw); go_simp; (try with_reducible rfl)
              simp only [Act.put]
              refine wpAnyH_ready (rs := [11]) (by kernel_rfl) (by simp) ?_
              refine AllReadyH.cons rfl (fun K hK => ?_) ?_
              · skip
                go_simp
                refine hK.out _ _ ?_ (fun hHeld => ?_)
                · (try dsimp only); go_keep
                clear hK K
                refine wpAnyH_done (by kernel_rfl) ?_ _
                go_simp
                go_wp2_with fail
                go_roundw
                case rel => exact ⟨k + 1, A2, c2, _, _, by omega, by go_num, (HO4.out.setOther hqW _).congr (fun j _ => upd_same (rk vs) k j) (fun j _ => upd_same (ct vs) k j), U0.out, U1.out, U2.out, HMD.out.trans (Mid.setCell (p := ⟨q, 1, none⟩) _ ⟨Nat.le_refl q, Nat.lt_succ_self q⟩ _)⟩
                case measure => simp [intOf]; omega
              exact AllReadyH.nil
            exact AllReadyH.nil
          exact AllReadyH.nil
        exact AllReadyH.nil
      refine AllReadyH.cons rfl (fun K hK => ?_) ?_
      · skip
        go_simp
        go_at_call 79
        refine (libClone B (rl vs k) d (rk vs k) V.drew q4d hlb).mono ?_
        rintro e w3 ⟨A1, c1x, rfl, o3, b3⟩
        have b3x : Below V.heap.size V w3 := (Below.drew (Below.refl _ _)).trans b3
        have e0 := (b3x.cell (p := ⟨wo.heap.size, 0, none⟩) sV).trans v0
        have e1 := (b3x.cell (p := ⟨wo.heap.size, 1, none⟩) sV).trans v1
        have e2 := (b3x.cell (p := ⟨q, 1, none⟩) sqV).trans x1
        have ef := (b3x.frozen (p := ⟨q, 1, none⟩) sqV).trans xf
        have e4 := (b3x.cell (p := ⟨q, 0, none⟩) sqV).trans x0
        have s3 := b3x.size
        have hw3 : q < w3.heap.size := by omega
        have hw4 : ¬ q = w3.heap.size := by omega
        have hv3 : wo.heap.size < w3.heap.size := by omega
        clear b3x
        refine hK.out _ _ ?_ (fun hHeld => ?_)
        · (try dsimp only); go_keep
        clear hK K
        refine wpAnyH_take (i := 7) (v := ?_) rfl (by kernel_rfl) (by kernel_rfl) (by kernel_rfl) (fun _ _ _ h => h) (Or.inl ⟨by rfl, ?_⟩) (by assumption) ?_
        rotate_left
        · intro wq hSw; (try dsimp only at hSw); go_simp; (try with_reducible rfl)
        simp only [Act.put]
        refine wpAnyH_ready (rs := [1, 8]) (by kernel_rfl) (by simp) ?_
        refine AllReadyH.cons rfl (fun K hK => ?_) ?_
        · skip
          go_simp
          refine hK.out _ _ ?_ (fun hHeld => ?_)
          · (try dsimp only); go_keep
          clear hK K
          refine wpAnyH_ready (rs := [8]) (by kernel_rfl) (by simp) ?_
          refine AllReadyH.cons rfl (fun K hK => ?_) ?_
          · skip
            go_simp
            refine hK.out _ _ ?_ (fun hHeld => ?_)
            · (try dsimp only); go_keep
            clear hK K
            refine wpAnyH_ready (rs := [9]) (by kernel_rfl) (by simp) ?_
            refine AllReadyH.cons rfl (fun K hK => ?_) ?_
            · skip
              have hov := (HOD.out.on b3).alloc (.cells #[.slice A1 (rl vs k) c1x, .int .i64 (ct vs k)] 62)
              have ho1 := own_alloc (own_mono o3 hWV) (.cells #[.slice A1 (rl vs k) c1x, .int .i64 (ct vs k)] 62)
              have hc0 : (w3.alloc (.cells #[.slice A1 (rl vs k) c1x, .int .i64 (ct vs k)] 62)).cell? ⟨w3.heap.size, 0, none⟩ = some (.slice A1 (rk vs k).length c1x) := by rw [HLEN.out]; simp
              have hc1 : (w3.alloc (.cells #[.slice A1 (rl vs k) c1x, .int .i64 (ct vs k)] 62)).cell? ⟨w3.heap.size, 1, none⟩ = some (.int .i64 (ct vs k)) := by simp
              have ho2 : Own (w3.alloc (.cells #[.slice A1 (rl vs k) c1x, .int .i64 (ct vs k)] 62)) W.heap.size A1 (rk vs k).length c1x (rk vs k) := by rw [HLEN.out]; exact ho1
              have hbs3 : W.heap.size ≤ (w3.alloc (.cells #[.slice A1 (rl vs k) c1x, .int .i64 (ct vs k)] 62)).heap.size := by simp; omega
              have hfar : ∀ a, A1 = some a → wo.heap.size ≤ a.block := fun a ha => Nat.le_trans (Nat.le_of_lt sV) (own_ge o3 a ha).1
              have hz3 : wo.heap.size < (w3.alloc (.cells #[.slice A1 (rl vs k) c1x, .int .i64 (ct vs k)] 62)).heap.size := by simp; omega
              have hq3 : q < (w3.alloc (.cells #[.slice A1 (rl vs k) c1x, .int .i64 (ct vs k)] 62)).heap.size := by simp; omega
              have y0 := (World.cell?_alloc_past (w := w3) (.cells #[.slice A1 (rl vs k) c1x, .int .i64 (ct vs k)] 62) wo.heap.size 0 hv3).trans e0
              have y1 := (World.cell?_alloc_past (w := w3) (.cells #[.slice A1 (rl vs k) c1x, .int .i64 (ct vs k)] 62) wo.heap.size 1 hv3).trans e1
              have y2 := (World.cell?_alloc_past (w := w3) (.cells #[.slice A1 (rl vs k) c1x, .int .i64 (ct vs k)] 62) q 1 hw3).trans e2
              have y4 := (World.cell?_alloc_past (w := w3) (.cells #[.slice A1 (rl vs k) c1x, .int .i64 (ct vs k)] 62) q 0 hw3).trans e4
              have yf := (World.frozen?_alloc_past (w := w3) (.cells #[.slice A1 (rl vs k) c1x, .int .i64 (ct vs k)] 62) q 1 hw3).trans ef
              refine step_apV (w3.alloc (.cells #[.slice A1 (rl vs k) c1x, .int .i64 (ct vs k)] 62)) rfl (.tmp 17) (.tmp 24) rfl W.heap.size A' k c' G C (rk vs) (ct vs) rfl hov A1 c1x (rk vs k) (ct vs k) w3.heap.size 1 rfl hc0 hc1 ho2 wo.heap.size HIN.out hfar hk20 hbs3 ?_
              intro A2 c2 w4 o4 g4 p4
              have f0 := far_cell g4 hz3 HNV.out y0
              have f1 := far_cell g4 hz3 HNV.out y1
              have f2 := far_cell g4 hq3 HNQ.out y2
              have f4 := far_cell g4 hq3 HNQ.out y4
              have ff := far_frozen g4 hq3 HNQ.out yf
              have hmd := Mid.grown ((Mid.on (HMA.out.drew) b3).on ((Below.refl _ _).alloc (Nat.le_refl _) (.cells #[.slice A1 (rl vs k) c1x, .int .i64 (ct vs k)] 62))) g4 HGW.out
              have u0 : (w4.setCell ⟨q, 1, none⟩ (.slice A2 (k + 1) c2)).cell? ⟨q, 0, none⟩ = some (.int .i64 m) := by simp [go_sem, f4]
              have u1 : (w4.setCell ⟨q, 1, none⟩ (.slice A2 (k + 1) c2)).cell? ⟨q, 1, none⟩ = some (.slice A2 (k + 1) c2) := by simp [go_sem, f2]
              have u2 : (w4.setCell ⟨q, 1, none⟩ (.slice A2 (k + 1) c2)).frozen? ⟨q, 1, none⟩ = false := by simp [go_sem, ff]
              have U0 := Lib.hid u0; have U1 := Lib.hid u1; have U2 := Lib.hid u2
              clear u0 u1 u2
              have HO4 := Lib.hid o4
              have HMD := Lib.hid hmd
              clear hov ho1 hc0 hc1 ho2 hbs3 hfar hz3 hq3 y0 y1 y2 y4 yf o4 g4 p4 hmd
              refine hK.out _ _ ?_ (fun hHeld => ?_)
              · (try dsimp only); go_keep
              clear hK K
              refine wpAnyH_take (i := 10) (v := ?_) rfl (by kernel_rfl) (by kernel_rfl) (by kernel_rfl) (fun _ _ _ h => h) (Or.inl ⟨by rfl, ?_⟩) (by assumption) ?_
              rotate_left
              · intro wq hSw; (try dsimp only at hSw); go_simp; (try with_reducible rfl)
              simp only [Act.put]
              refine wpAnyH_ready (rs := [11]) (by kernel_rfl) (by simp) ?_
              refine AllReadyH.cons rfl (fun K hK => ?_) ?_
              · skip
                go_simp
                refine hK.out _ _ ?_ (fun hHeld => ?_)
                · (try dsimp only); go_keep
                clear hK K
                refine wpAnyH_done (by kernel_rfl) ?_ _
                go_simp
                go_wp2_with fail
                go_roundw
                case rel => exact ⟨k + 1, A2, c2, _, _, by omega, by go_num, (HO4.out.setOther hqW _).congr (fun j _ => upd_same (rk vs) k j) (fun j _ => upd_same (ct vs) k j), U0.out, U1.out, U2.out, HMD.out.trans (Mid.setCell (p := ⟨q, 1, none⟩) _ ⟨Nat.le_refl q, Nat.lt_succ_self q⟩ _)⟩
                case measure => simp [intOf]; omega
              exact AllReadyH.nil
            exact AllReadyH.nil
          exact AllReadyH.nil
        refine AllReadyH.cons rfl (fun K hK => ?_) ?_
        · skip
          go_simp
          refine hK.out _ _ ?_ (fun hHeld => ?_)
          · (try dsimp only); go_keep
          clear hK K
          refine wpAnyH_ready (rs := [1]) (by kernel_rfl) (by simp) ?_
          refine AllReadyH.cons rfl (fun K hK => ?_) ?_
          · skip
            go_simp
            refine hK.out _ _ ?_ (fun hHeld => ?_)
            · (try dsimp only); go_keep
            clear hK K
            refine wpAnyH_ready (rs := [9]) (by kernel_rfl) (by simp) ?_
            refine AllReadyH.cons rfl (fun K hK => ?_) ?_
            · skip
              have hov := (HOD.out.on b3).alloc (.cells #[.slice A1 (rl vs k) c1x, .int .i64 (ct vs k)] 62)
              have ho1 := own_alloc (own_mono o3 hWV) (.cells #[.slice A1 (rl vs k) c1x, .int .i64 (ct vs k)] 62)
              have hc0 : (w3.alloc (.cells #[.slice A1 (rl vs k) c1x, .int .i64 (ct vs k)] 62)).cell? ⟨w3.heap.size, 0, none⟩ = some (.slice A1 (rk vs k).length c1x) := by rw [HLEN.out]; simp
              have hc1 : (w3.alloc (.cells #[.slice A1 (rl vs k) c1x, .int .i64 (ct vs k)] 62)).cell? ⟨w3.heap.size, 1, none⟩ = some (.int .i64 (ct vs k)) := by simp
              have ho2 : Own (w3.alloc (.cells #[.slice A1 (rl vs k) c1x, .int .i64 (ct vs k)] 62)) W.heap.size A1 (rk vs k).length c1x (rk vs k) := by rw [HLEN.out]; exact ho1
              have hbs3 : W.heap.size ≤ (w3.alloc (.cells #[.slice A1 (rl vs k) c1x, .int .i64 (ct vs k)] 62)).heap.size := by simp; omega
              have hfar : ∀ a, A1 = some a → wo.heap.size ≤ a.block := fun a ha => Nat.le_trans (Nat.le_of_lt sV) (own_ge o3 a ha).1
              have hz3 : wo.heap.size < (w3.alloc (.cells #[.slice A1 (rl vs k) c1x, .int .i64 (ct vs k)] 62)).heap.size := by simp; omega
              have hq3 : q < (w3.alloc (.cells #[.slice A1 (rl vs k) c1x, .int .i64 (ct vs k)] 62)).heap.size := by simp; omega
              have y0 := (World.cell?_alloc_past (w := w3) (.cells #[.slice A1 (rl vs k) c1x, .int .i64 (ct vs k)] 62) wo.heap.size 0 hv3).trans e0
              have y1 := (World.cell?_alloc_past (w := w3) (.cells #[.slice A1 (rl vs k) c1x, .int .i64 (ct vs k)] 62) wo.heap.size 1 hv3).trans e1
              have y2 := (World.cell?_alloc_past (w := w3) (.cells #[.slice A1 (rl vs k) c1x, .int .i64 (ct vs k)] 62) q 1 hw3).trans e2
              have y4 := (World.cell?_alloc_past (w := w3) (.cells #[.slice A1 (rl vs k) c1x, .int .i64 (ct vs k)] 62) q 0 hw3).trans e4
              have yf := (World.frozen?_alloc_past (w := w3) (.cells #[.slice A1 (rl vs k) c1x, .int .i64 (ct vs k)] 62) q 1 hw3).trans ef
              refine step_apV (w3.alloc (.cells #[.slice A1 (rl vs k) c1x, .int .i64 (ct vs k)] 62)) rfl (.tmp 17) (.tmp 24) rfl W.heap.size A' k c' G C (rk vs) (ct vs) rfl hov A1 c1x (rk vs k) (ct vs k) w3.heap.size 1 rfl hc0 hc1 ho2 wo.heap.size HIN.out hfar hk20 hbs3 ?_
              intro A2 c2 w4 o4 g4 p4
              have f0 := far_cell g4 hz3 HNV.out y0
              have f1 := far_cell g4 hz3 HNV.out y1
              have f2 := far_cell g4 hq3 HNQ.out y2
              have f4 := far_cell g4 hq3 HNQ.out y4
              have ff := far_frozen g4 hq3 HNQ.out yf
              have hmd := Mid.grown ((Mid.on (HMA.out.drew) b3).on ((Below.refl _ _).alloc (Nat.le_refl _) (.cells #[.slice A1 (rl vs k) c1x, .int .i64 (ct vs k)] 62))) g4 HGW.out
              have u0 : (w4.setCell ⟨q, 1, none⟩ (.slice A2 (k + 1) c2)).cell? ⟨q, 0, none⟩ = some (.int .i64 m) := by simp [go_sem, f4]
              have u1 : (w4.setCell ⟨q, 1, none⟩ (.slice A2 (k + 1) c2)).cell? ⟨q, 1, none⟩ = some (.slice A2 (k + 1) c2) := by simp [go_sem, f2]
              have u2 : (w4.setCell ⟨q, 1, none⟩ (.slice A2 (k + 1) c2)).frozen? ⟨q, 1, none⟩ = false := by simp [go_sem, ff]
              have U0 := Lib.hid u0; have U1 := Lib.hid u1; have U2 := Lib.hid u2
              clear u0 u1 u2
              have HO4 := Lib.hid o4
              have HMD := Lib.hid hmd
              clear hov ho1 hc0 hc1 ho2 hbs3 hfar hz3 hq3 y0 y1 y2 y4 yf o4 g4 p4 hmd
              refine hK.out _ _ ?_ (fun hHeld => ?_)
              · (try dsimp only); go_keep
              clear hK K
              refine wpAnyH_take (i := 10) (v := ?_) rfl (by kernel_rfl) (by kernel_rfl) (by kernel_rfl) (fun _ _ _ h => h) (Or.inl ⟨by rfl, ?_⟩) (by assumption) ?_
              rotate_left
              · intro wq hSw; (try dsimp only at hSw); go_simp; (try with_reducible rfl)
              simp only [Act.put]
              refine wpAnyH_ready (rs := [11]) (by kernel_rfl) (by simp) ?_
              refine AllReadyH.cons rfl (fun K hK => ?_) ?_
              · skip
                go_simp
                refine hK.out _ _ ?_ (fun hHeld => ?_)
                · (try dsimp only); go_keep
                clear hK K
                refine wpAnyH_done (by kernel_rfl) ?_ _
                go_simp
                go_wp2_with fail
                go_roundw
                case rel => exact ⟨k + 1, A2, c2, _, _, by omega, by go_num, (HO4.out.setOther hqW _).congr (fun j _ => upd_same (rk vs) k j) (fun j _ => upd_same (ct vs) k j), U0.out, U1.out, U2.out, HMD.out.trans (Mid.setCell (p := ⟨q, 1, none⟩) _ ⟨Nat.le_refl q, Nat.lt_succ_self q⟩ _)⟩
                case measure => simp [intOf]; omega
              exact AllReadyH.nil
            exact AllReadyH.nil
          exact AllReadyH.nil
        exact AllReadyH.nil
      exact AllReadyH.nil
    · obtain rfl : k = n := by omega
      have z0 := (hmid.cell (p := ⟨w.heap.size + 1, 0, none⟩) (by show w.heap.size + 1 < W.heap.size; omega) (.inl hqr)).trans r0
      have z1 := (hmid.cell (p := ⟨w.heap.size + 1, 1, none⟩) (by show w.heap.size + 1 < W.heap.size; omega) (.inl hqr)).trans r1
      have zf0 := (hmid.frozen (p := ⟨w.heap.size + 1, 0, none⟩) (by show w.heap.size + 1 < W.heap.size; omega) (.inl hqr)).trans rf0
      have zf1 := (hmid.frozen (p := ⟨w.heap.size + 1, 1, none⟩) (by show w.heap.size + 1 < W.heap.size; omega) (.inl hqr)).trans rf1
      have HOV := Lib.hid (hOV.mono (base' := q) (by omega)); clear hOV hmid
      go_wp2_with fail
      refine bodyPost_ret (v := .agg #[.int .i64 m, .slice A' k c']) (by simp [results, Try.results78, go_sem, z0, z1]) rfl ⟨A', c', rfl, ⟨G, C, ?_⟩, ?_⟩
      · exact ((HOV.out.setOther hqr _).setOther hqr _).mono hqw
      · exact (bo.setCell (Nat.le_succ _) _).setCell (Nat.le_succ _) _
end Go.Proofs.Ytblofiimfhbkdaa
