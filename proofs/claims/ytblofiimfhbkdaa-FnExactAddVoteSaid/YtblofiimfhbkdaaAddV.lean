/- A vote is added to a profile: what the program's and the reference's functions compute. -/
import Derived.Test.YtblofiimfhbkdaaCloneV
namespace Go.Proofs.Ytblofiimfhbkdaa
open Go.RowKit
set_option maxRecDepth 100000

set_option maxHeartbeats 2000000 in
theorem specAddVoteF1 (m : Int) (A : Option Addr) (n c : Nat) (vs : List (List Int × Int)) (E : Option Addr) (ne ce : Nat) (_ys : List Int) (t : Int) (w : World) (h : Votes w A n vs) (hn : (n : Int) ≤ 1048576) (hm : ∀ j, j < n → (rl vs j : Int) ≤ 1048576) (hp : profP m vs = false) :
    Calls Try.prog 42 #[.agg #[.int .i64 m, .slice A n c], .agg #[.slice E ne ce, .int .i64 t]] w fun e w' => e = .returned (.tuple #[.agg #[.int .i64 0, .slice none 0 0], .bool false]) ∧ Below w.heap.size w w' := by
  have HP := Lib.hid hp; clear hp
  have HM := Lib.hid hm; clear hm
  have bl : Below w.heap.size w (((w.alloc (.cells #[.int .i64 m, .slice A n c] 40)).alloc (.cells #[.slice E ne ce, .int .i64 t] 62)).alloc (.cells #[.int .i64 0, .slice none 0 0] 40)) := (((Below.refl _ _).alloc (Nat.le_refl _) _).alloc (by simp) _).alloc (by simp; omega) _
  have k0 : (((w.alloc (.cells #[.int .i64 m, .slice A n c] 40)).alloc (.cells #[.slice E ne ce, .int .i64 t] 62)).alloc (.cells #[.int .i64 0, .slice none 0 0] 40)).cell? ⟨w.heap.size, 0, none⟩ = some (.int .i64 m) := by simp [go_sem]
  have k1 : (((w.alloc (.cells #[.int .i64 m, .slice A n c] 40)).alloc (.cells #[.slice E ne ce, .int .i64 t] 62)).alloc (.cells #[.int .i64 0, .slice none 0 0] 40)).cell? ⟨w.heap.size, 1, none⟩ = some (.slice A n c) := by simp [go_sem]
  have v0 : (((w.alloc (.cells #[.int .i64 m, .slice A n c] 40)).alloc (.cells #[.slice E ne ce, .int .i64 t] 62)).alloc (.cells #[.int .i64 0, .slice none 0 0] 40)).cell? ⟨w.heap.size + 1, 0, none⟩ = some (.slice E ne ce) := by simp [go_sem]
  have v1 : (((w.alloc (.cells #[.int .i64 m, .slice A n c] 40)).alloc (.cells #[.slice E ne ce, .int .i64 t] 62)).alloc (.cells #[.int .i64 0, .slice none 0 0] 40)).cell? ⟨w.heap.size + 1, 1, none⟩ = some (.int .i64 t) := by simp [go_sem]
  have r0 : (((w.alloc (.cells #[.int .i64 m, .slice A n c] 40)).alloc (.cells #[.slice E ne ce, .int .i64 t] 62)).alloc (.cells #[.int .i64 0, .slice none 0 0] 40)).cell? ⟨w.heap.size + 1 + 1, 0, none⟩ = some (.int .i64 0) := by simp [go_sem]
  have r1 : (((w.alloc (.cells #[.int .i64 m, .slice A n c] 40)).alloc (.cells #[.slice E ne ce, .int .i64 t] 62)).alloc (.cells #[.int .i64 0, .slice none 0 0] 40)).cell? ⟨w.heap.size + 1 + 1, 1, none⟩ = some (.slice none 0 0) := by simp [go_sem]
  have rf0 : (((w.alloc (.cells #[.int .i64 m, .slice A n c] 40)).alloc (.cells #[.slice E ne ce, .int .i64 t] 62)).alloc (.cells #[.int .i64 0, .slice none 0 0] 40)).frozen? ⟨w.heap.size + 1 + 1, 0, none⟩ = false := by simp [go_sem]
  have rf1 : (((w.alloc (.cells #[.int .i64 m, .slice A n c] 40)).alloc (.cells #[.slice E ne ce, .int .i64 t] 62)).alloc (.cells #[.int .i64 0, .slice none 0 0] 40)).frozen? ⟨w.heap.size + 1 + 1, 1, none⟩ = false := by simp [go_sem]
  have sr : w.heap.size + 1 + 1 < (((w.alloc (.cells #[.int .i64 m, .slice A n c] 40)).alloc (.cells #[.slice E ne ce, .int .i64 t] 62)).alloc (.cells #[.int .i64 0, .slice none 0 0] 40)).heap.size := by simp
  have hV := h.on bl
  go_enter Try.func42, Try.ntmps42
  go_wp2_with fail
  have sk : w.heap.size < (((w.alloc (.cells #[.int .i64 m, .slice A n c] 40)).alloc (.cells #[.slice E ne ce, .int .i64 t] 62)).alloc (.cells #[.int .i64 0, .slice none 0 0] 40)).heap.size := by omega
  have sv : w.heap.size + 1 < (((w.alloc (.cells #[.int .i64 m, .slice A n c] 40)).alloc (.cells #[.slice E ne ce, .int .i64 t] 62)).alloc (.cells #[.int .i64 0, .slice none 0 0] 40)).heap.size := by omega
  refine (specProfileOk m A n c vs _ hV hn HM.out).mono ?_; rintro e w1 ⟨rfl, b1⟩
  rw [HP.out]
  have bl1 := Below.on bl b1
  replace r0 := (b1.cell (p := ⟨w.heap.size + 1 + 1, 0, none⟩) sr).trans r0
  replace r1 := (b1.cell (p := ⟨w.heap.size + 1 + 1, 1, none⟩) sr).trans r1
  replace rf0 := (b1.frozen (p := ⟨w.heap.size + 1 + 1, 0, none⟩) sr).trans rf0
  replace rf1 := (b1.frozen (p := ⟨w.heap.size + 1 + 1, 1, none⟩) sr).trans rf1
  replace sk := Nat.lt_of_lt_of_le sk b1.size
  replace sv := Nat.lt_of_lt_of_le sv b1.size
  replace sr := Nat.lt_of_lt_of_le sr b1.size
  go_wp2_with fail
  exact bodyPost_ret (v := .tuple #[.agg #[.int .i64 0, .slice none 0 0], .bool false]) (by simp [results, Try.results42, go_sem, r0, r1]) rfl ⟨rfl, (bl1.setCell (by show w.heap.size ≤ w.heap.size + 1 + 1; omega) _).setCell (by show w.heap.size ≤ w.heap.size + 1 + 1; omega) _⟩

set_option maxHeartbeats 8000000 in
theorem specAddVoteF2 (m : Int) (A : Option Addr) (n c : Nat) (vs : List (List Int × Int)) (E : Option Addr) (ne ce : Nat) (ys : List Int) (t : Int) (w : World) (h : Votes w A n vs) (hn : (n : Int) ≤ 1048576) (hm : ∀ j, j < n → (rl vs j : Int) ≤ 1048576) (hy : Ints w E ne ys) (hne : (ne : Int) ≤ 1048576) (hp : profP m vs = true) (hq : profP m (addV vs ys t) = false) :
    Calls Try.prog 42 #[.agg #[.int .i64 m, .slice A n c], .agg #[.slice E ne ce, .int .i64 t]] w fun e w' => e = .returned (.tuple #[.agg #[.int .i64 0, .slice none 0 0], .bool false]) ∧ Below w.heap.size w w' := by
  have HP := Lib.hid hp; have HQ := Lib.hid hq
  have hn24 := (of_prof hp).2.1
  have HL := Lib.hid h.1
  have hnn : n ≤ 24 := by have := HL.out; omega
  clear hp hq hn24
  have HM := Lib.hid hm; clear hm
  have bl : Below w.heap.size w (((w.alloc (.cells #[.int .i64 m, .slice A n c] 40)).alloc (.cells #[.slice E ne ce, .int .i64 t] 62)).alloc (.cells #[.int .i64 0, .slice none 0 0] 40)) := (((Below.refl _ _).alloc (Nat.le_refl _) _).alloc (by simp) _).alloc (by simp; omega) _
  have k0 : (((w.alloc (.cells #[.int .i64 m, .slice A n c] 40)).alloc (.cells #[.slice E ne ce, .int .i64 t] 62)).alloc (.cells #[.int .i64 0, .slice none 0 0] 40)).cell? ⟨w.heap.size, 0, none⟩ = some (.int .i64 m) := by simp [go_sem]
  have k1 : (((w.alloc (.cells #[.int .i64 m, .slice A n c] 40)).alloc (.cells #[.slice E ne ce, .int .i64 t] 62)).alloc (.cells #[.int .i64 0, .slice none 0 0] 40)).cell? ⟨w.heap.size, 1, none⟩ = some (.slice A n c) := by simp [go_sem]
  have v0 : (((w.alloc (.cells #[.int .i64 m, .slice A n c] 40)).alloc (.cells #[.slice E ne ce, .int .i64 t] 62)).alloc (.cells #[.int .i64 0, .slice none 0 0] 40)).cell? ⟨w.heap.size + 1, 0, none⟩ = some (.slice E ne ce) := by simp [go_sem]
  have v1 : (((w.alloc (.cells #[.int .i64 m, .slice A n c] 40)).alloc (.cells #[.slice E ne ce, .int .i64 t] 62)).alloc (.cells #[.int .i64 0, .slice none 0 0] 40)).cell? ⟨w.heap.size + 1, 1, none⟩ = some (.int .i64 t) := by simp [go_sem]
  have r0 : (((w.alloc (.cells #[.int .i64 m, .slice A n c] 40)).alloc (.cells #[.slice E ne ce, .int .i64 t] 62)).alloc (.cells #[.int .i64 0, .slice none 0 0] 40)).cell? ⟨w.heap.size + 1 + 1, 0, none⟩ = some (.int .i64 0) := by simp [go_sem]
  have r1 : (((w.alloc (.cells #[.int .i64 m, .slice A n c] 40)).alloc (.cells #[.slice E ne ce, .int .i64 t] 62)).alloc (.cells #[.int .i64 0, .slice none 0 0] 40)).cell? ⟨w.heap.size + 1 + 1, 1, none⟩ = some (.slice none 0 0) := by simp [go_sem]
  have rf0 : (((w.alloc (.cells #[.int .i64 m, .slice A n c] 40)).alloc (.cells #[.slice E ne ce, .int .i64 t] 62)).alloc (.cells #[.int .i64 0, .slice none 0 0] 40)).frozen? ⟨w.heap.size + 1 + 1, 0, none⟩ = false := by simp [go_sem]
  have rf1 : (((w.alloc (.cells #[.int .i64 m, .slice A n c] 40)).alloc (.cells #[.slice E ne ce, .int .i64 t] 62)).alloc (.cells #[.int .i64 0, .slice none 0 0] 40)).frozen? ⟨w.heap.size + 1 + 1, 1, none⟩ = false := by simp [go_sem]
  have sr : w.heap.size + 1 + 1 < (((w.alloc (.cells #[.int .i64 m, .slice A n c] 40)).alloc (.cells #[.slice E ne ce, .int .i64 t] 62)).alloc (.cells #[.int .i64 0, .slice none 0 0] 40)).heap.size := by simp
  have hV := h.on bl
  go_enter Try.func42, Try.ntmps42
  go_wp2_with fail
  have sk : w.heap.size < (((w.alloc (.cells #[.int .i64 m, .slice A n c] 40)).alloc (.cells #[.slice E ne ce, .int .i64 t] 62)).alloc (.cells #[.int .i64 0, .slice none 0 0] 40)).heap.size := by omega
  have sv : w.heap.size + 1 < (((w.alloc (.cells #[.int .i64 m, .slice A n c] 40)).alloc (.cells #[.slice E ne ce, .int .i64 t] 62)).alloc (.cells #[.int .i64 0, .slice none 0 0] 40)).heap.size := by omega
  refine (specProfileOk m A n c vs _ hV hn HM.out).mono ?_; rintro e w1 ⟨rfl, b1⟩
  rw [HP.out]
  have hV1 := hV.on b1
  have bl1 := Below.on bl b1
  have hy1 := hy.on bl1
  replace k0 := (b1.cell (p := ⟨w.heap.size, 0, none⟩) sk).trans k0
  replace k1 := (b1.cell (p := ⟨w.heap.size, 1, none⟩) sk).trans k1
  replace v0 := (b1.cell (p := ⟨w.heap.size + 1, 0, none⟩) sv).trans v0
  replace v1 := (b1.cell (p := ⟨w.heap.size + 1, 1, none⟩) sv).trans v1
  replace r0 := (b1.cell (p := ⟨w.heap.size + 1 + 1, 0, none⟩) sr).trans r0
  replace r1 := (b1.cell (p := ⟨w.heap.size + 1 + 1, 1, none⟩) sr).trans r1
  replace rf0 := (b1.frozen (p := ⟨w.heap.size + 1 + 1, 0, none⟩) sr).trans rf0
  replace rf1 := (b1.frozen (p := ⟨w.heap.size + 1 + 1, 1, none⟩) sr).trans rf1
  replace sk := Nat.lt_of_lt_of_le sk b1.size
  replace sv := Nat.lt_of_lt_of_le sv b1.size
  replace sr := Nat.lt_of_lt_of_le sr b1.size
  have hw1q := sr
  clear b1 hV bl
  go_wp2_with fail
  refine (specL04Copy m A n c vs _ hV1 hn HM.out).mono ?_; rintro e w2 ⟨A2, c2, G, C, rfl, o2, b2⟩
  have bl2 := Below.on bl1 b2
  have hy2 := hy1.on b2
  have s2 := b2.size
  replace v0 := (b2.cell (p := ⟨w.heap.size + 1, 0, none⟩) sv).trans v0
  replace v1 := (b2.cell (p := ⟨w.heap.size + 1, 1, none⟩) sv).trans v1
  replace r0 := (b2.cell (p := ⟨w.heap.size + 1 + 1, 0, none⟩) sr).trans r0
  replace r1 := (b2.cell (p := ⟨w.heap.size + 1 + 1, 1, none⟩) sr).trans r1
  replace rf0 := (b2.frozen (p := ⟨w.heap.size + 1 + 1, 0, none⟩) sr).trans rf0
  replace rf1 := (b2.frozen (p := ⟨w.heap.size + 1 + 1, 1, none⟩) sr).trans rf1
  replace sk := Nat.lt_of_lt_of_le sk b2.size
  replace sv := Nat.lt_of_lt_of_le sv b2.size
  replace sr := Nat.lt_of_lt_of_le sr b2.size
  have bA : Below w2.heap.size w2 (w2.alloc (.cells #[.int .i64 m, .slice A2 n c2] 40)) := (Below.refl _ _).alloc (Nat.le_refl _) _
  have q0 : (w2.alloc (.cells #[.int .i64 m, .slice A2 n c2] 40)).cell? ⟨w2.heap.size, 0, none⟩ = some (.int .i64 m) := by simp
  have q1 : (w2.alloc (.cells #[.int .i64 m, .slice A2 n c2] 40)).cell? ⟨w2.heap.size, 1, none⟩ = some (.slice A2 n c2) := by simp
  have qf : (w2.alloc (.cells #[.int .i64 m, .slice A2 n c2] 40)).frozen? ⟨w2.heap.size, 1, none⟩ = false := by simp [go_sem]
  have sq : w2.heap.size < (w2.alloc (.cells #[.int .i64 m, .slice A2 n c2] 40)).heap.size := by simp
  have HIN := Lib.hid o2.inn
  have hqv1 : ¬ w.heap.size + 1 = w2.heap.size := by omega
  have hqv2 : ¬ w2.heap.size = w.heap.size + 1 := by omega
  have hqr : w.heap.size + 1 + 1 < w2.heap.size := sr
  have hrq1 : ¬ w.heap.size + 1 + 1 = w2.heap.size := by omega
  have hge := o2.ge
  have HGE := Lib.hid hge; clear hge
  replace v0 := (bA.cell (p := ⟨w.heap.size + 1, 0, none⟩) sv).trans v0
  replace v1 := (bA.cell (p := ⟨w.heap.size + 1, 1, none⟩) sv).trans v1
  replace r0 := (bA.cell (p := ⟨w.heap.size + 1 + 1, 0, none⟩) sr).trans r0
  replace r1 := (bA.cell (p := ⟨w.heap.size + 1 + 1, 1, none⟩) sr).trans r1
  replace rf0 := (bA.frozen (p := ⟨w.heap.size + 1 + 1, 0, none⟩) sr).trans rf0
  replace rf1 := (bA.frozen (p := ⟨w.heap.size + 1 + 1, 1, none⟩) sr).trans rf1
  replace sk := Nat.lt_of_lt_of_le sk bA.size
  replace sv := Nat.lt_of_lt_of_le sv bA.size
  replace sr := Nat.lt_of_lt_of_le sr bA.size
  have hyV := (hy2.on bA).drew
  have HOV := Lib.hid ((o2.on bA).on (Below.drew (Below.refl _ _)))
  have bV : Below w.heap.size w (w2.alloc (.cells #[.int .i64 m, .slice A2 n c2] 40)) := Below.on bl2 bA
  have hVA := h.on bV
  have HVA := Lib.hid hVA; clear hVA
  have HYL := Lib.hid hy.1
  have hne2 : ne ≤ 1099511627776 := by omega
  have hk20 : n ≤ 1048576 := by omega
  clear o2 b2 bl2 bA hy1 hy2 hV1
  go_wp2_with fail
  generalize w2.alloc (.cells #[.int .i64 m, .slice A2 n c2] 40) = V at *
  generalize w2.heap.size = q at *
  have hBV : w1.heap.size ≤ V.heap.size := by omega
  have HINV := Lib.hid (HIN.out.mono (Nat.le_of_lt sq))
  have HNV := Lib.hid (fun (a : Addr) (ha : A2 = some a) => show a.block ≠ w.heap.size + 1 by have := (HGE.out a ha).1; omega)
  have HNQ := Lib.hid (fun (a : Addr) (ha : A2 = some a) => Nat.ne_of_lt (HIN.out.1 a ha))
  go_upto_region 4 with fail
  go_cut [23] (fun u wx => ∃ A4 c4 G4 C4, u = .slice A4 (n + 1) c4 ∧ OwnV wx w1.heap.size A4 (n + 1) c4 G4 C4 (fun j => if j = n then ys else rk vs j) (fun j => if j = n then t else ct vs j) ∧ wx.cell? ⟨q, 0, none⟩ = some (.int .i64 m) ∧ wx.cell? ⟨q, 1, none⟩ = some (.slice A4 (n + 1) c4) ∧ Below w1.heap.size V wx ∧ q < wx.heap.size)
  case first =>
    refine wp_region_held_drew (S := (fun w' => w'.cell? ⟨w.heap.size + 1, 0, none⟩ = some (.slice E ne ce) ∧ w'.cell? ⟨w.heap.size + 1, 1, none⟩ = some (.int .i64 t))) (by kernel_rfl) ?_ (fun hHeld => ?_)
    · (try dsimp only); go_keep
    refine wpAnyH_take (i := 0) (v := ?_) rfl (by kernel_rfl) (by kernel_rfl) (by kernel_rfl) (fun _ _ _ h => h) (Or.inl ⟨by rfl, ?_⟩) (by assumption) ?_
    rotate_left
    · intro wq hSw; (try dsimp only at hSw); go_simp; (try with_reducible rfl)
    simp only [Act.put]
    refine wpAnyH_take (i := 3) (v := ?_) rfl (by kernel_rfl) (by kernel_rfl) (by kernel_rfl) (fun _ _ _ h => h) (Or.inl ⟨by rfl, ?_⟩) (by assumption) ?_
    rotate_left
    · intro wq hSw; (try dsimp only at hSw); go_simp; (try with_reducible rfl)
    simp only [Act.put]
    refine wpAnyH_take (i := 4) (v := ?_) rfl (by kernel_rfl) (by kernel_rfl) (by kernel_rfl) (fun _ _ _ h => h) (Or.inl ⟨by rfl, ?_⟩) (by assumption) ?_
    rotate_left
    · intro wq hSw; (try dsimp only at hSw); go_simp; (try with_reducible rfl)
    simp only [Act.put]
    refine wpAnyH_take (i := 6) (v := ?_) rfl (by kernel_rfl) (by kernel_rfl) (by kernel_rfl) (fun _ _ _ h => h) (Or.inl ⟨by rfl, ?_⟩) (by assumption) ?_
    rotate_left
    · intro wq hSw; (try dsimp only at hSw); go_simp; (try with_reducible rfl)
    simp only [Act.put]
    refine wpAnyH_take (i := 7) (v := ?_) rfl (by kernel_rfl) (by kernel_rfl) (by kernel_rfl) (fun _ _ _ h => h) (Or.inl ⟨by rfl, ?_⟩) (by assumption) ?_
    rotate_left
    · intro wq hSw; (try dsimp only at hSw); go_simp; (try with_reducible rfl)
    simp only [Act.put]
    refine wpAnyH_ready (rs := [1, 2]) (by kernel_rfl) (by simp) ?_
    refine AllReadyH.cons rfl (fun K hK => ?_) ?_
    · skip
      go_simp
      refine hK.out _ _ ?_ (fun hHeld => ?_)
      · (try dsimp only); go_keep
      clear hK K
      refine wpAnyH_ready (rs := [2]) (by kernel_rfl) (by simp) ?_
      refine AllReadyH.cons rfl (fun K hK => ?_) ?_
      · skip
        go_simp
        refine hK.out _ _ ?_ (fun hHeld => ?_)
        · (try dsimp only); go_keep
        clear hK K
        refine wpAnyH_ready (rs := [5]) (by kernel_rfl) (by simp) ?_
        refine AllReadyH.cons rfl (fun K hK => ?_) ?_
        · skip
          refine step_apnew V.drew rfl (.tmp 15) (.tmp 17) rfl rfl E ne ce ys rfl hyV hne2 ?_
          intro A1 c1x w3 o3 b3
          have b3x : Below V.heap.size V w3 := (Below.drew (Below.refl _ _)).trans b3
          have e0 := (b3x.cell (p := ⟨w.heap.size + 1, 0, none⟩) sv).trans v0
          have e1 := (b3x.cell (p := ⟨w.heap.size + 1, 1, none⟩) sv).trans v1
          have e2 := (b3x.cell (p := ⟨q, 1, none⟩) sq).trans q1
          have ef := (b3x.frozen (p := ⟨q, 1, none⟩) sq).trans qf
          have e4 := (b3x.cell (p := ⟨q, 0, none⟩) sq).trans q0
          have s3 := b3x.size
          have hw3 : q < w3.heap.size := by omega
          have hw4 : ¬ q = w3.heap.size := by omega
          have hv3 : w.heap.size + 1 < w3.heap.size := by omega
          clear b3x
          refine hK.out _ _ ?_ (fun hHeld => ?_)
          · (try dsimp only); go_keep
          clear hK K
          refine wpAnyH_take (i := 8) (v := ?_) rfl (by kernel_rfl) (by kernel_rfl) (by kernel_rfl) (fun _ _ _ h => h) (Or.inl ⟨by rfl, ?_⟩) (by assumption) ?_
          rotate_left
          · intro wq hSw; (try dsimp only at hSw); go_simp; (try with_reducible rfl)
          simp only [Act.put]
          refine wpAnyH_ready (rs := [9]) (by kernel_rfl) (by simp) ?_
          refine AllReadyH.cons rfl (fun K hK => ?_) ?_
          · skip
            go_simp
            refine hK.out _ _ ?_ (fun hHeld => ?_)
            · (try dsimp only); go_keep
            clear hK K
            refine wpAnyH_ready (rs := [10]) (by kernel_rfl) (by simp) ?_
            refine AllReadyH.cons rfl (fun K hK => ?_) ?_
            · skip
              have hov := (HOV.out.on b3).alloc (.cells #[.slice A1 ne c1x, .int .i64 t] 62)
              have ho1 := own_alloc (own_mono o3 hBV) (.cells #[.slice A1 ne c1x, .int .i64 t] 62)
              have hc0 : (w3.alloc (.cells #[.slice A1 ne c1x, .int .i64 t] 62)).cell? ⟨w3.heap.size, 0, none⟩ = some (.slice A1 ys.length c1x) := by rw [HYL.out]; simp
              have hc1 : (w3.alloc (.cells #[.slice A1 ne c1x, .int .i64 t] 62)).cell? ⟨w3.heap.size, 1, none⟩ = some (.int .i64 t) := by simp
              have ho2 : Own (w3.alloc (.cells #[.slice A1 ne c1x, .int .i64 t] 62)) w1.heap.size A1 ys.length c1x ys := by rw [HYL.out]; exact ho1
              have hbs3 : w1.heap.size ≤ (w3.alloc (.cells #[.slice A1 ne c1x, .int .i64 t] 62)).heap.size := by simp; omega
              have hfar : ∀ a, A1 = some a → V.heap.size ≤ a.block := fun a ha => (own_ge o3 a ha).1
              have hz3 : w.heap.size + 1 < (w3.alloc (.cells #[.slice A1 ne c1x, .int .i64 t] 62)).heap.size := by simp; omega
              have hq3 : q < (w3.alloc (.cells #[.slice A1 ne c1x, .int .i64 t] 62)).heap.size := by simp; omega
              have y0 := (World.cell?_alloc_past (w := w3) (.cells #[.slice A1 ne c1x, .int .i64 t] 62) (w.heap.size + 1) 0 hv3).trans e0
              have y1 := (World.cell?_alloc_past (w := w3) (.cells #[.slice A1 ne c1x, .int .i64 t] 62) (w.heap.size + 1) 1 hv3).trans e1
              have y2 := (World.cell?_alloc_past (w := w3) (.cells #[.slice A1 ne c1x, .int .i64 t] 62) q 1 hw3).trans e2
              have y4 := (World.cell?_alloc_past (w := w3) (.cells #[.slice A1 ne c1x, .int .i64 t] 62) q 0 hw3).trans e4
              have yf := (World.frozen?_alloc_past (w := w3) (.cells #[.slice A1 ne c1x, .int .i64 t] 62) q 1 hw3).trans ef
              refine step_apV (w3.alloc (.cells #[.slice A1 ne c1x, .int .i64 t] 62)) rfl (.tmp 14) (.tmp 22) rfl w1.heap.size A2 n c2 G C (rk vs) (ct vs) rfl hov A1 c1x ys t w3.heap.size 1 rfl hc0 hc1 ho2 V.heap.size HINV.out hfar hk20 hbs3 ?_
              intro A4 c4 w4 o4 g4 p4
              have f0 := far_cell g4 hz3 HNV.out y0
              have f1 := far_cell g4 hz3 HNV.out y1
              have f2 := far_cell g4 hq3 HNQ.out y2
              have f4 := far_cell g4 hq3 HNQ.out y4
              have ff := far_frozen g4 hq3 HNQ.out yf
              have hbl4 : Below w1.heap.size V w4 := below_apV ((((Below.drew (Below.refl _ _)).trans b3).mono hBV).alloc (by omega) (.cells #[.slice A1 ne c1x, .int .i64 t] 62)) hov g4 hbs3
              have hsz4 : w3.heap.size < w4.heap.size := by have := g4.size; simp at this; omega
              have ho5 := o4.mid (Mid.setCell (p := ⟨q, 1, none⟩) (lo := q) (hi := q + 1) w4 ⟨Nat.le_refl q, Nat.lt_succ_self q⟩ (.slice A4 (n + 1) c4)) (fun a ha => by
                rcases p4 with e | e
                · rw [ha] at e; obtain ⟨a0, h0, h2⟩ := map_block e; have h2 : a0.block = a.block := h2; have := HIN.out.1 a0 h0; left; omega
                · rw [ha] at e; injection e with e; right; have h9 : a.block = w3.heap.size + 1 := by simpa using e
                  omega) (fun j hj a ha => by
                by_cases ej : j = n
                · subst ej; simp only [if_true] at ha; have := hfar a ha; right; omega
                · simp only [if_neg ej] at ha; have := HIN.out.2 j (by omega) a ha; left; omega)
              have u0 : (w4.setCell ⟨q, 1, none⟩ (.slice A4 (n + 1) c4)).cell? ⟨q, 0, none⟩ = some (.int .i64 m) := by simp [go_sem, f4]
              have u1 : (w4.setCell ⟨q, 1, none⟩ (.slice A4 (n + 1) c4)).cell? ⟨q, 1, none⟩ = some (.slice A4 (n + 1) c4) := by simp [go_sem, f2]
              have hb5 : Below w1.heap.size V (w4.setCell ⟨q, 1, none⟩ (.slice A4 (n + 1) c4)) := hbl4.setCell (by show w1.heap.size ≤ q; omega) _
              have U0 := Lib.hid u0; have U1 := Lib.hid u1; have HO5 := Lib.hid ho5; have HB5 := Lib.hid hb5
              have hq5 : q < (w4.setCell ⟨q, 1, none⟩ (.slice A4 (n + 1) c4)).heap.size := by simp; omega
              have HQ5 := Lib.hid hq5
              clear u0 u1 ho5 hb5 hq5 hov ho1 hc0 hc1 ho2 hbs3 hfar hz3 hq3 y0 y1 y2 y4 yf o4 g4 p4
              refine hK.out _ _ ?_ (fun hHeld => ?_)
              · (try dsimp only); go_keep
              clear hK K
              refine wpAnyH_take (i := 11) (v := ?_) rfl (by kernel_rfl) (by kernel_rfl) (by kernel_rfl) (fun _ _ _ h => h) (Or.inl ⟨by rfl, ?_⟩) (by assumption) ?_
              rotate_left
              · intro wq hSw; (try dsimp only at hSw); go_simp; (try with_reducible rfl)
              simp only [Act.put]
              refine wpAnyH_ready (rs := [12]) (by kernel_rfl) (by simp) ?_
              refine AllReadyH.cons rfl (fun K hK => ?_) ?_
              · skip
                go_simp
                refine hK.out _ _ ?_ (fun hHeld => ?_)
                · (try dsimp only); go_keep
                clear hK K
                refine wpAnyH_done (by kernel_rfl) ?_ _
                go_simp
                go_wp2_with fail
                go_meet
                exact ⟨A4, c4, _, _, rfl, HO5.out, U0.out, U1.out, HB5.out, HQ5.out⟩
              exact AllReadyH.nil
            exact AllReadyH.nil
          exact AllReadyH.nil
        exact AllReadyH.nil
      exact AllReadyH.nil
    refine AllReadyH.cons rfl (fun K hK => ?_) ?_
    · skip
      go_simp
      refine hK.out _ _ ?_ (fun hHeld => ?_)
      · (try dsimp only); go_keep
      clear hK K
      refine wpAnyH_ready (rs := [1, 5]) (by kernel_rfl) (by simp) ?_
      refine AllReadyH.cons rfl (fun K hK => ?_) ?_
      · skip
        go_simp
        refine hK.out _ _ ?_ (fun hHeld => ?_)
        · (try dsimp only); go_keep
        clear hK K
        refine wpAnyH_ready (rs := [5]) (by kernel_rfl) (by simp) ?_
        refine AllReadyH.cons rfl (fun K hK => ?_) ?_
        · skip
          refine step_apnew V.drew rfl (.tmp 15) (.tmp 17) rfl rfl E ne ce ys rfl hyV hne2 ?_
          intro A1 c1x w3 o3 b3
          have b3x : Below V.heap.size V w3 := (Below.drew (Below.refl _ _)).trans b3
          have e0 := (b3x.cell (p := ⟨w.heap.size + 1, 0, none⟩) sv).trans v0
          have e1 := (b3x.cell (p := ⟨w.heap.size + 1, 1, none⟩) sv).trans v1
          have e2 := (b3x.cell (p := ⟨q, 1, none⟩) sq).trans q1
          have ef := (b3x.frozen (p := ⟨q, 1, none⟩) sq).trans qf
          have e4 := (b3x.cell (p := ⟨q, 0, none⟩) sq).trans q0
          have s3 := b3x.size
          have hw3 : q < w3.heap.size := by omega
          have hw4 : ¬ q = w3.heap.size := by omega
          have hv3 : w.heap.size + 1 < w3.heap.size := by omega
          clear b3x
          refine hK.out _ _ ?_ (fun hHeld => ?_)
          · (try dsimp only); go_keep
          clear hK K
          refine wpAnyH_take (i := 8) (v := ?_) rfl (by kernel_rfl) (by kernel_rfl) (by kernel_rfl) (fun _ _ _ h => h) (Or.inl ⟨by rfl, ?_⟩) (by assumption) ?_
          rotate_left
          · intro wq hSw; (try dsimp only at hSw); go_simp; (try with_reducible rfl)
          simp only [Act.put]
          refine wpAnyH_ready (rs := [9]) (by kernel_rfl) (by simp) ?_
          refine AllReadyH.cons rfl (fun K hK => ?_) ?_
          · skip
            go_simp
            refine hK.out _ _ ?_ (fun hHeld => ?_)
            · (try dsimp only); go_keep
            clear hK K
            refine wpAnyH_ready (rs := [10]) (by kernel_rfl) (by simp) ?_
            refine AllReadyH.cons rfl (fun K hK => ?_) ?_
            · skip
              have hov := (HOV.out.on b3).alloc (.cells #[.slice A1 ne c1x, .int .i64 t] 62)
              have ho1 := own_alloc (own_mono o3 hBV) (.cells #[.slice A1 ne c1x, .int .i64 t] 62)
              have hc0 : (w3.alloc (.cells #[.slice A1 ne c1x, .int .i64 t] 62)).cell? ⟨w3.heap.size, 0, none⟩ = some (.slice A1 ys.length c1x) := by rw [HYL.out]; simp
              have hc1 : (w3.alloc (.cells #[.slice A1 ne c1x, .int .i64 t] 62)).cell? ⟨w3.heap.size, 1, none⟩ = some (.int .i64 t) := by simp
              have ho2 : Own (w3.alloc (.cells #[.slice A1 ne c1x, .int .i64 t] 62)) w1.heap.size A1 ys.length c1x ys := by rw [HYL.out]; exact ho1
              have hbs3 : w1.heap.size ≤ (w3.alloc (.cells #[.slice A1 ne c1x, .int .i64 t] 62)).heap.size := by simp; omega
              have hfar : ∀ a, A1 = some a → V.heap.size ≤ a.block := fun a ha => (own_ge o3 a ha).1
              have hz3 : w.heap.size + 1 < (w3.alloc (.cells #[.slice A1 ne c1x, .int .i64 t] 62)).heap.size := by simp; omega
              have hq3 : q < (w3.alloc (.cells #[.slice A1 ne c1x, .int .i64 t] 62)).heap.size := by simp; omega
              have y0 := (World.cell?_alloc_past (w := w3) (.cells #[.slice A1 ne c1x, .int .i64 t] 62) (w.heap.size + 1) 0 hv3).trans e0
              have y1 := (World.cell?_alloc_past (w := w3) (.cells #[.slice A1 ne c1x, .int .i64 t] 62) (w.heap.size + 1) 1 hv3).trans e1
              have y2 := (World.cell?_alloc_past (w := w3) (.cells #[.slice A1 ne c1x, .int .i64 t] 62) q 1 hw3).trans e2
              have y4 := (World.cell?_alloc_past (w := w3) (.cells #[.slice A1 ne c1x, .int .i64 t] 62) q 0 hw3).trans e4
              have yf := (World.frozen?_alloc_past (w := w3) (.cells #[.slice A1 ne c1x, .int .i64 t] 62) q 1 hw3).trans ef
              refine step_apV (w3.alloc (.cells #[.slice A1 ne c1x, .int .i64 t] 62)) rfl (.tmp 14) (.tmp 22) rfl w1.heap.size A2 n c2 G C (rk vs) (ct vs) rfl hov A1 c1x ys t w3.heap.size 1 rfl hc0 hc1 ho2 V.heap.size HINV.out hfar hk20 hbs3 ?_
              intro A4 c4 w4 o4 g4 p4
              have f0 := far_cell g4 hz3 HNV.out y0
              have f1 := far_cell g4 hz3 HNV.out y1
              have f2 := far_cell g4 hq3 HNQ.out y2
              have f4 := far_cell g4 hq3 HNQ.out y4
              have ff := far_frozen g4 hq3 HNQ.out yf
              have hbl4 : Below w1.heap.size V w4 := below_apV ((((Below.drew (Below.refl _ _)).trans b3).mono hBV).alloc (by omega) (.cells #[.slice A1 ne c1x, .int .i64 t] 62)) hov g4 hbs3
              have hsz4 : w3.heap.size < w4.heap.size := by have := g4.size; simp at this; omega
              have ho5 := o4.mid (Mid.setCell (p := ⟨q, 1, none⟩) (lo := q) (hi := q + 1) w4 ⟨Nat.le_refl q, Nat.lt_succ_self q⟩ (.slice A4 (n + 1) c4)) (fun a ha => by
                rcases p4 with e | e
                · rw [ha] at e; obtain ⟨a0, h0, h2⟩ := map_block e; have h2 : a0.block = a.block := h2; have := HIN.out.1 a0 h0; left; omega
                · rw [ha] at e; injection e with e; right; have h9 : a.block = w3.heap.size + 1 := by simpa using e
                  omega) (fun j hj a ha => by
                by_cases ej : j = n
                · subst ej; simp only [if_true] at ha; have := hfar a ha; right; omega
                · simp only [if_neg ej] at ha; have := HIN.out.2 j (by omega) a ha; left; omega)
              have u0 : (w4.setCell ⟨q, 1, none⟩ (.slice A4 (n + 1) c4)).cell? ⟨q, 0, none⟩ = some (.int .i64 m) := by simp [go_sem, f4]
              have u1 : (w4.setCell ⟨q, 1, none⟩ (.slice A4 (n + 1) c4)).cell? ⟨q, 1, none⟩ = some (.slice A4 (n + 1) c4) := by simp [go_sem, f2]
              have hb5 : Below w1.heap.size V (w4.setCell ⟨q, 1, none⟩ (.slice A4 (n + 1) c4)) := hbl4.setCell (by show w1.heap.size ≤ q; omega) _
              have U0 := Lib.hid u0; have U1 := Lib.hid u1; have HO5 := Lib.hid ho5; have HB5 := Lib.hid hb5
              have hq5 : q < (w4.setCell ⟨q, 1, none⟩ (.slice A4 (n + 1) c4)).heap.size := by simp; omega
              have HQ5 := Lib.hid hq5
              clear u0 u1 ho5 hb5 hq5 hov ho1 hc0 hc1 ho2 hbs3 hfar hz3 hq3 y0 y1 y2 y4 yf o4 g4 p4
              refine hK.out _ _ ?_ (fun hHeld => ?_)
              · (try dsimp only); go_keep
              clear hK K
              refine wpAnyH_take (i := 11) (v := ?_) rfl (by kernel_rfl) (by kernel_rfl) (by kernel_rfl) (fun _ _ _ h => h) (Or.inl ⟨by rfl, ?_⟩) (by assumption) ?_
              rotate_left
              · intro wq hSw; (try dsimp only at hSw); go_simp; (try with_reducible rfl)
              simp only [Act.put]
              refine wpAnyH_ready (rs := [12]) (by kernel_rfl) (by simp) ?_
              refine AllReadyH.cons rfl (fun K hK => ?_) ?_
              · skip
                go_simp
                refine hK.out _ _ ?_ (fun hHeld => ?_)
                · (try dsimp only); go_keep
                clear hK K
                refine wpAnyH_done (by kernel_rfl) ?_ _
                go_simp
                go_wp2_with fail
                go_meet
                exact ⟨A4, c4, _, _, rfl, HO5.out, U0.out, U1.out, HB5.out, HQ5.out⟩
              exact AllReadyH.nil
            exact AllReadyH.nil
          exact AllReadyH.nil
        exact AllReadyH.nil
      refine AllReadyH.cons rfl (fun K hK => ?_) ?_
      · skip
        refine step_apnew V.drew rfl (.tmp 15) (.tmp 17) rfl rfl E ne ce ys rfl hyV hne2 ?_
        intro A1 c1x w3 o3 b3
        have b3x : Below V.heap.size V w3 := (Below.drew (Below.refl _ _)).trans b3
        have e0 := (b3x.cell (p := ⟨w.heap.size + 1, 0, none⟩) sv).trans v0
        have e1 := (b3x.cell (p := ⟨w.heap.size + 1, 1, none⟩) sv).trans v1
        have e2 := (b3x.cell (p := ⟨q, 1, none⟩) sq).trans q1
        have ef := (b3x.frozen (p := ⟨q, 1, none⟩) sq).trans qf
        have e4 := (b3x.cell (p := ⟨q, 0, none⟩) sq).trans q0
        have s3 := b3x.size
        have hw3 : q < w3.heap.size := by omega
        have hw4 : ¬ q = w3.heap.size := by omega
        have hv3 : w.heap.size + 1 < w3.heap.size := by omega
        clear b3x
        refine hK.out _ _ ?_ (fun hHeld => ?_)
        · (try dsimp only); go_keep
        clear hK K
        refine wpAnyH_take (i := 8) (v := ?_) rfl (by kernel_rfl) (by kernel_rfl) (by kernel_rfl) (fun _ _ _ h => h) (Or.inl ⟨by rfl, ?_⟩) (by assumption) ?_
        rotate_left
        · intro wq hSw; (try dsimp only at hSw); go_simp; (try with_reducible rfl)
        simp only [Act.put]
        refine wpAnyH_ready (rs := [1, 9]) (by kernel_rfl) (by simp) ?_
        refine AllReadyH.cons rfl (fun K hK => ?_) ?_
        · skip
          go_simp
          refine hK.out _ _ ?_ (fun hHeld => ?_)
          · (try dsimp only); go_keep
          clear hK K
          refine wpAnyH_ready (rs := [9]) (by kernel_rfl) (by simp) ?_
          refine AllReadyH.cons rfl (fun K hK => ?_) ?_
          · skip
            go_simp
            refine hK.out _ _ ?_ (fun hHeld => ?_)
            · (try dsimp only); go_keep
            clear hK K
            refine wpAnyH_ready (rs := [10]) (by kernel_rfl) (by simp) ?_
            refine AllReadyH.cons rfl (fun K hK => ?_) ?_
            · skip
              have hov := (HOV.out.on b3).alloc (.cells #[.slice A1 ne c1x, .int .i64 t] 62)
              have ho1 := own_alloc (own_mono o3 hBV) (.cells #[.slice A1 ne c1x, .int .i64 t] 62)
              have hc0 : (w3.alloc (.cells #[.slice A1 ne c1x, .int .i64 t] 62)).cell? ⟨w3.heap.size, 0, none⟩ = some (.slice A1 ys.length c1x) := by rw [HYL.out]; simp
              have hc1 : (w3.alloc (.cells #[.slice A1 ne c1x, .int .i64 t] 62)).cell? ⟨w3.heap.size, 1, none⟩ = some (.int .i64 t) := by simp
              have ho2 : Own (w3.alloc (.cells #[.slice A1 ne c1x, .int .i64 t] 62)) w1.heap.size A1 ys.length c1x ys := by rw [HYL.out]; exact ho1
              have hbs3 : w1.heap.size ≤ (w3.alloc (.cells #[.slice A1 ne c1x, .int .i64 t] 62)).heap.size := by simp; omega
              have hfar : ∀ a, A1 = some a → V.heap.size ≤ a.block := fun a ha => (own_ge o3 a ha).1
              have hz3 : w.heap.size + 1 < (w3.alloc (.cells #[.slice A1 ne c1x, .int .i64 t] 62)).heap.size := by simp; omega
              have hq3 : q < (w3.alloc (.cells #[.slice A1 ne c1x, .int .i64 t] 62)).heap.size := by simp; omega
              have y0 := (World.cell?_alloc_past (w := w3) (.cells #[.slice A1 ne c1x, .int .i64 t] 62) (w.heap.size + 1) 0 hv3).trans e0
              have y1 := (World.cell?_alloc_past (w := w3) (.cells #[.slice A1 ne c1x, .int .i64 t] 62) (w.heap.size + 1) 1 hv3).trans e1
              have y2 := (World.cell?_alloc_past (w := w3) (.cells #[.slice A1 ne c1x, .int .i64 t] 62) q 1 hw3).trans e2
              have y4 := (World.cell?_alloc_past (w := w3) (.cells #[.slice A1 ne c1x, .int .i64 t] 62) q 0 hw3).trans e4
              have yf := (World.frozen?_alloc_past (w := w3) (.cells #[.slice A1 ne c1x, .int .i64 t] 62) q 1 hw3).trans ef
              refine step_apV (w3.alloc (.cells #[.slice A1 ne c1x, .int .i64 t] 62)) rfl (.tmp 14) (.tmp 22) rfl w1.heap.size A2 n c2 G C (rk vs) (ct vs) rfl hov A1 c1x ys t w3.heap.size 1 rfl hc0 hc1 ho2 V.heap.size HINV.out hfar hk20 hbs3 ?_
              intro A4 c4 w4 o4 g4 p4
              have f0 := far_cell g4 hz3 HNV.out y0
              have f1 := far_cell g4 hz3 HNV.out y1
              have f2 := far_cell g4 hq3 HNQ.out y2
              have f4 := far_cell g4 hq3 HNQ.out y4
              have ff := far_frozen g4 hq3 HNQ.out yf
              have hbl4 : Below w1.heap.size V w4 := below_apV ((((Below.drew (Below.refl _ _)).trans b3).mono hBV).alloc (by omega) (.cells #[.slice A1 ne c1x, .int .i64 t] 62)) hov g4 hbs3
              have hsz4 : w3.heap.size < w4.heap.size := by have := g4.size; simp at this; omega
              have ho5 := o4.mid (Mid.setCell (p := ⟨q, 1, none⟩) (lo := q) (hi := q + 1) w4 ⟨Nat.le_refl q, Nat.lt_succ_self q⟩ (.slice A4 (n + 1) c4)) (fun a ha => by
                rcases p4 with e | e
                · rw [ha] at e; obtain ⟨a0, h0, h2⟩ := map_block e; have h2 : a0.block = a.block := h2; have := HIN.out.1 a0 h0; left; omega
                · rw [ha] at e; injection e with e; right; have h9 : a.block = w3.heap.size + 1 := by simpa using e
                  omega) (fun j hj a ha => by
                by_cases ej : j = n
                · subst ej; simp only [if_true] at ha; have := hfar a ha; right; omega
                · simp only [if_neg ej] at ha; have := HIN.out.2 j (by omega) a ha; left; omega)
              have u0 : (w4.setCell ⟨q, 1, none⟩ (.slice A4 (n + 1) c4)).cell? ⟨q, 0, none⟩ = some (.int .i64 m) := by simp [go_sem, f4]
              have u1 : (w4.setCell ⟨q, 1, none⟩ (.slice A4 (n + 1) c4)).cell? ⟨q, 1, none⟩ = some (.slice A4 (n + 1) c4) := by simp [go_sem, f2]
              have hb5 : Below w1.heap.size V (w4.setCell ⟨q, 1, none⟩ (.slice A4 (n + 1) c4)) := hbl4.setCell (by show w1.heap.size ≤ q; omega) _
              have U0 := Lib.hid u0; have U1 := Lib.hid u1; have HO5 := Lib.hid ho5; have HB5 := Lib.hid hb5
              have hq5 : q < (w4.setCell ⟨q, 1, none⟩ (.slice A4 (n + 1) c4)).heap.size := by simp; omega
              have HQ5 := Lib.hid hq5
              clear u0 u1 ho5 hb5 hq5 hov ho1 hc0 hc1 ho2 hbs3 hfar hz3 hq3 y0 y1 y2 y4 yf o4 g4 p4
              refine hK.out _ _ ?_ (fun hHeld => ?_)
              · (try dsimp only); go_keep
              clear hK K
              refine wpAnyH_take (i := 11) (v := ?_) rfl (by kernel_rfl) (by kernel_rfl) (by kernel_rfl) (fun _ _ _ h => h) (Or.inl ⟨by rfl, ?_⟩) (by assumption) ?_
              rotate_left
              · intro wq hSw; (try dsimp only at hSw); go_simp; (try with_reducible rfl)
              simp only [Act.put]
              refine wpAnyH_ready (rs := [12]) (by kernel_rfl) (by simp) ?_
              refine AllReadyH.cons rfl (fun K hK => ?_) ?_
              · skip
                go_simp
                refine hK.out _ _ ?_ (fun hHeld => ?_)
                · (try dsimp only); go_keep
                clear hK K
                refine wpAnyH_done (by kernel_rfl) ?_ _
                go_simp
                go_wp2_with fail
                go_meet
                exact ⟨A4, c4, _, _, rfl, HO5.out, U0.out, U1.out, HB5.out, HQ5.out⟩
              exact AllReadyH.nil
            exact AllReadyH.nil
          exact AllReadyH.nil
        refine AllReadyH.cons rfl (fun K hK => ?_) ?_
        · skip
          go_simp
          refine hK.out _ _ ?_ (fun hHeld => ?_)
          · (try dsimp only); go_keep
          clear hK K
          refine wpAnyH_ready (rs := [1]) (by kernel_rfl) (by simp) ?_
          refine AllReadyH.cons rfl (fun K hK => ?_) ?_
          · skip
            go_simp
            refine hK.out _ _ ?_ (fun hHeld => ?_)
            · (try dsimp only); go_keep
            clear hK K
            refine wpAnyH_ready (rs := [10]) (by kernel_rfl) (by simp) ?_
            refine AllReadyH.cons rfl (fun K hK => ?_) ?_
            · skip
              have hov := (HOV.out.on b3).alloc (.cells #[.slice A1 ne c1x, .int .i64 t] 62)
              have ho1 := own_alloc (own_mono o3 hBV) (.cells #[.slice A1 ne c1x, .int .i64 t] 62)
              have hc0 : (w3.alloc (.cells #[.slice A1 ne c1x, .int .i64 t] 62)).cell? ⟨w3.heap.size, 0, none⟩ = some (.slice A1 ys.length c1x) := by rw [HYL.out]; simp
              have hc1 : (w3.alloc (.cells #[.slice A1 ne c1x, .int .i64 t] 62)).cell? ⟨w3.heap.size, 1, none⟩ = some (.int .i64 t) := by simp
              have ho2 : Own (w3.alloc (.cells #[.slice A1 ne c1x, .int .i64 t] 62)) w1.heap.size A1 ys.length c1x ys := by rw [HYL.out]; exact ho1
              have hbs3 : w1.heap.size ≤ (w3.alloc (.cells #[.slice A1 ne c1x, .int .i64 t] 62)).heap.size := by simp; omega
              have hfar : ∀ a, A1 = some a → V.heap.size ≤ a.block := fun a ha => (own_ge o3 a ha).1
              have hz3 : w.heap.size + 1 < (w3.alloc (.cells #[.slice A1 ne c1x, .int .i64 t] 62)).heap.size := by simp; omega
              have hq3 : q < (w3.alloc (.cells #[.slice A1 ne c1x, .int .i64 t] 62)).heap.size := by simp; omega
              have y0 := (World.cell?_alloc_past (w := w3) (.cells #[.slice A1 ne c1x, .int .i64 t] 62) (w.heap.size + 1) 0 hv3).trans e0
              have y1 := (World.cell?_alloc_past (w := w3) (.cells #[.slice A1 ne c1x, .int .i64 t] 62) (w.heap.size + 1) 1 hv3).trans e1
              have y2 := (World.cell?_alloc_past (w := w3) (.cells #[.slice A1 ne c1x, .int .i64 t] 62) q 1 hw3).trans e2
              have y4 := (World.cell?_alloc_past (w := w3) (.cells #[.slice A1 ne c1x, .int .i64 t] 62) q 0 hw3).trans e4
              have yf := (World.frozen?_alloc_past (w := w3) (.cells #[.slice A1 ne c1x, .int .i64 t] 62) q 1 hw3).trans ef
              refine step_apV (w3.alloc (.cells #[.slice A1 ne c1x, .int .i64 t] 62)) rfl (.tmp 14) (.tmp 22) rfl w1.heap.size A2 n c2 G C (rk vs) (ct vs) rfl hov A1 c1x ys t w3.heap.size 1 rfl hc0 hc1 ho2 V.heap.size HINV.out hfar hk20 hbs3 ?_
              intro A4 c4 w4 o4 g4 p4
              have f0 := far_cell g4 hz3 HNV.out y0
              have f1 := far_cell g4 hz3 HNV.out y1
              have f2 := far_cell g4 hq3 HNQ.out y2
              have f4 := far_cell g4 hq3 HNQ.out y4
              have ff := far_frozen g4 hq3 HNQ.out yf
              have hbl4 : Below w1.heap.size V w4 := below_apV ((((Below.drew (Below.refl _ _)).trans b3).mono hBV).alloc (by omega) (.cells #[.slice A1 ne c1x, .int .i64 t] 62)) hov g4 hbs3
              have hsz4 : w3.heap.size < w4.heap.size := by have := g4.size; simp at this; omega
              have ho5 := o4.mid (Mid.setCell (p := ⟨q, 1, none⟩) (lo := q) (hi := q + 1) w4 ⟨Nat.le_refl q, Nat.lt_succ_self q⟩ (.slice A4 (n + 1) c4)) (fun a ha => by
                rcases p4 with e | e
                · rw [ha] at e; obtain ⟨a0, h0, h2⟩ := map_block e; have h2 : a0.block = a.block := h2; have := HIN.out.1 a0 h0; left; omega
                · rw [ha] at e; injection e with e; right; have h9 : a.block = w3.heap.size + 1 := by simpa using e
                  omega) (fun j hj a ha => by
                by_cases ej : j = n
                · subst ej; simp only [if_true] at ha; have := hfar a ha; right; omega
                · simp only [if_neg ej] at ha; have := HIN.out.2 j (by omega) a ha; left; omega)
              have u0 : (w4.setCell ⟨q, 1, none⟩ (.slice A4 (n + 1) c4)).cell? ⟨q, 0, none⟩ = some (.int .i64 m) := by simp [go_sem, f4]
              have u1 : (w4.setCell ⟨q, 1, none⟩ (.slice A4 (n + 1) c4)).cell? ⟨q, 1, none⟩ = some (.slice A4 (n + 1) c4) := by simp [go_sem, f2]
              have hb5 : Below w1.heap.size V (w4.setCell ⟨q, 1, none⟩ (.slice A4 (n + 1) c4)) := hbl4.setCell (by show w1.heap.size ≤ q; omega) _
              have U0 := Lib.hid u0; have U1 := Lib.hid u1; have HO5 := Lib.hid ho5; have HB5 := Lib.hid hb5
              have hq5 : q < (w4.setCell ⟨q, 1, none⟩ (.slice A4 (n + 1) c4)).heap.size := by simp; omega
              have HQ5 := Lib.hid hq5
              clear u0 u1 ho5 hb5 hq5 hov ho1 hc0 hc1 ho2 hbs3 hfar hz3 hq3 y0 y1 y2 y4 yf o4 g4 p4
              refine hK.out _ _ ?_ (fun hHeld => ?_)
              · (try dsimp only); go_keep
              clear hK K
              refine wpAnyH_take (i := 11) (v := ?_) rfl (by kernel_rfl) (by kernel_rfl) (by kernel_rfl) (fun _ _ _ h => h) (Or.inl ⟨by rfl, ?_⟩) (by assumption) ?_
              rotate_left
              · intro wq hSw; (try dsimp only at hSw); go_simp; (try with_reducible rfl)
              simp only [Act.put]
              refine wpAnyH_ready (rs := [12]) (by kernel_rfl) (by simp) ?_
              refine AllReadyH.cons rfl (fun K hK => ?_) ?_
              · skip
                go_simp
                refine hK.out _ _ ?_ (fun hHeld => ?_)
                · (try dsimp only); go_keep
                clear hK K
                refine wpAnyH_done (by kernel_rfl) ?_ _
                go_simp
                go_wp2_with fail
                go_meet
                exact ⟨A4, c4, _, _, rfl, HO5.out, U0.out, U1.out, HB5.out, HQ5.out⟩
              exact AllReadyH.nil
            exact AllReadyH.nil
          exact AllReadyH.nil
        exact AllReadyH.nil
      exact AllReadyH.nil
    exact AllReadyH.nil
  case rest =>
    obtain ⟨A4, c4, G4, C4, rfl, oo, z0, z1, hb5, hq5⟩ := hcut
    obtain ⟨n2, hn2⟩ : ∃ n2, n2 = n + 1 := ⟨_, rfl⟩
    rw [← hn2] at oo z1
    have hadd : (addV vs ys t).length = n2 := by rw [addV_len, hn2, HL.out]
    have hvv : Votes wc A4 n2 (addV vs ys t) := oo.votes hadd (fun k hk => addV_rk HL.out ys t (by omega)) (fun k hk => addV_ct HL.out ys t (by omega))
    have hn22 : (n2 : Int) ≤ 1048576 := by omega
    have hm2 : ∀ j, j < n2 → (rl (addV vs ys t) j : Int) ≤ 1048576 := fun j hj => by
      have e := addV_rk HL.out ys t (j := j) (by omega)
      have e2 : rl (addV vs ys t) j = (rk (addV vs ys t) j).length := rfl
      rw [e2, ← e]
      by_cases ej : j = n
      · rw [if_pos ej, HYL.out]; exact hne
      · rw [if_neg ej]; exact HM.out j (by omega)
    have HM2 := Lib.hid hm2
    have oo2 := oo.congr (fun k hk => addV_rk HL.out ys t (by omega)) (fun k hk => addV_ct HL.out ys t (by omega))
    have bl5 : Below w.heap.size w wc := bV.trans (hb5.mono (by omega))
    have hrV : w.heap.size + 1 + 1 < wc.heap.size := by omega
    replace r0 := (hb5.cell (p := ⟨w.heap.size + 1 + 1, 0, none⟩) (by show w.heap.size + 1 + 1 < w1.heap.size; omega)).trans r0
    replace r1 := (hb5.cell (p := ⟨w.heap.size + 1 + 1, 1, none⟩) (by show w.heap.size + 1 + 1 < w1.heap.size; omega)).trans r1
    replace rf0 := (hb5.frozen (p := ⟨w.heap.size + 1 + 1, 0, none⟩) (by show w.heap.size + 1 + 1 < w1.heap.size; omega)).trans rf0
    replace rf1 := (hb5.frozen (p := ⟨w.heap.size + 1 + 1, 1, none⟩) (by show w.heap.size + 1 + 1 < w1.heap.size; omega)).trans rf1
    have HO := Lib.hid oo2
    clear hm2 oo oo2 hadd hb5
    rw [← hn2]
    have HN2 := Lib.hid hn2; clear hn2
    go_wp2_with fail
    refine (specProfileOk m A4 n2 c4 _ _ hvv hn22 HM2.out).mono ?_; rintro e w6 ⟨rfl, b6⟩
    rw [HQ.out]
    have bl6 := Below.on bl5 b6
    replace r0 := (b6.cell (p := ⟨w.heap.size + 1 + 1, 0, none⟩) hrV).trans r0
    replace r1 := (b6.cell (p := ⟨w.heap.size + 1 + 1, 1, none⟩) hrV).trans r1
    replace rf0 := (b6.frozen (p := ⟨w.heap.size + 1 + 1, 0, none⟩) hrV).trans rf0
    replace rf1 := (b6.frozen (p := ⟨w.heap.size + 1 + 1, 1, none⟩) hrV).trans rf1
    have z0 := (b6.cell (p := ⟨q, 0, none⟩) hq5).trans z0
    have z1 := (b6.cell (p := ⟨q, 1, none⟩) hq5).trans z1
    have HO6 := Lib.hid (HO.out.on b6)
    clear b6 hvv
    go_wp2_with fail
    exact bodyPost_ret (v := .tuple #[.agg #[.int .i64 0, .slice none 0 0], .bool false]) (by simp [results, Try.results42, go_sem, r0, r1]) rfl ⟨rfl, (bl6.setCell (by show w.heap.size ≤ w.heap.size + 1 + 1; omega) _).setCell (by show w.heap.size ≤ w.heap.size + 1 + 1; omega) _⟩

set_option maxHeartbeats 8000000 in
theorem specAddVoteT (m : Int) (A : Option Addr) (n c : Nat) (vs : List (List Int × Int)) (E : Option Addr) (ne ce : Nat) (ys : List Int) (t : Int) (w : World) (h : Votes w A n vs) (hn : (n : Int) ≤ 1048576) (hm : ∀ j, j < n → (rl vs j : Int) ≤ 1048576) (hy : Ints w E ne ys) (hne : (ne : Int) ≤ 1048576) (hp : profP m vs = true) (hq : profP m (addV vs ys t) = true) :
    Calls Try.prog 42 #[.agg #[.int .i64 m, .slice A n c], .agg #[.slice E ne ce, .int .i64 t]] w fun e w' => ∃ A' c' G C, e = .returned (.tuple #[.agg #[.int .i64 m, .slice A' (n + 1) c'], .bool true]) ∧ OwnV w' w.heap.size A' (n + 1) c' G C (rk (addV vs ys t)) (ct (addV vs ys t)) ∧ Below w.heap.size w w' := by
  have HP := Lib.hid hp; have HQ := Lib.hid hq
  have hn24 := (of_prof hp).2.1
  have HL := Lib.hid h.1
  have hnn : n ≤ 24 := by have := HL.out; omega
  clear hp hq hn24
  have HM := Lib.hid hm; clear hm
  have bl : Below w.heap.size w (((w.alloc (.cells #[.int .i64 m, .slice A n c] 40)).alloc (.cells #[.slice E ne ce, .int .i64 t] 62)).alloc (.cells #[.int .i64 0, .slice none 0 0] 40)) := (((Below.refl _ _).alloc (Nat.le_refl _) _).alloc (by simp) _).alloc (by simp; omega) _
  have k0 : (((w.alloc (.cells #[.int .i64 m, .slice A n c] 40)).alloc (.cells #[.slice E ne ce, .int .i64 t] 62)).alloc (.cells #[.int .i64 0, .slice none 0 0] 40)).cell? ⟨w.heap.size, 0, none⟩ = some (.int .i64 m) := by simp [go_sem]
  have k1 : (((w.alloc (.cells #[.int .i64 m, .slice A n c] 40)).alloc (.cells #[.slice E ne ce, .int .i64 t] 62)).alloc (.cells #[.int .i64 0, .slice none 0 0] 40)).cell? ⟨w.heap.size, 1, none⟩ = some (.slice A n c) := by simp [go_sem]
  have v0 : (((w.alloc (.cells #[.int .i64 m, .slice A n c] 40)).alloc (.cells #[.slice E ne ce, .int .i64 t] 62)).alloc (.cells #[.int .i64 0, .slice none 0 0] 40)).cell? ⟨w.heap.size + 1, 0, none⟩ = some (.slice E ne ce) := by simp [go_sem]
  have v1 : (((w.alloc (.cells #[.int .i64 m, .slice A n c] 40)).alloc (.cells #[.slice E ne ce, .int .i64 t] 62)).alloc (.cells #[.int .i64 0, .slice none 0 0] 40)).cell? ⟨w.heap.size + 1, 1, none⟩ = some (.int .i64 t) := by simp [go_sem]
  have r0 : (((w.alloc (.cells #[.int .i64 m, .slice A n c] 40)).alloc (.cells #[.slice E ne ce, .int .i64 t] 62)).alloc (.cells #[.int .i64 0, .slice none 0 0] 40)).cell? ⟨w.heap.size + 1 + 1, 0, none⟩ = some (.int .i64 0) := by simp [go_sem]
  have r1 : (((w.alloc (.cells #[.int .i64 m, .slice A n c] 40)).alloc (.cells #[.slice E ne ce, .int .i64 t] 62)).alloc (.cells #[.int .i64 0, .slice none 0 0] 40)).cell? ⟨w.heap.size + 1 + 1, 1, none⟩ = some (.slice none 0 0) := by simp [go_sem]
  have rf0 : (((w.alloc (.cells #[.int .i64 m, .slice A n c] 40)).alloc (.cells #[.slice E ne ce, .int .i64 t] 62)).alloc (.cells #[.int .i64 0, .slice none 0 0] 40)).frozen? ⟨w.heap.size + 1 + 1, 0, none⟩ = false := by simp [go_sem]
  have rf1 : (((w.alloc (.cells #[.int .i64 m, .slice A n c] 40)).alloc (.cells #[.slice E ne ce, .int .i64 t] 62)).alloc (.cells #[.int .i64 0, .slice none 0 0] 40)).frozen? ⟨w.heap.size + 1 + 1, 1, none⟩ = false := by simp [go_sem]
  have sr : w.heap.size + 1 + 1 < (((w.alloc (.cells #[.int .i64 m, .slice A n c] 40)).alloc (.cells #[.slice E ne ce, .int .i64 t] 62)).alloc (.cells #[.int .i64 0, .slice none 0 0] 40)).heap.size := by simp
  have hV := h.on bl
  go_enter Try.func42, Try.ntmps42
  go_wp2_with fail
  have sk : w.heap.size < (((w.alloc (.cells #[.int .i64 m, .slice A n c] 40)).alloc (.cells #[.slice E ne ce, .int .i64 t] 62)).alloc (.cells #[.int .i64 0, .slice none 0 0] 40)).heap.size := by omega
  have sv : w.heap.size + 1 < (((w.alloc (.cells #[.int .i64 m, .slice A n c] 40)).alloc (.cells #[.slice E ne ce, .int .i64 t] 62)).alloc (.cells #[.int .i64 0, .slice none 0 0] 40)).heap.size := by omega
  refine (specProfileOk m A n c vs _ hV hn HM.out).mono ?_; rintro e w1 ⟨rfl, b1⟩
  rw [HP.out]
  have hV1 := hV.on b1
  have bl1 := Below.on bl b1
  have hy1 := hy.on bl1
  replace k0 := (b1.cell (p := ⟨w.heap.size, 0, none⟩) sk).trans k0
  replace k1 := (b1.cell (p := ⟨w.heap.size, 1, none⟩) sk).trans k1
  replace v0 := (b1.cell (p := ⟨w.heap.size + 1, 0, none⟩) sv).trans v0
  replace v1 := (b1.cell (p := ⟨w.heap.size + 1, 1, none⟩) sv).trans v1
  replace r0 := (b1.cell (p := ⟨w.heap.size + 1 + 1, 0, none⟩) sr).trans r0
  replace r1 := (b1.cell (p := ⟨w.heap.size + 1 + 1, 1, none⟩) sr).trans r1
  replace rf0 := (b1.frozen (p := ⟨w.heap.size + 1 + 1, 0, none⟩) sr).trans rf0
  replace rf1 := (b1.frozen (p := ⟨w.heap.size + 1 + 1, 1, none⟩) sr).trans rf1
  replace sk := Nat.lt_of_lt_of_le sk b1.size
  replace sv := Nat.lt_of_lt_of_le sv b1.size
  replace sr := Nat.lt_of_lt_of_le sr b1.size
  have hw1q := sr
  clear b1 hV bl
  go_wp2_with fail
  refine (specL04Copy m A n c vs _ hV1 hn HM.out).mono ?_; rintro e w2 ⟨A2, c2, G, C, rfl, o2, b2⟩
  have bl2 := Below.on bl1 b2
  have hy2 := hy1.on b2
  have s2 := b2.size
  replace v0 := (b2.cell (p := ⟨w.heap.size + 1, 0, none⟩) sv).trans v0
  replace v1 := (b2.cell (p := ⟨w.heap.size + 1, 1, none⟩) sv).trans v1
  replace r0 := (b2.cell (p := ⟨w.heap.size + 1 + 1, 0, none⟩) sr).trans r0
  replace r1 := (b2.cell (p := ⟨w.heap.size + 1 + 1, 1, none⟩) sr).trans r1
  replace rf0 := (b2.frozen (p := ⟨w.heap.size + 1 + 1, 0, none⟩) sr).trans rf0
  replace rf1 := (b2.frozen (p := ⟨w.heap.size + 1 + 1, 1, none⟩) sr).trans rf1
  replace sk := Nat.lt_of_lt_of_le sk b2.size
  replace sv := Nat.lt_of_lt_of_le sv b2.size
  replace sr := Nat.lt_of_lt_of_le sr b2.size
  have bA : Below w2.heap.size w2 (w2.alloc (.cells #[.int .i64 m, .slice A2 n c2] 40)) := (Below.refl _ _).alloc (Nat.le_refl _) _
  have q0 : (w2.alloc (.cells #[.int .i64 m, .slice A2 n c2] 40)).cell? ⟨w2.heap.size, 0, none⟩ = some (.int .i64 m) := by simp
  have q1 : (w2.alloc (.cells #[.int .i64 m, .slice A2 n c2] 40)).cell? ⟨w2.heap.size, 1, none⟩ = some (.slice A2 n c2) := by simp
  have qf : (w2.alloc (.cells #[.int .i64 m, .slice A2 n c2] 40)).frozen? ⟨w2.heap.size, 1, none⟩ = false := by simp [go_sem]
  have sq : w2.heap.size < (w2.alloc (.cells #[.int .i64 m, .slice A2 n c2] 40)).heap.size := by simp
  have HIN := Lib.hid o2.inn
  have hqv1 : ¬ w.heap.size + 1 = w2.heap.size := by omega
  have hqv2 : ¬ w2.heap.size = w.heap.size + 1 := by omega
  have hqr : w.heap.size + 1 + 1 < w2.heap.size := sr
  have hrq1 : ¬ w.heap.size + 1 + 1 = w2.heap.size := by omega
  have hge := o2.ge
  have HGE := Lib.hid hge; clear hge
  replace v0 := (bA.cell (p := ⟨w.heap.size + 1, 0, none⟩) sv).trans v0
  replace v1 := (bA.cell (p := ⟨w.heap.size + 1, 1, none⟩) sv).trans v1
  replace r0 := (bA.cell (p := ⟨w.heap.size + 1 + 1, 0, none⟩) sr).trans r0
  replace r1 := (bA.cell (p := ⟨w.heap.size + 1 + 1, 1, none⟩) sr).trans r1
  replace rf0 := (bA.frozen (p := ⟨w.heap.size + 1 + 1, 0, none⟩) sr).trans rf0
  replace rf1 := (bA.frozen (p := ⟨w.heap.size + 1 + 1, 1, none⟩) sr).trans rf1
  replace sk := Nat.lt_of_lt_of_le sk bA.size
  replace sv := Nat.lt_of_lt_of_le sv bA.size
  replace sr := Nat.lt_of_lt_of_le sr bA.size
  have hyV := (hy2.on bA).drew
  have HOV := Lib.hid ((o2.on bA).on (Below.drew (Below.refl _ _)))
  have bV : Below w.heap.size w (w2.alloc (.cells #[.int .i64 m, .slice A2 n c2] 40)) := Below.on bl2 bA
  have hVA := h.on bV
  have HVA := Lib.hid hVA; clear hVA
  have HYL := Lib.hid hy.1
  have hne2 : ne ≤ 1099511627776 := by omega
  have hk20 : n ≤ 1048576 := by omega
  clear o2 b2 bl2 bA hy1 hy2 hV1
  go_wp2_with fail
  generalize w2.alloc (.cells #[.int .i64 m, .slice A2 n c2] 40) = V at *
  generalize w2.heap.size = q at *
  have hBV : w1.heap.size ≤ V.heap.size := by omega
  have HINV := Lib.hid (HIN.out.mono (Nat.le_of_lt sq))
  have HNV := Lib.hid (fun (a : Addr) (ha : A2 = some a) => show a.block ≠ w.heap.size + 1 by have := (HGE.out a ha).1; omega)
  have HNQ := Lib.hid (fun (a : Addr) (ha : A2 = some a) => Nat.ne_of_lt (HIN.out.1 a ha))
  go_upto_region 4 with fail
  go_cut [23] (fun u wx => ∃ A4 c4 G4 C4, u = .slice A4 (n + 1) c4 ∧ OwnV wx w1.heap.size A4 (n + 1) c4 G4 C4 (fun j => if j = n then ys else rk vs j) (fun j => if j = n then t else ct vs j) ∧ wx.cell? ⟨q, 0, none⟩ = some (.int .i64 m) ∧ wx.cell? ⟨q, 1, none⟩ = some (.slice A4 (n + 1) c4) ∧ Below w1.heap.size V wx ∧ q < wx.heap.size)
  case first =>
    refine wp_region_held_drew (S := (fun w' => w'.cell? ⟨w.heap.size + 1, 0, none⟩ = some (.slice E ne ce) ∧ w'.cell? ⟨w.heap.size + 1, 1, none⟩ = some (.int .i64 t))) (by kernel_rfl) ?_ (fun hHeld => ?_)
    · (try dsimp only); go_keep
    refine wpAnyH_take (i := 0) (v := ?_) rfl (by kernel_rfl) (by kernel_rfl) (by kernel_rfl) (fun _ _ _ h => h) (Or.inl ⟨by rfl, ?_⟩) (by assumption) ?_
    rotate_left
    · intro wq hSw; (try dsimp only at hSw); go_simp; (try with_reducible rfl)
    simp only [Act.put]
    refine wpAnyH_take (i := 3) (v := ?_) rfl (by kernel_rfl) (by kernel_rfl) (by kernel_rfl) (fun _ _ _ h => h) (Or.inl ⟨by rfl, ?_⟩) (by assumption) ?_
    rotate_left
    · intro wq hSw; (try dsimp only at hSw); go_simp; (try with_reducible rfl)
    simp only [Act.put]
    refine wpAnyH_take (i := 4) (v := ?_) rfl (by kernel_rfl) (by kernel_rfl) (by kernel_rfl) (fun _ _ _ h => h) (Or.inl ⟨by rfl, ?_⟩) (by assumption) ?_
    rotate_left
    · intro wq hSw; (try dsimp only at hSw); go_simp; (try with_reducible rfl)
    simp only [Act.put]
    refine wpAnyH_take (i := 6) (v := ?_) rfl (by kernel_rfl) (by kernel_rfl) (by kernel_rfl) (fun _ _ _ h => h) (Or.inl ⟨by rfl, ?_⟩) (by assumption) ?_
    rotate_left
    · intro wq hSw; (try dsimp only at hSw); go_simp; (try with_reducible rfl)
    simp only [Act.put]
    refine wpAnyH_take (i := 7) (v := ?_) rfl (by kernel_rfl) (by kernel_rfl) (by kernel_rfl) (fun _ _ _ h => h) (Or.inl ⟨by rfl, ?_⟩) (by assumption) ?_
    rotate_left
    · intro wq hSw; (try dsimp only at hSw); go_simp; (try with_reducible rfl)
    simp only [Act.put]
    refine wpAnyH_ready (rs := [1, 2]) (by kernel_rfl) (by simp) ?_
    refine AllReadyH.cons rfl (fun K hK => ?_) ?_
    · skip
      go_simp
      refine hK.out _ _ ?_ (fun hHeld => ?_)
      · (try dsimp only); go_keep
      clear hK K
      refine wpAnyH_ready (rs := [2]) (by kernel_rfl) (by simp) ?_
      refine AllReadyH.cons rfl (fun K hK => ?_) ?_
      · skip
        go_simp
        refine hK.out _ _ ?_ (fun hHeld => ?_)
        · (try dsimp only); go_keep
        clear hK K
        refine wpAnyH_ready (rs := [5]) (by kernel_rfl) (by simp) ?_
        refine AllReadyH.cons rfl (fun K hK => ?_) ?_
        · skip
          refine step_apnew V.drew rfl (.tmp 15) (.tmp 17) rfl rfl E ne ce ys rfl hyV hne2 ?_
          intro A1 c1x w3 o3 b3
          have b3x : Below V.heap.size V w3 := (Below.drew (Below.refl _ _)).trans b3
          have e0 := (b3x.cell (p := ⟨w.heap.size + 1, 0, none⟩) sv).trans v0
          have e1 := (b3x.cell (p := ⟨w.heap.size + 1, 1, none⟩) sv).trans v1
          have e2 := (b3x.cell (p := ⟨q, 1, none⟩) sq).trans q1
          have ef := (b3x.frozen (p := ⟨q, 1, none⟩) sq).trans qf
          have e4 := (b3x.cell (p := ⟨q, 0, none⟩) sq).trans q0
          have s3 := b3x.size
          have hw3 : q < w3.heap.size := by omega
          have hw4 : ¬ q = w3.heap.size := by omega
          have hv3 : w.heap.size + 1 < w3.heap.size := by omega
          clear b3x
          refine hK.out _ _ ?_ (fun hHeld => ?_)
          · (try dsimp only); go_keep
          clear hK K
          refine wpAnyH_take (i := 8) (v := ?_) rfl (by kernel_rfl) (by kernel_rfl) (by kernel_rfl) (fun _ _ _ h => h) (Or.inl ⟨by rfl, ?_⟩) (by assumption) ?_
          rotate_left
          · intro wq hSw; (try dsimp only at hSw); go_simp; (try with_reducible rfl)
          simp only [Act.put]
          refine wpAnyH_ready (rs := [9]) (by kernel_rfl) (by simp) ?_
          refine AllReadyH.cons rfl (fun K hK => ?_) ?_
          · skip
            go_simp
            refine hK.out _ _ ?_ (fun hHeld => ?_)
            · (try dsimp only); go_keep
            clear hK K
            refine wpAnyH_ready (rs := [10]) (by kernel_rfl) (by simp) ?_
            refine AllReadyH.cons rfl (fun K hK => ?_) ?_
            · skip
              have hov := (HOV.out.on b3).alloc (.cells #[.slice A1 ne c1x, .int .i64 t] 62)
              have ho1 := own_alloc (own_mono o3 hBV) (.cells #[.slice A1 ne c1x, .int .i64 t] 62)
              have hc0 : (w3.alloc (.cells #[.slice A1 ne c1x, .int .i64 t] 62)).cell? ⟨w3.heap.size, 0, none⟩ = some (.slice A1 ys.length c1x) := by rw [HYL.out]; simp
              have hc1 : (w3.alloc (.cells #[.slice A1 ne c1x, .int .i64 t] 62)).cell? ⟨w3.heap.size, 1, none⟩ = some (.int .i64 t) := by simp
              have ho2 : Own (w3.alloc (.cells #[.slice A1 ne c1x, .int .i64 t] 62)) w1.heap.size A1 ys.length c1x ys := by rw [HYL.out]; exact ho1
              have hbs3 : w1.heap.size ≤ (w3.alloc (.cells #[.slice A1 ne c1x, .int .i64 t] 62)).heap.size := by simp; omega
              have hfar : ∀ a, A1 = some a → V.heap.size ≤ a.block := fun a ha => (own_ge o3 a ha).1
              have hz3 : w.heap.size + 1 < (w3.alloc (.cells #[.slice A1 ne c1x, .int .i64 t] 62)).heap.size := by simp; omega
              have hq3 : q < (w3.alloc (.cells #[.slice A1 ne c1x, .int .i64 t] 62)).heap.size := by simp; omega
              have y0 := (World.cell?_alloc_past (w := w3) (.cells #[.slice A1 ne c1x, .int .i64 t] 62) (w.heap.size + 1) 0 hv3).trans e0
              have y1 := (World.cell?_alloc_past (w := w3) (.cells #[.slice A1 ne c1x, .int .i64 t] 62) (w.heap.size + 1) 1 hv3).trans e1
              have y2 := (World.cell?_alloc_past (w := w3) (.cells #[.slice A1 ne c1x, .int .i64 t] 62) q 1 hw3).trans e2
              have y4 := (World.cell?_alloc_past (w := w3) (.cells #[.slice A1 ne c1x, .int .i64 t] 62) q 0 hw3).trans e4
              have yf := (World.frozen?_alloc_past (w := w3) (.cells #[.slice A1 ne c1x, .int .i64 t] 62) q 1 hw3).trans ef
              refine step_apV (w3.alloc (.cells #[.slice A1 ne c1x, .int .i64 t] 62)) rfl (.tmp 14) (.tmp 22) rfl w1.heap.size A2 n c2 G C (rk vs) (ct vs) rfl hov A1 c1x ys t w3.heap.size 1 rfl hc0 hc1 ho2 V.heap.size HINV.out hfar hk20 hbs3 ?_
              intro A4 c4 w4 o4 g4 p4
              have f0 := far_cell g4 hz3 HNV.out y0
              have f1 := far_cell g4 hz3 HNV.out y1
              have f2 := far_cell g4 hq3 HNQ.out y2
              have f4 := far_cell g4 hq3 HNQ.out y4
              have ff := far_frozen g4 hq3 HNQ.out yf
              have hbl4 : Below w1.heap.size V w4 := below_apV ((((Below.drew (Below.refl _ _)).trans b3).mono hBV).alloc (by omega) (.cells #[.slice A1 ne c1x, .int .i64 t] 62)) hov g4 hbs3
              have hsz4 : w3.heap.size < w4.heap.size := by have := g4.size; simp at this; omega
              have ho5 := o4.mid (Mid.setCell (p := ⟨q, 1, none⟩) (lo := q) (hi := q + 1) w4 ⟨Nat.le_refl q, Nat.lt_succ_self q⟩ (.slice A4 (n + 1) c4)) (fun a ha => by
                rcases p4 with e | e
                · rw [ha] at e; obtain ⟨a0, h0, h2⟩ := map_block e; have h2 : a0.block = a.block := h2; have := HIN.out.1 a0 h0; left; omega
                · rw [ha] at e; injection e with e; right; have h9 : a.block = w3.heap.size + 1 := by simpa using e
                  omega) (fun j hj a ha => by
                by_cases ej : j = n
                · subst ej; simp only [if_true] at ha; have := hfar a ha; right; omega
                · simp only [if_neg ej] at ha; have := HIN.out.2 j (by omega) a ha; left; omega)
              have u0 : (w4.setCell ⟨q, 1, none⟩ (.slice A4 (n + 1) c4)).cell? ⟨q, 0, none⟩ = some (.int .i64 m) := by simp [go_sem, f4]
              have u1 : (w4.setCell ⟨q, 1, none⟩ (.slice A4 (n + 1) c4)).cell? ⟨q, 1, none⟩ = some (.slice A4 (n + 1) c4) := by simp [go_sem, f2]
              have hb5 : Below w1.heap.size V (w4.setCell ⟨q, 1, none⟩ (.slice A4 (n + 1) c4)) := hbl4.setCell (by show w1.heap.size ≤ q; omega) _
              have U0 := Lib.hid u0; have U1 := Lib.hid u1; have HO5 := Lib.hid ho5; have HB5 := Lib.hid hb5
              have hq5 : q < (w4.setCell ⟨q, 1, none⟩ (.slice A4 (n + 1) c4)).heap.size := by simp; omega
              have HQ5 := Lib.hid hq5
              clear u0 u1 ho5 hb5 hq5 hov ho1 hc0 hc1 ho2 hbs3 hfar hz3 hq3 y0 y1 y2 y4 yf o4 g4 p4
              refine hK.out _ _ ?_ (fun hHeld => ?_)
              · (try dsimp only); go_keep
              clear hK K
              refine wpAnyH_take (i := 11) (v := ?_) rfl (by kernel_rfl) (by kernel_rfl) (by kernel_rfl) (fun _ _ _ h => h) (Or.inl ⟨by rfl, ?_⟩) (by assumption) ?_
              rotate_left
              · intro wq hSw; (try dsimp only at hSw); go_simp; (try with_reducible rfl)
              simp only [Act.put]
              refine wpAnyH_ready (rs := [12]) (by kernel_rfl) (by simp) ?_
              refine AllReadyH.cons rfl (fun K hK => ?_) ?_
              · skip
                go_simp
                refine hK.out _ _ ?_ (fun hHeld => ?_)
                · (try dsimp only); go_keep
                clear hK K
                refine wpAnyH_done (by kernel_rfl) ?_ _
                go_simp
                go_wp2_with fail
                go_meet
                exact ⟨A4, c4, _, _, rfl, HO5.out, U0.out, U1.out, HB5.out, HQ5.out⟩
              exact AllReadyH.nil
            exact AllReadyH.nil
          exact AllReadyH.nil
        exact AllReadyH.nil
      exact AllReadyH.nil
    refine AllReadyH.cons rfl (fun K hK => ?_) ?_
    · skip
      go_simp
      refine hK.out _ _ ?_ (fun hHeld => ?_)
      · (try dsimp only); go_keep
      clear hK K
      refine wpAnyH_ready (rs := [1, 5]) (by kernel_rfl) (by simp) ?_
      refine AllReadyH.cons rfl (fun K hK => ?_) ?_
      · skip
        go_simp
        refine hK.out _ _ ?_ (fun hHeld => ?_)
        · (try dsimp only); go_keep
        clear hK K
        refine wpAnyH_ready (rs := [5]) (by kernel_rfl) (by simp) ?_
        refine AllReadyH.cons rfl (fun K hK => ?_) ?_
        · skip
          refine step_apnew V.drew rfl (.tmp 15) (.tmp 17) rfl rfl E ne ce ys rfl hyV hne2 ?_
          intro A1 c1x w3 o3 b3
          have b3x : Below V.heap.size V w3 := (Below.drew (Below.refl _ _)).trans b3
          have e0 := (b3x.cell (p := ⟨w.heap.size + 1, 0, none⟩) sv).trans v0
          have e1 := (b3x.cell (p := ⟨w.heap.size + 1, 1, none⟩) sv).trans v1
          have e2 := (b3x.cell (p := ⟨q, 1, none⟩) sq).trans q1
          have ef := (b3x.frozen (p := ⟨q, 1, none⟩) sq).trans qf
          have e4 := (b3x.cell (p := ⟨q, 0, none⟩) sq).trans q0
          have s3 := b3x.size
          have hw3 : q < w3.heap.size := by omega
          have hw4 : ¬ q = w3.heap.size := by omega
          have hv3 : w.heap.size + 1 < w3.heap.size := by omega
          clear b3x
          refine hK.out _ _ ?_ (fun hHeld => ?_)
          · (try dsimp only); go_keep
          clear hK K
          refine wpAnyH_take (i := 8) (v := ?_) rfl (by kernel_rfl) (by kernel_rfl) (by kernel_rfl) (fun _ _ _ h => h) (Or.inl ⟨by rfl, ?_⟩) (by assumption) ?_
          rotate_left
          · intro wq hSw; (try dsimp only at hSw); go_simp; (try with_reducible rfl)
          simp only [Act.put]
          refine wpAnyH_ready (rs := [9]) (by kernel_rfl) (by simp) ?_
          refine AllReadyH.cons rfl (fun K hK => ?_) ?_
          · skip
            go_simp
            refine hK.out _ _ ?_ (fun hHeld => ?_)
            · (try dsimp only); go_keep
            clear hK K
            refine wpAnyH_ready (rs := [10]) (by kernel_rfl) (by simp) ?_
            refine AllReadyH.cons rfl (fun K hK => ?_) ?_
            · skip
              have hov := (HOV.out.on b3).alloc (.cells #[.slice A1 ne c1x, .int .i64 t] 62)
              have ho1 := own_alloc (own_mono o3 hBV) (.cells #[.slice A1 ne c1x, .int .i64 t] 62)
              have hc0 : (w3.alloc (.cells #[.slice A1 ne c1x, .int .i64 t] 62)).cell? ⟨w3.heap.size, 0, none⟩ = some (.slice A1 ys.length c1x) := by rw [HYL.out]; simp
              have hc1 : (w3.alloc (.cells #[.slice A1 ne c1x, .int .i64 t] 62)).cell? ⟨w3.heap.size, 1, none⟩ = some (.int .i64 t) := by simp
              have ho2 : Own (w3.alloc (.cells #[.slice A1 ne c1x, .int .i64 t] 62)) w1.heap.size A1 ys.length c1x ys := by rw [HYL.out]; exact ho1
              have hbs3 : w1.heap.size ≤ (w3.alloc (.cells #[.slice A1 ne c1x, .int .i64 t] 62)).heap.size := by simp; omega
              have hfar : ∀ a, A1 = some a → V.heap.size ≤ a.block := fun a ha => (own_ge o3 a ha).1
              have hz3 : w.heap.size + 1 < (w3.alloc (.cells #[.slice A1 ne c1x, .int .i64 t] 62)).heap.size := by simp; omega
              have hq3 : q < (w3.alloc (.cells #[.slice A1 ne c1x, .int .i64 t] 62)).heap.size := by simp; omega
              have y0 := (World.cell?_alloc_past (w := w3) (.cells #[.slice A1 ne c1x, .int .i64 t] 62) (w.heap.size + 1) 0 hv3).trans e0
              have y1 := (World.cell?_alloc_past (w := w3) (.cells #[.slice A1 ne c1x, .int .i64 t] 62) (w.heap.size + 1) 1 hv3).trans e1
              have y2 := (World.cell?_alloc_past (w := w3) (.cells #[.slice A1 ne c1x, .int .i64 t] 62) q 1 hw3).trans e2
              have y4 := (World.cell?_alloc_past (w := w3) (.cells #[.slice A1 ne c1x, .int .i64 t] 62) q 0 hw3).trans e4
              have yf := (World.frozen?_alloc_past (w := w3) (.cells #[.slice A1 ne c1x, .int .i64 t] 62) q 1 hw3).trans ef
              refine step_apV (w3.alloc (.cells #[.slice A1 ne c1x, .int .i64 t] 62)) rfl (.tmp 14) (.tmp 22) rfl w1.heap.size A2 n c2 G C (rk vs) (ct vs) rfl hov A1 c1x ys t w3.heap.size 1 rfl hc0 hc1 ho2 V.heap.size HINV.out hfar hk20 hbs3 ?_
              intro A4 c4 w4 o4 g4 p4
              have f0 := far_cell g4 hz3 HNV.out y0
              have f1 := far_cell g4 hz3 HNV.out y1
              have f2 := far_cell g4 hq3 HNQ.out y2
              have f4 := far_cell g4 hq3 HNQ.out y4
              have ff := far_frozen g4 hq3 HNQ.out yf
              have hbl4 : Below w1.heap.size V w4 := below_apV ((((Below.drew (Below.refl _ _)).trans b3).mono hBV).alloc (by omega) (.cells #[.slice A1 ne c1x, .int .i64 t] 62)) hov g4 hbs3
              have hsz4 : w3.heap.size < w4.heap.size := by have := g4.size; simp at this; omega
              have ho5 := o4.mid (Mid.setCell (p := ⟨q, 1, none⟩) (lo := q) (hi := q + 1) w4 ⟨Nat.le_refl q, Nat.lt_succ_self q⟩ (.slice A4 (n + 1) c4)) (fun a ha => by
                rcases p4 with e | e
                · rw [ha] at e; obtain ⟨a0, h0, h2⟩ := map_block e; have h2 : a0.block = a.block := h2; have := HIN.out.1 a0 h0; left; omega
                · rw [ha] at e; injection e with e; right; have h9 : a.block = w3.heap.size + 1 := by simpa using e
                  omega) (fun j hj a ha => by
                by_cases ej : j = n
                · subst ej; simp only [if_true] at ha; have := hfar a ha; right; omega
                · simp only [if_neg ej] at ha; have := HIN.out.2 j (by omega) a ha; left; omega)
              have u0 : (w4.setCell ⟨q, 1, none⟩ (.slice A4 (n + 1) c4)).cell? ⟨q, 0, none⟩ = some (.int .i64 m) := by simp [go_sem, f4]
              have u1 : (w4.setCell ⟨q, 1, none⟩ (.slice A4 (n + 1) c4)).cell? ⟨q, 1, none⟩ = some (.slice A4 (n + 1) c4) := by simp [go_sem, f2]
              have hb5 : Below w1.heap.size V (w4.setCell ⟨q, 1, none⟩ (.slice A4 (n + 1) c4)) := hbl4.setCell (by show w1.heap.size ≤ q; omega) _
              have U0 := Lib.hid u0; have U1 := Lib.hid u1; have HO5 := Lib.hid ho5; have HB5 := Lib.hid hb5
              have hq5 : q < (w4.setCell ⟨q, 1, none⟩ (.slice A4 (n + 1) c4)).heap.size := by simp; omega
              have HQ5 := Lib.hid hq5
              clear u0 u1 ho5 hb5 hq5 hov ho1 hc0 hc1 ho2 hbs3 hfar hz3 hq3 y0 y1 y2 y4 yf o4 g4 p4
              refine hK.out _ _ ?_ (fun hHeld => ?_)
              · (try dsimp only); go_keep
              clear hK K
              refine wpAnyH_take (i := 11) (v := ?_) rfl (by kernel_rfl) (by kernel_rfl) (by kernel_rfl) (fun _ _ _ h => h) (Or.inl ⟨by rfl, ?_⟩) (by assumption) ?_
              rotate_left
              · intro wq hSw; (try dsimp only at hSw); go_simp; (try with_reducible rfl)
              simp only [Act.put]
              refine wpAnyH_ready (rs := [12]) (by kernel_rfl) (by simp) ?_
              refine AllReadyH.cons rfl (fun K hK => ?_) ?_
              · skip
                go_simp
                refine hK.out _ _ ?_ (fun hHeld => ?_)
                · (try dsimp only); go_keep
                clear hK K
                refine wpAnyH_done (by kernel_rfl) ?_ _
                go_simp
                go_wp2_with fail
                go_meet
                exact ⟨A4, c4, _, _, rfl, HO5.out, U0.out, U1.out, HB5.out, HQ5.out⟩
              exact AllReadyH.nil
            exact AllReadyH.nil
          exact AllReadyH.nil
        exact AllReadyH.nil
      refine AllReadyH.cons rfl (fun K hK => ?_) ?_
      · skip
        refine step_apnew V.drew rfl (.tmp 15) (.tmp 17) rfl rfl E ne ce ys rfl hyV hne2 ?_
        intro A1 c1x w3 o3 b3
        have b3x : Below V.heap.size V w3 := (Below.drew (Below.refl _ _)).trans b3
        have e0 := (b3x.cell (p := ⟨w.heap.size + 1, 0, none⟩) sv).trans v0
        have e1 := (b3x.cell (p := ⟨w.heap.size + 1, 1, none⟩) sv).trans v1
        have e2 := (b3x.cell (p := ⟨q, 1, none⟩) sq).trans q1
        have ef := (b3x.frozen (p := ⟨q, 1, none⟩) sq).trans qf
        have e4 := (b3x.cell (p := ⟨q, 0, none⟩) sq).trans q0
        have s3 := b3x.size
        have hw3 : q < w3.heap.size := by omega
        have hw4 : ¬ q = w3.heap.size := by omega
        have hv3 : w.heap.size + 1 < w3.heap.size := by omega
        clear b3x
        refine hK.out _ _ ?_ (fun hHeld => ?_)
        · (try dsimp only); go_keep
        clear hK K
        refine wpAnyH_take (i := 8) (v := ?_) rfl (by kernel_rfl) (by kernel_rfl) (by kernel_rfl) (fun _ _ _ h => h) (Or.inl ⟨by rfl, ?_⟩) (by assumption) ?_
        rotate_left
        · intro wq hSw; (try dsimp only at hSw); go_simp; (try with_reducible rfl)
        simp only [Act.put]
        refine wpAnyH_ready (rs := [1, 9]) (by kernel_rfl) (by simp) ?_
        refine AllReadyH.cons rfl (fun K hK => ?_) ?_
        · skip
          go_simp
          refine hK.out _ _ ?_ (fun hHeld => ?_)
          · (try dsimp only); go_keep
          clear hK K
          refine wpAnyH_ready (rs := [9]) (by kernel_rfl) (by simp) ?_
          refine AllReadyH.cons rfl (fun K hK => ?_) ?_
          · skip
            go_simp
            refine hK.out _ _ ?_ (fun hHeld => ?_)
            · (try dsimp only); go_keep
            clear hK K
            refine wpAnyH_ready (rs := [10]) (by kernel_rfl) (by simp) ?_
            refine AllReadyH.cons rfl (fun K hK => ?_) ?_
            · skip
              have hov := (HOV.out.on b3).alloc (.cells #[.slice A1 ne c1x, .int .i64 t] 62)
              have ho1 := own_alloc (own_mono o3 hBV) (.cells #[.slice A1 ne c1x, .int .i64 t] 62)
              have hc0 : (w3.alloc (.cells #[.slice A1 ne c1x, .int .i64 t] 62)).cell? ⟨w3.heap.size, 0, none⟩ = some (.slice A1 ys.length c1x) := by rw [HYL.out]; simp
              have hc1 : (w3.alloc (.cells #[.slice A1 ne c1x, .int .i64 t] 62)).cell? ⟨w3.heap.size, 1, none⟩ = some (.int .i64 t) := by simp
              have ho2 : Own (w3.alloc (.cells #[.slice A1 ne c1x, .int .i64 t] 62)) w1.heap.size A1 ys.length c1x ys := by rw [HYL.out]; exact ho1
              have hbs3 : w1.heap.size ≤ (w3.alloc (.cells #[.slice A1 ne c1x, .int .i64 t] 62)).heap.size := by simp; omega
              have hfar : ∀ a, A1 = some a → V.heap.size ≤ a.block := fun a ha => (own_ge o3 a ha).1
              have hz3 : w.heap.size + 1 < (w3.alloc (.cells #[.slice A1 ne c1x, .int .i64 t] 62)).heap.size := by simp; omega
              have hq3 : q < (w3.alloc (.cells #[.slice A1 ne c1x, .int .i64 t] 62)).heap.size := by simp; omega
              have y0 := (World.cell?_alloc_past (w := w3) (.cells #[.slice A1 ne c1x, .int .i64 t] 62) (w.heap.size + 1) 0 hv3).trans e0
              have y1 := (World.cell?_alloc_past (w := w3) (.cells #[.slice A1 ne c1x, .int .i64 t] 62) (w.heap.size + 1) 1 hv3).trans e1
              have y2 := (World.cell?_alloc_past (w := w3) (.cells #[.slice A1 ne c1x, .int .i64 t] 62) q 1 hw3).trans e2
              have y4 := (World.cell?_alloc_past (w := w3) (.cells #[.slice A1 ne c1x, .int .i64 t] 62) q 0 hw3).trans e4
              have yf := (World.frozen?_alloc_past (w := w3) (.cells #[.slice A1 ne c1x, .int .i64 t] 62) q 1 hw3).trans ef
              refine step_apV (w3.alloc (.cells #[.slice A1 ne c1x, .int .i64 t] 62)) rfl (.tmp 14) (.tmp 22) rfl w1.heap.size A2 n c2 G C (rk vs) (ct vs) rfl hov A1 c1x ys t w3.heap.size 1 rfl hc0 hc1 ho2 V.heap.size HINV.out hfar hk20 hbs3 ?_
              intro A4 c4 w4 o4 g4 p4
              have f0 := far_cell g4 hz3 HNV.out y0
              have f1 := far_cell g4 hz3 HNV.out y1
              have f2 := far_cell g4 hq3 HNQ.out y2
              have f4 := far_cell g4 hq3 HNQ.out y4
              have ff := far_frozen g4 hq3 HNQ.out yf
              have hbl4 : Below w1.heap.size V w4 := below_apV ((((Below.drew (Below.refl _ _)).trans b3).mono hBV).alloc (by omega) (.cells #[.slice A1 ne c1x, .int .i64 t] 62)) hov g4 hbs3
              have hsz4 : w3.heap.size < w4.heap.size := by have := g4.size; simp at this; omega
              have ho5 := o4.mid (Mid.setCell (p := ⟨q, 1, none⟩) (lo := q) (hi := q + 1) w4 ⟨Nat.le_refl q, Nat.lt_succ_self q⟩ (.slice A4 (n + 1) c4)) (fun a ha => by
                rcases p4 with e | e
                · rw [ha] at e; obtain ⟨a0, h0, h2⟩ := map_block e; have h2 : a0.block = a.block := h2; have := HIN.out.1 a0 h0; left; omega
                · rw [ha] at e; injection e with e; right; have h9 : a.block = w3.heap.size + 1 := by simpa using e
                  omega) (fun j hj a ha => by
                by_cases ej : j = n
                · subst ej; simp only [if_true] at ha; have := hfar a ha; right; omega
                · simp only [if_neg ej] at ha; have := HIN.out.2 j (by omega) a ha; left; omega)
              have u0 : (w4.setCell ⟨q, 1, none⟩ (.slice A4 (n + 1) c4)).cell? ⟨q, 0, none⟩ = some (.int .i64 m) := by simp [go_sem, f4]
              have u1 : (w4.setCell ⟨q, 1, none⟩ (.slice A4 (n + 1) c4)).cell? ⟨q, 1, none⟩ = some (.slice A4 (n + 1) c4) := by simp [go_sem, f2]
              have hb5 : Below w1.heap.size V (w4.setCell ⟨q, 1, none⟩ (.slice A4 (n + 1) c4)) := hbl4.setCell (by show w1.heap.size ≤ q; omega) _
              have U0 := Lib.hid u0; have U1 := Lib.hid u1; have HO5 := Lib.hid ho5; have HB5 := Lib.hid hb5
              have hq5 : q < (w4.setCell ⟨q, 1, none⟩ (.slice A4 (n + 1) c4)).heap.size := by simp; omega
              have HQ5 := Lib.hid hq5
              clear u0 u1 ho5 hb5 hq5 hov ho1 hc0 hc1 ho2 hbs3 hfar hz3 hq3 y0 y1 y2 y4 yf o4 g4 p4
              refine hK.out _ _ ?_ (fun hHeld => ?_)
              · (try dsimp only); go_keep
              clear hK K
              refine wpAnyH_take (i := 11) (v := ?_) rfl (by kernel_rfl) (by kernel_rfl) (by kernel_rfl) (fun _ _ _ h => h) (Or.inl ⟨by rfl, ?_⟩) (by assumption) ?_
              rotate_left
              · intro wq hSw; (try dsimp only at hSw); go_simp; (try with_reducible rfl)
              simp only [Act.put]
              refine wpAnyH_ready (rs := [12]) (by kernel_rfl) (by simp) ?_
              refine AllReadyH.cons rfl (fun K hK => ?_) ?_
              · skip
                go_simp
                refine hK.out _ _ ?_ (fun hHeld => ?_)
                · (try dsimp only); go_keep
                clear hK K
                refine wpAnyH_done (by kernel_rfl) ?_ _
                go_simp
                go_wp2_with fail
                go_meet
                exact ⟨A4, c4, _, _, rfl, HO5.out, U0.out, U1.out, HB5.out, HQ5.out⟩
              exact AllReadyH.nil
            exact AllReadyH.nil
          exact AllReadyH.nil
        refine AllReadyH.cons rfl (fun K hK => ?_) ?_
        · skip
          go_simp
          refine hK.out _ _ ?_ (fun hHeld => ?_)
          · (try dsimp only); go_keep
          clear hK K
          refine wpAnyH_ready (rs := [1]) (by kernel_rfl) (by simp) ?_
          refine AllReadyH.cons rfl (fun K hK => ?_) ?_
          · skip
            go_simp
            refine hK.out _ _ ?_ (fun hHeld => ?_)
            · (try dsimp only); go_keep
            clear hK K
            refine wpAnyH_ready (rs := [10]) (by kernel_rfl) (by simp) ?_
            refine AllReadyH.cons rfl (fun K hK => ?_) ?_
            · skip
              have hov := (HOV.out.on b3).alloc (.cells #[.slice A1 ne c1x, .int .i64 t] 62)
              have ho1 := own_alloc (own_mono o3 hBV) (.cells #[.slice A1 ne c1x, .int .i64 t] 62)
              have hc0 : (w3.alloc (.cells #[.slice A1 ne c1x, .int .i64 t] 62)).cell? ⟨w3.heap.size, 0, none⟩ = some (.slice A1 ys.length c1x) := by rw [HYL.out]; simp
              have hc1 : (w3.alloc (.cells #[.slice A1 ne c1x, .int .i64 t] 62)).cell? ⟨w3.heap.size, 1, none⟩ = some (.int .i64 t) := by simp
              have ho2 : Own (w3.alloc (.cells #[.slice A1 ne c1x, .int .i64 t] 62)) w1.heap.size A1 ys.length c1x ys := by rw [HYL.out]; exact ho1
              have hbs3 : w1.heap.size ≤ (w3.alloc (.cells #[.slice A1 ne c1x, .int .i64 t] 62)).heap.size := by simp; omega
              have hfar : ∀ a, A1 = some a → V.heap.size ≤ a.block := fun a ha => (own_ge o3 a ha).1
              have hz3 : w.heap.size + 1 < (w3.alloc (.cells #[.slice A1 ne c1x, .int .i64 t] 62)).heap.size := by simp; omega
              have hq3 : q < (w3.alloc (.cells #[.slice A1 ne c1x, .int .i64 t] 62)).heap.size := by simp; omega
              have y0 := (World.cell?_alloc_past (w := w3) (.cells #[.slice A1 ne c1x, .int .i64 t] 62) (w.heap.size + 1) 0 hv3).trans e0
              have y1 := (World.cell?_alloc_past (w := w3) (.cells #[.slice A1 ne c1x, .int .i64 t] 62) (w.heap.size + 1) 1 hv3).trans e1
              have y2 := (World.cell?_alloc_past (w := w3) (.cells #[.slice A1 ne c1x, .int .i64 t] 62) q 1 hw3).trans e2
              have y4 := (World.cell?_alloc_past (w := w3) (.cells #[.slice A1 ne c1x, .int .i64 t] 62) q 0 hw3).trans e4
              have yf := (World.frozen?_alloc_past (w := w3) (.cells #[.slice A1 ne c1x, .int .i64 t] 62) q 1 hw3).trans ef
              refine step_apV (w3.alloc (.cells #[.slice A1 ne c1x, .int .i64 t] 62)) rfl (.tmp 14) (.tmp 22) rfl w1.heap.size A2 n c2 G C (rk vs) (ct vs) rfl hov A1 c1x ys t w3.heap.size 1 rfl hc0 hc1 ho2 V.heap.size HINV.out hfar hk20 hbs3 ?_
              intro A4 c4 w4 o4 g4 p4
              have f0 := far_cell g4 hz3 HNV.out y0
              have f1 := far_cell g4 hz3 HNV.out y1
              have f2 := far_cell g4 hq3 HNQ.out y2
              have f4 := far_cell g4 hq3 HNQ.out y4
              have ff := far_frozen g4 hq3 HNQ.out yf
              have hbl4 : Below w1.heap.size V w4 := below_apV ((((Below.drew (Below.refl _ _)).trans b3).mono hBV).alloc (by omega) (.cells #[.slice A1 ne c1x, .int .i64 t] 62)) hov g4 hbs3
              have hsz4 : w3.heap.size < w4.heap.size := by have := g4.size; simp at this; omega
              have ho5 := o4.mid (Mid.setCell (p := ⟨q, 1, none⟩) (lo := q) (hi := q + 1) w4 ⟨Nat.le_refl q, Nat.lt_succ_self q⟩ (.slice A4 (n + 1) c4)) (fun a ha => by
                rcases p4 with e | e
                · rw [ha] at e; obtain ⟨a0, h0, h2⟩ := map_block e; have h2 : a0.block = a.block := h2; have := HIN.out.1 a0 h0; left; omega
                · rw [ha] at e; injection e with e; right; have h9 : a.block = w3.heap.size + 1 := by simpa using e
                  omega) (fun j hj a ha => by
                by_cases ej : j = n
                · subst ej; simp only [if_true] at ha; have := hfar a ha; right; omega
                · simp only [if_neg ej] at ha; have := HIN.out.2 j (by omega) a ha; left; omega)
              have u0 : (w4.setCell ⟨q, 1, none⟩ (.slice A4 (n + 1) c4)).cell? ⟨q, 0, none⟩ = some (.int .i64 m) := by simp [go_sem, f4]
              have u1 : (w4.setCell ⟨q, 1, none⟩ (.slice A4 (n + 1) c4)).cell? ⟨q, 1, none⟩ = some (.slice A4 (n + 1) c4) := by simp [go_sem, f2]
              have hb5 : Below w1.heap.size V (w4.setCell ⟨q, 1, none⟩ (.slice A4 (n + 1) c4)) := hbl4.setCell (by show w1.heap.size ≤ q; omega) _
              have U0 := Lib.hid u0; have U1 := Lib.hid u1; have HO5 := Lib.hid ho5; have HB5 := Lib.hid hb5
              have hq5 : q < (w4.setCell ⟨q, 1, none⟩ (.slice A4 (n + 1) c4)).heap.size := by simp; omega
              have HQ5 := Lib.hid hq5
              clear u0 u1 ho5 hb5 hq5 hov ho1 hc0 hc1 ho2 hbs3 hfar hz3 hq3 y0 y1 y2 y4 yf o4 g4 p4
              refine hK.out _ _ ?_ (fun hHeld => ?_)
              · (try dsimp only); go_keep
              clear hK K
              refine wpAnyH_take (i := 11) (v := ?_) rfl (by kernel_rfl) (by kernel_rfl) (by kernel_rfl) (fun _ _ _ h => h) (Or.inl ⟨by rfl, ?_⟩) (by assumption) ?_
              rotate_left
              · intro wq hSw; (try dsimp only at hSw); go_simp; (try with_reducible rfl)
              simp only [Act.put]
              refine wpAnyH_ready (rs := [12]) (by kernel_rfl) (by simp) ?_
              refine AllReadyH.cons rfl (fun K hK => ?_) ?_
              · skip
                go_simp
                refine hK.out _ _ ?_ (fun hHeld => ?_)
                · (try dsimp only); go_keep
                clear hK K
                refine wpAnyH_done (by kernel_rfl) ?_ _
                go_simp
                go_wp2_with fail
                go_meet
                exact ⟨A4, c4, _, _, rfl, HO5.out, U0.out, U1.out, HB5.out, HQ5.out⟩
              exact AllReadyH.nil
            exact AllReadyH.nil
          exact AllReadyH.nil
        exact AllReadyH.nil
      exact AllReadyH.nil
    exact AllReadyH.nil
  case rest =>
    obtain ⟨A4, c4, G4, C4, rfl, oo, z0, z1, hb5, hq5⟩ := hcut
    obtain ⟨n2, hn2⟩ : ∃ n2, n2 = n + 1 := ⟨_, rfl⟩
    rw [← hn2] at oo z1
    have hadd : (addV vs ys t).length = n2 := by rw [addV_len, hn2, HL.out]
    have hvv : Votes wc A4 n2 (addV vs ys t) := oo.votes hadd (fun k hk => addV_rk HL.out ys t (by omega)) (fun k hk => addV_ct HL.out ys t (by omega))
    have hn22 : (n2 : Int) ≤ 1048576 := by omega
    have hm2 : ∀ j, j < n2 → (rl (addV vs ys t) j : Int) ≤ 1048576 := fun j hj => by
      have e := addV_rk HL.out ys t (j := j) (by omega)
      have e2 : rl (addV vs ys t) j = (rk (addV vs ys t) j).length := rfl
      rw [e2, ← e]
      by_cases ej : j = n
      · rw [if_pos ej, HYL.out]; exact hne
      · rw [if_neg ej]; exact HM.out j (by omega)
    have HM2 := Lib.hid hm2
    have oo2 := oo.congr (fun k hk => addV_rk HL.out ys t (by omega)) (fun k hk => addV_ct HL.out ys t (by omega))
    have bl5 : Below w.heap.size w wc := bV.trans (hb5.mono (by omega))
    have hrV : w.heap.size + 1 + 1 < wc.heap.size := by omega
    replace r0 := (hb5.cell (p := ⟨w.heap.size + 1 + 1, 0, none⟩) (by show w.heap.size + 1 + 1 < w1.heap.size; omega)).trans r0
    replace r1 := (hb5.cell (p := ⟨w.heap.size + 1 + 1, 1, none⟩) (by show w.heap.size + 1 + 1 < w1.heap.size; omega)).trans r1
    replace rf0 := (hb5.frozen (p := ⟨w.heap.size + 1 + 1, 0, none⟩) (by show w.heap.size + 1 + 1 < w1.heap.size; omega)).trans rf0
    replace rf1 := (hb5.frozen (p := ⟨w.heap.size + 1 + 1, 1, none⟩) (by show w.heap.size + 1 + 1 < w1.heap.size; omega)).trans rf1
    have HO := Lib.hid oo2
    clear hm2 oo oo2 hadd hb5
    rw [← hn2]
    have HN2 := Lib.hid hn2; clear hn2
    go_wp2_with fail
    refine (specProfileOk m A4 n2 c4 _ _ hvv hn22 HM2.out).mono ?_; rintro e w6 ⟨rfl, b6⟩
    rw [HQ.out]
    have bl6 := Below.on bl5 b6
    replace r0 := (b6.cell (p := ⟨w.heap.size + 1 + 1, 0, none⟩) hrV).trans r0
    replace r1 := (b6.cell (p := ⟨w.heap.size + 1 + 1, 1, none⟩) hrV).trans r1
    replace rf0 := (b6.frozen (p := ⟨w.heap.size + 1 + 1, 0, none⟩) hrV).trans rf0
    replace rf1 := (b6.frozen (p := ⟨w.heap.size + 1 + 1, 1, none⟩) hrV).trans rf1
    have z0 := (b6.cell (p := ⟨q, 0, none⟩) hq5).trans z0
    have z1 := (b6.cell (p := ⟨q, 1, none⟩) hq5).trans z1
    have HO6 := Lib.hid (HO.out.on b6)
    clear b6 hvv
    go_wp2_with fail
    have HO7 := Lib.hid (((HO6.out.setOther (p := ⟨w.heap.size + 1 + 1, 0, none⟩) (by show w.heap.size + 1 + 1 < w1.heap.size; omega) (.int .i64 m)).setOther (p := ⟨w.heap.size + 1 + 1, 1, none⟩) (by show w.heap.size + 1 + 1 < w1.heap.size; omega) (.slice A4 n2 c4)).mono (base' := w.heap.size) (by omega))
    refine bodyPost_ret (v := .tuple #[.agg #[.int .i64 m, .slice A4 n2 c4], .bool true]) (by simp [results, Try.results42, go_sem, r0, r1]) rfl ?_
    rw [← HN2.out]
    exact ⟨A4, c4, G4, C4, rfl, HO7.out, (bl6.setCell (by show w.heap.size ≤ w.heap.size + 1 + 1; omega) _).setCell (by show w.heap.size ≤ w.heap.size + 1 + 1; omega) _⟩

theorem specAddVote (m : Int) (A : Option Addr) (n c : Nat) (vs : List (List Int × Int)) (E : Option Addr) (ne ce : Nat) (ys : List Int) (t : Int) (w : World) (h : Votes w A n vs) (hn : (n : Int) ≤ 1048576) (hm : ∀ j, j < n → (rl vs j : Int) ≤ 1048576) (hy : Ints w E ne ys) (hne : (ne : Int) ≤ 1048576) :
    Calls Try.prog 42 #[.agg #[.int .i64 m, .slice A n c], .agg #[.slice E ne ce, .int .i64 t]] w fun e w' => ∃ A' c' G C, e = .returned (.tuple #[.agg #[.int .i64 (adM m vs ys t), .slice A' (adV m vs ys t).length c'], .bool (adOk m vs ys t)]) ∧ OwnV w' w.heap.size A' (adV m vs ys t).length c' G C (rk (adV m vs ys t)) (ct (adV m vs ys t)) ∧ Below w.heap.size w w' := by
  have hl := h.1
  have no : adOk m vs ys t = false → (Calls Try.prog 42 #[.agg #[.int .i64 m, .slice A n c], .agg #[.slice E ne ce, .int .i64 t]] w fun e w' => e = .returned (.tuple #[.agg #[.int .i64 0, .slice none 0 0], .bool false]) ∧ Below w.heap.size w w') → (Calls Try.prog 42 #[.agg #[.int .i64 m, .slice A n c], .agg #[.slice E ne ce, .int .i64 t]] w fun e w' => ∃ A' c' G C, e = .returned (.tuple #[.agg #[.int .i64 (adM m vs ys t), .slice A' (adV m vs ys t).length c'], .bool (adOk m vs ys t)]) ∧ OwnV w' w.heap.size A' (adV m vs ys t).length c' G C (rk (adV m vs ys t)) (ct (adV m vs ys t)) ∧ Below w.heap.size w w') := by
    intro hf hc
    have eM : adM m vs ys t = 0 := by unfold adM; rw [hf]; rfl
    have eV : adV m vs ys t = [] := by unfold adV; rw [hf]; rfl
    rw [eM, eV, hf]
    refine hc.mono ?_; rintro e w1 ⟨rfl, b⟩
    exact ⟨none, 0, fun _ => none, fun _ => 0, rfl, OwnV.nil_ _ _ _ _ _ _, b⟩
  cases hp : profP m vs with
  | false => exact no (by simp [adOk, hp]) (specAddVoteF1 m A n c vs E ne ce ys t w h hn hm hp)
  | true =>
    cases hq : profP m (addV vs ys t) with
    | false => exact no (by simp [adOk, hq]) (specAddVoteF2 m A n c vs E ne ce ys t w h hn hm hy hne hp hq)
    | true =>
      have hf : adOk m vs ys t = true := by simp [adOk, hp, hq]
      have eM : adM m vs ys t = m := by unfold adM; rw [hf]; rfl
      have eV : adV m vs ys t = addV vs ys t := by unfold adV; rw [hf]; rfl
      have eL : (addV vs ys t).length = n + 1 := by rw [addV_len, hl]
      rw [eM, eV, eL, hf]
      exact specAddVoteT m A n c vs E ne ce ys t w h hn hm hy hne hp hq

set_option maxHeartbeats 2000000 in
theorem implAddVoteF1 (m : Int) (A : Option Addr) (n c : Nat) (vs : List (List Int × Int)) (E : Option Addr) (ne ce : Nat) (_ys : List Int) (t : Int) (w : World) (h : Votes w A n vs) (hn : (n : Int) ≤ 1048576) (hm : ∀ j, j < n → (rl vs j : Int) ≤ 1048576) (hp : profP m vs = false) :
    Calls Try.prog 44 #[.agg #[.int .i64 m, .slice A n c], .agg #[.slice E ne ce, .int .i64 t]] w fun e w' => e = .returned (.tuple #[.agg #[.int .i64 0, .slice none 0 0], .bool false]) ∧ Below w.heap.size w w' := by
  have HP := Lib.hid hp; clear hp
  have HM := Lib.hid hm; clear hm
  have bl : Below w.heap.size w (((w.alloc (.cells #[.int .i64 m, .slice A n c] 40)).alloc (.cells #[.slice E ne ce, .int .i64 t] 62)).alloc (.cells #[.int .i64 0, .slice none 0 0] 40)) := (((Below.refl _ _).alloc (Nat.le_refl _) _).alloc (by simp) _).alloc (by simp; omega) _
  have k0 : (((w.alloc (.cells #[.int .i64 m, .slice A n c] 40)).alloc (.cells #[.slice E ne ce, .int .i64 t] 62)).alloc (.cells #[.int .i64 0, .slice none 0 0] 40)).cell? ⟨w.heap.size, 0, none⟩ = some (.int .i64 m) := by simp [go_sem]
  have k1 : (((w.alloc (.cells #[.int .i64 m, .slice A n c] 40)).alloc (.cells #[.slice E ne ce, .int .i64 t] 62)).alloc (.cells #[.int .i64 0, .slice none 0 0] 40)).cell? ⟨w.heap.size, 1, none⟩ = some (.slice A n c) := by simp [go_sem]
  have v0 : (((w.alloc (.cells #[.int .i64 m, .slice A n c] 40)).alloc (.cells #[.slice E ne ce, .int .i64 t] 62)).alloc (.cells #[.int .i64 0, .slice none 0 0] 40)).cell? ⟨w.heap.size + 1, 0, none⟩ = some (.slice E ne ce) := by simp [go_sem]
  have v1 : (((w.alloc (.cells #[.int .i64 m, .slice A n c] 40)).alloc (.cells #[.slice E ne ce, .int .i64 t] 62)).alloc (.cells #[.int .i64 0, .slice none 0 0] 40)).cell? ⟨w.heap.size + 1, 1, none⟩ = some (.int .i64 t) := by simp [go_sem]
  have r0 : (((w.alloc (.cells #[.int .i64 m, .slice A n c] 40)).alloc (.cells #[.slice E ne ce, .int .i64 t] 62)).alloc (.cells #[.int .i64 0, .slice none 0 0] 40)).cell? ⟨w.heap.size + 1 + 1, 0, none⟩ = some (.int .i64 0) := by simp [go_sem]
  have r1 : (((w.alloc (.cells #[.int .i64 m, .slice A n c] 40)).alloc (.cells #[.slice E ne ce, .int .i64 t] 62)).alloc (.cells #[.int .i64 0, .slice none 0 0] 40)).cell? ⟨w.heap.size + 1 + 1, 1, none⟩ = some (.slice none 0 0) := by simp [go_sem]
  have rf0 : (((w.alloc (.cells #[.int .i64 m, .slice A n c] 40)).alloc (.cells #[.slice E ne ce, .int .i64 t] 62)).alloc (.cells #[.int .i64 0, .slice none 0 0] 40)).frozen? ⟨w.heap.size + 1 + 1, 0, none⟩ = false := by simp [go_sem]
  have rf1 : (((w.alloc (.cells #[.int .i64 m, .slice A n c] 40)).alloc (.cells #[.slice E ne ce, .int .i64 t] 62)).alloc (.cells #[.int .i64 0, .slice none 0 0] 40)).frozen? ⟨w.heap.size + 1 + 1, 1, none⟩ = false := by simp [go_sem]
  have sr : w.heap.size + 1 + 1 < (((w.alloc (.cells #[.int .i64 m, .slice A n c] 40)).alloc (.cells #[.slice E ne ce, .int .i64 t] 62)).alloc (.cells #[.int .i64 0, .slice none 0 0] 40)).heap.size := by simp
  have hV := h.on bl
  go_enter Try.func44, Try.ntmps44
  go_wp2_with fail
  have sk : w.heap.size < (((w.alloc (.cells #[.int .i64 m, .slice A n c] 40)).alloc (.cells #[.slice E ne ce, .int .i64 t] 62)).alloc (.cells #[.int .i64 0, .slice none 0 0] 40)).heap.size := by omega
  have sv : w.heap.size + 1 < (((w.alloc (.cells #[.int .i64 m, .slice A n c] 40)).alloc (.cells #[.slice E ne ce, .int .i64 t] 62)).alloc (.cells #[.int .i64 0, .slice none 0 0] 40)).heap.size := by omega
  refine (implProfileOk m A n c vs _ hV hn HM.out).mono ?_; rintro e w1 ⟨rfl, b1⟩
  rw [HP.out]
  have bl1 := Below.on bl b1
  replace r0 := (b1.cell (p := ⟨w.heap.size + 1 + 1, 0, none⟩) sr).trans r0
  replace r1 := (b1.cell (p := ⟨w.heap.size + 1 + 1, 1, none⟩) sr).trans r1
  replace rf0 := (b1.frozen (p := ⟨w.heap.size + 1 + 1, 0, none⟩) sr).trans rf0
  replace rf1 := (b1.frozen (p := ⟨w.heap.size + 1 + 1, 1, none⟩) sr).trans rf1
  replace sk := Nat.lt_of_lt_of_le sk b1.size
  replace sv := Nat.lt_of_lt_of_le sv b1.size
  replace sr := Nat.lt_of_lt_of_le sr b1.size
  go_wp2_with fail
  exact bodyPost_ret (v := .tuple #[.agg #[.int .i64 0, .slice none 0 0], .bool false]) (by simp [results, Try.results44, go_sem, r0, r1]) rfl ⟨rfl, (bl1.setCell (by show w.heap.size ≤ w.heap.size + 1 + 1; omega) _).setCell (by show w.heap.size ≤ w.heap.size + 1 + 1; omega) _⟩

set_option maxHeartbeats 8000000 in
theorem implAddVoteF2 (m : Int) (A : Option Addr) (n c : Nat) (vs : List (List Int × Int)) (E : Option Addr) (ne ce : Nat) (ys : List Int) (t : Int) (w : World) (h : Votes w A n vs) (hn : (n : Int) ≤ 1048576) (hm : ∀ j, j < n → (rl vs j : Int) ≤ 1048576) (hy : Ints w E ne ys) (hne : (ne : Int) ≤ 1048576) (hp : profP m vs = true) (hq : profP m (addV vs ys t) = false) :
    Calls Try.prog 44 #[.agg #[.int .i64 m, .slice A n c], .agg #[.slice E ne ce, .int .i64 t]] w fun e w' => e = .returned (.tuple #[.agg #[.int .i64 0, .slice none 0 0], .bool false]) ∧ Below w.heap.size w w' := by
  have HP := Lib.hid hp; have HQ := Lib.hid hq
  have hn24 := (of_prof hp).2.1
  have HL := Lib.hid h.1
  have hnn : n ≤ 24 := by have := HL.out; omega
  clear hp hq hn24
  have HM := Lib.hid hm; clear hm
  have bl : Below w.heap.size w (((w.alloc (.cells #[.int .i64 m, .slice A n c] 40)).alloc (.cells #[.slice E ne ce, .int .i64 t] 62)).alloc (.cells #[.int .i64 0, .slice none 0 0] 40)) := (((Below.refl _ _).alloc (Nat.le_refl _) _).alloc (by simp) _).alloc (by simp; omega) _
  have k0 : (((w.alloc (.cells #[.int .i64 m, .slice A n c] 40)).alloc (.cells #[.slice E ne ce, .int .i64 t] 62)).alloc (.cells #[.int .i64 0, .slice none 0 0] 40)).cell? ⟨w.heap.size, 0, none⟩ = some (.int .i64 m) := by simp [go_sem]
  have k1 : (((w.alloc (.cells #[.int .i64 m, .slice A n c] 40)).alloc (.cells #[.slice E ne ce, .int .i64 t] 62)).alloc (.cells #[.int .i64 0, .slice none 0 0] 40)).cell? ⟨w.heap.size, 1, none⟩ = some (.slice A n c) := by simp [go_sem]
  have v0 : (((w.alloc (.cells #[.int .i64 m, .slice A n c] 40)).alloc (.cells #[.slice E ne ce, .int .i64 t] 62)).alloc (.cells #[.int .i64 0, .slice none 0 0] 40)).cell? ⟨w.heap.size + 1, 0, none⟩ = some (.slice E ne ce) := by simp [go_sem]
  have v1 : (((w.alloc (.cells #[.int .i64 m, .slice A n c] 40)).alloc (.cells #[.slice E ne ce, .int .i64 t] 62)).alloc (.cells #[.int .i64 0, .slice none 0 0] 40)).cell? ⟨w.heap.size + 1, 1, none⟩ = some (.int .i64 t) := by simp [go_sem]
  have r0 : (((w.alloc (.cells #[.int .i64 m, .slice A n c] 40)).alloc (.cells #[.slice E ne ce, .int .i64 t] 62)).alloc (.cells #[.int .i64 0, .slice none 0 0] 40)).cell? ⟨w.heap.size + 1 + 1, 0, none⟩ = some (.int .i64 0) := by simp [go_sem]
  have r1 : (((w.alloc (.cells #[.int .i64 m, .slice A n c] 40)).alloc (.cells #[.slice E ne ce, .int .i64 t] 62)).alloc (.cells #[.int .i64 0, .slice none 0 0] 40)).cell? ⟨w.heap.size + 1 + 1, 1, none⟩ = some (.slice none 0 0) := by simp [go_sem]
  have rf0 : (((w.alloc (.cells #[.int .i64 m, .slice A n c] 40)).alloc (.cells #[.slice E ne ce, .int .i64 t] 62)).alloc (.cells #[.int .i64 0, .slice none 0 0] 40)).frozen? ⟨w.heap.size + 1 + 1, 0, none⟩ = false := by simp [go_sem]
  have rf1 : (((w.alloc (.cells #[.int .i64 m, .slice A n c] 40)).alloc (.cells #[.slice E ne ce, .int .i64 t] 62)).alloc (.cells #[.int .i64 0, .slice none 0 0] 40)).frozen? ⟨w.heap.size + 1 + 1, 1, none⟩ = false := by simp [go_sem]
  have sr : w.heap.size + 1 + 1 < (((w.alloc (.cells #[.int .i64 m, .slice A n c] 40)).alloc (.cells #[.slice E ne ce, .int .i64 t] 62)).alloc (.cells #[.int .i64 0, .slice none 0 0] 40)).heap.size := by simp
  have hV := h.on bl
  go_enter Try.func44, Try.ntmps44
  go_wp2_with fail
  have sk : w.heap.size < (((w.alloc (.cells #[.int .i64 m, .slice A n c] 40)).alloc (.cells #[.slice E ne ce, .int .i64 t] 62)).alloc (.cells #[.int .i64 0, .slice none 0 0] 40)).heap.size := by omega
  have sv : w.heap.size + 1 < (((w.alloc (.cells #[.int .i64 m, .slice A n c] 40)).alloc (.cells #[.slice E ne ce, .int .i64 t] 62)).alloc (.cells #[.int .i64 0, .slice none 0 0] 40)).heap.size := by omega
  refine (implProfileOk m A n c vs _ hV hn HM.out).mono ?_; rintro e w1 ⟨rfl, b1⟩
  rw [HP.out]
  have hV1 := hV.on b1
  have bl1 := Below.on bl b1
  have hy1 := hy.on bl1
  replace k0 := (b1.cell (p := ⟨w.heap.size, 0, none⟩) sk).trans k0
  replace k1 := (b1.cell (p := ⟨w.heap.size, 1, none⟩) sk).trans k1
  replace v0 := (b1.cell (p := ⟨w.heap.size + 1, 0, none⟩) sv).trans v0
  replace v1 := (b1.cell (p := ⟨w.heap.size + 1, 1, none⟩) sv).trans v1
  replace r0 := (b1.cell (p := ⟨w.heap.size + 1 + 1, 0, none⟩) sr).trans r0
  replace r1 := (b1.cell (p := ⟨w.heap.size + 1 + 1, 1, none⟩) sr).trans r1
  replace rf0 := (b1.frozen (p := ⟨w.heap.size + 1 + 1, 0, none⟩) sr).trans rf0
  replace rf1 := (b1.frozen (p := ⟨w.heap.size + 1 + 1, 1, none⟩) sr).trans rf1
  replace sk := Nat.lt_of_lt_of_le sk b1.size
  replace sv := Nat.lt_of_lt_of_le sv b1.size
  replace sr := Nat.lt_of_lt_of_le sr b1.size
  have hw1q := sr
  clear b1 hV bl
  go_wp2_with fail
  refine (implClone m A n c vs _ hV1 hn HM.out).mono ?_; rintro e w2 ⟨A2, c2, G, C, rfl, o2, b2⟩
  have bl2 := Below.on bl1 b2
  have hy2 := hy1.on b2
  have s2 := b2.size
  replace v0 := (b2.cell (p := ⟨w.heap.size + 1, 0, none⟩) sv).trans v0
  replace v1 := (b2.cell (p := ⟨w.heap.size + 1, 1, none⟩) sv).trans v1
  replace r0 := (b2.cell (p := ⟨w.heap.size + 1 + 1, 0, none⟩) sr).trans r0
  replace r1 := (b2.cell (p := ⟨w.heap.size + 1 + 1, 1, none⟩) sr).trans r1
  replace rf0 := (b2.frozen (p := ⟨w.heap.size + 1 + 1, 0, none⟩) sr).trans rf0
  replace rf1 := (b2.frozen (p := ⟨w.heap.size + 1 + 1, 1, none⟩) sr).trans rf1
  replace sk := Nat.lt_of_lt_of_le sk b2.size
  replace sv := Nat.lt_of_lt_of_le sv b2.size
  replace sr := Nat.lt_of_lt_of_le sr b2.size
  have bA : Below w2.heap.size w2 (w2.alloc (.cells #[.int .i64 m, .slice A2 n c2] 40)) := (Below.refl _ _).alloc (Nat.le_refl _) _
  have q0 : (w2.alloc (.cells #[.int .i64 m, .slice A2 n c2] 40)).cell? ⟨w2.heap.size, 0, none⟩ = some (.int .i64 m) := by simp
  have q1 : (w2.alloc (.cells #[.int .i64 m, .slice A2 n c2] 40)).cell? ⟨w2.heap.size, 1, none⟩ = some (.slice A2 n c2) := by simp
  have qf : (w2.alloc (.cells #[.int .i64 m, .slice A2 n c2] 40)).frozen? ⟨w2.heap.size, 1, none⟩ = false := by simp [go_sem]
  have sq : w2.heap.size < (w2.alloc (.cells #[.int .i64 m, .slice A2 n c2] 40)).heap.size := by simp
  have HIN := Lib.hid o2.inn
  have hqv1 : ¬ w.heap.size + 1 = w2.heap.size := by omega
  have hqv2 : ¬ w2.heap.size = w.heap.size + 1 := by omega
  have hqr : w.heap.size + 1 + 1 < w2.heap.size := sr
  have hrq1 : ¬ w.heap.size + 1 + 1 = w2.heap.size := by omega
  have hge := o2.ge
  have HGE := Lib.hid hge; clear hge
  replace v0 := (bA.cell (p := ⟨w.heap.size + 1, 0, none⟩) sv).trans v0
  replace v1 := (bA.cell (p := ⟨w.heap.size + 1, 1, none⟩) sv).trans v1
  replace r0 := (bA.cell (p := ⟨w.heap.size + 1 + 1, 0, none⟩) sr).trans r0
  replace r1 := (bA.cell (p := ⟨w.heap.size + 1 + 1, 1, none⟩) sr).trans r1
  replace rf0 := (bA.frozen (p := ⟨w.heap.size + 1 + 1, 0, none⟩) sr).trans rf0
  replace rf1 := (bA.frozen (p := ⟨w.heap.size + 1 + 1, 1, none⟩) sr).trans rf1
  replace sk := Nat.lt_of_lt_of_le sk bA.size
  replace sv := Nat.lt_of_lt_of_le sv bA.size
  replace sr := Nat.lt_of_lt_of_le sr bA.size
  have hyV := (hy2.on bA).drew
  have HOV := Lib.hid ((o2.on bA).on (Below.drew (Below.refl _ _)))
  have bV : Below w.heap.size w (w2.alloc (.cells #[.int .i64 m, .slice A2 n c2] 40)) := Below.on bl2 bA
  have hVA := h.on bV
  have HVA := Lib.hid hVA; clear hVA
  have HYL := Lib.hid hy.1
  have hne2 : ne ≤ 1099511627776 := by omega
  have hk20 : n ≤ 1048576 := by omega
  clear o2 b2 bl2 bA hy1 hy2 hV1
  go_wp2_with fail
  generalize w2.alloc (.cells #[.int .i64 m, .slice A2 n c2] 40) = V at *
  generalize w2.heap.size = q at *
  have hBV : w1.heap.size ≤ V.heap.size := by omega
  have HINV := Lib.hid (HIN.out.mono (Nat.le_of_lt sq))
  have HNV := Lib.hid (fun (a : Addr) (ha : A2 = some a) => show a.block ≠ w.heap.size + 1 by have := (HGE.out a ha).1; omega)
  have HNQ := Lib.hid (fun (a : Addr) (ha : A2 = some a) => Nat.ne_of_lt (HIN.out.1 a ha))
  go_upto_region 4 with fail
  go_cut [22] (fun u wx => ∃ A4 c4 G4 C4, u = .slice A4 (n + 1) c4 ∧ OwnV wx w1.heap.size A4 (n + 1) c4 G4 C4 (fun j => if j = n then ys else rk vs j) (fun j => if j = n then t else ct vs j) ∧ wx.cell? ⟨q, 0, none⟩ = some (.int .i64 m) ∧ wx.cell? ⟨q, 1, none⟩ = some (.slice A4 (n + 1) c4) ∧ Below w1.heap.size V wx ∧ q < wx.heap.size)
  case first =>
    refine wp_region_held_drew (S := (fun w' => w'.cell? ⟨w.heap.size + 1, 0, none⟩ = some (.slice E ne ce) ∧ w'.cell? ⟨w.heap.size + 1, 1, none⟩ = some (.int .i64 t))) (by kernel_rfl) ?_ (fun hHeld => ?_)
    · (try dsimp only); go_keep
    refine wpAnyH_take (i := 0) (v := ?_) rfl (by kernel_rfl) (by kernel_rfl) (by kernel_rfl) (fun _ _ _ h => h) (Or.inl ⟨by rfl, ?_⟩) (by assumption) ?_
    rotate_left
    · intro wq hSw; (try dsimp only at hSw); go_simp; (try with_reducible rfl)
    simp only [Act.put]
    refine wpAnyH_take (i := 2) (v := ?_) rfl (by kernel_rfl) (by kernel_rfl) (by kernel_rfl) (fun _ _ _ h => h) (Or.inl ⟨by rfl, ?_⟩) (by assumption) ?_
    rotate_left
    · intro wq hSw; (try dsimp only at hSw); go_simp; (try with_reducible rfl)
    simp only [Act.put]
    refine wpAnyH_take (i := 3) (v := ?_) rfl (by kernel_rfl) (by kernel_rfl) (by kernel_rfl) (fun _ _ _ h => h) (Or.inl ⟨by rfl, ?_⟩) (by assumption) ?_
    rotate_left
    · intro wq hSw; (try dsimp only at hSw); go_simp; (try with_reducible rfl)
    simp only [Act.put]
    refine wpAnyH_take (i := 5) (v := ?_) rfl (by kernel_rfl) (by kernel_rfl) (by kernel_rfl) (fun _ _ _ h => h) (Or.inl ⟨by rfl, ?_⟩) (by assumption) ?_
    rotate_left
    · intro wq hSw; (try dsimp only at hSw); go_simp; (try with_reducible rfl)
    simp only [Act.put]
    refine wpAnyH_take (i := 6) (v := ?_) rfl (by kernel_rfl) (by kernel_rfl) (by kernel_rfl) (fun _ _ _ h => h) (Or.inl ⟨by rfl, ?_⟩) (by assumption) ?_
    rotate_left
    · intro wq hSw; (try dsimp only at hSw); go_simp; (try with_reducible rfl)
    simp only [Act.put]
    refine wpAnyH_ready (rs := [1, 4]) (by kernel_rfl) (by simp) ?_
    refine AllReadyH.cons rfl (fun K hK => ?_) ?_
    · skip
      go_simp
      refine hK.out _ _ ?_ (fun hHeld => ?_)
      · (try dsimp only); go_keep
      clear hK K
      refine wpAnyH_ready (rs := [4]) (by kernel_rfl) (by simp) ?_
      refine AllReadyH.cons rfl (fun K hK => ?_) ?_
      · skip
        go_simp
        go_at_call 79
        refine (libClone E ne ce ys V.drew hyV hne).mono ?_
        rintro e w3 ⟨A1, c1x, rfl, o3, b3⟩
        have b3x : Below V.heap.size V w3 := (Below.drew (Below.refl _ _)).trans b3
        have e0 := (b3x.cell (p := ⟨w.heap.size + 1, 0, none⟩) sv).trans v0
        have e1 := (b3x.cell (p := ⟨w.heap.size + 1, 1, none⟩) sv).trans v1
        have e2 := (b3x.cell (p := ⟨q, 1, none⟩) sq).trans q1
        have ef := (b3x.frozen (p := ⟨q, 1, none⟩) sq).trans qf
        have e4 := (b3x.cell (p := ⟨q, 0, none⟩) sq).trans q0
        have s3 := b3x.size
        have hw3 : q < w3.heap.size := by omega
        have hw4 : ¬ q = w3.heap.size := by omega
        have hv3 : w.heap.size + 1 < w3.heap.size := by omega
        clear b3x
        refine hK.out _ _ ?_ (fun hHeld => ?_)
        · (try dsimp only); go_keep
        clear hK K
        refine wpAnyH_take (i := 7) (v := ?_) rfl (by kernel_rfl) (by kernel_rfl) (by kernel_rfl) (fun _ _ _ h => h) (Or.inl ⟨by rfl, ?_⟩) (by assumption) ?_
        rotate_left
        · intro wq hSw; (try dsimp only at hSw); go_simp; (try with_reducible rfl)
        simp only [Act.put]
        refine wpAnyH_ready (rs := [8]) (by kernel_rfl) (by simp) ?_
        refine AllReadyH.cons rfl (fun K hK => ?_) ?_
        · skip
          go_simp
          refine hK.out _ _ ?_ (fun hHeld => ?_)
          · (try dsimp only); go_keep
          clear hK K
          refine wpAnyH_ready (rs := [9]) (by kernel_rfl) (by simp) ?_
          refine AllReadyH.cons rfl (fun K hK => ?_) ?_
          · skip
            have hov := (HOV.out.on b3).alloc (.cells #[.slice A1 ne c1x, .int .i64 t] 62)
            have ho1 := own_alloc (own_mono o3 hBV) (.cells #[.slice A1 ne c1x, .int .i64 t] 62)
            have hc0 : (w3.alloc (.cells #[.slice A1 ne c1x, .int .i64 t] 62)).cell? ⟨w3.heap.size, 0, none⟩ = some (.slice A1 ys.length c1x) := by rw [HYL.out]; simp
            have hc1 : (w3.alloc (.cells #[.slice A1 ne c1x, .int .i64 t] 62)).cell? ⟨w3.heap.size, 1, none⟩ = some (.int .i64 t) := by simp
            have ho2 : Own (w3.alloc (.cells #[.slice A1 ne c1x, .int .i64 t] 62)) w1.heap.size A1 ys.length c1x ys := by rw [HYL.out]; exact ho1
            have hbs3 : w1.heap.size ≤ (w3.alloc (.cells #[.slice A1 ne c1x, .int .i64 t] 62)).heap.size := by simp; omega
            have hfar : ∀ a, A1 = some a → V.heap.size ≤ a.block := fun a ha => (own_ge o3 a ha).1
            have hz3 : w.heap.size + 1 < (w3.alloc (.cells #[.slice A1 ne c1x, .int .i64 t] 62)).heap.size := by simp; omega
            have hq3 : q < (w3.alloc (.cells #[.slice A1 ne c1x, .int .i64 t] 62)).heap.size := by simp; omega
            have y0 := (World.cell?_alloc_past (w := w3) (.cells #[.slice A1 ne c1x, .int .i64 t] 62) (w.heap.size + 1) 0 hv3).trans e0
            have y1 := (World.cell?_alloc_past (w := w3) (.cells #[.slice A1 ne c1x, .int .i64 t] 62) (w.heap.size + 1) 1 hv3).trans e1
            have y2 := (World.cell?_alloc_past (w := w3) (.cells #[.slice A1 ne c1x, .int .i64 t] 62) q 1 hw3).trans e2
            have y4 := (World.cell?_alloc_past (w := w3) (.cells #[.slice A1 ne c1x, .int .i64 t] 62) q 0 hw3).trans e4
            have yf := (World.frozen?_alloc_past (w := w3) (.cells #[.slice A1 ne c1x, .int .i64 t] 62) q 1 hw3).trans ef
            refine step_apV (w3.alloc (.cells #[.slice A1 ne c1x, .int .i64 t] 62)) rfl (.tmp 14) (.tmp 21) rfl w1.heap.size A2 n c2 G C (rk vs) (ct vs) rfl hov A1 c1x ys t w3.heap.size 1 rfl hc0 hc1 ho2 V.heap.size HINV.out hfar hk20 hbs3 ?_
            intro A4 c4 w4 o4 g4 p4
            have f0 := far_cell g4 hz3 HNV.out y0
            have f1 := far_cell g4 hz3 HNV.out y1
            have f2 := far_cell g4 hq3 HNQ.out y2
            have f4 := far_cell g4 hq3 HNQ.out y4
            have ff := far_frozen g4 hq3 HNQ.out yf
            have hbl4 : Below w1.heap.size V w4 := below_apV ((((Below.drew (Below.refl _ _)).trans b3).mono hBV).alloc (by omega) (.cells #[.slice A1 ne c1x, .int .i64 t] 62)) hov g4 hbs3
            have hsz4 : w3.heap.size < w4.heap.size := by have := g4.size; simp at this; omega
            have ho5 := o4.mid (Mid.setCell (p := ⟨q, 1, none⟩) (lo := q) (hi := q + 1) w4 ⟨Nat.le_refl q, Nat.lt_succ_self q⟩ (.slice A4 (n + 1) c4)) (fun a ha => by
              rcases p4 with e | e
              · rw [ha] at e; obtain ⟨a0, h0, h2⟩ := map_block e; have h2 : a0.block = a.block := h2; have := HIN.out.1 a0 h0; left; omega
              · rw [ha] at e; injection e with e; right; have h9 : a.block = w3.heap.size + 1 := by simpa using e
                omega) (fun j hj a ha => by
              by_cases ej : j = n
              · subst ej; simp only [if_true] at ha; have := hfar a ha; right; omega
              · simp only [if_neg ej] at ha; have := HIN.out.2 j (by omega) a ha; left; omega)
            have u0 : (w4.setCell ⟨q, 1, none⟩ (.slice A4 (n + 1) c4)).cell? ⟨q, 0, none⟩ = some (.int .i64 m) := by simp [go_sem, f4]
            have u1 : (w4.setCell ⟨q, 1, none⟩ (.slice A4 (n + 1) c4)).cell? ⟨q, 1, none⟩ = some (.slice A4 (n + 1) c4) := by simp [go_sem, f2]
            have hb5 : Below w1.heap.size V (w4.setCell ⟨q, 1, none⟩ (.slice A4 (n + 1) c4)) := hbl4.setCell (by show w1.heap.size ≤ q; omega) _
            have U0 := Lib.hid u0; have U1 := Lib.hid u1; have HO5 := Lib.hid ho5; have HB5 := Lib.hid hb5
            have hq5 : q < (w4.setCell ⟨q, 1, none⟩ (.slice A4 (n + 1) c4)).heap.size := by simp; omega
            have HQ5 := Lib.hid hq5
            clear u0 u1 ho5 hb5 hq5 hov ho1 hc0 hc1 ho2 hbs3 hfar hz3 hq3 y0 y1 y2 y4 yf o4 g4 p4
            refine hK.out _ _ ?_ (fun hHeld => ?_)
            · (try dsimp only); go_keep
            clear hK K
            refine wpAnyH_take (i := 10) (v := ?_) rfl (by kernel_rfl) (by kernel_rfl) (by kernel_rfl) (fun _ _ _ h => h) (Or.inl ⟨by rfl, ?_⟩) (by assumption) ?_
            rotate_left
            · intro wq hSw; (try dsimp only at hSw); go_simp; (try with_reducible rfl)
            simp only [Act.put]
            refine wpAnyH_ready (rs := [11]) (by kernel_rfl) (by simp) ?_
            refine AllReadyH.cons rfl (fun K hK => ?_) ?_
            · skip
              go_simp
              refine hK.out _ _ ?_ (fun hHeld => ?_)
              · (try dsimp only); go_keep
              clear hK K
              refine wpAnyH_done (by kernel_rfl) ?_ _
              go_simp
              go_wp2_with fail
              go_meet
              exact ⟨A4, c4, _, _, rfl, HO5.out, U0.out, U1.out, HB5.out, HQ5.out⟩
            exact AllReadyH.nil
          exact AllReadyH.nil
        exact AllReadyH.nil
      exact AllReadyH.nil
    refine AllReadyH.cons rfl (fun K hK => ?_) ?_
    · skip
      go_simp
      go_at_call 79
      refine (libClone E ne ce ys V.drew hyV hne).mono ?_
      rintro e w3 ⟨A1, c1x, rfl, o3, b3⟩
      have b3x : Below V.heap.size V w3 := (Below.drew (Below.refl _ _)).trans b3
      have e0 := (b3x.cell (p := ⟨w.heap.size + 1, 0, none⟩) sv).trans v0
      have e1 := (b3x.cell (p := ⟨w.heap.size + 1, 1, none⟩) sv).trans v1
      have e2 := (b3x.cell (p := ⟨q, 1, none⟩) sq).trans q1
      have ef := (b3x.frozen (p := ⟨q, 1, none⟩) sq).trans qf
      have e4 := (b3x.cell (p := ⟨q, 0, none⟩) sq).trans q0
      have s3 := b3x.size
      have hw3 : q < w3.heap.size := by omega
      have hw4 : ¬ q = w3.heap.size := by omega
      have hv3 : w.heap.size + 1 < w3.heap.size := by omega
      clear b3x
      refine hK.out _ _ ?_ (fun hHeld => ?_)
      · (try dsimp only); go_keep
      clear hK K
      refine wpAnyH_take (i := 7) (v := ?_) rfl (by kernel_rfl) (by kernel_rfl) (by kernel_rfl) (fun _ _ _ h => h) (Or.inl ⟨by rfl, ?_⟩) (by assumption) ?_
      rotate_left
      · intro wq hSw; (try dsimp only at hSw); go_simp; (try with_reducible rfl)
      simp only [Act.put]
      refine wpAnyH_ready (rs := [1, 8]) (by kernel_rfl) (by simp) ?_
      refine AllReadyH.cons rfl (fun K hK => ?_) ?_
      · skip
        go_simp
        refine hK.out _ _ ?_ (fun hHeld => ?_)
        · (try dsimp only); go_keep
        clear hK K
        refine wpAnyH_ready (rs := [8]) (by kernel_rfl) (by simp) ?_
        refine AllReadyH.cons rfl (fun K hK => ?_) ?_
        · skip
          go_simp
          refine hK.out _ _ ?_ (fun hHeld => ?_)
          · (try dsimp only); go_keep
          clear hK K
          refine wpAnyH_ready (rs := [9]) (by kernel_rfl) (by simp) ?_
          refine AllReadyH.cons rfl (fun K hK => ?_) ?_
          · skip
            have hov := (HOV.out.on b3).alloc (.cells #[.slice A1 ne c1x, .int .i64 t] 62)
            have ho1 := own_alloc (own_mono o3 hBV) (.cells #[.slice A1 ne c1x, .int .i64 t] 62)
            have hc0 : (w3.alloc (.cells #[.slice A1 ne c1x, .int .i64 t] 62)).cell? ⟨w3.heap.size, 0, none⟩ = some (.slice A1 ys.length c1x) := by rw [HYL.out]; simp
            have hc1 : (w3.alloc (.cells #[.slice A1 ne c1x, .int .i64 t] 62)).cell? ⟨w3.heap.size, 1, none⟩ = some (.int .i64 t) := by simp
            have ho2 : Own (w3.alloc (.cells #[.slice A1 ne c1x, .int .i64 t] 62)) w1.heap.size A1 ys.length c1x ys := by rw [HYL.out]; exact ho1
            have hbs3 : w1.heap.size ≤ (w3.alloc (.cells #[.slice A1 ne c1x, .int .i64 t] 62)).heap.size := by simp; omega
            have hfar : ∀ a, A1 = some a → V.heap.size ≤ a.block := fun a ha => (own_ge o3 a ha).1
            have hz3 : w.heap.size + 1 < (w3.alloc (.cells #[.slice A1 ne c1x, .int .i64 t] 62)).heap.size := by simp; omega
            have hq3 : q < (w3.alloc (.cells #[.slice A1 ne c1x, .int .i64 t] 62)).heap.size := by simp; omega
            have y0 := (World.cell?_alloc_past (w := w3) (.cells #[.slice A1 ne c1x, .int .i64 t] 62) (w.heap.size + 1) 0 hv3).trans e0
            have y1 := (World.cell?_alloc_past (w := w3) (.cells #[.slice A1 ne c1x, .int .i64 t] 62) (w.heap.size + 1) 1 hv3).trans e1
            have y2 := (World.cell?_alloc_past (w := w3) (.cells #[.slice A1 ne c1x, .int .i64 t] 62) q 1 hw3).trans e2
            have y4 := (World.cell?_alloc_past (w := w3) (.cells #[.slice A1 ne c1x, .int .i64 t] 62) q 0 hw3).trans e4
            have yf := (World.frozen?_alloc_past (w := w3) (.cells #[.slice A1 ne c1x, .int .i64 t] 62) q 1 hw3).trans ef
            refine step_apV (w3.alloc (.cells #[.slice A1 ne c1x, .int .i64 t] 62)) rfl (.tmp 14) (.tmp 21) rfl w1.heap.size A2 n c2 G C (rk vs) (ct vs) rfl hov A1 c1x ys t w3.heap.size 1 rfl hc0 hc1 ho2 V.heap.size HINV.out hfar hk20 hbs3 ?_
            intro A4 c4 w4 o4 g4 p4
            have f0 := far_cell g4 hz3 HNV.out y0
            have f1 := far_cell g4 hz3 HNV.out y1
            have f2 := far_cell g4 hq3 HNQ.out y2
            have f4 := far_cell g4 hq3 HNQ.out y4
            have ff := far_frozen g4 hq3 HNQ.out yf
            have hbl4 : Below w1.heap.size V w4 := below_apV ((((Below.drew (Below.refl _ _)).trans b3).mono hBV).alloc (by omega) (.cells #[.slice A1 ne c1x, .int .i64 t] 62)) hov g4 hbs3
            have hsz4 : w3.heap.size < w4.heap.size := by have := g4.size; simp at this; omega
            have ho5 := o4.mid (Mid.setCell (p := ⟨q, 1, none⟩) (lo := q) (hi := q + 1) w4 ⟨Nat.le_refl q, Nat.lt_succ_self q⟩ (.slice A4 (n + 1) c4)) (fun a ha => by
              rcases p4 with e | e
              · rw [ha] at e; obtain ⟨a0, h0, h2⟩ := map_block e; have h2 : a0.block = a.block := h2; have := HIN.out.1 a0 h0; left; omega
              · rw [ha] at e; injection e with e; right; have h9 : a.block = w3.heap.size + 1 := by simpa using e
                omega) (fun j hj a ha => by
              by_cases ej : j = n
              · subst ej; simp only [if_true] at ha; have := hfar a ha; right; omega
              · simp only [if_neg ej] at ha; have := HIN.out.2 j (by omega) a ha; left; omega)
            have u0 : (w4.setCell ⟨q, 1, none⟩ (.slice A4 (n + 1) c4)).cell? ⟨q, 0, none⟩ = some (.int .i64 m) := by simp [go_sem, f4]
            have u1 : (w4.setCell ⟨q, 1, none⟩ (.slice A4 (n + 1) c4)).cell? ⟨q, 1, none⟩ = some (.slice A4 (n + 1) c4) := by simp [go_sem, f2]
            have hb5 : Below w1.heap.size V (w4.setCell ⟨q, 1, none⟩ (.slice A4 (n + 1) c4)) := hbl4.setCell (by show w1.heap.size ≤ q; omega) _
            have U0 := Lib.hid u0; have U1 := Lib.hid u1; have HO5 := Lib.hid ho5; have HB5 := Lib.hid hb5
            have hq5 : q < (w4.setCell ⟨q, 1, none⟩ (.slice A4 (n + 1) c4)).heap.size := by simp; omega
            have HQ5 := Lib.hid hq5
            clear u0 u1 ho5 hb5 hq5 hov ho1 hc0 hc1 ho2 hbs3 hfar hz3 hq3 y0 y1 y2 y4 yf o4 g4 p4
            refine hK.out _ _ ?_ (fun hHeld => ?_)
            · (try dsimp only); go_keep
            clear hK K
            refine wpAnyH_take (i := 10) (v := ?_) rfl (by kernel_rfl) (by kernel_rfl) (by kernel_rfl) (fun _ _ _ h => h) (Or.inl ⟨by rfl, ?_⟩) (by assumption) ?_
            rotate_left
            · intro wq hSw; (try dsimp only at hSw); go_simp; (try with_reducible rfl)
            simp only [Act.put]
            refine wpAnyH_ready (rs := [11]) (by kernel_rfl) (by simp) ?_
            refine AllReadyH.cons rfl (fun K hK => ?_) ?_
            · skip
              go_simp
              refine hK.out _ _ ?_ (fun hHeld => ?_)
              · (try dsimp only); go_keep
              clear hK K
              refine wpAnyH_done (by kernel_rfl) ?_ _
              go_simp
              go_wp2_with fail
              go_meet
              exact ⟨A4, c4, _, _, rfl, HO5.out, U0.out, U1.out, HB5.out, HQ5.out⟩
            exact AllReadyH.nil
          exact AllReadyH.nil
        exact AllReadyH.nil
      refine AllReadyH.cons rfl (fun K hK => ?_) ?_
      · skip
        go_simp
        refine hK.out _ _ ?_ (fun hHeld => ?_)
        · (try dsimp only); go_keep
        clear hK K
        refine wpAnyH_ready (rs := [1]) (by kernel_rfl) (by simp) ?_
        refine AllReadyH.cons rfl (fun K hK => ?_) ?_
        · skip
          go_simp
          refine hK.out _ _ ?_ (fun hHeld => ?_)
          · (try dsimp only); go_keep
          clear hK K
          refine wpAnyH_ready (rs := [9]) (by kernel_rfl) (by simp) ?_
          refine AllReadyH.cons rfl (fun K hK => ?_) ?_
          · skip
            have hov := (HOV.out.on b3).alloc (.cells #[.slice A1 ne c1x, .int .i64 t] 62)
            have ho1 := own_alloc (own_mono o3 hBV) (.cells #[.slice A1 ne c1x, .int .i64 t] 62)
            have hc0 : (w3.alloc (.cells #[.slice A1 ne c1x, .int .i64 t] 62)).cell? ⟨w3.heap.size, 0, none⟩ = some (.slice A1 ys.length c1x) := by rw [HYL.out]; simp
            have hc1 : (w3.alloc (.cells #[.slice A1 ne c1x, .int .i64 t] 62)).cell? ⟨w3.heap.size, 1, none⟩ = some (.int .i64 t) := by simp
            have ho2 : Own (w3.alloc (.cells #[.slice A1 ne c1x, .int .i64 t] 62)) w1.heap.size A1 ys.length c1x ys := by rw [HYL.out]; exact ho1
            have hbs3 : w1.heap.size ≤ (w3.alloc (.cells #[.slice A1 ne c1x, .int .i64 t] 62)).heap.size := by simp; omega
            have hfar : ∀ a, A1 = some a → V.heap.size ≤ a.block := fun a ha => (own_ge o3 a ha).1
            have hz3 : w.heap.size + 1 < (w3.alloc (.cells #[.slice A1 ne c1x, .int .i64 t] 62)).heap.size := by simp; omega
            have hq3 : q < (w3.alloc (.cells #[.slice A1 ne c1x, .int .i64 t] 62)).heap.size := by simp; omega
            have y0 := (World.cell?_alloc_past (w := w3) (.cells #[.slice A1 ne c1x, .int .i64 t] 62) (w.heap.size + 1) 0 hv3).trans e0
            have y1 := (World.cell?_alloc_past (w := w3) (.cells #[.slice A1 ne c1x, .int .i64 t] 62) (w.heap.size + 1) 1 hv3).trans e1
            have y2 := (World.cell?_alloc_past (w := w3) (.cells #[.slice A1 ne c1x, .int .i64 t] 62) q 1 hw3).trans e2
            have y4 := (World.cell?_alloc_past (w := w3) (.cells #[.slice A1 ne c1x, .int .i64 t] 62) q 0 hw3).trans e4
            have yf := (World.frozen?_alloc_past (w := w3) (.cells #[.slice A1 ne c1x, .int .i64 t] 62) q 1 hw3).trans ef
            refine step_apV (w3.alloc (.cells #[.slice A1 ne c1x, .int .i64 t] 62)) rfl (.tmp 14) (.tmp 21) rfl w1.heap.size A2 n c2 G C (rk vs) (ct vs) rfl hov A1 c1x ys t w3.heap.size 1 rfl hc0 hc1 ho2 V.heap.size HINV.out hfar hk20 hbs3 ?_
            intro A4 c4 w4 o4 g4 p4
            have f0 := far_cell g4 hz3 HNV.out y0
            have f1 := far_cell g4 hz3 HNV.out y1
            have f2 := far_cell g4 hq3 HNQ.out y2
            have f4 := far_cell g4 hq3 HNQ.out y4
            have ff := far_frozen g4 hq3 HNQ.out yf
            have hbl4 : Below w1.heap.size V w4 := below_apV ((((Below.drew (Below.refl _ _)).trans b3).mono hBV).alloc (by omega) (.cells #[.slice A1 ne c1x, .int .i64 t] 62)) hov g4 hbs3
            have hsz4 : w3.heap.size < w4.heap.size := by have := g4.size; simp at this; omega
            have ho5 := o4.mid (Mid.setCell (p := ⟨q, 1, none⟩) (lo := q) (hi := q + 1) w4 ⟨Nat.le_refl q, Nat.lt_succ_self q⟩ (.slice A4 (n + 1) c4)) (fun a ha => by
              rcases p4 with e | e
              · rw [ha] at e; obtain ⟨a0, h0, h2⟩ := map_block e; have h2 : a0.block = a.block := h2; have := HIN.out.1 a0 h0; left; omega
              · rw [ha] at e; injection e with e; right; have h9 : a.block = w3.heap.size + 1 := by simpa using e
                omega) (fun j hj a ha => by
              by_cases ej : j = n
              · subst ej; simp only [if_true] at ha; have := hfar a ha; right; omega
              · simp only [if_neg ej] at ha; have := HIN.out.2 j (by omega) a ha; left; omega)
            have u0 : (w4.setCell ⟨q, 1, none⟩ (.slice A4 (n + 1) c4)).cell? ⟨q, 0, none⟩ = some (.int .i64 m) := by simp [go_sem, f4]
            have u1 : (w4.setCell ⟨q, 1, none⟩ (.slice A4 (n + 1) c4)).cell? ⟨q, 1, none⟩ = some (.slice A4 (n + 1) c4) := by simp [go_sem, f2]
            have hb5 : Below w1.heap.size V (w4.setCell ⟨q, 1, none⟩ (.slice A4 (n + 1) c4)) := hbl4.setCell (by show w1.heap.size ≤ q; omega) _
            have U0 := Lib.hid u0; have U1 := Lib.hid u1; have HO5 := Lib.hid ho5; have HB5 := Lib.hid hb5
            have hq5 : q < (w4.setCell ⟨q, 1, none⟩ (.slice A4 (n + 1) c4)).heap.size := by simp; omega
            have HQ5 := Lib.hid hq5
            clear u0 u1 ho5 hb5 hq5 hov ho1 hc0 hc1 ho2 hbs3 hfar hz3 hq3 y0 y1 y2 y4 yf o4 g4 p4
            refine hK.out _ _ ?_ (fun hHeld => ?_)
            · (try dsimp only); go_keep
            clear hK K
            refine wpAnyH_take (i := 10) (v := ?_) rfl (by kernel_rfl) (by kernel_rfl) (by kernel_rfl) (fun _ _ _ h => h) (Or.inl ⟨by rfl, ?_⟩) (by assumption) ?_
            rotate_left
            · intro wq hSw; (try dsimp only at hSw); go_simp; (try with_reducible rfl)
            simp only [Act.put]
            refine wpAnyH_ready (rs := [11]) (by kernel_rfl) (by simp) ?_
            refine AllReadyH.cons rfl (fun K hK => ?_) ?_
            · skip
              go_simp
              refine hK.out _ _ ?_ (fun hHeld => ?_)
              · (try dsimp only); go_keep
              clear hK K
              refine wpAnyH_done (by kernel_rfl) ?_ _
              go_simp
              go_wp2_with fail
              go_meet
              exact ⟨A4, c4, _, _, rfl, HO5.out, U0.out, U1.out, HB5.out, HQ5.out⟩
            exact AllReadyH.nil
          exact AllReadyH.nil
        exact AllReadyH.nil
      exact AllReadyH.nil
    exact AllReadyH.nil
  case rest =>
    obtain ⟨A4, c4, G4, C4, rfl, oo, z0, z1, hb5, hq5⟩ := hcut
    obtain ⟨n2, hn2⟩ : ∃ n2, n2 = n + 1 := ⟨_, rfl⟩
    rw [← hn2] at oo z1
    have hadd : (addV vs ys t).length = n2 := by rw [addV_len, hn2, HL.out]
    have hvv : Votes wc A4 n2 (addV vs ys t) := oo.votes hadd (fun k hk => addV_rk HL.out ys t (by omega)) (fun k hk => addV_ct HL.out ys t (by omega))
    have hn22 : (n2 : Int) ≤ 1048576 := by omega
    have hm2 : ∀ j, j < n2 → (rl (addV vs ys t) j : Int) ≤ 1048576 := fun j hj => by
      have e := addV_rk HL.out ys t (j := j) (by omega)
      have e2 : rl (addV vs ys t) j = (rk (addV vs ys t) j).length := rfl
      rw [e2, ← e]
      by_cases ej : j = n
      · rw [if_pos ej, HYL.out]; exact hne
      · rw [if_neg ej]; exact HM.out j (by omega)
    have HM2 := Lib.hid hm2
    have oo2 := oo.congr (fun k hk => addV_rk HL.out ys t (by omega)) (fun k hk => addV_ct HL.out ys t (by omega))
    have bl5 : Below w.heap.size w wc := bV.trans (hb5.mono (by omega))
    have hrV : w.heap.size + 1 + 1 < wc.heap.size := by omega
    replace r0 := (hb5.cell (p := ⟨w.heap.size + 1 + 1, 0, none⟩) (by show w.heap.size + 1 + 1 < w1.heap.size; omega)).trans r0
    replace r1 := (hb5.cell (p := ⟨w.heap.size + 1 + 1, 1, none⟩) (by show w.heap.size + 1 + 1 < w1.heap.size; omega)).trans r1
    replace rf0 := (hb5.frozen (p := ⟨w.heap.size + 1 + 1, 0, none⟩) (by show w.heap.size + 1 + 1 < w1.heap.size; omega)).trans rf0
    replace rf1 := (hb5.frozen (p := ⟨w.heap.size + 1 + 1, 1, none⟩) (by show w.heap.size + 1 + 1 < w1.heap.size; omega)).trans rf1
    have HO := Lib.hid oo2
    clear hm2 oo oo2 hadd hb5
    rw [← hn2]
    have HN2 := Lib.hid hn2; clear hn2
    go_wp2_with fail
    refine (implProfileOk m A4 n2 c4 _ _ hvv hn22 HM2.out).mono ?_; rintro e w6 ⟨rfl, b6⟩
    rw [HQ.out]
    have bl6 := Below.on bl5 b6
    replace r0 := (b6.cell (p := ⟨w.heap.size + 1 + 1, 0, none⟩) hrV).trans r0
    replace r1 := (b6.cell (p := ⟨w.heap.size + 1 + 1, 1, none⟩) hrV).trans r1
    replace rf0 := (b6.frozen (p := ⟨w.heap.size + 1 + 1, 0, none⟩) hrV).trans rf0
    replace rf1 := (b6.frozen (p := ⟨w.heap.size + 1 + 1, 1, none⟩) hrV).trans rf1
    have z0 := (b6.cell (p := ⟨q, 0, none⟩) hq5).trans z0
    have z1 := (b6.cell (p := ⟨q, 1, none⟩) hq5).trans z1
    have HO6 := Lib.hid (HO.out.on b6)
    clear b6 hvv
    go_wp2_with fail
    exact bodyPost_ret (v := .tuple #[.agg #[.int .i64 0, .slice none 0 0], .bool false]) (by simp [results, Try.results44, go_sem, r0, r1]) rfl ⟨rfl, (bl6.setCell (by show w.heap.size ≤ w.heap.size + 1 + 1; omega) _).setCell (by show w.heap.size ≤ w.heap.size + 1 + 1; omega) _⟩

set_option maxHeartbeats 8000000 in
theorem implAddVoteT (m : Int) (A : Option Addr) (n c : Nat) (vs : List (List Int × Int)) (E : Option Addr) (ne ce : Nat) (ys : List Int) (t : Int) (w : World) (h : Votes w A n vs) (hn : (n : Int) ≤ 1048576) (hm : ∀ j, j < n → (rl vs j : Int) ≤ 1048576) (hy : Ints w E ne ys) (hne : (ne : Int) ≤ 1048576) (hp : profP m vs = true) (hq : profP m (addV vs ys t) = true) :
    Calls Try.prog 44 #[.agg #[.int .i64 m, .slice A n c], .agg #[.slice E ne ce, .int .i64 t]] w fun e w' => ∃ A' c' G C, e = .returned (.tuple #[.agg #[.int .i64 m, .slice A' (n + 1) c'], .bool true]) ∧ OwnV w' w.heap.size A' (n + 1) c' G C (rk (addV vs ys t)) (ct (addV vs ys t)) ∧ Below w.heap.size w w' := by
  have HP := Lib.hid hp; have HQ := Lib.hid hq
  have hn24 := (of_prof hp).2.1
  have HL := Lib.hid h.1
  have hnn : n ≤ 24 := by have := HL.out; omega
  clear hp hq hn24
  have HM := Lib.hid hm; clear hm
  have bl : Below w.heap.size w (((w.alloc (.cells #[.int .i64 m, .slice A n c] 40)).alloc (.cells #[.slice E ne ce, .int .i64 t] 62)).alloc (.cells #[.int .i64 0, .slice none 0 0] 40)) := (((Below.refl _ _).alloc (Nat.le_refl _) _).alloc (by simp) _).alloc (by simp; omega) _
  have k0 : (((w.alloc (.cells #[.int .i64 m, .slice A n c] 40)).alloc (.cells #[.slice E ne ce, .int .i64 t] 62)).alloc (.cells #[.int .i64 0, .slice none 0 0] 40)).cell? ⟨w.heap.size, 0, none⟩ = some (.int .i64 m) := by simp [go_sem]
  have k1 : (((w.alloc (.cells #[.int .i64 m, .slice A n c] 40)).alloc (.cells #[.slice E ne ce, .int .i64 t] 62)).alloc (.cells #[.int .i64 0, .slice none 0 0] 40)).cell? ⟨w.heap.size, 1, none⟩ = some (.slice A n c) := by simp [go_sem]
  have v0 : (((w.alloc (.cells #[.int .i64 m, .slice A n c] 40)).alloc (.cells #[.slice E ne ce, .int .i64 t] 62)).alloc (.cells #[.int .i64 0, .slice none 0 0] 40)).cell? ⟨w.heap.size + 1, 0, none⟩ = some (.slice E ne ce) := by simp [go_sem]
  have v1 : (((w.alloc (.cells #[.int .i64 m, .slice A n c] 40)).alloc (.cells #[.slice E ne ce, .int .i64 t] 62)).alloc (.cells #[.int .i64 0, .slice none 0 0] 40)).cell? ⟨w.heap.size + 1, 1, none⟩ = some (.int .i64 t) := by simp [go_sem]
  have r0 : (((w.alloc (.cells #[.int .i64 m, .slice A n c] 40)).alloc (.cells #[.slice E ne ce, .int .i64 t] 62)).alloc (.cells #[.int .i64 0, .slice none 0 0] 40)).cell? ⟨w.heap.size + 1 + 1, 0, none⟩ = some (.int .i64 0) := by simp [go_sem]
  have r1 : (((w.alloc (.cells #[.int .i64 m, .slice A n c] 40)).alloc (.cells #[.slice E ne ce, .int .i64 t] 62)).alloc (.cells #[.int .i64 0, .slice none 0 0] 40)).cell? ⟨w.heap.size + 1 + 1, 1, none⟩ = some (.slice none 0 0) := by simp [go_sem]
  have rf0 : (((w.alloc (.cells #[.int .i64 m, .slice A n c] 40)).alloc (.cells #[.slice E ne ce, .int .i64 t] 62)).alloc (.cells #[.int .i64 0, .slice none 0 0] 40)).frozen? ⟨w.heap.size + 1 + 1, 0, none⟩ = false := by simp [go_sem]
  have rf1 : (((w.alloc (.cells #[.int .i64 m, .slice A n c] 40)).alloc (.cells #[.slice E ne ce, .int .i64 t] 62)).alloc (.cells #[.int .i64 0, .slice none 0 0] 40)).frozen? ⟨w.heap.size + 1 + 1, 1, none⟩ = false := by simp [go_sem]
  have sr : w.heap.size + 1 + 1 < (((w.alloc (.cells #[.int .i64 m, .slice A n c] 40)).alloc (.cells #[.slice E ne ce, .int .i64 t] 62)).alloc (.cells #[.int .i64 0, .slice none 0 0] 40)).heap.size := by simp
  have hV := h.on bl
  go_enter Try.func44, Try.ntmps44
  go_wp2_with fail
  have sk : w.heap.size < (((w.alloc (.cells #[.int .i64 m, .slice A n c] 40)).alloc (.cells #[.slice E ne ce, .int .i64 t] 62)).alloc (.cells #[.int .i64 0, .slice none 0 0] 40)).heap.size := by omega
  have sv : w.heap.size + 1 < (((w.alloc (.cells #[.int .i64 m, .slice A n c] 40)).alloc (.cells #[.slice E ne ce, .int .i64 t] 62)).alloc (.cells #[.int .i64 0, .slice none 0 0] 40)).heap.size := by omega
  refine (implProfileOk m A n c vs _ hV hn HM.out).mono ?_; rintro e w1 ⟨rfl, b1⟩
  rw [HP.out]
  have hV1 := hV.on b1
  have bl1 := Below.on bl b1
  have hy1 := hy.on bl1
  replace k0 := (b1.cell (p := ⟨w.heap.size, 0, none⟩) sk).trans k0
  replace k1 := (b1.cell (p := ⟨w.heap.size, 1, none⟩) sk).trans k1
  replace v0 := (b1.cell (p := ⟨w.heap.size + 1, 0, none⟩) sv).trans v0
  replace v1 := (b1.cell (p := ⟨w.heap.size + 1, 1, none⟩) sv).trans v1
  replace r0 := (b1.cell (p := ⟨w.heap.size + 1 + 1, 0, none⟩) sr).trans r0
  replace r1 := (b1.cell (p := ⟨w.heap.size + 1 + 1, 1, none⟩) sr).trans r1
  replace rf0 := (b1.frozen (p := ⟨w.heap.size + 1 + 1, 0, none⟩) sr).trans rf0
  replace rf1 := (b1.frozen (p := ⟨w.heap.size + 1 + 1, 1, none⟩) sr).trans rf1
  replace sk := Nat.lt_of_lt_of_le sk b1.size
  replace sv := Nat.lt_of_lt_of_le sv b1.size
  replace sr := Nat.lt_of_lt_of_le sr b1.size
  have hw1q := sr
  clear b1 hV bl
  go_wp2_with fail
  refine (implClone m A n c vs _ hV1 hn HM.out).mono ?_; rintro e w2 ⟨A2, c2, G, C, rfl, o2, b2⟩
  have bl2 := Below.on bl1 b2
  have hy2 := hy1.on b2
  have s2 := b2.size
  replace v0 := (b2.cell (p := ⟨w.heap.size + 1, 0, none⟩) sv).trans v0
  replace v1 := (b2.cell (p := ⟨w.heap.size + 1, 1, none⟩) sv).trans v1
  replace r0 := (b2.cell (p := ⟨w.heap.size + 1 + 1, 0, none⟩) sr).trans r0
  replace r1 := (b2.cell (p := ⟨w.heap.size + 1 + 1, 1, none⟩) sr).trans r1
  replace rf0 := (b2.frozen (p := ⟨w.heap.size + 1 + 1, 0, none⟩) sr).trans rf0
  replace rf1 := (b2.frozen (p := ⟨w.heap.size + 1 + 1, 1, none⟩) sr).trans rf1
  replace sk := Nat.lt_of_lt_of_le sk b2.size
  replace sv := Nat.lt_of_lt_of_le sv b2.size
  replace sr := Nat.lt_of_lt_of_le sr b2.size
  have bA : Below w2.heap.size w2 (w2.alloc (.cells #[.int .i64 m, .slice A2 n c2] 40)) := (Below.refl _ _).alloc (Nat.le_refl _) _
  have q0 : (w2.alloc (.cells #[.int .i64 m, .slice A2 n c2] 40)).cell? ⟨w2.heap.size, 0, none⟩ = some (.int .i64 m) := by simp
  have q1 : (w2.alloc (.cells #[.int .i64 m, .slice A2 n c2] 40)).cell? ⟨w2.heap.size, 1, none⟩ = some (.slice A2 n c2) := by simp
  have qf : (w2.alloc (.cells #[.int .i64 m, .slice A2 n c2] 40)).frozen? ⟨w2.heap.size, 1, none⟩ = false := by simp [go_sem]
  have sq : w2.heap.size < (w2.alloc (.cells #[.int .i64 m, .slice A2 n c2] 40)).heap.size := by simp
  have HIN := Lib.hid o2.inn
  have hqv1 : ¬ w.heap.size + 1 = w2.heap.size := by omega
  have hqv2 : ¬ w2.heap.size = w.heap.size + 1 := by omega
  have hqr : w.heap.size + 1 + 1 < w2.heap.size := sr
  have hrq1 : ¬ w.heap.size + 1 + 1 = w2.heap.size := by omega
  have hge := o2.ge
  have HGE := Lib.hid hge; clear hge
  replace v0 := (bA.cell (p := ⟨w.heap.size + 1, 0, none⟩) sv).trans v0
  replace v1 := (bA.cell (p := ⟨w.heap.size + 1, 1, none⟩) sv).trans v1
  replace r0 := (bA.cell (p := ⟨w.heap.size + 1 + 1, 0, none⟩) sr).trans r0
  replace r1 := (bA.cell (p := ⟨w.heap.size + 1 + 1, 1, none⟩) sr).trans r1
  replace rf0 := (bA.frozen (p := ⟨w.heap.size + 1 + 1, 0, none⟩) sr).trans rf0
  replace rf1 := (bA.frozen (p := ⟨w.heap.size + 1 + 1, 1, none⟩) sr).trans rf1
  replace sk := Nat.lt_of_lt_of_le sk bA.size
  replace sv := Nat.lt_of_lt_of_le sv bA.size
  replace sr := Nat.lt_of_lt_of_le sr bA.size
  have hyV := (hy2.on bA).drew
  have HOV := Lib.hid ((o2.on bA).on (Below.drew (Below.refl _ _)))
  have bV : Below w.heap.size w (w2.alloc (.cells #[.int .i64 m, .slice A2 n c2] 40)) := Below.on bl2 bA
  have hVA := h.on bV
  have HVA := Lib.hid hVA; clear hVA
  have HYL := Lib.hid hy.1
  have hne2 : ne ≤ 1099511627776 := by omega
  have hk20 : n ≤ 1048576 := by omega
  clear o2 b2 bl2 bA hy1 hy2 hV1
  go_wp2_with fail
  generalize w2.alloc (.cells #[.int .i64 m, .slice A2 n c2] 40) = V at *
  generalize w2.heap.size = q at *
  have hBV : w1.heap.size ≤ V.heap.size := by omega
  have HINV := Lib.hid (HIN.out.mono (Nat.le_of_lt sq))
  have HNV := Lib.hid (fun (a : Addr) (ha : A2 = some a) => show a.block ≠ w.heap.size + 1 by have := (HGE.out a ha).1; omega)
  have HNQ := Lib.hid (fun (a : Addr) (ha : A2 = some a) => Nat.ne_of_lt (HIN.out.1 a ha))
  go_upto_region 4 with fail
  go_cut [22] (fun u wx => ∃ A4 c4 G4 C4, u = .slice A4 (n + 1) c4 ∧ OwnV wx w1.heap.size A4 (n + 1) c4 G4 C4 (fun j => if j = n then ys else rk vs j) (fun j => if j = n then t else ct vs j) ∧ wx.cell? ⟨q, 0, none⟩ = some (.int .i64 m) ∧ wx.cell? ⟨q, 1, none⟩ = some (.slice A4 (n + 1) c4) ∧ Below w1.heap.size V wx ∧ q < wx.heap.size)
  case first =>
    refine wp_region_held_drew (S := (fun w' => w'.cell? ⟨w.heap.size + 1, 0, none⟩ = some (.slice E ne ce) ∧ w'.cell? ⟨w.heap.size + 1, 1, none⟩ = some (.int .i64 t))) (by kernel_rfl) ?_ (fun hHeld => ?_)
    · (try dsimp only); go_keep
    refine wpAnyH_take (i := 0) (v := ?_) rfl (by kernel_rfl) (by kernel_rfl) (by kernel_rfl) (fun _ _ _ h => h) (Or.inl ⟨by rfl, ?_⟩) (by assumption) ?_
    rotate_left
    · intro wq hSw; (try dsimp only at hSw); go_simp; (try with_reducible rfl)
    simp only [Act.put]
    refine wpAnyH_take (i := 2) (v := ?_) rfl (by kernel_rfl) (by kernel_rfl) (by kernel_rfl) (fun _ _ _ h => h) (Or.inl ⟨by rfl, ?_⟩) (by assumption) ?_
    rotate_left
    · intro wq hSw; (try dsimp only at hSw); go_simp; (try with_reducible rfl)
    simp only [Act.put]
    refine wpAnyH_take (i := 3) (v := ?_) rfl (by kernel_rfl) (by kernel_rfl) (by kernel_rfl) (fun _ _ _ h => h) (Or.inl ⟨by rfl, ?_⟩) (by assumption) ?_
    rotate_left
    · intro wq hSw; (try dsimp only at hSw); go_simp; (try with_reducible rfl)
    simp only [Act.put]
    refine wpAnyH_take (i := 5) (v := ?_) rfl (by kernel_rfl) (by kernel_rfl) (by kernel_rfl) (fun _ _ _ h => h) (Or.inl ⟨by rfl, ?_⟩) (by assumption) ?_
    rotate_left
    · intro wq hSw; (try dsimp only at hSw); go_simp; (try with_reducible rfl)
    simp only [Act.put]
    refine wpAnyH_take (i := 6) (v := ?_) rfl (by kernel_rfl) (by kernel_rfl) (by kernel_rfl) (fun _ _ _ h => h) (Or.inl ⟨by rfl, ?_⟩) (by assumption) ?_
    rotate_left
    · intro wq hSw; (try dsimp only at hSw); go_simp; (try with_reducible rfl)
    simp only [Act.put]
    refine wpAnyH_ready (rs := [1, 4]) (by kernel_rfl) (by simp) ?_
    refine AllReadyH.cons rfl (fun K hK => ?_) ?_
    · skip
      go_simp
      refine hK.out _ _ ?_ (fun hHeld => ?_)
      · (try dsimp only); go_keep
      clear hK K
      refine wpAnyH_ready (rs := [4]) (by kernel_rfl) (by simp) ?_
      refine AllReadyH.cons rfl (fun K hK => ?_) ?_
      · skip
        go_simp
        go_at_call 79
        refine (libClone E ne ce ys V.drew hyV hne).mono ?_
        rintro e w3 ⟨A1, c1x, rfl, o3, b3⟩
        have b3x : Below V.heap.size V w3 := (Below.drew (Below.refl _ _)).trans b3
        have e0 := (b3x.cell (p := ⟨w.heap.size + 1, 0, none⟩) sv).trans v0
        have e1 := (b3x.cell (p := ⟨w.heap.size + 1, 1, none⟩) sv).trans v1
        have e2 := (b3x.cell (p := ⟨q, 1, none⟩) sq).trans q1
        have ef := (b3x.frozen (p := ⟨q, 1, none⟩) sq).trans qf
        have e4 := (b3x.cell (p := ⟨q, 0, none⟩) sq).trans q0
        have s3 := b3x.size
        have hw3 : q < w3.heap.size := by omega
        have hw4 : ¬ q = w3.heap.size := by omega
        have hv3 : w.heap.size + 1 < w3.heap.size := by omega
        clear b3x
        refine hK.out _ _ ?_ (fun hHeld => ?_)
        · (try dsimp only); go_keep
        clear hK K
        refine wpAnyH_take (i := 7) (v := ?_) rfl (by kernel_rfl) (by kernel_rfl) (by kernel_rfl) (fun _ _ _ h => h) (Or.inl ⟨by rfl, ?_⟩) (by assumption) ?_
        rotate_left
        · intro wq hSw; (try dsimp only at hSw); go_simp; (try with_reducible rfl)
        simp only [Act.put]
        refine wpAnyH_ready (rs := [8]) (by kernel_rfl) (by simp) ?_
        refine AllReadyH.cons rfl (fun K hK => ?_) ?_
        · skip
          go_simp
          refine hK.out _ _ ?_ (fun hHeld => ?_)
          · (try dsimp only); go_keep
          clear hK K
          refine wpAnyH_ready (rs := [9]) (by kernel_rfl) (by simp) ?_
          refine AllReadyH.cons rfl (fun K hK => ?_) ?_
          · skip
            have hov := (HOV.out.on b3).alloc (.cells #[.slice A1 ne c1x, .int .i64 t] 62)
            have ho1 := own_alloc (own_mono o3 hBV) (.cells #[.slice A1 ne c1x, .int .i64 t] 62)
            have hc0 : (w3.alloc (.cells #[.slice A1 ne c1x, .int .i64 t] 62)).cell? ⟨w3.heap.size, 0, none⟩ = some (.slice A1 ys.length c1x) := by rw [HYL.out]; simp
            have hc1 : (w3.alloc (.cells #[.slice A1 ne c1x, .int .i64 t] 62)).cell? ⟨w3.heap.size, 1, none⟩ = some (.int .i64 t) := by simp
            have ho2 : Own (w3.alloc (.cells #[.slice A1 ne c1x, .int .i64 t] 62)) w1.heap.size A1 ys.length c1x ys := by rw [HYL.out]; exact ho1
            have hbs3 : w1.heap.size ≤ (w3.alloc (.cells #[.slice A1 ne c1x, .int .i64 t] 62)).heap.size := by simp; omega
            have hfar : ∀ a, A1 = some a → V.heap.size ≤ a.block := fun a ha => (own_ge o3 a ha).1
            have hz3 : w.heap.size + 1 < (w3.alloc (.cells #[.slice A1 ne c1x, .int .i64 t] 62)).heap.size := by simp; omega
            have hq3 : q < (w3.alloc (.cells #[.slice A1 ne c1x, .int .i64 t] 62)).heap.size := by simp; omega
            have y0 := (World.cell?_alloc_past (w := w3) (.cells #[.slice A1 ne c1x, .int .i64 t] 62) (w.heap.size + 1) 0 hv3).trans e0
            have y1 := (World.cell?_alloc_past (w := w3) (.cells #[.slice A1 ne c1x, .int .i64 t] 62) (w.heap.size + 1) 1 hv3).trans e1
            have y2 := (World.cell?_alloc_past (w := w3) (.cells #[.slice A1 ne c1x, .int .i64 t] 62) q 1 hw3).trans e2
            have y4 := (World.cell?_alloc_past (w := w3) (.cells #[.slice A1 ne c1x, .int .i64 t] 62) q 0 hw3).trans e4
            have yf := (World.frozen?_alloc_past (w := w3) (.cells #[.slice A1 ne c1x, .int .i64 t] 62) q 1 hw3).trans ef
            refine step_apV (w3.alloc (.cells #[.slice A1 ne c1x, .int .i64 t] 62)) rfl (.tmp 14) (.tmp 21) rfl w1.heap.size A2 n c2 G C (rk vs) (ct vs) rfl hov A1 c1x ys t w3.heap.size 1 rfl hc0 hc1 ho2 V.heap.size HINV.out hfar hk20 hbs3 ?_
            intro A4 c4 w4 o4 g4 p4
            have f0 := far_cell g4 hz3 HNV.out y0
            have f1 := far_cell g4 hz3 HNV.out y1
            have f2 := far_cell g4 hq3 HNQ.out y2
            have f4 := far_cell g4 hq3 HNQ.out y4
            have ff := far_frozen g4 hq3 HNQ.out yf
            have hbl4 : Below w1.heap.size V w4 := below_apV ((((Below.drew (Below.refl _ _)).trans b3).mono hBV).alloc (by omega) (.cells #[.slice A1 ne c1x, .int .i64 t] 62)) hov g4 hbs3
            have hsz4 : w3.heap.size < w4.heap.size := by have := g4.size; simp at this; omega
            have ho5 := o4.mid (Mid.setCell (p := ⟨q, 1, none⟩) (lo := q) (hi := q + 1) w4 ⟨Nat.le_refl q, Nat.lt_succ_self q⟩ (.slice A4 (n + 1) c4)) (fun a ha => by
              rcases p4 with e | e
              · rw [ha] at e; obtain ⟨a0, h0, h2⟩ := map_block e; have h2 : a0.block = a.block := h2; have := HIN.out.1 a0 h0; left; omega
              · rw [ha] at e; injection e with e; right; have h9 : a.block = w3.heap.size + 1 := by simpa using e
                omega) (fun j hj a ha => by
              by_cases ej : j = n
              · subst ej; simp only [if_true] at ha; have := hfar a ha; right; omega
              · simp only [if_neg ej] at ha; have := HIN.out.2 j (by omega) a ha; left; omega)
            have u0 : (w4.setCell ⟨q, 1, none⟩ (.slice A4 (n + 1) c4)).cell? ⟨q, 0, none⟩ = some (.int .i64 m) := by simp [go_sem, f4]
            have u1 : (w4.setCell ⟨q, 1, none⟩ (.slice A4 (n + 1) c4)).cell? ⟨q, 1, none⟩ = some (.slice A4 (n + 1) c4) := by simp [go_sem, f2]
            have hb5 : Below w1.heap.size V (w4.setCell ⟨q, 1, none⟩ (.slice A4 (n + 1) c4)) := hbl4.setCell (by show w1.heap.size ≤ q; omega) _
            have U0 := Lib.hid u0; have U1 := Lib.hid u1; have HO5 := Lib.hid ho5; have HB5 := Lib.hid hb5
            have hq5 : q < (w4.setCell ⟨q, 1, none⟩ (.slice A4 (n + 1) c4)).heap.size := by simp; omega
            have HQ5 := Lib.hid hq5
            clear u0 u1 ho5 hb5 hq5 hov ho1 hc0 hc1 ho2 hbs3 hfar hz3 hq3 y0 y1 y2 y4 yf o4 g4 p4
            refine hK.out _ _ ?_ (fun hHeld => ?_)
            · (try dsimp only); go_keep
            clear hK K
            refine wpAnyH_take (i := 10) (v := ?_) rfl (by kernel_rfl) (by kernel_rfl) (by kernel_rfl) (fun _ _ _ h => h) (Or.inl ⟨by rfl, ?_⟩) (by assumption) ?_
            rotate_left
            · intro wq hSw; (try dsimp only at hSw); go_simp; (try with_reducible rfl)
            simp only [Act.put]
            refine wpAnyH_ready (rs := [11]) (by kernel_rfl) (by simp) ?_
            refine AllReadyH.cons rfl (fun K hK => ?_) ?_
            · skip
              go_simp
              refine hK.out _ _ ?_ (fun hHeld => ?_)
              · (try dsimp only); go_keep
              clear hK K
              refine wpAnyH_done (by kernel_rfl) ?_ _
              go_simp
              go_wp2_with fail
              go_meet
              exact ⟨A4, c4, _, _, rfl, HO5.out, U0.out, U1.out, HB5.out, HQ5.out⟩
            exact AllReadyH.nil
          exact AllReadyH.nil
        exact AllReadyH.nil
      exact AllReadyH.nil
    refine AllReadyH.cons rfl (fun K hK => ?_) ?_
    · skip
      go_simp
      go_at_call 79
      refine (libClone E ne ce ys V.drew hyV hne).mono ?_
      rintro e w3 ⟨A1, c1x, rfl, o3, b3⟩
      have b3x : Below V.heap.size V w3 := (Below.drew (Below.refl _ _)).trans b3
      have e0 := (b3x.cell (p := ⟨w.heap.size + 1, 0, none⟩) sv).trans v0
      have e1 := (b3x.cell (p := ⟨w.heap.size + 1, 1, none⟩) sv).trans v1
      have e2 := (b3x.cell (p := ⟨q, 1, none⟩) sq).trans q1
      have ef := (b3x.frozen (p := ⟨q, 1, none⟩) sq).trans qf
      have e4 := (b3x.cell (p := ⟨q, 0, none⟩) sq).trans q0
      have s3 := b3x.size
      have hw3 : q < w3.heap.size := by omega
      have hw4 : ¬ q = w3.heap.size := by omega
      have hv3 : w.heap.size + 1 < w3.heap.size := by omega
      clear b3x
      refine hK.out _ _ ?_ (fun hHeld => ?_)
      · (try dsimp only); go_keep
      clear hK K
      refine wpAnyH_take (i := 7) (v := ?_) rfl (by kernel_rfl) (by kernel_rfl) (by kernel_rfl) (fun _ _ _ h => h) (Or.inl ⟨by rfl, ?_⟩) (by assumption) ?_
      rotate_left
      · intro wq hSw; (try dsimp only at hSw); go_simp; (try with_reducible rfl)
      simp only [Act.put]
      refine wpAnyH_ready (rs := [1, 8]) (by kernel_rfl) (by simp) ?_
      refine AllReadyH.cons rfl (fun K hK => ?_) ?_
      · skip
        go_simp
        refine hK.out _ _ ?_ (fun hHeld => ?_)
        · (try dsimp only); go_keep
        clear hK K
        refine wpAnyH_ready (rs := [8]) (by kernel_rfl) (by simp) ?_
        refine AllReadyH.cons rfl (fun K hK => ?_) ?_
        · skip
          go_simp
          refine hK.out _ _ ?_ (fun hHeld => ?_)
          · (try dsimp only); go_keep
          clear hK K
          refine wpAnyH_ready (rs := [9]) (by kernel_rfl) (by simp) ?_
          refine AllReadyH.cons rfl (fun K hK => ?_) ?_
          · skip
            have hov := (HOV.out.on b3).alloc (.cells #[.slice A1 ne c1x, .int .i64 t] 62)
            have ho1 := own_alloc (own_mono o3 hBV) (.cells #[.slice A1 ne c1x, .int .i64 t] 62)
            have hc0 : (w3.alloc (.cells #[.slice A1 ne c1x, .int .i64 t] 62)).cell? ⟨w3.heap.size, 0, none⟩ = some (.slice A1 ys.length c1x) := by rw [HYL.out]; simp
            have hc1 : (w3.alloc (.cells #[.slice A1 ne c1x, .int .i64 t] 62)).cell? ⟨w3.heap.size, 1, none⟩ = some (.int .i64 t) := by simp
            have ho2 : Own (w3.alloc (.cells #[.slice A1 ne c1x, .int .i64 t] 62)) w1.heap.size A1 ys.length c1x ys := by rw [HYL.out]; exact ho1
            have hbs3 : w1.heap.size ≤ (w3.alloc (.cells #[.slice A1 ne c1x, .int .i64 t] 62)).heap.size := by simp; omega
            have hfar : ∀ a, A1 = some a → V.heap.size ≤ a.block := fun a ha => (own_ge o3 a ha).1
            have hz3 : w.heap.size + 1 < (w3.alloc (.cells #[.slice A1 ne c1x, .int .i64 t] 62)).heap.size := by simp; omega
            have hq3 : q < (w3.alloc (.cells #[.slice A1 ne c1x, .int .i64 t] 62)).heap.size := by simp; omega
            have y0 := (World.cell?_alloc_past (w := w3) (.cells #[.slice A1 ne c1x, .int .i64 t] 62) (w.heap.size + 1) 0 hv3).trans e0
            have y1 := (World.cell?_alloc_past (w := w3) (.cells #[.slice A1 ne c1x, .int .i64 t] 62) (w.heap.size + 1) 1 hv3).trans e1
            have y2 := (World.cell?_alloc_past (w := w3) (.cells #[.slice A1 ne c1x, .int .i64 t] 62) q 1 hw3).trans e2
            have y4 := (World.cell?_alloc_past (w := w3) (.cells #[.slice A1 ne c1x, .int .i64 t] 62) q 0 hw3).trans e4
            have yf := (World.frozen?_alloc_past (w := w3) (.cells #[.slice A1 ne c1x, .int .i64 t] 62) q 1 hw3).trans ef
            refine step_apV (w3.alloc (.cells #[.slice A1 ne c1x, .int .i64 t] 62)) rfl (.tmp 14) (.tmp 21) rfl w1.heap.size A2 n c2 G C (rk vs) (ct vs) rfl hov A1 c1x ys t w3.heap.size 1 rfl hc0 hc1 ho2 V.heap.size HINV.out hfar hk20 hbs3 ?_
            intro A4 c4 w4 o4 g4 p4
            have f0 := far_cell g4 hz3 HNV.out y0
            have f1 := far_cell g4 hz3 HNV.out y1
            have f2 := far_cell g4 hq3 HNQ.out y2
            have f4 := far_cell g4 hq3 HNQ.out y4
            have ff := far_frozen g4 hq3 HNQ.out yf
            have hbl4 : Below w1.heap.size V w4 := below_apV ((((Below.drew (Below.refl _ _)).trans b3).mono hBV).alloc (by omega) (.cells #[.slice A1 ne c1x, .int .i64 t] 62)) hov g4 hbs3
            have hsz4 : w3.heap.size < w4.heap.size := by have := g4.size; simp at this; omega
            have ho5 := o4.mid (Mid.setCell (p := ⟨q, 1, none⟩) (lo := q) (hi := q + 1) w4 ⟨Nat.le_refl q, Nat.lt_succ_self q⟩ (.slice A4 (n + 1) c4)) (fun a ha => by
              rcases p4 with e | e
              · rw [ha] at e; obtain ⟨a0, h0, h2⟩ := map_block e; have h2 : a0.block = a.block := h2; have := HIN.out.1 a0 h0; left; omega
              · rw [ha] at e; injection e with e; right; have h9 : a.block = w3.heap.size + 1 := by simpa using e
                omega) (fun j hj a ha => by
              by_cases ej : j = n
              · subst ej; simp only [if_true] at ha; have := hfar a ha; right; omega
              · simp only [if_neg ej] at ha; have := HIN.out.2 j (by omega) a ha; left; omega)
            have u0 : (w4.setCell ⟨q, 1, none⟩ (.slice A4 (n + 1) c4)).cell? ⟨q, 0, none⟩ = some (.int .i64 m) := by simp [go_sem, f4]
            have u1 : (w4.setCell ⟨q, 1, none⟩ (.slice A4 (n + 1) c4)).cell? ⟨q, 1, none⟩ = some (.slice A4 (n + 1) c4) := by simp [go_sem, f2]
            have hb5 : Below w1.heap.size V (w4.setCell ⟨q, 1, none⟩ (.slice A4 (n + 1) c4)) := hbl4.setCell (by show w1.heap.size ≤ q; omega) _
            have U0 := Lib.hid u0; have U1 := Lib.hid u1; have HO5 := Lib.hid ho5; have HB5 := Lib.hid hb5
            have hq5 : q < (w4.setCell ⟨q, 1, none⟩ (.slice A4 (n + 1) c4)).heap.size := by simp; omega
            have HQ5 := Lib.hid hq5
            clear u0 u1 ho5 hb5 hq5 hov ho1 hc0 hc1 ho2 hbs3 hfar hz3 hq3 y0 y1 y2 y4 yf o4 g4 p4
            refine hK.out _ _ ?_ (fun hHeld => ?_)
            · (try dsimp only); go_keep
            clear hK K
            refine wpAnyH_take (i := 10) (v := ?_) rfl (by kernel_rfl) (by kernel_rfl) (by kernel_rfl) (fun _ _ _ h => h) (Or.inl ⟨by rfl, ?_⟩) (by assumption) ?_
            rotate_left
            · intro wq hSw; (try dsimp only at hSw); go_simp; (try with_reducible rfl)
            simp only [Act.put]
            refine wpAnyH_ready (rs := [11]) (by kernel_rfl) (by simp) ?_
            refine AllReadyH.cons rfl (fun K hK => ?_) ?_
            · skip
              go_simp
              refine hK.out _ _ ?_ (fun hHeld => ?_)
              · (try dsimp only); go_keep
              clear hK K
              refine wpAnyH_done (by kernel_rfl) ?_ _
              go_simp
              go_wp2_with fail
              go_meet
              exact ⟨A4, c4, _, _, rfl, HO5.out, U0.out, U1.out, HB5.out, HQ5.out⟩
            exact AllReadyH.nil
          exact AllReadyH.nil
        exact AllReadyH.nil
      refine AllReadyH.cons rfl (fun K hK => ?_) ?_
      · skip
        go_simp
        refine hK.out _ _ ?_ (fun hHeld => ?_)
        · (try dsimp only); go_keep
        clear hK K
        refine wpAnyH_ready (rs := [1]) (by kernel_rfl) (by simp) ?_
        refine AllReadyH.cons rfl (fun K hK => ?_) ?_
        · skip
          go_simp
          refine hK.out _ _ ?_ (fun hHeld => ?_)
          · (try dsimp only); go_keep
          clear hK K
          refine wpAnyH_ready (rs := [9]) (by kernel_rfl) (by simp) ?_
          refine AllReadyH.cons rfl (fun K hK => ?_) ?_
          · skip
            have hov := (HOV.out.on b3).alloc (.cells #[.slice A1 ne c1x, .int .i64 t] 62)
            have ho1 := own_alloc (own_mono o3 hBV) (.cells #[.slice A1 ne c1x, .int .i64 t] 62)
            have hc0 : (w3.alloc (.cells #[.slice A1 ne c1x, .int .i64 t] 62)).cell? ⟨w3.heap.size, 0, none⟩ = some (.slice A1 ys.length c1x) := by rw [HYL.out]; simp
            have hc1 : (w3.alloc (.cells #[.slice A1 ne c1x, .int .i64 t] 62)).cell? ⟨w3.heap.size, 1, none⟩ = some (.int .i64 t) := by simp
            have ho2 : Own (w3.alloc (.cells #[.slice A1 ne c1x, .int .i64 t] 62)) w1.heap.size A1 ys.length c1x ys := by rw [HYL.out]; exact ho1
            have hbs3 : w1.heap.size ≤ (w3.alloc (.cells #[.slice A1 ne c1x, .int .i64 t] 62)).heap.size := by simp; omega
            have hfar : ∀ a, A1 = some a → V.heap.size ≤ a.block := fun a ha => (own_ge o3 a ha).1
            have hz3 : w.heap.size + 1 < (w3.alloc (.cells #[.slice A1 ne c1x, .int .i64 t] 62)).heap.size := by simp; omega
            have hq3 : q < (w3.alloc (.cells #[.slice A1 ne c1x, .int .i64 t] 62)).heap.size := by simp; omega
            have y0 := (World.cell?_alloc_past (w := w3) (.cells #[.slice A1 ne c1x, .int .i64 t] 62) (w.heap.size + 1) 0 hv3).trans e0
            have y1 := (World.cell?_alloc_past (w := w3) (.cells #[.slice A1 ne c1x, .int .i64 t] 62) (w.heap.size + 1) 1 hv3).trans e1
            have y2 := (World.cell?_alloc_past (w := w3) (.cells #[.slice A1 ne c1x, .int .i64 t] 62) q 1 hw3).trans e2
            have y4 := (World.cell?_alloc_past (w := w3) (.cells #[.slice A1 ne c1x, .int .i64 t] 62) q 0 hw3).trans e4
            have yf := (World.frozen?_alloc_past (w := w3) (.cells #[.slice A1 ne c1x, .int .i64 t] 62) q 1 hw3).trans ef
            refine step_apV (w3.alloc (.cells #[.slice A1 ne c1x, .int .i64 t] 62)) rfl (.tmp 14) (.tmp 21) rfl w1.heap.size A2 n c2 G C (rk vs) (ct vs) rfl hov A1 c1x ys t w3.heap.size 1 rfl hc0 hc1 ho2 V.heap.size HINV.out hfar hk20 hbs3 ?_
            intro A4 c4 w4 o4 g4 p4
            have f0 := far_cell g4 hz3 HNV.out y0
            have f1 := far_cell g4 hz3 HNV.out y1
            have f2 := far_cell g4 hq3 HNQ.out y2
            have f4 := far_cell g4 hq3 HNQ.out y4
            have ff := far_frozen g4 hq3 HNQ.out yf
            have hbl4 : Below w1.heap.size V w4 := below_apV ((((Below.drew (Below.refl _ _)).trans b3).mono hBV).alloc (by omega) (.cells #[.slice A1 ne c1x, .int .i64 t] 62)) hov g4 hbs3
            have hsz4 : w3.heap.size < w4.heap.size := by have := g4.size; simp at this; omega
            have ho5 := o4.mid (Mid.setCell (p := ⟨q, 1, none⟩) (lo := q) (hi := q + 1) w4 ⟨Nat.le_refl q, Nat.lt_succ_self q⟩ (.slice A4 (n + 1) c4)) (fun a ha => by
              rcases p4 with e | e
              · rw [ha] at e; obtain ⟨a0, h0, h2⟩ := map_block e; have h2 : a0.block = a.block := h2; have := HIN.out.1 a0 h0; left; omega
              · rw [ha] at e; injection e with e; right; have h9 : a.block = w3.heap.size + 1 := by simpa using e
                omega) (fun j hj a ha => by
              by_cases ej : j = n
              · subst ej; simp only [if_true] at ha; have := hfar a ha; right; omega
              · simp only [if_neg ej] at ha; have := HIN.out.2 j (by omega) a ha; left; omega)
            have u0 : (w4.setCell ⟨q, 1, none⟩ (.slice A4 (n + 1) c4)).cell? ⟨q, 0, none⟩ = some (.int .i64 m) := by simp [go_sem, f4]
            have u1 : (w4.setCell ⟨q, 1, none⟩ (.slice A4 (n + 1) c4)).cell? ⟨q, 1, none⟩ = some (.slice A4 (n + 1) c4) := by simp [go_sem, f2]
            have hb5 : Below w1.heap.size V (w4.setCell ⟨q, 1, none⟩ (.slice A4 (n + 1) c4)) := hbl4.setCell (by show w1.heap.size ≤ q; omega) _
            have U0 := Lib.hid u0; have U1 := Lib.hid u1; have HO5 := Lib.hid ho5; have HB5 := Lib.hid hb5
            have hq5 : q < (w4.setCell ⟨q, 1, none⟩ (.slice A4 (n + 1) c4)).heap.size := by simp; omega
            have HQ5 := Lib.hid hq5
            clear u0 u1 ho5 hb5 hq5 hov ho1 hc0 hc1 ho2 hbs3 hfar hz3 hq3 y0 y1 y2 y4 yf o4 g4 p4
            refine hK.out _ _ ?_ (fun hHeld => ?_)
            · (try dsimp only); go_keep
            clear hK K
            refine wpAnyH_take (i := 10) (v := ?_) rfl (by kernel_rfl) (by kernel_rfl) (by kernel_rfl) (fun _ _ _ h => h) (Or.inl ⟨by rfl, ?_⟩) (by assumption) ?_
            rotate_left
            · intro wq hSw; (try dsimp only at hSw); go_simp; (try with_reducible rfl)
            simp only [Act.put]
            refine wpAnyH_ready (rs := [11]) (by kernel_rfl) (by simp) ?_
            refine AllReadyH.cons rfl (fun K hK => ?_) ?_
            · skip
              go_simp
              refine hK.out _ _ ?_ (fun hHeld => ?_)
              · (try dsimp only); go_keep
              clear hK K
              refine wpAnyH_done (by kernel_rfl) ?_ _
              go_simp
              go_wp2_with fail
              go_meet
              exact ⟨A4, c4, _, _, rfl, HO5.out, U0.out, U1.out, HB5.out, HQ5.out⟩
            exact AllReadyH.nil
          exact AllReadyH.nil
        exact AllReadyH.nil
      exact AllReadyH.nil
    exact AllReadyH.nil
  case rest =>
    obtain ⟨A4, c4, G4, C4, rfl, oo, z0, z1, hb5, hq5⟩ := hcut
    obtain ⟨n2, hn2⟩ : ∃ n2, n2 = n + 1 := ⟨_, rfl⟩
    rw [← hn2] at oo z1
    have hadd : (addV vs ys t).length = n2 := by rw [addV_len, hn2, HL.out]
    have hvv : Votes wc A4 n2 (addV vs ys t) := oo.votes hadd (fun k hk => addV_rk HL.out ys t (by omega)) (fun k hk => addV_ct HL.out ys t (by omega))
    have hn22 : (n2 : Int) ≤ 1048576 := by omega
    have hm2 : ∀ j, j < n2 → (rl (addV vs ys t) j : Int) ≤ 1048576 := fun j hj => by
      have e := addV_rk HL.out ys t (j := j) (by omega)
      have e2 : rl (addV vs ys t) j = (rk (addV vs ys t) j).length := rfl
      rw [e2, ← e]
      by_cases ej : j = n
      · rw [if_pos ej, HYL.out]; exact hne
      · rw [if_neg ej]; exact HM.out j (by omega)
    have HM2 := Lib.hid hm2
    have oo2 := oo.congr (fun k hk => addV_rk HL.out ys t (by omega)) (fun k hk => addV_ct HL.out ys t (by omega))
    have bl5 : Below w.heap.size w wc := bV.trans (hb5.mono (by omega))
    have hrV : w.heap.size + 1 + 1 < wc.heap.size := by omega
    replace r0 := (hb5.cell (p := ⟨w.heap.size + 1 + 1, 0, none⟩) (by show w.heap.size + 1 + 1 < w1.heap.size; omega)).trans r0
    replace r1 := (hb5.cell (p := ⟨w.heap.size + 1 + 1, 1, none⟩) (by show w.heap.size + 1 + 1 < w1.heap.size; omega)).trans r1
    replace rf0 := (hb5.frozen (p := ⟨w.heap.size + 1 + 1, 0, none⟩) (by show w.heap.size + 1 + 1 < w1.heap.size; omega)).trans rf0
    replace rf1 := (hb5.frozen (p := ⟨w.heap.size + 1 + 1, 1, none⟩) (by show w.heap.size + 1 + 1 < w1.heap.size; omega)).trans rf1
    have HO := Lib.hid oo2
    clear hm2 oo oo2 hadd hb5
    rw [← hn2]
    have HN2 := Lib.hid hn2; clear hn2
    go_wp2_with fail
    refine (implProfileOk m A4 n2 c4 _ _ hvv hn22 HM2.out).mono ?_; rintro e w6 ⟨rfl, b6⟩
    rw [HQ.out]
    have bl6 := Below.on bl5 b6
    replace r0 := (b6.cell (p := ⟨w.heap.size + 1 + 1, 0, none⟩) hrV).trans r0
    replace r1 := (b6.cell (p := ⟨w.heap.size + 1 + 1, 1, none⟩) hrV).trans r1
    replace rf0 := (b6.frozen (p := ⟨w.heap.size + 1 + 1, 0, none⟩) hrV).trans rf0
    replace rf1 := (b6.frozen (p := ⟨w.heap.size + 1 + 1, 1, none⟩) hrV).trans rf1
    have z0 := (b6.cell (p := ⟨q, 0, none⟩) hq5).trans z0
    have z1 := (b6.cell (p := ⟨q, 1, none⟩) hq5).trans z1
    have HO6 := Lib.hid (HO.out.on b6)
    clear b6 hvv
    go_wp2_with fail
    have HO7 := Lib.hid (((HO6.out.setOther (p := ⟨w.heap.size + 1 + 1, 0, none⟩) (by show w.heap.size + 1 + 1 < w1.heap.size; omega) (.int .i64 m)).setOther (p := ⟨w.heap.size + 1 + 1, 1, none⟩) (by show w.heap.size + 1 + 1 < w1.heap.size; omega) (.slice A4 n2 c4)).mono (base' := w.heap.size) (by omega))
    refine bodyPost_ret (v := .tuple #[.agg #[.int .i64 m, .slice A4 n2 c4], .bool true]) (by simp [results, Try.results44, go_sem, r0, r1]) rfl ?_
    rw [← HN2.out]
    exact ⟨A4, c4, G4, C4, rfl, HO7.out, (bl6.setCell (by show w.heap.size ≤ w.heap.size + 1 + 1; omega) _).setCell (by show w.heap.size ≤ w.heap.size + 1 + 1; omega) _⟩

theorem implAddVote (m : Int) (A : Option Addr) (n c : Nat) (vs : List (List Int × Int)) (E : Option Addr) (ne ce : Nat) (ys : List Int) (t : Int) (w : World) (h : Votes w A n vs) (hn : (n : Int) ≤ 1048576) (hm : ∀ j, j < n → (rl vs j : Int) ≤ 1048576) (hy : Ints w E ne ys) (hne : (ne : Int) ≤ 1048576) :
    Calls Try.prog 44 #[.agg #[.int .i64 m, .slice A n c], .agg #[.slice E ne ce, .int .i64 t]] w fun e w' => ∃ A' c' G C, e = .returned (.tuple #[.agg #[.int .i64 (adM m vs ys t), .slice A' (adV m vs ys t).length c'], .bool (adOk m vs ys t)]) ∧ OwnV w' w.heap.size A' (adV m vs ys t).length c' G C (rk (adV m vs ys t)) (ct (adV m vs ys t)) ∧ Below w.heap.size w w' := by
  have hl := h.1
  have no : adOk m vs ys t = false → (Calls Try.prog 44 #[.agg #[.int .i64 m, .slice A n c], .agg #[.slice E ne ce, .int .i64 t]] w fun e w' => e = .returned (.tuple #[.agg #[.int .i64 0, .slice none 0 0], .bool false]) ∧ Below w.heap.size w w') → (Calls Try.prog 44 #[.agg #[.int .i64 m, .slice A n c], .agg #[.slice E ne ce, .int .i64 t]] w fun e w' => ∃ A' c' G C, e = .returned (.tuple #[.agg #[.int .i64 (adM m vs ys t), .slice A' (adV m vs ys t).length c'], .bool (adOk m vs ys t)]) ∧ OwnV w' w.heap.size A' (adV m vs ys t).length c' G C (rk (adV m vs ys t)) (ct (adV m vs ys t)) ∧ Below w.heap.size w w') := by
    intro hf hc
    have eM : adM m vs ys t = 0 := by unfold adM; rw [hf]; rfl
    have eV : adV m vs ys t = [] := by unfold adV; rw [hf]; rfl
    rw [eM, eV, hf]
    refine hc.mono ?_; rintro e w1 ⟨rfl, b⟩
    exact ⟨none, 0, fun _ => none, fun _ => 0, rfl, OwnV.nil_ _ _ _ _ _ _, b⟩
  cases hp : profP m vs with
  | false => exact no (by simp [adOk, hp]) (implAddVoteF1 m A n c vs E ne ce ys t w h hn hm hp)
  | true =>
    cases hq : profP m (addV vs ys t) with
    | false => exact no (by simp [adOk, hq]) (implAddVoteF2 m A n c vs E ne ce ys t w h hn hm hy hne hp hq)
    | true =>
      have hf : adOk m vs ys t = true := by simp [adOk, hp, hq]
      have eM : adM m vs ys t = m := by unfold adM; rw [hf]; rfl
      have eV : adV m vs ys t = addV vs ys t := by unfold adV; rw [hf]; rfl
      have eL : (addV vs ys t).length = n + 1 := by rw [addV_len, hl]
      rw [eM, eV, eL, hf]
      exact implAddVoteT m A n c vs E ne ce ys t w h hn hm hy hne hp hq

end Go.Proofs.Ytblofiimfhbkdaa
