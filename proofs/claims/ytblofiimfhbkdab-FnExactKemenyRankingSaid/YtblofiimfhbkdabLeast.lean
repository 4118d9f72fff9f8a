/- The rankings with the least Kemeny score: what the program's and the reference's functions compute. -/
import Derived.Test.YtblofiimfhbkdabAxis
import Derived.Test.YtblofiimfhbkdabKemP
import Derived.Lib.SliceRun
import Derived.OwnWalk
namespace Go.Proofs.Ytblofiimfhbkdab
open Go.RowKit
set_option maxRecDepth 100000

/-- Behind k rounds: the first of the least, the least, how many have it. -/
def kb (f : Nat → Int) : Nat → Nat × Int × Int
  | 0 => (0, 0, 0)
  | k + 1 => if k = 0 ∨ f k < (kb f k).2.1 then (k, f k, 1) else if f k = (kb f k).2.1 then ((kb f k).1, (kb f k).2.1, (kb f k).2.2 + 1) else kb f k
theorem kb_new {f : Nat → Int} {k : Nat} (h : k = 0 ∨ f k < (kb f k).2.1) : kb f (k + 1) = (k, f k, 1) := by rw [kb, if_pos h]
theorem kb_eq {f : Nat → Int} {k : Nat} (h0 : 0 < k) (h : f k = (kb f k).2.1) : kb f (k + 1) = ((kb f k).1, (kb f k).2.1, (kb f k).2.2 + 1) := by
  rw [kb, if_neg (by omega), if_pos h]
theorem kb_gt {f : Nat → Int} {k : Nat} (h0 : 0 < k) (h : (kb f k).2.1 < f k) : kb f (k + 1) = kb f k := by
  rw [kb, if_neg (by omega), if_neg (by omega)]
theorem kb_bd {f : Nat → Int} : ∀ k, (0 < k → (kb f k).1 < k) ∧ 0 ≤ (kb f k).2.2 ∧ (kb f k).2.2 ≤ k
  | 0 => by simp [kb]
  | k + 1 => by
    have ih := kb_bd (f := f) k
    by_cases h : k = 0 ∨ f k < (kb f k).2.1
    · rw [kb_new h]; dsimp only; omega
    · by_cases h2 : f k = (kb f k).2.1
      · rw [kb_eq (by omega) h2]; dsimp only; omega
      · rw [kb_gt (by omega) (by omega)]; omega
/-- The cost of the k-th ranking. -/
def kf (m : Int) (vs : List (List Int × Int)) (k : Nat) : Int := kemS vs ((ranksP m).getD k []) vs.length
theorem kf_at {m : Int} {vs : List (List Int × Int)} {hs : List Hd} {k n : Nat} (hl : vs.length = n) (h : cont hs = ranksP m) (hk : k < hs.length) : kf m vs k = kemS vs (hx hs k) n := by
  have h1 := cont_nth hk
  rw [h] at h1
  unfold kf
  rw [hl]
  simp [List.getD, h1]
def kbN (m : Int) (vs : List (List Int × Int)) : Nat × Int × Int := kb (kf m vs) (ranksP m).length
def kmL (m : Int) (vs : List (List Int × Int)) : List Int := if profP m vs then (ranksP m).getD (kbN m vs).1 [] else []
def kmC (m : Int) (vs : List (List Int × Int)) : Int := if profP m vs then (kbN m vs).2.2 else -1
theorem kmL_no {m : Int} {vs : List (List Int × Int)} (h : profP m vs = false) : kmL m vs = [] := by simp [kmL, h]
theorem kmC_no {m : Int} {vs : List (List Int × Int)} (h : profP m vs = false) : kmC m vs = -1 := by simp [kmC, h]
theorem kmL_yes {m : Int} {vs : List (List Int × Int)} {hs : List Hd} {N : Nat} (hp : profP m vs = true) (h : cont hs = ranksP m) (hN : hs.length = N) (hk : (kb (kf m vs) N).1 < N) : kmL m vs = hx hs (kb (kf m vs) N).1 := by
  have e : (ranksP m).length = N := by rw [← h, cont_len, hN]
  unfold kmL kbN
  rw [if_pos hp, e]
  have h1 := cont_nth (hs := hs) (k := (kb (kf m vs) N).1) (by omega)
  rw [h] at h1
  simp [List.getD, h1]
theorem kmC_yes {m : Int} {vs : List (List Int × Int)} {hs : List Hd} {N : Nat} (hp : profP m vs = true) (h : cont hs = ranksP m) (hN : hs.length = N) : kmC m vs = (kb (kf m vs) N).2.2 := by
  have e : (ranksP m).length = N := by rw [← h, cont_len, hN]
  unfold kmC kbN
  rw [if_pos hp, e]
theorem ranks_pos0 : ∀ m, m < 6 → 0 < m → 0 < (ordP m (upTo m)).length := by decide +kernel
theorem ranks_pos {q : Nat} (h : 1 ≤ (q : Int) ∧ (q : Int) ≤ 5) : 0 < (ranksP q).length := by
  rw [ranks_yes h]
  exact ranks_pos0 q (by omega) (by omega)
/-- What the cost of a ranking lies within, and that the two functions for it agree. -/
theorem kf_facts {m : Int} {vs : List (List Int × Int)} {n : Nat} (hl : vs.length = n) (hp : profP m vs = true) : (∀ k, k < n → rankOkP m (rk vs k) = true ∧ (1 ≤ ct vs k ∧ ct vs k ≤ 1000)) ∧ n ≤ 24 := by
  have h := of_prof hp
  exact ⟨fun k hk => of_votes h.2.2 (by omega), by omega⟩
theorem kmL_len {m : Int} {vs : List (List Int × Int)} : (kmL m vs).length ≤ 5 := by
  cases hp : profP m vs with
  | false => rw [kmL_no hp]; simp
  | true =>
    unfold kmL
    rw [if_pos hp]
    by_cases hk : (kbN m vs).1 < (ranksP m).length
    · have hmem : (ranksP m).getD (kbN m vs).1 [] ∈ ranksP m := by simp [List.getD, hk]
      have hm := (of_prof hp).1
      obtain ⟨q, rfl⟩ : ∃ q : Nat, m = (q : Int) := ⟨m.toNat, by omega⟩
      have h2 := ranks_rank0 q (by omega) (by omega)
      rw [List.all_eq_true, ← ranks_yes hm] at h2
      have h4 := of_rank (h2 _ hmem)
      omega
    · simp [List.getD, List.getElem?_eq_none (Nat.le_of_not_lt hk)]

set_option maxHeartbeats 8000000 in
theorem specL08Best (q : Nat) (A : Option Addr) (n c : Nat) (vs : List (List Int × Int)) (w : World) (h : Votes w A n vs) (hm : ∀ j, j < n → (rl vs j : Int) ≤ 1048576) (hp : profP q vs = true) :
    Calls Try.prog 56 #[.agg #[.int .i64 (q : Int), .slice A n c]] w fun e w' => ∃ A' c', e = .returned (.tuple #[.slice A' (kmL q vs).length c', .int .i64 (kmC q vs)]) ∧ Own w' w.heap.size A' (kmL q vs).length c' (kmL q vs) ∧ Below w.heap.size w w' := by
  have bl : Below w.heap.size w ((w.alloc (.cells #[.int .i64 (q : Int), .slice A n c] 30)).alloc (.cells #[] 3)) := ((Below.refl _ _).alloc (Nat.le_refl _) _).alloc (by simp) _
  have k0 : ((w.alloc (.cells #[.int .i64 (q : Int), .slice A n c] 30)).alloc (.cells #[] 3)).cell? ⟨w.heap.size, 0, none⟩ = some (.int .i64 (q : Int)) := by simp [go_sem]
  have k1 : ((w.alloc (.cells #[.int .i64 (q : Int), .slice A n c] 30)).alloc (.cells #[] 3)).cell? ⟨w.heap.size, 1, none⟩ = some (.slice A n c) := by simp [go_sem]
  have sW : w.heap.size < ((w.alloc (.cells #[.int .i64 (q : Int), .slice A n c] 30)).alloc (.cells #[] 3)).heap.size := by simp; omega
  have hV := h.on bl
  have hq5 := (of_prof hp).1
  obtain ⟨hrk, hn24⟩ := kf_facts h.1 hp
  have HRK := Lib.hid hrk; clear hrk
  have HL := Lib.hid h.1
  have HP := Lib.hid hp
  have HPO := Lib.hid (ranks_pos hq5)
  clear hp
  have HM := Lib.hid hm; clear hm
  have hn24' : (n : Int) ≤ 24 := by omega
  go_enter Try.func56, Try.ntmps56
  go_wp2_with fail
  refine (specAllRankings q _).mono ?_; rintro e w1 ⟨A1, n1, c1, rfl, hs, hL, hcont, b1⟩
  have bl1 := Below.on bl b1
  have hs0 : w.heap.size ≤ ((w.alloc (.cells #[.int .i64 (q : Int), .slice A n c] 30)).alloc (.cells #[] 3)).heap.size := by omega
  replace k0 := (b1.cell (p := ⟨w.heap.size, 0, none⟩) sW).trans k0
  replace k1 := (b1.cell (p := ⟨w.heap.size, 1, none⟩) sW).trans k1
  have s1 := Nat.lt_of_lt_of_le sW b1.size
  have hV1 := hV.on b1
  have hL1 := hL.mono hs0
  have HLI := Lib.hid hL1
  have HC := Lib.hid hcont
  have hln : hs.length = n1 := hL.len
  have h120 : n1 ≤ 120 := by have := cont_len' hcont; omega
  have hpos : 0 < n1 := by have := HPO.out; rw [← hcont, cont_len, hln] at this; exact this
  have HLN := Lib.hid hln
  have h120' : (n1 : Int) ≤ 120 := by omega
  clear hL hL1 hcont b1 hV hln sW hs0
  go_wp2_with fail
  go_loopw [4, 5, 6, 15] (fun a u v i wr => ∃ k : Nat, (k : Int) ≤ n1 ∧ (∃ B l d, a = .slice B l d ∧ (0 < k → B = hA hs (kb (kf q vs) k).1 ∧ l = hl hs (kb (kf q vs) k).1 ∧ d = hc hs (kb (kf q vs) k).1)) ∧ u = .int .i64 (kb (kf q vs) k).2.1 ∧ v = .int .i64 (kb (kf q vs) k).2.2 ∧ i = .int .i64 k ∧ Below w1.heap.size w1 wr) (fun _ _ _ i _ => n1 - (intOf i).toNat)
  case atStart => exact ⟨0, by omega, ⟨_, _, _, rfl, fun h => absurd h (by omega)⟩, rfl, rfl, rfl, Below.refl _ _⟩
  case round =>
    obtain ⟨k, hk, hbest, rfl, rfl, rfl, hb⟩ := hrel
    obtain ⟨Bk, lk, dk, rfl, hbk⟩ := hbest
    obtain ⟨wo, rfl⟩ : ∃ wo : World, wo = wr := ⟨_, rfl⟩
    obtain ⟨hkb1, hkb2, hkb3⟩ := kb_bd (f := kf q vs) k
    have HBK := Lib.hid hbk; clear hbk
    have HK1 := Lib.hid hkb1; clear hkb1
    by_cases hlt : (k : Int) < n1
    · have hLo := HLI.out.below hb (Nat.le_refl _)
      obtain ⟨b, o, rfl, hbs, hcl, hcap, hmx, hI⟩ := hLo.lists.at_ (k := k) (by omega)
      obtain ⟨hrk, hlk, hm5⟩ := cont_rank HC.out (k := k) (by rw [HLN.out]; omega)
      have hl5 : (hl hs k : Int) ≤ 1048576 := by omega
      have hlc : (hl hs k : Int) ≤ hc hs k := by omega
      have hlpos : 0 < hl hs k := by omega
      have hkf := kf_at HL.out HC.out (k := k) (by rw [HLN.out]; omega)
      have hbd := kem_bd (m := q) (vs := vs) (ax := hx hs k) (by rw [HL.out]; exact HRK.out) hrk
      rw [HL.out] at hbd
      have HKB := Lib.hid hbd; clear hbd
      have hkn := HKB.out n (Nat.le_refl _)
      rw [← hkf] at hkn
      have HKF := Lib.hid hkf; clear hkf
      have HR := Lib.hid hrk; clear hrk
      have HVO := Lib.hid (hV1.on hb)
      have HI := Lib.hid hI; clear hI hLo
      have k0o := (hb.cell (p := ⟨w.heap.size, 0, none⟩) s1).trans k0
      have k1o := (hb.cell (p := ⟨w.heap.size, 1, none⟩) s1).trans k1
      obtain ⟨F, hF⟩ : ∃ F, F = kf q vs k := ⟨_, rfl⟩
      obtain ⟨L, hLL⟩ : ∃ L, L = (kb (kf q vs) k).2.1 := ⟨_, rfl⟩
      obtain ⟨M, hMM⟩ : ∃ M, M = (kb (kf q vs) k).2.2 := ⟨_, rfl⟩
      rw [← hF] at hkn
      rw [← hMM] at hkb2 hkb3
      rw [← hLL, ← hMM]
      have HF := Lib.hid hF; have HLL := Lib.hid hLL; have HMM := Lib.hid hMM
      clear hF hLL hMM hlk hm5
      rcases Nat.eq_zero_or_pos k with hk0 | hk0
      · subst hk0
        have HS := Lib.hid (kb_new (f := kf q vs) (k := 0) (by first | (exact .inl (by omega)) | (right; rw [← HF.out, ← HLL.out]; omega)))
        rw [Nat.add_zero] at hcl
        rw [show ((0 : Nat) : Int) = 0 from rfl]
        have h0n : (0 : Int) < n1 := by omega
        clear hlt
        go_wp2_with fail
        refine (specKemeny q A n c vs _ _ _ _ _ HVO.out hn24' HM HI.out hl5 HRK HKB HR).mono ?_; rintro e w2 ⟨rfl, b2⟩
        rw [← HKF.out, ← HF.out]
        have hb2 := Below.on hb b2
        clear b2
        go_wp2_with fail
        go_roundw
        case rel => exact ⟨0 + 1, by omega, ⟨_, _, _, rfl, fun _ => by rw [HS.out]; exact ⟨rfl, rfl, rfl⟩⟩, by rw [HS.out, HF.out], by rw [HS.out], by go_num, hb2⟩
        case measure => simp [intOf]; omega
      · have hkne : ((k : Int) == 0) = false := by simp; omega
        have hk0' : (0 : Int) < k := by omega
        by_cases h1 : F < L
        · have HS := Lib.hid (kb_new (f := kf q vs) (k := k) (by first | (exact .inl (by omega)) | (right; rw [← HF.out, ← HLL.out]; omega)))
          go_wp2_with fail
          refine (specKemeny q A n c vs _ _ _ _ _ HVO.out hn24' HM HI.out hl5 HRK HKB HR).mono ?_; rintro e w2 ⟨rfl, b2⟩
          rw [← HKF.out, ← HF.out]
          have hb2 := Below.on hb b2
          clear b2
          go_wp2_with fail
          go_roundw
          case rel => exact ⟨k + 1, by omega, ⟨_, _, _, rfl, fun _ => by rw [HS.out]; exact ⟨rfl, rfl, rfl⟩⟩, by rw [HS.out, HF.out], by rw [HS.out], by go_num, hb2⟩
          case measure => simp [intOf]; omega
        · by_cases h2 : F = L
          · have HS := Lib.hid (kb_eq (f := kf q vs) (k := k) (by omega) (by rw [← HF.out, ← HLL.out]; omega))
            go_wp2_with fail
            refine (specKemeny q A n c vs _ _ _ _ _ HVO.out hn24' HM HI.out hl5 HRK HKB HR).mono ?_; rintro e w2 ⟨rfl, b2⟩
            rw [← HKF.out, ← HF.out]
            have hb2 := Below.on hb b2
            clear b2
            go_wp2_with fail
            go_roundw
            case rel => exact ⟨k + 1, by omega, ⟨_, _, _, rfl, fun _ => by rw [HS.out]; exact HBK.out (by omega)⟩, by rw [HS.out, HLL.out], by rw [HS.out, HMM.out], by go_num, hb2⟩
            case measure => simp [intOf]; omega
          · have HS := Lib.hid (kb_gt (f := kf q vs) (k := k) (by omega) (by rw [← HF.out, ← HLL.out]; omega))
            go_wp2_with fail
            refine (specKemeny q A n c vs _ _ _ _ _ HVO.out hn24' HM HI.out hl5 HRK HKB HR).mono ?_; rintro e w2 ⟨rfl, b2⟩
            rw [← HKF.out, ← HF.out]
            have hb2 := Below.on hb b2
            clear b2
            go_wp2_with fail
            go_roundw
            case rel => exact ⟨k + 1, by omega, ⟨_, _, _, rfl, fun _ => by rw [HS.out]; exact HBK.out (by omega)⟩, by rw [HS.out, HLL.out], by rw [HS.out, HMM.out], by go_num, hb2⟩
            case measure => simp [intOf]; omega
    · obtain rfl : k = n1 := by omega
      obtain ⟨rfl, rfl, rfl⟩ := HBK.out hpos
      have hi := HK1.out hpos
      have e1 := kmL_yes HP.out HC.out HLN.out hi
      have e2 := kmC_yes HP.out HC.out HLN.out
      have HE1 := Lib.hid e1; have HE2 := Lib.hid e2
      have HO := Lib.hid ((HLI.out.below hb (Nat.le_refl _)).each _ (by rw [HLN.out]; exact hi))
      clear e1 e2 hi
      go_wp2_with fail
      go_ret2
      rw [HE1.out, HE2.out]
      exact ⟨_, _, rfl, HO.out, Below.on bl1 hb⟩

set_option maxHeartbeats 1000000 in
theorem costCountKemeny (m : Int) (A : Option Addr) (n c : Nat) (vs : List (List Int × Int)) (C : Option Addr) (n1 c1 : Nat) (ax : List Int) (p : Nat) (w : World) (k0 : w.cell? ⟨p, 0, none⟩ = some (.int .i64 m)) (k1 : w.cell? ⟨p, 1, none⟩ = some (.slice A n c)) (h : Votes w A n vs) (hn : (n : Int) ≤ 1048576) (hm : ∀ j, j < n → (rl vs j : Int) ≤ 1048576) (h' : Ints w C n1 ax) (hn1 : (n1 : Int) ≤ 1048576) (hc1 : (n1 : Int) ≤ c1) :
    Calls Try.prog 58 #[.slice C n1 c1, .pointer (some ⟨p, 0, none⟩)] w fun e w' => e = .returned (.int .i64 (kemP m vs ax)) ∧ Below w.heap.size w w' := by
  go_enter Try.func58, Try.ntmps58
  go_wp2_with fail
  refine (implKemenyScore m A n c vs C n1 c1 ax _ h hn hm h' hn1 hc1).mono ?_; rintro e w1 ⟨rfl, b⟩
  go_wp2_with fail
  go_ret
  exact ⟨rfl, b⟩

set_option maxHeartbeats 2000000 in
theorem leastCountKemenyF (q : Int) (A : Option Addr) (n c : Nat) (vs : List (List Int × Int)) (p : Nat) (w : World) (h : Votes w A n vs) (hn : (n : Int) ≤ 1048576) (hm : ∀ j, j < n → (rl vs j : Int) ≤ 1048576) (hp : profP q vs = false) :
    Calls Try.prog 57 #[.agg #[.int .i64 q, .slice A n c], .func (.func 58) #[] #[.pointer (some ⟨p, 0, none⟩)]] w fun e w' => e = .returned (.tuple #[.slice none 0 0, .int .i64 0, .int .i64 0]) ∧ Below w.heap.size w w' := by
  have bl : Below w.heap.size w (w.alloc (.cells #[.int .i64 q, .slice A n c] 30)) := (Below.refl _ _).alloc (Nat.le_refl _) _
  have hV := h.on bl
  have HP := Lib.hid hp
  clear hp
  go_enter Try.func57, Try.ntmps57
  go_wp2_with fail
  refine (implProfileOk q A n c vs _ hV hn hm).mono ?_; rintro e w1 ⟨rfl, b1⟩
  rw [HP.out]
  go_wp2_with fail
  exact bodyPost_ret (v := .tuple #[.slice none 0 0, .int .i64 0, .int .i64 0]) (by simp [results, Try.results57, go_sem]) rfl ⟨rfl, Below.on bl b1⟩

set_option maxHeartbeats 8000000 in
theorem leastCountKemenyT (q : Nat) (A : Option Addr) (n c : Nat) (vs : List (List Int × Int)) (p : Nat) (w : World) (h : Votes w A n vs) (hn : (n : Int) ≤ 1048576) (hm : ∀ j, j < n → (rl vs j : Int) ≤ 1048576) (hp0 : w.cell? ⟨p, 0, none⟩ = some (.int .i64 (q : Int))) (hp1 : w.cell? ⟨p, 1, none⟩ = some (.slice A n c)) (hps : p < w.heap.size) (hp : profP q vs = true) :
    Calls Try.prog 57 #[.agg #[.int .i64 (q : Int), .slice A n c], .func (.func 58) #[] #[.pointer (some ⟨p, 0, none⟩)]] w fun e w' => ∃ A' c' L, e = .returned (.tuple #[.slice A' (kmL q vs).length c', .int .i64 L, .int .i64 (kmC q vs)]) ∧ Own w' w.heap.size A' (kmL q vs).length c' (kmL q vs) ∧ Below w.heap.size w w' := by
  have bl : Below w.heap.size w (w.alloc (.cells #[.int .i64 (q : Int), .slice A n c] 30)) := (Below.refl _ _).alloc (Nat.le_refl _) _
  have k0 : (w.alloc (.cells #[.int .i64 (q : Int), .slice A n c] 30)).cell? ⟨w.heap.size, 0, none⟩ = some (.int .i64 (q : Int)) := by simp
  have k1 : (w.alloc (.cells #[.int .i64 (q : Int), .slice A n c] 30)).cell? ⟨w.heap.size, 1, none⟩ = some (.slice A n c) := by simp
  have sW : w.heap.size < (w.alloc (.cells #[.int .i64 (q : Int), .slice A n c] 30)).heap.size := by simp
  have hV := h.on bl
  have hq5 := (of_prof hp).1
  obtain ⟨hrk, hn24⟩ := kf_facts h.1 hp
  have HRK := Lib.hid hrk; clear hrk
  have HL := Lib.hid h.1
  have HP := Lib.hid hp
  have HPO := Lib.hid (ranks_pos hq5)
  clear hp
  have HM := Lib.hid hm; clear hm
  have hn24' : (n : Int) ≤ 24 := by omega
  have pz0 := (bl.cell (p := ⟨p, 0, none⟩) hps).trans hp0
  have pz1 := (bl.cell (p := ⟨p, 1, none⟩) hps).trans hp1
  have pzs : p < (w.alloc (.cells #[.int .i64 (q : Int), .slice A n c] 30)).heap.size := by omega
  clear hp0 hp1
  go_enter Try.func57, Try.ntmps57
  go_wp2_with fail
  refine (implProfileOk q A n c vs _ hV hn HM.out).mono ?_; rintro e w0 ⟨rfl, b0⟩
  rw [HP.out]
  have bl0 := Below.on bl b0
  replace k0 := (b0.cell (p := ⟨w.heap.size, 0, none⟩) sW).trans k0
  replace k1 := (b0.cell (p := ⟨w.heap.size, 1, none⟩) sW).trans k1
  replace pz0 := (b0.cell (p := ⟨p, 0, none⟩) pzs).trans pz0
  replace pz1 := (b0.cell (p := ⟨p, 1, none⟩) pzs).trans pz1
  replace pzs := Nat.lt_of_lt_of_le pzs b0.size
  replace sW := Nat.lt_of_lt_of_le sW b0.size
  replace hV := hV.on b0
  clear b0 bl
  go_wp2_with fail
  refine (implAllRankings q _).mono ?_; rintro e w1 ⟨A1, n1, c1, rfl, hs, hL, hcont, b1⟩
  have bl1 := Below.on bl0 b1
  replace pz0 := (b1.cell (p := ⟨p, 0, none⟩) pzs).trans pz0
  replace pz1 := (b1.cell (p := ⟨p, 1, none⟩) pzs).trans pz1
  replace pzs := Nat.lt_of_lt_of_le pzs b1.size
  have hs0 : w.heap.size ≤ w0.heap.size := by omega
  replace k0 := (b1.cell (p := ⟨w.heap.size, 0, none⟩) sW).trans k0
  replace k1 := (b1.cell (p := ⟨w.heap.size, 1, none⟩) sW).trans k1
  have s1 := Nat.lt_of_lt_of_le sW b1.size
  have hV1 := hV.on b1
  have hL1 := hL.mono hs0
  have HLI := Lib.hid hL1
  have HC := Lib.hid hcont
  have hln : hs.length = n1 := hL.len
  have h120 : n1 ≤ 120 := by have := cont_len' hcont; omega
  have hpos : 0 < n1 := by have := HPO.out; rw [← hcont, cont_len, hln] at this; exact this
  have HLN := Lib.hid hln
  have h120' : (n1 : Int) ≤ 120 := by omega
  clear hL hL1 hcont b1 hV hln sW hs0
  go_wp2_with fail
  go_loopw [7, 8, 9, 20] (fun a u v i wr => ∃ k : Nat, (k : Int) ≤ n1 ∧ (∃ B l d, a = .slice B l d ∧ (0 < k → B = hA hs (kb (kf q vs) k).1 ∧ l = hl hs (kb (kf q vs) k).1 ∧ d = hc hs (kb (kf q vs) k).1) ∧ (k = 0 → B = none ∧ l = 0 ∧ d = 0)) ∧ u = .int .i64 (kb (kf q vs) k).2.1 ∧ v = .int .i64 (kb (kf q vs) k).2.2 ∧ i = .int .i64 k ∧ Below w1.heap.size w1 wr) (fun _ _ _ i _ => n1 - (intOf i).toNat)
  case atStart => exact ⟨0, by omega, ⟨none, 0, 0, rfl, fun h => absurd h (by omega), fun _ => ⟨rfl, rfl, rfl⟩⟩, rfl, rfl, rfl, Below.refl _ _⟩
  case round =>
    obtain ⟨k, hk, hbest, rfl, rfl, rfl, hb⟩ := hrel
    obtain ⟨Bk, lk, dk, rfl, hbk, hbz⟩ := hbest
    obtain ⟨wo, rfl⟩ : ∃ wo : World, wo = wr := ⟨_, rfl⟩
    obtain ⟨hkb1, hkb2, hkb3⟩ := kb_bd (f := kf q vs) k
    have HBK := Lib.hid hbk; clear hbk
    have HBZ := Lib.hid hbz; clear hbz
    have HK1 := Lib.hid hkb1; clear hkb1
    by_cases hlt : (k : Int) < n1
    · have hLo := HLI.out.below hb (Nat.le_refl _)
      obtain ⟨b, o, rfl, hbs, hcl, hcap, hmx, hI⟩ := hLo.lists.at_ (k := k) (by omega)
      obtain ⟨hrk, hlk, hm5⟩ := cont_rank HC.out (k := k) (by rw [HLN.out]; omega)
      have hl5 : (hl hs k : Int) ≤ 1048576 := by omega
      have hlc : (hl hs k : Int) ≤ hc hs k := by omega
      have hlpos : 0 < hl hs k := by omega
      have hkf := kf_at HL.out HC.out (k := k) (by rw [HLN.out]; omega)
      have hbd := kem_bd (m := q) (vs := vs) (ax := hx hs k) (by rw [HL.out]; exact HRK.out) hrk
      rw [HL.out] at hbd
      have HKB := Lib.hid hbd; clear hbd
      have hkn := HKB.out n (Nat.le_refl _)
      rw [← hkf] at hkn
      have HKF := Lib.hid hkf; clear hkf
      have HR := Lib.hid hrk; clear hrk
      have HVO := Lib.hid (hV1.on hb)
      have HI := Lib.hid hI; clear hI hLo
      have k0o := (hb.cell (p := ⟨w.heap.size, 0, none⟩) s1).trans k0
      have k1o := (hb.cell (p := ⟨w.heap.size, 1, none⟩) s1).trans k1
      obtain ⟨F, hF⟩ : ∃ F, F = kf q vs k := ⟨_, rfl⟩
      obtain ⟨L, hLL⟩ : ∃ L, L = (kb (kf q vs) k).2.1 := ⟨_, rfl⟩
      obtain ⟨M, hMM⟩ : ∃ M, M = (kb (kf q vs) k).2.2 := ⟨_, rfl⟩
      rw [← hF] at hkn
      rw [← hMM] at hkb2 hkb3
      rw [← hLL, ← hMM]
      have HF := Lib.hid hF; have HLL := Lib.hid hLL; have HMM := Lib.hid hMM
      clear hF hLL hMM hlk hm5
      have p0o := (hb.cell (p := ⟨p, 0, none⟩) pzs).trans pz0
      have p1o := (hb.cell (p := ⟨p, 1, none⟩) pzs).trans pz1
      rcases Nat.eq_zero_or_pos k with hk0 | hk0
      · subst hk0
        have HS := Lib.hid (kb_new (f := kf q vs) (k := 0) (by first | (exact .inl (by omega)) | (right; rw [← HF.out, ← HLL.out]; omega)))
        rw [Nat.add_zero] at hcl
        rw [show ((0 : Nat) : Int) = 0 from rfl]
        have h0n : (0 : Int) < n1 := by omega
        clear hlt
        obtain ⟨rfl, rfl, rfl⟩ := HBZ.out rfl
        go_wp2_with fail
        refine (costCountKemeny q A n c vs _ _ _ _ p _ p0o p1o HVO.out hn HM.out HI.out hl5 hlc).mono ?_; rintro e w2 ⟨rfl, b2⟩
        rw [kem_yes HL.out HP.out HR.out, ← HKF.out, ← HF.out]
        have hb2 := Below.on hb b2
        clear b2
        have hq := Lib.run_eql_slice_nil (P := Try.prog) w2 26 3 none 0 0 0 0 Try.underlying26
        go_wp2_with fail
        go_roundw
        case rel => exact ⟨0 + 1, by omega, ⟨_, _, _, rfl, fun _ => by rw [HS.out]; exact ⟨rfl, rfl, rfl⟩, fun h => absurd h (by omega)⟩, by rw [HS.out, HF.out], by rw [HS.out], by go_num, hb2⟩
        case measure => simp [intOf]; omega
      · have hkne : ((k : Int) == 0) = false := by simp; omega
        have hk0' : (0 : Int) < k := by omega
        have hidx := HK1.out hk0
        obtain ⟨g, hg, _⟩ := own_form (HLI.out.each (kb (kf q vs) k).1 (by rw [HLN.out]; omega)) (by have := (cont_rank HC.out (k := (kb (kf q vs) k).1) (by rw [HLN.out]; omega)).2.1; omega)
        obtain ⟨g, rfl⟩ : ∃ g, Bk = some ⟨g, 0, none⟩ := ⟨g, by rw [(HBK.out hk0).1]; exact hg⟩
        clear hg
        by_cases h1 : F < L
        · have HS := Lib.hid (kb_new (f := kf q vs) (k := k) (by first | (exact .inl (by omega)) | (right; rw [← HF.out, ← HLL.out]; omega)))
          go_wp2_with fail
          refine (costCountKemeny q A n c vs _ _ _ _ p _ p0o p1o HVO.out hn HM.out HI.out hl5 hlc).mono ?_; rintro e w2 ⟨rfl, b2⟩
          rw [kem_yes HL.out HP.out HR.out, ← HKF.out, ← HF.out]
          have hb2 := Below.on hb b2
          clear b2
          have hq := Lib.run_eql_slice_nil (P := Try.prog) w2 26 3 (some ⟨g, 0, none⟩) lk dk 0 0 Try.underlying26
          go_wp2_with fail
          go_roundw
          case rel => exact ⟨k + 1, by omega, ⟨_, _, _, rfl, fun _ => by rw [HS.out]; exact ⟨rfl, rfl, rfl⟩, fun h => absurd h (by omega)⟩, by rw [HS.out, HF.out], by rw [HS.out], by go_num, hb2⟩
          case measure => simp [intOf]; omega
        · by_cases h2 : F = L
          · have HS := Lib.hid (kb_eq (f := kf q vs) (k := k) (by omega) (by rw [← HF.out, ← HLL.out]; omega))
            go_wp2_with fail
            refine (costCountKemeny q A n c vs _ _ _ _ p _ p0o p1o HVO.out hn HM.out HI.out hl5 hlc).mono ?_; rintro e w2 ⟨rfl, b2⟩
            rw [kem_yes HL.out HP.out HR.out, ← HKF.out, ← HF.out]
            have hb2 := Below.on hb b2
            clear b2
            have hq := Lib.run_eql_slice_nil (P := Try.prog) w2 26 3 (some ⟨g, 0, none⟩) lk dk 0 0 Try.underlying26
            go_wp2_with fail
            go_roundw
            case rel => exact ⟨k + 1, by omega, ⟨_, _, _, rfl, fun _ => by rw [HS.out]; exact HBK.out (by omega), fun h => absurd h (by omega)⟩, by rw [HS.out, HLL.out], by rw [HS.out, HMM.out], by go_num, hb2⟩
            case measure => simp [intOf]; omega
          · have HS := Lib.hid (kb_gt (f := kf q vs) (k := k) (by omega) (by rw [← HF.out, ← HLL.out]; omega))
            go_wp2_with fail
            refine (costCountKemeny q A n c vs _ _ _ _ p _ p0o p1o HVO.out hn HM.out HI.out hl5 hlc).mono ?_; rintro e w2 ⟨rfl, b2⟩
            rw [kem_yes HL.out HP.out HR.out, ← HKF.out, ← HF.out]
            have hb2 := Below.on hb b2
            clear b2
            have hq := Lib.run_eql_slice_nil (P := Try.prog) w2 26 3 (some ⟨g, 0, none⟩) lk dk 0 0 Try.underlying26
            go_wp2_with fail
            go_roundw
            case rel => exact ⟨k + 1, by omega, ⟨_, _, _, rfl, fun _ => by rw [HS.out]; exact HBK.out (by omega), fun h => absurd h (by omega)⟩, by rw [HS.out, HLL.out], by rw [HS.out, HMM.out], by go_num, hb2⟩
            case measure => simp [intOf]; omega
    · obtain rfl : k = n1 := by omega
      obtain ⟨rfl, rfl, rfl⟩ := HBK.out hpos
      have hi := HK1.out hpos
      have e1 := kmL_yes HP.out HC.out HLN.out hi
      have e2 := kmC_yes HP.out HC.out HLN.out
      have HE1 := Lib.hid e1; have HE2 := Lib.hid e2
      have HO := Lib.hid ((HLI.out.below hb (Nat.le_refl _)).each _ (by rw [HLN.out]; exact hi))
      clear e1 e2 hi
      go_wp2_with fail
      go_ret3
      rw [HE1.out, HE2.out]
      exact ⟨_, _, ⟨_, rfl⟩, HO.out, Below.on bl1 hb⟩

set_option maxHeartbeats 1000000 in
theorem costKemenyRanking (m : Int) (A : Option Addr) (n c : Nat) (vs : List (List Int × Int)) (C : Option Addr) (n1 c1 : Nat) (ax : List Int) (p : Nat) (w : World) (k0 : w.cell? ⟨p, 0, none⟩ = some (.int .i64 m)) (k1 : w.cell? ⟨p, 1, none⟩ = some (.slice A n c)) (h : Votes w A n vs) (hn : (n : Int) ≤ 1048576) (hm : ∀ j, j < n → (rl vs j : Int) ≤ 1048576) (h' : Ints w C n1 ax) (hn1 : (n1 : Int) ≤ 1048576) (hc1 : (n1 : Int) ≤ c1) :
    Calls Try.prog 64 #[.slice C n1 c1, .pointer (some ⟨p, 0, none⟩)] w fun e w' => e = .returned (.int .i64 (kemP m vs ax)) ∧ Below w.heap.size w w' := by
  go_enter Try.func64, Try.ntmps64
  go_wp2_with fail
  refine (implKemenyScore m A n c vs C n1 c1 ax _ h hn hm h' hn1 hc1).mono ?_; rintro e w1 ⟨rfl, b⟩
  go_wp2_with fail
  go_ret
  exact ⟨rfl, b⟩

set_option maxHeartbeats 2000000 in
theorem leastKemenyRankingF (q : Int) (A : Option Addr) (n c : Nat) (vs : List (List Int × Int)) (p : Nat) (w : World) (h : Votes w A n vs) (hn : (n : Int) ≤ 1048576) (hm : ∀ j, j < n → (rl vs j : Int) ≤ 1048576) (hp : profP q vs = false) :
    Calls Try.prog 57 #[.agg #[.int .i64 q, .slice A n c], .func (.func 64) #[] #[.pointer (some ⟨p, 0, none⟩)]] w fun e w' => e = .returned (.tuple #[.slice none 0 0, .int .i64 0, .int .i64 0]) ∧ Below w.heap.size w w' := by
  have bl : Below w.heap.size w (w.alloc (.cells #[.int .i64 q, .slice A n c] 30)) := (Below.refl _ _).alloc (Nat.le_refl _) _
  have hV := h.on bl
  have HP := Lib.hid hp
  clear hp
  go_enter Try.func57, Try.ntmps57
  go_wp2_with fail
  refine (implProfileOk q A n c vs _ hV hn hm).mono ?_; rintro e w1 ⟨rfl, b1⟩
  rw [HP.out]
  go_wp2_with fail
  exact bodyPost_ret (v := .tuple #[.slice none 0 0, .int .i64 0, .int .i64 0]) (by simp [results, Try.results57, go_sem]) rfl ⟨rfl, Below.on bl b1⟩

set_option maxHeartbeats 8000000 in
theorem leastKemenyRankingT (q : Nat) (A : Option Addr) (n c : Nat) (vs : List (List Int × Int)) (p : Nat) (w : World) (h : Votes w A n vs) (hn : (n : Int) ≤ 1048576) (hm : ∀ j, j < n → (rl vs j : Int) ≤ 1048576) (hp0 : w.cell? ⟨p, 0, none⟩ = some (.int .i64 (q : Int))) (hp1 : w.cell? ⟨p, 1, none⟩ = some (.slice A n c)) (hps : p < w.heap.size) (hp : profP q vs = true) :
    Calls Try.prog 57 #[.agg #[.int .i64 (q : Int), .slice A n c], .func (.func 64) #[] #[.pointer (some ⟨p, 0, none⟩)]] w fun e w' => ∃ A' c' L, e = .returned (.tuple #[.slice A' (kmL q vs).length c', .int .i64 L, .int .i64 (kmC q vs)]) ∧ Own w' w.heap.size A' (kmL q vs).length c' (kmL q vs) ∧ Below w.heap.size w w' := by
  have bl : Below w.heap.size w (w.alloc (.cells #[.int .i64 (q : Int), .slice A n c] 30)) := (Below.refl _ _).alloc (Nat.le_refl _) _
  have k0 : (w.alloc (.cells #[.int .i64 (q : Int), .slice A n c] 30)).cell? ⟨w.heap.size, 0, none⟩ = some (.int .i64 (q : Int)) := by simp
  have k1 : (w.alloc (.cells #[.int .i64 (q : Int), .slice A n c] 30)).cell? ⟨w.heap.size, 1, none⟩ = some (.slice A n c) := by simp
  have sW : w.heap.size < (w.alloc (.cells #[.int .i64 (q : Int), .slice A n c] 30)).heap.size := by simp
  have hV := h.on bl
  have hq5 := (of_prof hp).1
  obtain ⟨hrk, hn24⟩ := kf_facts h.1 hp
  have HRK := Lib.hid hrk; clear hrk
  have HL := Lib.hid h.1
  have HP := Lib.hid hp
  have HPO := Lib.hid (ranks_pos hq5)
  clear hp
  have HM := Lib.hid hm; clear hm
  have hn24' : (n : Int) ≤ 24 := by omega
  have pz0 := (bl.cell (p := ⟨p, 0, none⟩) hps).trans hp0
  have pz1 := (bl.cell (p := ⟨p, 1, none⟩) hps).trans hp1
  have pzs : p < (w.alloc (.cells #[.int .i64 (q : Int), .slice A n c] 30)).heap.size := by omega
  clear hp0 hp1
  go_enter Try.func57, Try.ntmps57
  go_wp2_with fail
  refine (implProfileOk q A n c vs _ hV hn HM.out).mono ?_; rintro e w0 ⟨rfl, b0⟩
  rw [HP.out]
  have bl0 := Below.on bl b0
  replace k0 := (b0.cell (p := ⟨w.heap.size, 0, none⟩) sW).trans k0
  replace k1 := (b0.cell (p := ⟨w.heap.size, 1, none⟩) sW).trans k1
  replace pz0 := (b0.cell (p := ⟨p, 0, none⟩) pzs).trans pz0
  replace pz1 := (b0.cell (p := ⟨p, 1, none⟩) pzs).trans pz1
  replace pzs := Nat.lt_of_lt_of_le pzs b0.size
  replace sW := Nat.lt_of_lt_of_le sW b0.size
  replace hV := hV.on b0
  clear b0 bl
  go_wp2_with fail
  refine (implAllRankings q _).mono ?_; rintro e w1 ⟨A1, n1, c1, rfl, hs, hL, hcont, b1⟩
  have bl1 := Below.on bl0 b1
  replace pz0 := (b1.cell (p := ⟨p, 0, none⟩) pzs).trans pz0
  replace pz1 := (b1.cell (p := ⟨p, 1, none⟩) pzs).trans pz1
  replace pzs := Nat.lt_of_lt_of_le pzs b1.size
  have hs0 : w.heap.size ≤ w0.heap.size := by omega
  replace k0 := (b1.cell (p := ⟨w.heap.size, 0, none⟩) sW).trans k0
  replace k1 := (b1.cell (p := ⟨w.heap.size, 1, none⟩) sW).trans k1
  have s1 := Nat.lt_of_lt_of_le sW b1.size
  have hV1 := hV.on b1
  have hL1 := hL.mono hs0
  have HLI := Lib.hid hL1
  have HC := Lib.hid hcont
  have hln : hs.length = n1 := hL.len
  have h120 : n1 ≤ 120 := by have := cont_len' hcont; omega
  have hpos : 0 < n1 := by have := HPO.out; rw [← hcont, cont_len, hln] at this; exact this
  have HLN := Lib.hid hln
  have h120' : (n1 : Int) ≤ 120 := by omega
  clear hL hL1 hcont b1 hV hln sW hs0
  go_wp2_with fail
  go_loopw [7, 8, 9, 20] (fun a u v i wr => ∃ k : Nat, (k : Int) ≤ n1 ∧ (∃ B l d, a = .slice B l d ∧ (0 < k → B = hA hs (kb (kf q vs) k).1 ∧ l = hl hs (kb (kf q vs) k).1 ∧ d = hc hs (kb (kf q vs) k).1) ∧ (k = 0 → B = none ∧ l = 0 ∧ d = 0)) ∧ u = .int .i64 (kb (kf q vs) k).2.1 ∧ v = .int .i64 (kb (kf q vs) k).2.2 ∧ i = .int .i64 k ∧ Below w1.heap.size w1 wr) (fun _ _ _ i _ => n1 - (intOf i).toNat)
  case atStart => exact ⟨0, by omega, ⟨none, 0, 0, rfl, fun h => absurd h (by omega), fun _ => ⟨rfl, rfl, rfl⟩⟩, rfl, rfl, rfl, Below.refl _ _⟩
  case round =>
    obtain ⟨k, hk, hbest, rfl, rfl, rfl, hb⟩ := hrel
    obtain ⟨Bk, lk, dk, rfl, hbk, hbz⟩ := hbest
    obtain ⟨wo, rfl⟩ : ∃ wo : World, wo = wr := ⟨_, rfl⟩
    obtain ⟨hkb1, hkb2, hkb3⟩ := kb_bd (f := kf q vs) k
    have HBK := Lib.hid hbk; clear hbk
    have HBZ := Lib.hid hbz; clear hbz
    have HK1 := Lib.hid hkb1; clear hkb1
    by_cases hlt : (k : Int) < n1
    · have hLo := HLI.out.below hb (Nat.le_refl _)
      obtain ⟨b, o, rfl, hbs, hcl, hcap, hmx, hI⟩ := hLo.lists.at_ (k := k) (by omega)
      obtain ⟨hrk, hlk, hm5⟩ := cont_rank HC.out (k := k) (by rw [HLN.out]; omega)
      have hl5 : (hl hs k : Int) ≤ 1048576 := by omega
      have hlc : (hl hs k : Int) ≤ hc hs k := by omega
      have hlpos : 0 < hl hs k := by omega
      have hkf := kf_at HL.out HC.out (k := k) (by rw [HLN.out]; omega)
      have hbd := kem_bd (m := q) (vs := vs) (ax := hx hs k) (by rw [HL.out]; exact HRK.out) hrk
      rw [HL.out] at hbd
      have HKB := Lib.hid hbd; clear hbd
      have hkn := HKB.out n (Nat.le_refl _)
      rw [← hkf] at hkn
      have HKF := Lib.hid hkf; clear hkf
      have HR := Lib.hid hrk; clear hrk
      have HVO := Lib.hid (hV1.on hb)
      have HI := Lib.hid hI; clear hI hLo
      have k0o := (hb.cell (p := ⟨w.heap.size, 0, none⟩) s1).trans k0
      have k1o := (hb.cell (p := ⟨w.heap.size, 1, none⟩) s1).trans k1
      obtain ⟨F, hF⟩ : ∃ F, F = kf q vs k := ⟨_, rfl⟩
      obtain ⟨L, hLL⟩ : ∃ L, L = (kb (kf q vs) k).2.1 := ⟨_, rfl⟩
      obtain ⟨M, hMM⟩ : ∃ M, M = (kb (kf q vs) k).2.2 := ⟨_, rfl⟩
      rw [← hF] at hkn
      rw [← hMM] at hkb2 hkb3
      rw [← hLL, ← hMM]
      have HF := Lib.hid hF; have HLL := Lib.hid hLL; have HMM := Lib.hid hMM
      clear hF hLL hMM hlk hm5
      have p0o := (hb.cell (p := ⟨p, 0, none⟩) pzs).trans pz0
      have p1o := (hb.cell (p := ⟨p, 1, none⟩) pzs).trans pz1
      rcases Nat.eq_zero_or_pos k with hk0 | hk0
      · subst hk0
        have HS := Lib.hid (kb_new (f := kf q vs) (k := 0) (by first | (exact .inl (by omega)) | (right; rw [← HF.out, ← HLL.out]; omega)))
        rw [Nat.add_zero] at hcl
        rw [show ((0 : Nat) : Int) = 0 from rfl]
        have h0n : (0 : Int) < n1 := by omega
        clear hlt
        obtain ⟨rfl, rfl, rfl⟩ := HBZ.out rfl
        go_wp2_with fail
        refine (costKemenyRanking q A n c vs _ _ _ _ p _ p0o p1o HVO.out hn HM.out HI.out hl5 hlc).mono ?_; rintro e w2 ⟨rfl, b2⟩
        rw [kem_yes HL.out HP.out HR.out, ← HKF.out, ← HF.out]
        have hb2 := Below.on hb b2
        clear b2
        have hq := Lib.run_eql_slice_nil (P := Try.prog) w2 26 3 none 0 0 0 0 Try.underlying26
        go_wp2_with fail
        go_roundw
        case rel => exact ⟨0 + 1, by omega, ⟨_, _, _, rfl, fun _ => by rw [HS.out]; exact ⟨rfl, rfl, rfl⟩, fun h => absurd h (by omega)⟩, by rw [HS.out, HF.out], by rw [HS.out], by go_num, hb2⟩
        case measure => simp [intOf]; omega
      · have hkne : ((k : Int) == 0) = false := by simp; omega
        have hk0' : (0 : Int) < k := by omega
        have hidx := HK1.out hk0
        obtain ⟨g, hg, _⟩ := own_form (HLI.out.each (kb (kf q vs) k).1 (by rw [HLN.out]; omega)) (by have := (cont_rank HC.out (k := (kb (kf q vs) k).1) (by rw [HLN.out]; omega)).2.1; omega)
        obtain ⟨g, rfl⟩ : ∃ g, Bk = some ⟨g, 0, none⟩ := ⟨g, by rw [(HBK.out hk0).1]; exact hg⟩
        clear hg
        by_cases h1 : F < L
        · have HS := Lib.hid (kb_new (f := kf q vs) (k := k) (by first | (exact .inl (by omega)) | (right; rw [← HF.out, ← HLL.out]; omega)))
          go_wp2_with fail
          refine (costKemenyRanking q A n c vs _ _ _ _ p _ p0o p1o HVO.out hn HM.out HI.out hl5 hlc).mono ?_; rintro e w2 ⟨rfl, b2⟩
          rw [kem_yes HL.out HP.out HR.out, ← HKF.out, ← HF.out]
          have hb2 := Below.on hb b2
          clear b2
          have hq := Lib.run_eql_slice_nil (P := Try.prog) w2 26 3 (some ⟨g, 0, none⟩) lk dk 0 0 Try.underlying26
          go_wp2_with fail
          go_roundw
          case rel => exact ⟨k + 1, by omega, ⟨_, _, _, rfl, fun _ => by rw [HS.out]; exact ⟨rfl, rfl, rfl⟩, fun h => absurd h (by omega)⟩, by rw [HS.out, HF.out], by rw [HS.out], by go_num, hb2⟩
          case measure => simp [intOf]; omega
        · by_cases h2 : F = L
          · have HS := Lib.hid (kb_eq (f := kf q vs) (k := k) (by omega) (by rw [← HF.out, ← HLL.out]; omega))
            go_wp2_with fail
            refine (costKemenyRanking q A n c vs _ _ _ _ p _ p0o p1o HVO.out hn HM.out HI.out hl5 hlc).mono ?_; rintro e w2 ⟨rfl, b2⟩
            rw [kem_yes HL.out HP.out HR.out, ← HKF.out, ← HF.out]
            have hb2 := Below.on hb b2
            clear b2
            have hq := Lib.run_eql_slice_nil (P := Try.prog) w2 26 3 (some ⟨g, 0, none⟩) lk dk 0 0 Try.underlying26
            go_wp2_with fail
            go_roundw
            case rel => exact ⟨k + 1, by omega, ⟨_, _, _, rfl, fun _ => by rw [HS.out]; exact HBK.out (by omega), fun h => absurd h (by omega)⟩, by rw [HS.out, HLL.out], by rw [HS.out, HMM.out], by go_num, hb2⟩
            case measure => simp [intOf]; omega
          · have HS := Lib.hid (kb_gt (f := kf q vs) (k := k) (by omega) (by rw [← HF.out, ← HLL.out]; omega))
            go_wp2_with fail
            refine (costKemenyRanking q A n c vs _ _ _ _ p _ p0o p1o HVO.out hn HM.out HI.out hl5 hlc).mono ?_; rintro e w2 ⟨rfl, b2⟩
            rw [kem_yes HL.out HP.out HR.out, ← HKF.out, ← HF.out]
            have hb2 := Below.on hb b2
            clear b2
            have hq := Lib.run_eql_slice_nil (P := Try.prog) w2 26 3 (some ⟨g, 0, none⟩) lk dk 0 0 Try.underlying26
            go_wp2_with fail
            go_roundw
            case rel => exact ⟨k + 1, by omega, ⟨_, _, _, rfl, fun _ => by rw [HS.out]; exact HBK.out (by omega), fun h => absurd h (by omega)⟩, by rw [HS.out, HLL.out], by rw [HS.out, HMM.out], by go_num, hb2⟩
            case measure => simp [intOf]; omega
    · obtain rfl : k = n1 := by omega
      obtain ⟨rfl, rfl, rfl⟩ := HBK.out hpos
      have hi := HK1.out hpos
      have e1 := kmL_yes HP.out HC.out HLN.out hi
      have e2 := kmC_yes HP.out HC.out HLN.out
      have HE1 := Lib.hid e1; have HE2 := Lib.hid e2
      have HO := Lib.hid ((HLI.out.below hb (Nat.le_refl _)).each _ (by rw [HLN.out]; exact hi))
      clear e1 e2 hi
      go_wp2_with fail
      go_ret3
      rw [HE1.out, HE2.out]
      exact ⟨_, _, ⟨_, rfl⟩, HO.out, Below.on bl1 hb⟩

set_option maxHeartbeats 2000000 in
theorem specCountKemeny (m : Int) (A : Option Addr) (n c : Nat) (vs : List (List Int × Int)) (w : World) (h : Votes w A n vs) (hn : (n : Int) ≤ 1048576) (hm : ∀ j, j < n → (rl vs j : Int) ≤ 1048576) :
    Calls Try.prog 26 #[.agg #[.int .i64 m, .slice A n c]] w fun e w' => e = .returned (.int .i64 (kmC m vs)) ∧ Below w.heap.size w w' := by
  have bl : Below w.heap.size w (w.alloc (.cells #[.int .i64 m, .slice A n c] 30)) := (Below.refl _ _).alloc (Nat.le_refl _) _
  have k0 : (w.alloc (.cells #[.int .i64 m, .slice A n c] 30)).cell? ⟨w.heap.size, 0, none⟩ = some (.int .i64 m) := by simp
  have k1 : (w.alloc (.cells #[.int .i64 m, .slice A n c] 30)).cell? ⟨w.heap.size, 1, none⟩ = some (.slice A n c) := by simp
  have sW : w.heap.size < (w.alloc (.cells #[.int .i64 m, .slice A n c] 30)).heap.size := by simp
  have hV := h.on bl
  have HM := Lib.hid hm; clear hm
  cases hp : profP m vs with
  | false =>
    have HP := Lib.hid hp
    rw [kmC_no hp]
    clear hp
    go_enter Try.func26, Try.ntmps26
    go_wp2_with fail
    refine (specProfileOk m A n c vs _ hV hn HM.out).mono ?_; rintro e w1 ⟨rfl, b1⟩
    rw [HP.out]
    have bl1 := Below.on bl b1
    go_wp2_with fail
    go_ret
    exact ⟨rfl, bl1⟩
  | true =>
    have HP := Lib.hid hp
    have hq5 := (of_prof hp).1
    obtain ⟨q, rfl⟩ : ∃ q : Nat, m = (q : Int) := ⟨m.toNat, by omega⟩
    clear hp
    go_enter Try.func26, Try.ntmps26
    go_wp2_with fail
    refine (specProfileOk q A n c vs _ hV hn HM.out).mono ?_; rintro e w1 ⟨rfl, b1⟩
    rw [HP.out]
    have bl1 := Below.on bl b1
    replace k0 := (b1.cell (p := ⟨w.heap.size, 0, none⟩) sW).trans k0
    replace k1 := (b1.cell (p := ⟨w.heap.size, 1, none⟩) sW).trans k1
    replace sW := Nat.lt_of_lt_of_le sW b1.size
    replace hV := hV.on b1
    have hsz := bl1.size
    clear b1 bl
    go_wp2_with fail
    refine (specL08Best q A n c vs _ hV HM.out HP.out).mono ?_; rintro e w2 ⟨A2, c2, rfl, o2, b2⟩
    go_wp2_with fail
    go_ret
    exact ⟨rfl, Below.on bl1 b2⟩

set_option maxHeartbeats 2000000 in
theorem implCountKemeny (m : Int) (A : Option Addr) (n c : Nat) (vs : List (List Int × Int)) (w : World) (h : Votes w A n vs) (hn : (n : Int) ≤ 1048576) (hm : ∀ j, j < n → (rl vs j : Int) ≤ 1048576) :
    Calls Try.prog 27 #[.agg #[.int .i64 m, .slice A n c]] w fun e w' => e = .returned (.int .i64 (kmC m vs)) ∧ Below w.heap.size w w' := by
  have bl : Below w.heap.size w (w.alloc (.cells #[.int .i64 m, .slice A n c] 30)) := (Below.refl _ _).alloc (Nat.le_refl _) _
  have k0 : (w.alloc (.cells #[.int .i64 m, .slice A n c] 30)).cell? ⟨w.heap.size, 0, none⟩ = some (.int .i64 m) := by simp
  have k1 : (w.alloc (.cells #[.int .i64 m, .slice A n c] 30)).cell? ⟨w.heap.size, 1, none⟩ = some (.slice A n c) := by simp
  have sW : w.heap.size < (w.alloc (.cells #[.int .i64 m, .slice A n c] 30)).heap.size := by simp
  have hV := h.on bl
  have HM := Lib.hid hm; clear hm
  cases hp : profP m vs with
  | false =>
    have HP := Lib.hid hp
    rw [kmC_no hp]
    clear hp
    go_enter Try.func27, Try.ntmps27
    go_wp2_with fail
    refine (implProfileOk m A n c vs _ hV hn HM.out).mono ?_; rintro e w1 ⟨rfl, b1⟩
    rw [HP.out]
    have bl1 := Below.on bl b1
    go_wp2_with fail
    go_ret
    exact ⟨rfl, bl1⟩
  | true =>
    have HP := Lib.hid hp
    have hq5 := (of_prof hp).1
    obtain ⟨q, rfl⟩ : ∃ q : Nat, m = (q : Int) := ⟨m.toNat, by omega⟩
    clear hp
    go_enter Try.func27, Try.ntmps27
    go_wp2_with fail
    refine (implProfileOk q A n c vs _ hV hn HM.out).mono ?_; rintro e w1 ⟨rfl, b1⟩
    rw [HP.out]
    have bl1 := Below.on bl b1
    replace k0 := (b1.cell (p := ⟨w.heap.size, 0, none⟩) sW).trans k0
    replace k1 := (b1.cell (p := ⟨w.heap.size, 1, none⟩) sW).trans k1
    replace sW := Nat.lt_of_lt_of_le sW b1.size
    replace hV := hV.on b1
    have hsz := bl1.size
    clear b1 bl
    go_wp2_with fail
    refine (leastCountKemenyT q A n c vs w.heap.size _ hV hn HM.out k0 k1 sW HP.out).mono ?_; rintro e w2 ⟨A2, c2, L, rfl, o2, b2⟩
    go_wp2_with fail
    go_ret
    exact ⟨rfl, Below.on bl1 b2⟩

set_option maxHeartbeats 2000000 in
theorem specKemenyRanking (m : Int) (A : Option Addr) (n c : Nat) (vs : List (List Int × Int)) (w : World) (h : Votes w A n vs) (hn : (n : Int) ≤ 1048576) (hm : ∀ j, j < n → (rl vs j : Int) ≤ 1048576) :
    Calls Try.prog 33 #[.agg #[.int .i64 m, .slice A n c]] w fun e w' => ∃ A' c', e = .returned (.slice A' (kmL m vs).length c') ∧ Own w' w.heap.size A' (kmL m vs).length c' (kmL m vs) ∧ Below w.heap.size w w' := by
  have bl : Below w.heap.size w (w.alloc (.cells #[.int .i64 m, .slice A n c] 30)) := (Below.refl _ _).alloc (Nat.le_refl _) _
  have k0 : (w.alloc (.cells #[.int .i64 m, .slice A n c] 30)).cell? ⟨w.heap.size, 0, none⟩ = some (.int .i64 m) := by simp
  have k1 : (w.alloc (.cells #[.int .i64 m, .slice A n c] 30)).cell? ⟨w.heap.size, 1, none⟩ = some (.slice A n c) := by simp
  have sW : w.heap.size < (w.alloc (.cells #[.int .i64 m, .slice A n c] 30)).heap.size := by simp
  have hV := h.on bl
  have HM := Lib.hid hm; clear hm
  cases hp : profP m vs with
  | false =>
    have HP := Lib.hid hp
    rw [kmL_no hp]
    clear hp
    go_enter Try.func33, Try.ntmps33
    go_wp2_with fail
    refine (specProfileOk m A n c vs _ hV hn HM.out).mono ?_; rintro e w1 ⟨rfl, b1⟩
    rw [HP.out]
    have bl1 := Below.on bl b1
    go_wp2_with fail
    go_ret
    exact ⟨none, 0, rfl, own_nil _ _, bl1⟩
  | true =>
    have HP := Lib.hid hp
    have hq5 := (of_prof hp).1
    obtain ⟨q, rfl⟩ : ∃ q : Nat, m = (q : Int) := ⟨m.toNat, by omega⟩
    clear hp
    go_enter Try.func33, Try.ntmps33
    go_wp2_with fail
    refine (specProfileOk q A n c vs _ hV hn HM.out).mono ?_; rintro e w1 ⟨rfl, b1⟩
    rw [HP.out]
    have bl1 := Below.on bl b1
    replace k0 := (b1.cell (p := ⟨w.heap.size, 0, none⟩) sW).trans k0
    replace k1 := (b1.cell (p := ⟨w.heap.size, 1, none⟩) sW).trans k1
    replace sW := Nat.lt_of_lt_of_le sW b1.size
    replace hV := hV.on b1
    have hsz := bl1.size
    clear b1 bl
    go_wp2_with fail
    refine (specL08Best q A n c vs _ hV HM.out HP.out).mono ?_; rintro e w2 ⟨A2, c2, rfl, o2, b2⟩
    go_wp2_with fail
    go_ret
    exact ⟨A2, c2, rfl, own_mono o2 hsz, Below.on bl1 b2⟩

set_option maxHeartbeats 2000000 in
theorem implKemenyRanking (m : Int) (A : Option Addr) (n c : Nat) (vs : List (List Int × Int)) (w : World) (h : Votes w A n vs) (hn : (n : Int) ≤ 1048576) (hm : ∀ j, j < n → (rl vs j : Int) ≤ 1048576) :
    Calls Try.prog 34 #[.agg #[.int .i64 m, .slice A n c]] w fun e w' => ∃ A' c', e = .returned (.slice A' (kmL m vs).length c') ∧ Own w' w.heap.size A' (kmL m vs).length c' (kmL m vs) ∧ Below w.heap.size w w' := by
  have bl : Below w.heap.size w (w.alloc (.cells #[.int .i64 m, .slice A n c] 30)) := (Below.refl _ _).alloc (Nat.le_refl _) _
  have k0 : (w.alloc (.cells #[.int .i64 m, .slice A n c] 30)).cell? ⟨w.heap.size, 0, none⟩ = some (.int .i64 m) := by simp
  have k1 : (w.alloc (.cells #[.int .i64 m, .slice A n c] 30)).cell? ⟨w.heap.size, 1, none⟩ = some (.slice A n c) := by simp
  have sW : w.heap.size < (w.alloc (.cells #[.int .i64 m, .slice A n c] 30)).heap.size := by simp
  have hV := h.on bl
  have HM := Lib.hid hm; clear hm
  cases hp : profP m vs with
  | false =>
    have HP := Lib.hid hp
    rw [kmL_no hp]
    clear hp
    go_enter Try.func34, Try.ntmps34
    go_wp2_with fail
    refine (leastKemenyRankingF m A n c vs w.heap.size _ hV hn HM.out HP.out).mono ?_; rintro e w1 ⟨rfl, b1⟩
    have bl1 := Below.on bl b1
    go_wp2_with fail
    go_ret
    exact ⟨none, 0, rfl, own_nil _ _, bl1⟩
  | true =>
    have HP := Lib.hid hp
    have hq5 := (of_prof hp).1
    obtain ⟨q, rfl⟩ : ∃ q : Nat, m = (q : Int) := ⟨m.toNat, by omega⟩
    clear hp
    go_enter Try.func34, Try.ntmps34
    go_wp2_with fail
    have bl1 := bl
    have hsz := bl.size
    refine (leastKemenyRankingT q A n c vs w.heap.size _ hV hn HM.out k0 k1 sW HP.out).mono ?_; rintro e w2 ⟨A2, c2, L, rfl, o2, b2⟩
    go_wp2_with fail
    go_ret
    exact ⟨A2, c2, rfl, own_mono o2 hsz, Below.on bl1 b2⟩
end Go.Proofs.Ytblofiimfhbkdab
