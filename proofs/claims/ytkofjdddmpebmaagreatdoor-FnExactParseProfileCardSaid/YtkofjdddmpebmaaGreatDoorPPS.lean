/- A vote read from a word: what the reference's function computes. -/
import Derived.Test.YtkofjdddmpebmaaGreatDoorPlainPP
import Derived.Test.YtkofjdddmpebmaaGreatDoorPIntS
import Derived.Test.YtkofjdddmpebmaaGreatDoorPPI
import Derived.Test.YtkofjdddmpebmaaGreatDoorFmtProfS
import Derived.Test.YtkofjdddmpebmaaGreatDoorEmp
/-! A vote read from a word: what the reference's function computes. -/
namespace Go.Proofs.YtkofjdddmpebmaaGreatDoor
open Go.RowKit
set_option maxRecDepth 100000

theorem own_set2 {w W : World} {A : Option Addr} {n c B : Nat} {xs : List Int} (h : Own W w.heap.size A n c xs) (hq : ∀ a, A = some a → B ≤ a.block ∧ a.block < W.heap.size) (hB : w.heap.size < B) {u v : Value} : Own ((W.setCell ⟨w.heap.size, 0, none⟩ u).setCell ⟨w.heap.size, 1, none⟩ v) w.heap.size A n c xs := by
  have k : ∀ j, j ≠ w.heap.size → ((W.setCell ⟨w.heap.size, 0, none⟩ u).setCell ⟨w.heap.size, 1, none⟩ v).heap[j]? = W.heap[j]? := fun j hj => (Below.heap_setCell _ _ _ _ hj).trans (Below.heap_setCell _ _ _ _ hj)
  refine ⟨h.1, ?_⟩
  rcases h.2 with h0 | ⟨g, cap, cur, h1, h2, h3, h4⟩
  · exact .inl h0
  · have hA : A = some ⟨g, 0, none⟩ := by injection h1
    exact .inr ⟨g, cap, cur, h1, h2, (k g (by have := (hq _ hA).1; show g ≠ w.heap.size; simp at this; omega)).trans h3, h4⟩
theorem lv_len {x : ByteArray} (h : (spP ⟨#[42]⟩ x).length ≠ 2) : lvOk x = false := by rw [lvOk, decide_eq_false h]; rfl
theorem w_hit {x : ByteArray} {j : Nat} (h : Lib.index x.data.toList [42] = j) : wA x = ⟨(x.data.toList.take j).toArray⟩ ∧ wB x = ⟨(x.data.toList.drop (j + 1)).toArray⟩ := by
  rw [wA, wB, cut_hit h]; exact ⟨rfl, rfl⟩
set_option maxHeartbeats 4000000 in
theorem specVoteW (x : ByteArray) (w : World) (hx : x.size ≤ 1048576) :
    Calls Tryz.prog 11 #[.string x] w fun e w' => ∃ A c R T, e = .returned (.tuple #[.agg #[.slice A R.length c, .int .i64 T], .bool (lvOk x)]) ∧ (lvOk x = true → R = parseP (wB x) ∧ T = pV (wA x)) ∧ Own w' w.heap.size A R.length c R ∧ Below w.heap.size w w' := by
  have hA := wA_le x
  have hB := wB_le x
  have bl : Below w.heap.size w (w.alloc (.cells #[.slice none 0 0, .int .i64 0] 36)) := (Below.refl _ _).alloc (Nat.le_refl _) _
  have r0 : (w.alloc (.cells #[.slice none 0 0, .int .i64 0] 36)).cell? ⟨w.heap.size, 0, none⟩ = some (.slice none 0 0) := by simp [go_sem]
  have r1 : (w.alloc (.cells #[.slice none 0 0, .int .i64 0] 36)).cell? ⟨w.heap.size, 1, none⟩ = some (.int .i64 0) := by simp [go_sem]
  have rf0 : (w.alloc (.cells #[.slice none 0 0, .int .i64 0] 36)).frozen? ⟨w.heap.size, 0, none⟩ = false := by simp [go_sem]
  have rf1 : (w.alloc (.cells #[.slice none 0 0, .int .i64 0] 36)).frozen? ⟨w.heap.size, 1, none⟩ = false := by simp [go_sem]
  have sk : w.heap.size < (w.alloc (.cells #[.slice none 0 0, .int .i64 0] 36)).heap.size := by simp
  go_enter Tryz.func11, Tryz.ntmps11
  go_wp2_with fail
  generalize (w.alloc (.cells #[.slice none 0 0, .int .i64 0] 36)) = W at *
  refine (specSplitAny x ⟨#[42]⟩ _ (by omega) (by decide)).mono ?_; rintro e w1 ⟨A1, c1, rfl, o1, b1⟩
  have bl1 := Below.on bl b1
  replace r0 := (b1.cell (p := ⟨w.heap.size, 0, none⟩) sk).trans r0
  replace r1 := (b1.cell (p := ⟨w.heap.size, 1, none⟩) sk).trans r1
  replace rf0 := (b1.frozen (p := ⟨w.heap.size, 0, none⟩) sk).trans rf0
  replace rf1 := (b1.frozen (p := ⟨w.heap.size, 1, none⟩) sk).trans rf1
  replace sk := Nat.lt_of_lt_of_le sk b1.size
  have hS := Strs.of_own o1
  clear o1 b1
  by_cases h2 : (spP ⟨#[42]⟩ x).length = 2
  · have hhit : ∃ j : Nat, Lib.index x.data.toList [42] = j := by
      rcases Lib.index_spec x.data.toList [42] with ⟨hi, _⟩ | ⟨j, hi, _⟩
      · have := (pieces_one hi).1; omega
      · exact ⟨j, hi⟩
    obtain ⟨j, hi⟩ := hhit
    have hno : (42 : UInt8) ∉ x.data.toList.drop (j + 1) := fun h => by have := pieces_many hi h; omega
    obtain ⟨_, p0, p1⟩ := pieces_two hi hno
    rw [← (w_hit hi).1] at p0
    rw [← (w_hit hi).2] at p1
    have HL : Hid (lvOk x = (pOk (wA x) && parseOk (wB x))) := by rw [Hid, lvOk, decide_eq_true h2, Bool.true_and]
    rw [h2] at hS ⊢
    clear hi hno h2
    obtain ⟨b', o', rfl, hbs, hc0⟩ := hS.at_ (k := 0) (by omega)
    obtain ⟨b2', o2', he2, _, hc1⟩ := hS.at_ (k := 1) (by omega)
    injection he2 with he2
    injection he2 with e1 e2
    subst e1 e2
    rw [p0, Nat.add_zero] at hc0
    rw [p1] at hc1
    clear p0 p1 hS
    go_wp2_with fail
    refine (specParseInt (wA x) _ (by omega)).mono ?_; rintro e w2 ⟨rfl, b2⟩
    have bl2 := Below.on bl1 b2
    replace hc1 := (b2.cell (p := ⟨b', o' + 1, none⟩) hbs).trans hc1
    replace r0 := (b2.cell (p := ⟨w.heap.size, 0, none⟩) sk).trans r0
    replace r1 := (b2.cell (p := ⟨w.heap.size, 1, none⟩) sk).trans r1
    replace rf0 := (b2.frozen (p := ⟨w.heap.size, 0, none⟩) sk).trans rf0
    replace rf1 := (b2.frozen (p := ⟨w.heap.size, 1, none⟩) sk).trans rf1
    replace sk := Nat.lt_of_lt_of_le sk b2.size
    have sk2 := sk
    clear b2 hc0
    go_wp2_with fail
    refine (specParseRanking (wB x) _ (by omega)).mono ?_; rintro e w3 ⟨A3, c3, rfl, o3, b3⟩
    have bl3 := Below.on bl2 b3
    replace r0 := (b3.cell (p := ⟨w.heap.size, 0, none⟩) sk).trans r0
    replace r1 := (b3.cell (p := ⟨w.heap.size, 1, none⟩) sk).trans r1
    replace rf0 := (b3.frozen (p := ⟨w.heap.size, 0, none⟩) sk).trans rf0
    replace rf1 := (b3.frozen (p := ⟨w.heap.size, 1, none⟩) sk).trans rf1
    replace sk := Nat.lt_of_lt_of_le sk b3.size
    clear b3 hc1
    have hq := own_ge o3
    have O3 := Lib.hid (own_mono o3 (Nat.le_of_lt (Nat.lt_of_lt_of_le sk2 (Nat.le_refl _))))
    clear o3
    cases hpo : pOk (wA x) with
    | false =>
      have HF : Hid (lvOk x = false) := by rw [Hid, HL.out, hpo]; rfl
      go_wp2_with fail
      refine bodyPost_ret (v := .tuple #[.agg #[.slice A3 (parseP (wB x)).length c3, .int .i64 (pV (wA x))], .bool false]) (by simp [results, Tryz.results11, go_sem, r0, r1]) rfl ?_
      rw [HF.out]
      exact ⟨A3, c3, parseP (wB x), _, rfl, fun h => (by cases h), own_set2 O3.out hq sk2, Below.setCell (p := ⟨w.heap.size, 1, none⟩) (Below.setCell (p := ⟨w.heap.size, 0, none⟩) bl3 (Nat.le_refl _) _) (Nat.le_refl _) _⟩
    | true =>
      have HF : Hid (lvOk x = parseOk (wB x)) := by rw [Hid, HL.out, hpo]; rfl
      go_wp2_with fail
      refine bodyPost_ret (v := .tuple #[.agg #[.slice A3 (parseP (wB x)).length c3, .int .i64 (pV (wA x))], .bool (parseOk (wB x))]) (by simp [results, Tryz.results11, go_sem, r0, r1]) rfl ?_
      rw [HF.out]
      exact ⟨A3, c3, parseP (wB x), _, rfl, fun _ => ⟨rfl, rfl⟩, own_set2 O3.out hq sk2, Below.setCell (p := ⟨w.heap.size, 1, none⟩) (Below.setCell (p := ⟨w.heap.size, 0, none⟩) bl3 (Nat.le_refl _) _) (Nat.le_refl _) _⟩
  · have HF := Lib.hid (lv_len h2)
    clear hS
    obtain ⟨L, hL⟩ : ∃ L, (spP ⟨#[42]⟩ x).length = L := ⟨_, rfl⟩
    rw [hL] at h2 ⊢
    clear hL
    have hne : ((L : Int) == 2) = false := by rw [beq_eq_false_iff_ne]; omega
    have hne2 : ((L : Int) != 2) = true := by rw [bne_iff_ne]; omega
    go_wp2_with fail
    refine bodyPost_ret (v := .tuple #[.agg #[.slice none 0 0, .int .i64 0], .bool false]) (by simp [results, Tryz.results11, go_sem, r0, r1]) rfl ?_
    rw [HF.out]
    exact ⟨none, 0, [], 0, rfl, fun h => (by cases h), own_nil _ _, Below.setCell (p := ⟨w.heap.size, 1, none⟩) (Below.setCell (p := ⟨w.heap.size, 0, none⟩) bl1 (Nat.le_refl _) _) (Nat.le_refl _) _⟩
end Go.Proofs.YtkofjdddmpebmaaGreatDoor

/-! A profile read from a text: what the reference's function computes. -/
namespace Go.Proofs.YtkofjdddmpebmaaGreatDoor
open Go.RowKit
set_option maxRecDepth 100000

theorem neg_zero {t : ByteArray} (h : negT t = true) : ∃ h0 : 0 < t.size, (t[0].toNat : Int) = 45 := by
  refine ⟨neg_pos h, ?_⟩
  have hp := neg_pos h
  rw [negT, Lib.hasPrefix] at h
  have hl : 0 < t.data.toList.length := by simpa using hp
  have e : t.data.toList[0] = t[0] := rfl
  cases hd : t.data.toList with
  | nil => rw [hd] at hl; simp at hl
  | cons a l =>
    rw [hd] at h
    simp only [hd] at e
    simp at e h
    rw [← e, ← h]
    rfl
theorem pos_zero {t : ByteArray} (h : negT t = false) (h0 : 0 < t.size) : (t[0].toNat : Int) ≠ 45 := by
  intro he
  have hl : 0 < t.data.toList.length := by simpa using h0
  have e : t.data.toList[0] = t[0] := rfl
  rw [negT, Lib.hasPrefix] at h
  cases hd : t.data.toList with
  | nil => rw [hd] at hl; simp at hl
  | cons a l =>
    rw [hd] at h
    simp only [hd] at e
    simp at e
    have ha : a = 45 := by
      apply UInt8.toNat_inj.1
      rw [e]
      show t[0].toNat = 45
      omega
    rw [ha] at h
    simp [List.isPrefixOf] at h

theorem cut_count (c : UInt8) : ∀ l : List UInt8, 2 * (cutL c l).length ≤ l.length + 1 + ((cutL c l).filter fun p => p.isEmpty).length
  | [] => by rw [cutL_nil]; decide
  | b :: l => by
    have ih := cut_count c l
    by_cases hb : b = c
    · subst hb
      rw [cutL_sep, List.filter_cons]
      simp only [List.isEmpty_nil, if_true, List.length_cons]
      omega
    · obtain ⟨p, r, e⟩ := cutL_some c l
      rw [cutL_in hb e]
      rw [e] at ih
      rw [List.filter_cons] at ih ⊢
      simp only [List.isEmpty_cons, List.length_cons] at ih ⊢
      cases hp : p.isEmpty <;> simp [hp] at ih ⊢ <;> omega
theorem words_len {t : ByteArray} {c : UInt8} (h : ∀ y ∈ spP ⟨#[c]⟩ t, y ≠ ByteArray.empty) : 2 * (spP ⟨#[c]⟩ t).length ≤ t.size + 1 := by
  have := cut_count c t.data.toList
  have hf : (cutL c t.data.toList).filter (fun p => p.isEmpty) = [] := by
    rw [List.filter_eq_nil_iff]
    intro p hp
    rw [← spP_cut, List.mem_map] at hp
    obtain ⟨y, hy, rfl⟩ := hp
    intro he
    apply h y hy
    apply ByteArray.ext
    apply Array.toList_inj.1
    rw [List.isEmpty_iff.1 he]
    rfl
  rw [hf, ← pieces_len] at this
  have hl : t.data.toList.length = t.size := by simp
  simp only [List.length_nil] at this
  omega
theorem ok_ne {y : ByteArray} (h : lvOk y = true) : y ≠ ByteArray.empty := fun e => by
  subst e
  rw [lvOk, (pieces_one (s := ByteArray.empty) (c := 42) rfl).1] at h
  cases h

set_option maxHeartbeats 8000000 in
theorem specParseProfileN (t : ByteArray) (w : World) (ht : t.size ≤ 1048576) (hneg : negT t = true) :
    Calls Tryz.prog 4 #[.string t] w fun e w' => ∃ A' c' G C, e = .returned (.tuple #[.agg #[.int .i64 (ppRM t), .slice A' (ppRV t).length c'], .bool (ppOk t)]) ∧ OwnV w' w.heap.size A' (ppRV t).length c' G C (rk (ppRV t)) (ct (ppRV t)) ∧ Below w.heap.size w w' := by
  obtain ⟨h0, h45⟩ := neg_zero hneg
  have hb45 : ((t[0].toNat : Int) == 45) = true := by rw [beq_iff_eq]; exact h45
  have hne : t ≠ ByteArray.empty := fun e => by rw [e] at h0; exact absurd h0 (by decide)
  obtain ⟨hq1, hq2⟩ := empty_no hne
  have hle : (1 : Int) ≤ t.size := by omega
  have hrl := rest_le t
  have HX := Lib.hid (ext_tail t 1)
  clear h45
  have HN := Lib.hid hneg; clear hneg
  have bl : Below w.heap.size w ((w.alloc (.cells #[.int .i64 0, .slice none 0 0] 24)).alloc (.cells #[.int .i64 0, .slice none 0 0] 24)) := ((Below.refl _ _).alloc (Nat.le_refl _) _).alloc (by simp) _
  have r0 : ((w.alloc (.cells #[.int .i64 0, .slice none 0 0] 24)).alloc (.cells #[.int .i64 0, .slice none 0 0] 24)).cell? ⟨w.heap.size, 0, none⟩ = some (.int .i64 0) := by simp [go_sem]
  have r1 : ((w.alloc (.cells #[.int .i64 0, .slice none 0 0] 24)).alloc (.cells #[.int .i64 0, .slice none 0 0] 24)).cell? ⟨w.heap.size, 1, none⟩ = some (.slice none 0 0) := by simp [go_sem]
  have rf0 : ((w.alloc (.cells #[.int .i64 0, .slice none 0 0] 24)).alloc (.cells #[.int .i64 0, .slice none 0 0] 24)).frozen? ⟨w.heap.size, 0, none⟩ = false := by simp [go_sem]
  have rf1 : ((w.alloc (.cells #[.int .i64 0, .slice none 0 0] 24)).alloc (.cells #[.int .i64 0, .slice none 0 0] 24)).frozen? ⟨w.heap.size, 1, none⟩ = false := by simp [go_sem]
  have p0 : ((w.alloc (.cells #[.int .i64 0, .slice none 0 0] 24)).alloc (.cells #[.int .i64 0, .slice none 0 0] 24)).cell? ⟨w.heap.size + 1, 0, none⟩ = some (.int .i64 0) := by simp [go_sem]
  have p1 : ((w.alloc (.cells #[.int .i64 0, .slice none 0 0] 24)).alloc (.cells #[.int .i64 0, .slice none 0 0] 24)).cell? ⟨w.heap.size + 1, 1, none⟩ = some (.slice none 0 0) := by simp [go_sem]
  have pf0 : ((w.alloc (.cells #[.int .i64 0, .slice none 0 0] 24)).alloc (.cells #[.int .i64 0, .slice none 0 0] 24)).frozen? ⟨w.heap.size + 1, 0, none⟩ = false := by simp [go_sem]
  have pf1 : ((w.alloc (.cells #[.int .i64 0, .slice none 0 0] 24)).alloc (.cells #[.int .i64 0, .slice none 0 0] 24)).frozen? ⟨w.heap.size + 1, 1, none⟩ = false := by simp [go_sem]
  have sr : w.heap.size + 1 < ((w.alloc (.cells #[.int .i64 0, .slice none 0 0] 24)).alloc (.cells #[.int .i64 0, .slice none 0 0] 24)).heap.size := by simp
  have sk : w.heap.size < ((w.alloc (.cells #[.int .i64 0, .slice none 0 0] 24)).alloc (.cells #[.int .i64 0, .slice none 0 0] 24)).heap.size := by omega
  go_enter Tryz.func4, Tryz.ntmps4
  go_wp2_with fail
  generalize ((w.alloc (.cells #[.int .i64 0, .slice none 0 0] 24)).alloc (.cells #[.int .i64 0, .slice none 0 0] 24)) = W at *
  rw [HX.out]
  refine (specParseInt (restT t) _ (by omega)).mono ?_; rintro e w2 ⟨rfl, b2⟩
  replace r0 := (b2.cell (p := ⟨w.heap.size, 0, none⟩) sk).trans r0
  replace r1 := (b2.cell (p := ⟨w.heap.size, 1, none⟩) sk).trans r1
  replace rf0 := (b2.frozen (p := ⟨w.heap.size, 0, none⟩) sk).trans rf0
  replace rf1 := (b2.frozen (p := ⟨w.heap.size, 1, none⟩) sk).trans rf1
  replace p0 := (b2.cell (p := ⟨w.heap.size + 1, 0, none⟩) sr).trans p0
  replace p1 := (b2.cell (p := ⟨w.heap.size + 1, 1, none⟩) sr).trans p1
  replace pf0 := (b2.frozen (p := ⟨w.heap.size + 1, 0, none⟩) sr).trans pf0
  replace pf1 := (b2.frozen (p := ⟨w.heap.size + 1, 1, none⟩) sr).trans pf1
  replace sk := Nat.lt_of_lt_of_le sk b2.size
  replace sr := Nat.lt_of_lt_of_le sr b2.size
  have bl2 := Below.on bl b2
  clear b2
  have q0 : (w2.setCell ⟨w.heap.size + 1, 0, none⟩ (.int .i64 (pV (restT t)))).cell? ⟨w.heap.size + 1, 0, none⟩ = some (.int .i64 (pV (restT t))) := by simp [go_sem, p0]
  have q1 : (w2.setCell ⟨w.heap.size + 1, 0, none⟩ (.int .i64 (pV (restT t)))).cell? ⟨w.heap.size + 1, 1, none⟩ = some (.slice none 0 0) := by simp [go_sem, p1]
  have qf0 : (w2.setCell ⟨w.heap.size + 1, 0, none⟩ (.int .i64 (pV (restT t)))).frozen? ⟨w.heap.size + 1, 0, none⟩ = false := by rw [World.frozen?_setCell]; exact pf0
  have qf1 : (w2.setCell ⟨w.heap.size + 1, 0, none⟩ (.int .i64 (pV (restT t)))).frozen? ⟨w.heap.size + 1, 1, none⟩ = false := by rw [World.frozen?_setCell]; exact pf1
  have s0 : (w2.setCell ⟨w.heap.size + 1, 0, none⟩ (.int .i64 (pV (restT t)))).cell? ⟨w.heap.size, 0, none⟩ = some (.int .i64 0) := by simp [go_sem, r0]
  have s1 : (w2.setCell ⟨w.heap.size + 1, 0, none⟩ (.int .i64 (pV (restT t)))).cell? ⟨w.heap.size, 1, none⟩ = some (.slice none 0 0) := by simp [go_sem, r1]
  have sf0 : (w2.setCell ⟨w.heap.size + 1, 0, none⟩ (.int .i64 (pV (restT t)))).frozen? ⟨w.heap.size, 0, none⟩ = false := by rw [World.frozen?_setCell]; exact rf0
  have sf1 : (w2.setCell ⟨w.heap.size + 1, 0, none⟩ (.int .i64 (pV (restT t)))).frozen? ⟨w.heap.size, 1, none⟩ = false := by rw [World.frozen?_setCell]; exact rf1
  have bw : Below w.heap.size w (w2.setCell ⟨w.heap.size + 1, 0, none⟩ (.int .i64 (pV (restT t)))) := bl2.setCell (by show w.heap.size ≤ w.heap.size + 1; omega) _
  have hsz : (w2.setCell ⟨w.heap.size + 1, 0, none⟩ (.int .i64 (pV (restT t)))).heap.size = w2.heap.size := by simp
  go_wp2_with fail
  clear r0 r1 rf0 rf1 p0 p1 pf0 pf1
  generalize (w2.setCell ⟨w.heap.size + 1, 0, none⟩ (.int .i64 (pV (restT t)))) = Wt at *
  rw [← hsz] at sk sr
  have r0 := s0; have r1 := s1; have rf0 := sf0; have rf1 := sf1; have p0 := q0; have p1 := q1; have pf0 := qf0; have pf1 := qf1
  clear s0 s1 sf0 sf1 q0 q1 qf0 qf1 hsz
  obtain ⟨m1, m2⟩ := pp_neg HN.out
  have HM : Hid (fOk (pV (restT t)) [] t = ppOk t) := by rw [Hid, ppOk, m1, m2]
  have HZ := Lib.hid m1; have HV := Lib.hid m2
  clear m1 m2
  generalize pV (restT t) = z at *
  have iO : OwnV Wt Wt.heap.size none 0 0 (fun _ => none) (fun _ => 0) (rk []) (ct []) := OwnV.nil_ _ _ _ _ _ _
  have hvo : Votes Wt none 0 [] := Votes.nil_
  have HSM : Hid (∀ j, j < 0 → (rl [] j : Int) ≤ 1048576) := fun j hj => absurd hj (by omega)
  have hkI : ((0 : Nat) : Int) ≤ 1048576 := by omega
  have HK : Hid (([] : List (List Int × Int)).length = 0) := rfl
  have hRlo := sk
  have hlo := Nat.le_of_lt sk
  refine (specProfileOk z none 0 0 [] _ hvo hkI HSM.out).mono ?_; rintro e w7 ⟨rfl, b7⟩
  replace r0 := (b7.cell (p := ⟨w.heap.size, 0, none⟩) sk).trans r0
  replace r1 := (b7.cell (p := ⟨w.heap.size, 1, none⟩) sk).trans r1
  replace rf0 := (b7.frozen (p := ⟨w.heap.size, 0, none⟩) sk).trans rf0
  replace rf1 := (b7.frozen (p := ⟨w.heap.size, 1, none⟩) sk).trans rf1
  replace p0 := (b7.cell (p := ⟨w.heap.size + 1, 0, none⟩) sr).trans p0
  replace p1 := (b7.cell (p := ⟨w.heap.size + 1, 1, none⟩) sr).trans p1
  replace pf0 := (b7.frozen (p := ⟨w.heap.size + 1, 0, none⟩) sr).trans pf0
  replace pf1 := (b7.frozen (p := ⟨w.heap.size + 1, 1, none⟩) sr).trans pf1
  replace sk := Nat.lt_of_lt_of_le sk b7.size
  replace sr := Nat.lt_of_lt_of_le sr b7.size
  replace bw := Below.on bw b7
  replace iO := iO.on b7
  replace hvo := hvo.on b7
  clear b7
  cases hp : profP z [] with
  | false =>
    have HF : Hid (ppOk t = false) := HM.out ▸ f_no1 hp
    clear hp
    go_wp2_with fail
    refine bodyPost_ret (v := .tuple #[.agg #[.int .i64 0, .slice none 0 0], .bool false]) (by simp [results, Tryz.results4, go_sem, r0, r1]) rfl ?_
    rw [(pp_no HF.out).1, (pp_no HF.out).2, HF.out]
    exact ⟨none, 0, fun _ => none, fun _ => 0, rfl, OwnV.nil_ _ _ _ _ _ _, Below.setCell (p := ⟨w.heap.size, 1, none⟩) (Below.setCell (p := ⟨w.heap.size, 0, none⟩) bw (Nat.le_refl _) _) (Nat.le_refl _) _⟩
  | true =>
    have HPT := Lib.hid hp; clear hp
    go_wp2_with fail
    refine (specFormatProfile z none 0 0 [] _ hvo hkI HSM.out).mono ?_; rintro e w8 ⟨rfl, b8⟩
    replace r0 := (b8.cell (p := ⟨w.heap.size, 0, none⟩) sk).trans r0
    replace r1 := (b8.cell (p := ⟨w.heap.size, 1, none⟩) sk).trans r1
    replace rf0 := (b8.frozen (p := ⟨w.heap.size, 0, none⟩) sk).trans rf0
    replace rf1 := (b8.frozen (p := ⟨w.heap.size, 1, none⟩) sk).trans rf1
    replace p0 := (b8.cell (p := ⟨w.heap.size + 1, 0, none⟩) sr).trans p0
    replace p1 := (b8.cell (p := ⟨w.heap.size + 1, 1, none⟩) sr).trans p1
    replace pf0 := (b8.frozen (p := ⟨w.heap.size + 1, 0, none⟩) sr).trans pf0
    replace pf1 := (b8.frozen (p := ⟨w.heap.size + 1, 1, none⟩) sr).trans pf1
    replace sk := Nat.lt_of_lt_of_le sk b8.size
    replace sr := Nat.lt_of_lt_of_le sr b8.size
    replace bw := Below.on bw b8
    replace iO := iO.on b8
    clear b8 hvo
    by_cases hte : textB z [] = t
    · have HF : Hid (ppOk t = true) := HM.out ▸ f_yes HPT.out hte
      have hq : ((textB z []).toList == t.toList) = true := by rw [hte]; simp
      have HR : Hid (ppRM t = z ∧ ppRV t = []) := ⟨(pp_yes HF.out).1.trans HZ.out, (pp_yes HF.out).2.trans HV.out⟩
      clear hte
      go_wp2_with fail
      refine bodyPost_ret (v := .tuple #[.agg #[.int .i64 z, .slice none 0 0], .bool true]) (by simp [results, Tryz.results4, go_sem, r0, r1]) rfl ?_
      rw [HR.out.1, HR.out.2, HF.out, HK.out]
      exact ⟨none, 0, _, _, rfl, ((iO.setOther (p := ⟨w.heap.size, 0, none⟩) hRlo _).setOther (p := ⟨w.heap.size, 1, none⟩) hRlo _).mono hlo, Below.setCell (p := ⟨w.heap.size, 1, none⟩) (Below.setCell (p := ⟨w.heap.size, 0, none⟩) bw (Nat.le_refl _) _) (Nat.le_refl _) _⟩
    · have HF : Hid (ppOk t = false) := HM.out ▸ f_no2 hte
      have hq := bytes_ne hte
      clear hte
      go_wp2_with fail
      refine bodyPost_ret (v := .tuple #[.agg #[.int .i64 0, .slice none 0 0], .bool false]) (by simp [results, Tryz.results4, go_sem, r0, r1]) rfl ?_
      rw [(pp_no HF.out).1, (pp_no HF.out).2, HF.out]
      exact ⟨none, 0, fun _ => none, fun _ => 0, rfl, OwnV.nil_ _ _ _ _ _ _, Below.setCell (p := ⟨w.heap.size, 1, none⟩) (Below.setCell (p := ⟨w.heap.size, 0, none⟩) bw (Nat.le_refl _) _) (Nat.le_refl _) _⟩

set_option maxHeartbeats 8000000 in
theorem specParseProfileC (t : ByteArray) (w : World) (ht : t.size ≤ 1048576) (hneg : negT t = false) (h0 : 0 < t.size) :
    Calls Tryz.prog 4 #[.string t] w fun e w' => ∃ A' c' G C, e = .returned (.tuple #[.agg #[.int .i64 (ppRM t), .slice A' (ppRV t).length c'], .bool (ppOk t)]) ∧ OwnV w' w.heap.size A' (ppRV t).length c' G C (rk (ppRV t)) (ct (ppRV t)) ∧ Below w.heap.size w w' := by
  have h45 := pos_zero hneg h0
  have hb45 : ((t[0].toNat : Int) == 45) = false := by rw [beq_eq_false_iff_ne]; exact h45
  have hne : t ≠ ByteArray.empty := fun e => by rw [e] at h0; exact absurd h0 (by decide)
  obtain ⟨hq1, hq2⟩ := empty_no hne
  clear h45
  have HN := Lib.hid hneg; clear hneg
  have bl : Below w.heap.size w ((w.alloc (.cells #[.int .i64 0, .slice none 0 0] 24)).alloc (.cells #[.int .i64 0, .slice none 0 0] 24)) := ((Below.refl _ _).alloc (Nat.le_refl _) _).alloc (by simp) _
  have r0 : ((w.alloc (.cells #[.int .i64 0, .slice none 0 0] 24)).alloc (.cells #[.int .i64 0, .slice none 0 0] 24)).cell? ⟨w.heap.size, 0, none⟩ = some (.int .i64 0) := by simp [go_sem]
  have r1 : ((w.alloc (.cells #[.int .i64 0, .slice none 0 0] 24)).alloc (.cells #[.int .i64 0, .slice none 0 0] 24)).cell? ⟨w.heap.size, 1, none⟩ = some (.slice none 0 0) := by simp [go_sem]
  have rf0 : ((w.alloc (.cells #[.int .i64 0, .slice none 0 0] 24)).alloc (.cells #[.int .i64 0, .slice none 0 0] 24)).frozen? ⟨w.heap.size, 0, none⟩ = false := by simp [go_sem]
  have rf1 : ((w.alloc (.cells #[.int .i64 0, .slice none 0 0] 24)).alloc (.cells #[.int .i64 0, .slice none 0 0] 24)).frozen? ⟨w.heap.size, 1, none⟩ = false := by simp [go_sem]
  have p0 : ((w.alloc (.cells #[.int .i64 0, .slice none 0 0] 24)).alloc (.cells #[.int .i64 0, .slice none 0 0] 24)).cell? ⟨w.heap.size + 1, 0, none⟩ = some (.int .i64 0) := by simp [go_sem]
  have p1 : ((w.alloc (.cells #[.int .i64 0, .slice none 0 0] 24)).alloc (.cells #[.int .i64 0, .slice none 0 0] 24)).cell? ⟨w.heap.size + 1, 1, none⟩ = some (.slice none 0 0) := by simp [go_sem]
  have pf0 : ((w.alloc (.cells #[.int .i64 0, .slice none 0 0] 24)).alloc (.cells #[.int .i64 0, .slice none 0 0] 24)).frozen? ⟨w.heap.size + 1, 0, none⟩ = false := by simp [go_sem]
  have pf1 : ((w.alloc (.cells #[.int .i64 0, .slice none 0 0] 24)).alloc (.cells #[.int .i64 0, .slice none 0 0] 24)).frozen? ⟨w.heap.size + 1, 1, none⟩ = false := by simp [go_sem]
  have sr : w.heap.size + 1 < ((w.alloc (.cells #[.int .i64 0, .slice none 0 0] 24)).alloc (.cells #[.int .i64 0, .slice none 0 0] 24)).heap.size := by simp
  have sk : w.heap.size < ((w.alloc (.cells #[.int .i64 0, .slice none 0 0] 24)).alloc (.cells #[.int .i64 0, .slice none 0 0] 24)).heap.size := by omega
  go_enter Tryz.func4, Tryz.ntmps4
  go_wp2_with fail
  generalize ((w.alloc (.cells #[.int .i64 0, .slice none 0 0] 24)).alloc (.cells #[.int .i64 0, .slice none 0 0] 24)) = W at *
  have hsrW := sr
  refine (specSplitAny t ⟨#[32]⟩ _ (by omega) (by decide)).mono ?_; rintro e w1 ⟨A1, c1, rfl, o1, b1⟩
  have bl1 := Below.on bl b1
  replace r0 := (b1.cell (p := ⟨w.heap.size, 0, none⟩) sk).trans r0
  replace r1 := (b1.cell (p := ⟨w.heap.size, 1, none⟩) sk).trans r1
  replace rf0 := (b1.frozen (p := ⟨w.heap.size, 0, none⟩) sk).trans rf0
  replace rf1 := (b1.frozen (p := ⟨w.heap.size, 1, none⟩) sk).trans rf1
  replace p0 := (b1.cell (p := ⟨w.heap.size + 1, 0, none⟩) sr).trans p0
  replace p1 := (b1.cell (p := ⟨w.heap.size + 1, 1, none⟩) sr).trans p1
  replace pf0 := (b1.frozen (p := ⟨w.heap.size + 1, 0, none⟩) sr).trans pf0
  replace pf1 := (b1.frozen (p := ⟨w.heap.size + 1, 1, none⟩) sr).trans pf1
  replace sk := Nat.lt_of_lt_of_le sk b1.size
  replace sr := Nat.lt_of_lt_of_le sr b1.size
  have o1g := own_ge o1
  have hz1 := b1.size
  clear b1
  have hS := Strs.of_own o1
  clear o1
  obtain ⟨ws, hws⟩ : ∃ ws, ws = spP ⟨#[32]⟩ t := ⟨_, rfl⟩
  rw [← hws] at hS ⊢
  obtain ⟨n, hn⟩ : ∃ n, ws.length = n := ⟨_, rfl⟩
  rw [hn] at hS ⊢
  have HWS := Lib.hid hws; have HNL := Lib.hid hn
  clear hws hn
  have hnb : n ≤ t.size + 1 := by rw [← HNL.out, HWS.out]; exact sp_len _ _
  go_wp2_with fail
  go_loopw [30] (fun v wr => ∃ (k : Nat) (A : Option Addr) (c : Nat) (G : Nat → Option Addr) (C : Nat → Nat), k ≤ n ∧ v = .int .i64 k ∧ wr.cell? ⟨w.heap.size + 1, 0, none⟩ = some (.int .i64 (szV ((ws.take k).map voteW))) ∧ wr.cell? ⟨w.heap.size + 1, 1, none⟩ = some (.slice A k c) ∧ wr.frozen? ⟨w.heap.size + 1, 0, none⟩ = false ∧ wr.frozen? ⟨w.heap.size + 1, 1, none⟩ = false ∧ OwnV wr w1.heap.size A k c G C (rk ((ws.take k).map voteW)) (ct ((ws.take k).map voteW)) ∧ Hid (∀ y ∈ ws.take k, lvOk y = true) ∧ Step w1.heap.size (w.heap.size + 1) w1 wr ∧ Below w.heap.size w wr) (fun v _ => n - (intOf v).toNat)
  case atStart => exact ⟨0, none, 0, fun _ => none, fun _ => 0, Nat.zero_le _, rfl, p0, p1, pf0, pf1, OwnV.nil_ _ _ _ _ _ _, (fun y hy => by simp at hy), Step.refl _ _ _, bl1⟩
  case round =>
    obtain ⟨k, A, c, G, C, hkn, rfl, p0, p1, pf0, pf1, iO, HALL, hst, bw⟩ := hrel
    obtain ⟨wi, rfl⟩ : ∃ wi : World, wi = wr := ⟨_, rfl⟩
    have hzi := hst.keeps.size
    have r0 := (cell_block (hst.block w.heap.size (by omega) (by omega)) 0).trans r0
    have r1 := (cell_block (hst.block w.heap.size (by omega) (by omega)) 1).trans r1
    have rf0 := (World.frozen?_of_block (w := w1) (a := ⟨w.heap.size, 0, none⟩) (hst.block w.heap.size (by omega) (by omega))).trans rf0
    have rf1 := (World.frozen?_of_block (w := w1) (a := ⟨w.heap.size, 1, none⟩) (hst.block w.heap.size (by omega) (by omega))).trans rf1
    have sk : w.heap.size < wi.heap.size := by omega
    have sr : w.heap.size + 1 < wi.heap.size := by omega
    by_cases hlt : k < n
    · obtain ⟨b', o', hAe, hbs, hc⟩ := hS.at_ (k := k) hlt
      subst hAe
      have hbg := (o1g _ rfl).1
      have hcw := (cell_block (hst.block b' hbs (by show b' ≠ w.heap.size + 1; simp at hbg; omega)) _).trans hc
      obtain ⟨x, hxe⟩ : ∃ x, x = snth ws k := ⟨_, rfl⟩
      rw [← hxe] at hcw
      have hxm : x ∈ spP ⟨#[32]⟩ t := by rw [← HWS.out, hxe, snth_get (by rw [HNL.out]; exact hlt)]; exact List.getElem_mem _
      have hxs := piece_le hxm
      have HXM := Lib.hid hxm
      have HTK : Hid (ws.take (k + 1) = ws.take k ++ [x]) := by rw [Hid, List.take_succ_eq_append_getElem (by rw [HNL.out]; exact hlt), hxe, snth_get (by rw [HNL.out]; exact hlt)]
      have hltI : (k : Int) < n := by omega
      clear hxe hxm hc
      obtain ⟨V, hV⟩ : ∃ V, V = (ws.take k).map voteW := ⟨_, rfl⟩
      have HVL : Hid (V.length = k) := by rw [Hid, hV, List.length_map, List.length_take, HNL.out]; omega
      have HVX : Hid ((ws.take (k + 1)).map voteW = V ++ [voteW x]) := by rw [Hid, HTK.out, List.map_append, hV]; rfl
      simp only [← hV] at p0 iO
      clear hV
      go_wp2_with fail
      refine (specVoteW x _ (by omega)).mono ?_; rintro e w2 ⟨A2, c2, RR, TT, rfl, hRT, o2, b2⟩
      have hst2 := hst.below b2 hzi
      have hz2 := b2.size
      have bw2 := Below.on bw b2
      have iO2 := iO.on b2
      have r0 := (b2.cell (p := ⟨w.heap.size, 0, none⟩) sk).trans r0
      have r1 := (b2.cell (p := ⟨w.heap.size, 1, none⟩) sk).trans r1
      have rf0 := (b2.frozen (p := ⟨w.heap.size, 0, none⟩) sk).trans rf0
      have rf1 := (b2.frozen (p := ⟨w.heap.size, 1, none⟩) sk).trans rf1
      have p0 := (b2.cell (p := ⟨w.heap.size + 1, 0, none⟩) sr).trans p0
      have p1 := (b2.cell (p := ⟨w.heap.size + 1, 1, none⟩) sr).trans p1
      have pf0 := (b2.frozen (p := ⟨w.heap.size + 1, 0, none⟩) sr).trans pf0
      have pf1 := (b2.frozen (p := ⟨w.heap.size + 1, 1, none⟩) sr).trans pf1
      have sk := Nat.lt_of_lt_of_le sk b2.size
      have sr := Nat.lt_of_lt_of_le sr b2.size
      clear b2
      cases hlv : lvOk x with
      | false =>
        have HF := Lib.hid (word_bad HN.out HXM.out hlv)
        replace bw := bw2
        have HLV := Lib.hid hlv
        clear hlv hRT
        have a0 : (((w2.setCell ⟨w.heap.size, 0, none⟩ (.int .i64 0)).setCell ⟨w.heap.size, 1, none⟩ (.slice none 0 0)).alloc (.cells #[.slice A2 RR.length c2, .int .i64 TT] 36)).cell? ⟨w.heap.size, 0, none⟩ = some (.int .i64 0) := by simp [go_sem, r0, sk]
        have a1 : (((w2.setCell ⟨w.heap.size, 0, none⟩ (.int .i64 0)).setCell ⟨w.heap.size, 1, none⟩ (.slice none 0 0)).alloc (.cells #[.slice A2 RR.length c2, .int .i64 TT] 36)).cell? ⟨w.heap.size, 1, none⟩ = some (.slice none 0 0) := by simp [go_sem, r1, sk]
        go_wp2_with fail
        refine bodyPost_ret (v := .tuple #[.agg #[.int .i64 0, .slice none 0 0], .bool false]) (by simp [results, Tryz.results4, go_sem, a0, a1]) rfl ?_
        rw [(pp_no HF.out).1, (pp_no HF.out).2, HF.out]
        exact ⟨none, 0, fun _ => none, fun _ => 0, rfl, OwnV.nil_ _ _ _ _ _ _, Below.alloc (Below.setCell (p := ⟨w.heap.size, 1, none⟩) (Below.setCell (p := ⟨w.heap.size, 0, none⟩) bw (Nat.le_refl _) _) (Nat.le_refl _) _) (by simp; omega) _⟩
      | true =>
        obtain ⟨rfl, rfl⟩ := hRT hlv
        have HLV := Lib.hid hlv
        clear hlv hRT
        have bA : Below w2.heap.size w2 ((w2.alloc (.cells #[.slice A2 (parseP (wB x)).length c2, .int .i64 (pV (wA x))] 36)).alloc (.cells #[.slice A2 (parseP (wB x)).length c2, .int .i64 (pV (wA x))] 36)) := ((Below.refl _ _).alloc (Nat.le_refl _) _).alloc (by simp) _
        have own1 : OwnV ((w2.alloc (.cells #[.slice A2 (parseP (wB x)).length c2, .int .i64 (pV (wA x))] 36)).alloc (.cells #[.slice A2 (parseP (wB x)).length c2, .int .i64 (pV (wA x))] 36)) w1.heap.size A k c G C (rk V) (ct V) := iO2.on bA
        have q2 := own_ge o2
        have o2b : Own ((w2.alloc (.cells #[.slice A2 (parseP (wB x)).length c2, .int .i64 (pV (wA x))] 36)).alloc (.cells #[.slice A2 (parseP (wB x)).length c2, .int .i64 (pV (wA x))] 36)) w1.heap.size A2 (parseP (wB x)).length c2 (parseP (wB x)) := own_below (own_mono o2 hzi) bA (Nat.le_refl _)
        have v0 : ((w2.alloc (.cells #[.slice A2 (parseP (wB x)).length c2, .int .i64 (pV (wA x))] 36)).alloc (.cells #[.slice A2 (parseP (wB x)).length c2, .int .i64 (pV (wA x))] 36)).cell? ⟨w2.heap.size, 0, none⟩ = some (.slice A2 (parseP (wB x)).length c2) := by simp [go_sem]
        have v1 : ((w2.alloc (.cells #[.slice A2 (parseP (wB x)).length c2, .int .i64 (pV (wA x))] 36)).alloc (.cells #[.slice A2 (parseP (wB x)).length c2, .int .i64 (pV (wA x))] 36)).cell? ⟨w2.heap.size, 1, none⟩ = some (.int .i64 (pV (wA x))) := by simp [go_sem]
        have u0 : ((w2.alloc (.cells #[.slice A2 (parseP (wB x)).length c2, .int .i64 (pV (wA x))] 36)).alloc (.cells #[.slice A2 (parseP (wB x)).length c2, .int .i64 (pV (wA x))] 36)).cell? ⟨w2.heap.size + 1, 0, none⟩ = some (.slice A2 (parseP (wB x)).length c2) := by simp [go_sem]
        have u1 : ((w2.alloc (.cells #[.slice A2 (parseP (wB x)).length c2, .int .i64 (pV (wA x))] 36)).alloc (.cells #[.slice A2 (parseP (wB x)).length c2, .int .i64 (pV (wA x))] 36)).cell? ⟨w2.heap.size + 1, 1, none⟩ = some (.int .i64 (pV (wA x))) := by simp [go_sem]
        have P0 := Lib.hid ((bA.cell (p := ⟨w.heap.size + 1, 0, none⟩) sr).trans p0)
        have P1 := Lib.hid ((bA.cell (p := ⟨w.heap.size + 1, 1, none⟩) sr).trans p1)
        have PF0 := Lib.hid ((bA.frozen (p := ⟨w.heap.size + 1, 0, none⟩) sr).trans pf0)
        have PF1 := Lib.hid ((bA.frozen (p := ⟨w.heap.size + 1, 1, none⟩) sr).trans pf1)
        have szA : ((w2.alloc (.cells #[.slice A2 (parseP (wB x)).length c2, .int .i64 (pV (wA x))] 36)).alloc (.cells #[.slice A2 (parseP (wB x)).length c2, .int .i64 (pV (wA x))] 36)).heap.size = w2.heap.size + 2 := by simp
        have HST := Lib.hid (hst2.below bA (by omega))
        have HBW := Lib.hid (Below.on bw2 bA)
        have SZA := Lib.hid szA; clear szA
        have kG : ∀ j, j < k → ∀ a b, G j = some a → A2 = some b → a.block ≠ b.block := fun j hj a b ha hb => by have := own_ge (iO.each j hj) a ha; have := q2 b hb; omega
        have kA : ∀ a g, A2 = some a → A = some g → a.block ≠ g.block := fun a g ha hg => by have := iO.ge g hg; have := q2 a ha; omega
        have kP : ∀ a, A = some a → a.block ≠ w.heap.size + 1 := fun a ha => by have := iO.ge a ha; omega
        have kQ : ∀ a, A = some a → a.block ≠ w2.heap.size := fun a ha => by have := iO2.ge a ha; omega
        have hkb : k ≤ 1048576 := by omega
        have hsrA : w.heap.size + 1 < ((w2.alloc (.cells #[.slice A2 (parseP (wB x)).length c2, .int .i64 (pV (wA x))] 36)).alloc (.cells #[.slice A2 (parseP (wB x)).length c2, .int .i64 (pV (wA x))] 36)).heap.size := by rw [SZA.out]; omega
        have hsqA : w2.heap.size < ((w2.alloc (.cells #[.slice A2 (parseP (wB x)).length c2, .int .i64 (pV (wA x))] 36)).alloc (.cells #[.slice A2 (parseP (wB x)).length c2, .int .i64 (pV (wA x))] 36)).heap.size := by rw [SZA.out]; omega
        have hbase : w1.heap.size ≤ ((w2.alloc (.cells #[.slice A2 (parseP (wB x)).length c2, .int .i64 (pV (wA x))] 36)).alloc (.cells #[.slice A2 (parseP (wB x)).length c2, .int .i64 (pV (wA x))] 36)).heap.size := by rw [SZA.out]; omega
        have V0 := Lib.hid v0; have U0 := Lib.hid u0; have U1 := Lib.hid u1
        clear u0 u1
        have x1w := v1
        have x0w := v0
        clear bA
        go_wp2_with (first | (at_builtin; refine wpList_apW _ rfl _ _ rfl w1.heap.size A k c G C (rk V) (ct V) rfl own1 A2 c2 (parseP (wB x)) (pV (wA x)) (w2.heap.size + 1) 1 rfl U0.out U1.out o2b kG kA hkb hbase ?_; intro A6 c6 w6 o6 g6 _p6; have d0 := far_cell g6 hsrA kP P0.out; have d1 := far_cell g6 hsrA kP P1.out; have df0 := far_frozen g6 hsrA kP PF0.out; have df1 := far_frozen g6 hsrA kP PF1.out; have e0 := far_cell g6 hsqA kQ V0.out; have O6 := Lib.hid o6; have G6 := Lib.hid g6; clear o6 g6))
        go_roundw
        case rel =>
          refine ⟨k + 1, A6, c6, (fun j => if j = k then A2 else G j), (fun j => if j = k then c2 else C j), by omega, by go_num, ?_, ?_, ?_, ?_, ?_, ?_, ?_, ?_⟩
          · rw [HVX.out, szV_snoc]
            simp [go_sem, d0]
            rfl
          · simp [go_sem, d1]
          · rw [World.frozen?_setCell, World.frozen?_setCell]; exact df0
          · rw [World.frozen?_setCell, World.frozen?_setCell]; exact df1
          · rw [HVX.out]
            exact ((O6.out.setOther (p := ⟨w.heap.size + 1, 1, none⟩) (by show w.heap.size + 1 < w1.heap.size; omega) _).setOther (p := ⟨w.heap.size + 1, 0, none⟩) (by show w.heap.size + 1 < w1.heap.size; omega) _).congr (fun j hj => rk_snoc HVL.out hj) (fun j hj => ct_snoc HVL.out hj)
          · intro y hy
            rw [HTK.out, List.mem_append, List.mem_singleton] at hy
            rcases hy with hy | rfl
            · exact HALL.out y hy
            · exact HLV.out
          · exact Step.setP (Step.setP (HST.out.grown G6.out own1 (Nat.le_refl _) hbase) 1 _) 0 _
          · refine Below.setCell (p := ⟨w.heap.size + 1, 0, none⟩) (Below.setCell (p := ⟨w.heap.size + 1, 1, none⟩) (HBW.out.grown G6.out (by omega) (fun j e => ?_)) (by show w.heap.size ≤ w.heap.size + 1; omega) _) (by show w.heap.size ≤ w.heap.size + 1; omega) _
            obtain ⟨a, ha, he⟩ := map_block e.symm
            have := iO.ge a ha
            omega
        case measure => simp [intOf]; omega
    · obtain rfl : k = n := by omega
      have htk : ws.take k = ws := List.take_of_length_le (by rw [HNL.out]; exact Nat.le_refl _)
      rw [htk] at p0 iO HALL
      clear htk
      have h2n := words_len (t := t) (c := 32) (fun y hy => ok_ne (HALL.out y (by rw [HWS.out]; exact hy)))
      rw [← HWS.out, HNL.out] at h2n
      have hkI : (k : Int) ≤ 1048576 := by omega
      have HPP := Lib.hid (pp_pos HN.out)
      obtain ⟨V, hV⟩ : ∃ V, V = ws.map voteW := ⟨_, rfl⟩
      rw [← hV] at p0 iO
      have HK : Hid (V.length = k) := by rw [Hid, hV, List.length_map, HNL.out]
      have HSM : Hid (∀ j, j < k → (rl V j : Int) ≤ 1048576) := fun j hj => by
        rw [hV]
        exact rl_small ht (q := []) (by rw [List.append_nil, HWS.out]) j (by rw [HNL.out]; exact hj)
      have HV : Hid (ppV t = V) := by rw [Hid, HPP.out.2, ← HWS.out, hV]
      have HZ : Hid (ppM t = szV V) := by rw [Hid, HPP.out.1, ← HWS.out, hV]
      have HM : Hid (fOk (szV V) V t = ppOk t) := by rw [Hid, ppOk, HZ.out, HV.out]
      clear hV HALL h2n
      have hvo := iO.votes HK.out (fun _ _ => rfl) (fun _ _ => rfl)
      have hRlo : w.heap.size < w1.heap.size := by omega
      have hlo : w.heap.size ≤ w1.heap.size := by omega
      generalize szV V = z at *
      clear hst
      go_wp2_with fail
      generalize wi = W9 at *
      refine (specProfileOk z A k c V _ hvo hkI HSM.out).mono ?_; rintro e w7 ⟨rfl, b7⟩
      replace r0 := (b7.cell (p := ⟨w.heap.size, 0, none⟩) sk).trans r0
      replace r1 := (b7.cell (p := ⟨w.heap.size, 1, none⟩) sk).trans r1
      replace rf0 := (b7.frozen (p := ⟨w.heap.size, 0, none⟩) sk).trans rf0
      replace rf1 := (b7.frozen (p := ⟨w.heap.size, 1, none⟩) sk).trans rf1
      replace p0 := (b7.cell (p := ⟨w.heap.size + 1, 0, none⟩) sr).trans p0
      replace p1 := (b7.cell (p := ⟨w.heap.size + 1, 1, none⟩) sr).trans p1
      replace pf0 := (b7.frozen (p := ⟨w.heap.size + 1, 0, none⟩) sr).trans pf0
      replace pf1 := (b7.frozen (p := ⟨w.heap.size + 1, 1, none⟩) sr).trans pf1
      replace sk := Nat.lt_of_lt_of_le sk b7.size
      replace sr := Nat.lt_of_lt_of_le sr b7.size
      replace bw := Below.on bw b7
      replace iO := iO.on b7
      replace hvo := hvo.on b7
      clear b7
      cases hp : profP z V with
      | false =>
        have HF : Hid (ppOk t = false) := HM.out ▸ f_no1 hp
        clear hp
        go_wp2_with fail
        refine bodyPost_ret (v := .tuple #[.agg #[.int .i64 0, .slice none 0 0], .bool false]) (by simp [results, Tryz.results4, go_sem, r0, r1]) rfl ?_
        rw [(pp_no HF.out).1, (pp_no HF.out).2, HF.out]
        exact ⟨none, 0, fun _ => none, fun _ => 0, rfl, OwnV.nil_ _ _ _ _ _ _, Below.setCell (p := ⟨w.heap.size, 1, none⟩) (Below.setCell (p := ⟨w.heap.size, 0, none⟩) bw (Nat.le_refl _) _) (Nat.le_refl _) _⟩
      | true =>
        have HPT := Lib.hid hp; clear hp
        go_wp2_with fail
        refine (specFormatProfile z A k c V _ hvo hkI HSM.out).mono ?_; rintro e w8 ⟨rfl, b8⟩
        replace r0 := (b8.cell (p := ⟨w.heap.size, 0, none⟩) sk).trans r0
        replace r1 := (b8.cell (p := ⟨w.heap.size, 1, none⟩) sk).trans r1
        replace rf0 := (b8.frozen (p := ⟨w.heap.size, 0, none⟩) sk).trans rf0
        replace rf1 := (b8.frozen (p := ⟨w.heap.size, 1, none⟩) sk).trans rf1
        replace p0 := (b8.cell (p := ⟨w.heap.size + 1, 0, none⟩) sr).trans p0
        replace p1 := (b8.cell (p := ⟨w.heap.size + 1, 1, none⟩) sr).trans p1
        replace pf0 := (b8.frozen (p := ⟨w.heap.size + 1, 0, none⟩) sr).trans pf0
        replace pf1 := (b8.frozen (p := ⟨w.heap.size + 1, 1, none⟩) sr).trans pf1
        replace sk := Nat.lt_of_lt_of_le sk b8.size
        replace sr := Nat.lt_of_lt_of_le sr b8.size
        replace bw := Below.on bw b8
        replace iO := iO.on b8
        clear b8 hvo
        by_cases hte : textB z V = t
        · have HF : Hid (ppOk t = true) := HM.out ▸ f_yes HPT.out hte
          have hq : ((textB z V).toList == t.toList) = true := by rw [hte]; simp
          have HR : Hid (ppRM t = z ∧ ppRV t = V) := ⟨(pp_yes HF.out).1.trans HZ.out, (pp_yes HF.out).2.trans HV.out⟩
          clear hte
          go_wp2_with fail
          refine bodyPost_ret (v := .tuple #[.agg #[.int .i64 z, .slice A k c], .bool true]) (by simp [results, Tryz.results4, go_sem, r0, r1]) rfl ?_
          rw [HR.out.1, HR.out.2, HF.out, HK.out]
          exact ⟨A, c, G, C, rfl, ((iO.setOther (p := ⟨w.heap.size, 0, none⟩) hRlo _).setOther (p := ⟨w.heap.size, 1, none⟩) hRlo _).mono hlo, Below.setCell (p := ⟨w.heap.size, 1, none⟩) (Below.setCell (p := ⟨w.heap.size, 0, none⟩) bw (Nat.le_refl _) _) (Nat.le_refl _) _⟩
        · have HF : Hid (ppOk t = false) := HM.out ▸ f_no2 hte
          have hq := bytes_ne hte
          clear hte
          go_wp2_with fail
          refine bodyPost_ret (v := .tuple #[.agg #[.int .i64 0, .slice none 0 0], .bool false]) (by simp [results, Tryz.results4, go_sem, r0, r1]) rfl ?_
          rw [(pp_no HF.out).1, (pp_no HF.out).2, HF.out]
          exact ⟨none, 0, fun _ => none, fun _ => 0, rfl, OwnV.nil_ _ _ _ _ _ _, Below.setCell (p := ⟨w.heap.size, 1, none⟩) (Below.setCell (p := ⟨w.heap.size, 0, none⟩) bw (Nat.le_refl _) _) (Nat.le_refl _) _⟩

set_option maxHeartbeats 8000000 in
theorem specParseProfileE (w : World) (t : ByteArray) (hemp : t = ByteArray.empty) :
    Calls Tryz.prog 4 #[.string t] w fun e w' => ∃ A' c' G C, e = .returned (.tuple #[.agg #[.int .i64 (ppRM t), .slice A' (ppRV t).length c'], .bool (ppOk t)]) ∧ OwnV w' w.heap.size A' (ppRV t).length c' G C (rk (ppRV t)) (ct (ppRV t)) ∧ Below w.heap.size w w' := by
  have hneg : negT t = false := by rw [hemp]; rfl
  have ht : t.size ≤ 1048576 := by rw [hemp]; decide
  obtain ⟨hq1, hq2⟩ := empty_yes hemp
  clear hemp
  have HN := Lib.hid hneg; clear hneg
  have bl : Below w.heap.size w ((w.alloc (.cells #[.int .i64 0, .slice none 0 0] 24)).alloc (.cells #[.int .i64 0, .slice none 0 0] 24)) := ((Below.refl _ _).alloc (Nat.le_refl _) _).alloc (by simp) _
  have r0 : ((w.alloc (.cells #[.int .i64 0, .slice none 0 0] 24)).alloc (.cells #[.int .i64 0, .slice none 0 0] 24)).cell? ⟨w.heap.size, 0, none⟩ = some (.int .i64 0) := by simp [go_sem]
  have r1 : ((w.alloc (.cells #[.int .i64 0, .slice none 0 0] 24)).alloc (.cells #[.int .i64 0, .slice none 0 0] 24)).cell? ⟨w.heap.size, 1, none⟩ = some (.slice none 0 0) := by simp [go_sem]
  have rf0 : ((w.alloc (.cells #[.int .i64 0, .slice none 0 0] 24)).alloc (.cells #[.int .i64 0, .slice none 0 0] 24)).frozen? ⟨w.heap.size, 0, none⟩ = false := by simp [go_sem]
  have rf1 : ((w.alloc (.cells #[.int .i64 0, .slice none 0 0] 24)).alloc (.cells #[.int .i64 0, .slice none 0 0] 24)).frozen? ⟨w.heap.size, 1, none⟩ = false := by simp [go_sem]
  have p0 : ((w.alloc (.cells #[.int .i64 0, .slice none 0 0] 24)).alloc (.cells #[.int .i64 0, .slice none 0 0] 24)).cell? ⟨w.heap.size + 1, 0, none⟩ = some (.int .i64 0) := by simp [go_sem]
  have p1 : ((w.alloc (.cells #[.int .i64 0, .slice none 0 0] 24)).alloc (.cells #[.int .i64 0, .slice none 0 0] 24)).cell? ⟨w.heap.size + 1, 1, none⟩ = some (.slice none 0 0) := by simp [go_sem]
  have pf0 : ((w.alloc (.cells #[.int .i64 0, .slice none 0 0] 24)).alloc (.cells #[.int .i64 0, .slice none 0 0] 24)).frozen? ⟨w.heap.size + 1, 0, none⟩ = false := by simp [go_sem]
  have pf1 : ((w.alloc (.cells #[.int .i64 0, .slice none 0 0] 24)).alloc (.cells #[.int .i64 0, .slice none 0 0] 24)).frozen? ⟨w.heap.size + 1, 1, none⟩ = false := by simp [go_sem]
  have sr : w.heap.size + 1 < ((w.alloc (.cells #[.int .i64 0, .slice none 0 0] 24)).alloc (.cells #[.int .i64 0, .slice none 0 0] 24)).heap.size := by simp
  have sk : w.heap.size < ((w.alloc (.cells #[.int .i64 0, .slice none 0 0] 24)).alloc (.cells #[.int .i64 0, .slice none 0 0] 24)).heap.size := by omega
  go_enter Tryz.func4, Tryz.ntmps4
  go_wp2_with fail
  generalize ((w.alloc (.cells #[.int .i64 0, .slice none 0 0] 24)).alloc (.cells #[.int .i64 0, .slice none 0 0] 24)) = W at *
  have hsrW := sr
  refine (specSplitAny t ⟨#[32]⟩ _ (by omega) (by decide)).mono ?_; rintro e w1 ⟨A1, c1, rfl, o1, b1⟩
  have bl1 := Below.on bl b1
  replace r0 := (b1.cell (p := ⟨w.heap.size, 0, none⟩) sk).trans r0
  replace r1 := (b1.cell (p := ⟨w.heap.size, 1, none⟩) sk).trans r1
  replace rf0 := (b1.frozen (p := ⟨w.heap.size, 0, none⟩) sk).trans rf0
  replace rf1 := (b1.frozen (p := ⟨w.heap.size, 1, none⟩) sk).trans rf1
  replace p0 := (b1.cell (p := ⟨w.heap.size + 1, 0, none⟩) sr).trans p0
  replace p1 := (b1.cell (p := ⟨w.heap.size + 1, 1, none⟩) sr).trans p1
  replace pf0 := (b1.frozen (p := ⟨w.heap.size + 1, 0, none⟩) sr).trans pf0
  replace pf1 := (b1.frozen (p := ⟨w.heap.size + 1, 1, none⟩) sr).trans pf1
  replace sk := Nat.lt_of_lt_of_le sk b1.size
  replace sr := Nat.lt_of_lt_of_le sr b1.size
  have o1g := own_ge o1
  have hz1 := b1.size
  clear b1
  have hS := Strs.of_own o1
  clear o1
  obtain ⟨ws, hws⟩ : ∃ ws, ws = spP ⟨#[32]⟩ t := ⟨_, rfl⟩
  rw [← hws] at hS ⊢
  obtain ⟨n, hn⟩ : ∃ n, ws.length = n := ⟨_, rfl⟩
  rw [hn] at hS ⊢
  have HWS := Lib.hid hws; have HNL := Lib.hid hn
  clear hws hn
  have hnb : n ≤ t.size + 1 := by rw [← HNL.out, HWS.out]; exact sp_len _ _
  go_wp2_with fail
  go_loopw [30] (fun v wr => ∃ (k : Nat) (A : Option Addr) (c : Nat) (G : Nat → Option Addr) (C : Nat → Nat), k ≤ n ∧ v = .int .i64 k ∧ wr.cell? ⟨w.heap.size + 1, 0, none⟩ = some (.int .i64 (szV ((ws.take k).map voteW))) ∧ wr.cell? ⟨w.heap.size + 1, 1, none⟩ = some (.slice A k c) ∧ wr.frozen? ⟨w.heap.size + 1, 0, none⟩ = false ∧ wr.frozen? ⟨w.heap.size + 1, 1, none⟩ = false ∧ OwnV wr w1.heap.size A k c G C (rk ((ws.take k).map voteW)) (ct ((ws.take k).map voteW)) ∧ Hid (∀ y ∈ ws.take k, lvOk y = true) ∧ Step w1.heap.size (w.heap.size + 1) w1 wr ∧ Below w.heap.size w wr) (fun v _ => n - (intOf v).toNat)
  case atStart => exact ⟨0, none, 0, fun _ => none, fun _ => 0, Nat.zero_le _, rfl, p0, p1, pf0, pf1, OwnV.nil_ _ _ _ _ _ _, (fun y hy => by simp at hy), Step.refl _ _ _, bl1⟩
  case round =>
    obtain ⟨k, A, c, G, C, hkn, rfl, p0, p1, pf0, pf1, iO, HALL, hst, bw⟩ := hrel
    obtain ⟨wi, rfl⟩ : ∃ wi : World, wi = wr := ⟨_, rfl⟩
    have hzi := hst.keeps.size
    have r0 := (cell_block (hst.block w.heap.size (by omega) (by omega)) 0).trans r0
    have r1 := (cell_block (hst.block w.heap.size (by omega) (by omega)) 1).trans r1
    have rf0 := (World.frozen?_of_block (w := w1) (a := ⟨w.heap.size, 0, none⟩) (hst.block w.heap.size (by omega) (by omega))).trans rf0
    have rf1 := (World.frozen?_of_block (w := w1) (a := ⟨w.heap.size, 1, none⟩) (hst.block w.heap.size (by omega) (by omega))).trans rf1
    have sk : w.heap.size < wi.heap.size := by omega
    have sr : w.heap.size + 1 < wi.heap.size := by omega
    by_cases hlt : k < n
    · obtain ⟨b', o', hAe, hbs, hc⟩ := hS.at_ (k := k) hlt
      subst hAe
      have hbg := (o1g _ rfl).1
      have hcw := (cell_block (hst.block b' hbs (by show b' ≠ w.heap.size + 1; simp at hbg; omega)) _).trans hc
      obtain ⟨x, hxe⟩ : ∃ x, x = snth ws k := ⟨_, rfl⟩
      rw [← hxe] at hcw
      have hxm : x ∈ spP ⟨#[32]⟩ t := by rw [← HWS.out, hxe, snth_get (by rw [HNL.out]; exact hlt)]; exact List.getElem_mem _
      have hxs := piece_le hxm
      have HXM := Lib.hid hxm
      have HTK : Hid (ws.take (k + 1) = ws.take k ++ [x]) := by rw [Hid, List.take_succ_eq_append_getElem (by rw [HNL.out]; exact hlt), hxe, snth_get (by rw [HNL.out]; exact hlt)]
      have hltI : (k : Int) < n := by omega
      clear hxe hxm hc
      obtain ⟨V, hV⟩ : ∃ V, V = (ws.take k).map voteW := ⟨_, rfl⟩
      have HVL : Hid (V.length = k) := by rw [Hid, hV, List.length_map, List.length_take, HNL.out]; omega
      have HVX : Hid ((ws.take (k + 1)).map voteW = V ++ [voteW x]) := by rw [Hid, HTK.out, List.map_append, hV]; rfl
      simp only [← hV] at p0 iO
      clear hV
      go_wp2_with fail
      refine (specVoteW x _ (by omega)).mono ?_; rintro e w2 ⟨A2, c2, RR, TT, rfl, hRT, o2, b2⟩
      have hst2 := hst.below b2 hzi
      have hz2 := b2.size
      have bw2 := Below.on bw b2
      have iO2 := iO.on b2
      have r0 := (b2.cell (p := ⟨w.heap.size, 0, none⟩) sk).trans r0
      have r1 := (b2.cell (p := ⟨w.heap.size, 1, none⟩) sk).trans r1
      have rf0 := (b2.frozen (p := ⟨w.heap.size, 0, none⟩) sk).trans rf0
      have rf1 := (b2.frozen (p := ⟨w.heap.size, 1, none⟩) sk).trans rf1
      have p0 := (b2.cell (p := ⟨w.heap.size + 1, 0, none⟩) sr).trans p0
      have p1 := (b2.cell (p := ⟨w.heap.size + 1, 1, none⟩) sr).trans p1
      have pf0 := (b2.frozen (p := ⟨w.heap.size + 1, 0, none⟩) sr).trans pf0
      have pf1 := (b2.frozen (p := ⟨w.heap.size + 1, 1, none⟩) sr).trans pf1
      have sk := Nat.lt_of_lt_of_le sk b2.size
      have sr := Nat.lt_of_lt_of_le sr b2.size
      clear b2
      cases hlv : lvOk x with
      | false =>
        have HF := Lib.hid (word_bad HN.out HXM.out hlv)
        replace bw := bw2
        have HLV := Lib.hid hlv
        clear hlv hRT
        have a0 : (((w2.setCell ⟨w.heap.size, 0, none⟩ (.int .i64 0)).setCell ⟨w.heap.size, 1, none⟩ (.slice none 0 0)).alloc (.cells #[.slice A2 RR.length c2, .int .i64 TT] 36)).cell? ⟨w.heap.size, 0, none⟩ = some (.int .i64 0) := by simp [go_sem, r0, sk]
        have a1 : (((w2.setCell ⟨w.heap.size, 0, none⟩ (.int .i64 0)).setCell ⟨w.heap.size, 1, none⟩ (.slice none 0 0)).alloc (.cells #[.slice A2 RR.length c2, .int .i64 TT] 36)).cell? ⟨w.heap.size, 1, none⟩ = some (.slice none 0 0) := by simp [go_sem, r1, sk]
        go_wp2_with fail
        refine bodyPost_ret (v := .tuple #[.agg #[.int .i64 0, .slice none 0 0], .bool false]) (by simp [results, Tryz.results4, go_sem, a0, a1]) rfl ?_
        rw [(pp_no HF.out).1, (pp_no HF.out).2, HF.out]
        exact ⟨none, 0, fun _ => none, fun _ => 0, rfl, OwnV.nil_ _ _ _ _ _ _, Below.alloc (Below.setCell (p := ⟨w.heap.size, 1, none⟩) (Below.setCell (p := ⟨w.heap.size, 0, none⟩) bw (Nat.le_refl _) _) (Nat.le_refl _) _) (by simp; omega) _⟩
      | true =>
        obtain ⟨rfl, rfl⟩ := hRT hlv
        have HLV := Lib.hid hlv
        clear hlv hRT
        have bA : Below w2.heap.size w2 ((w2.alloc (.cells #[.slice A2 (parseP (wB x)).length c2, .int .i64 (pV (wA x))] 36)).alloc (.cells #[.slice A2 (parseP (wB x)).length c2, .int .i64 (pV (wA x))] 36)) := ((Below.refl _ _).alloc (Nat.le_refl _) _).alloc (by simp) _
        have own1 : OwnV ((w2.alloc (.cells #[.slice A2 (parseP (wB x)).length c2, .int .i64 (pV (wA x))] 36)).alloc (.cells #[.slice A2 (parseP (wB x)).length c2, .int .i64 (pV (wA x))] 36)) w1.heap.size A k c G C (rk V) (ct V) := iO2.on bA
        have q2 := own_ge o2
        have o2b : Own ((w2.alloc (.cells #[.slice A2 (parseP (wB x)).length c2, .int .i64 (pV (wA x))] 36)).alloc (.cells #[.slice A2 (parseP (wB x)).length c2, .int .i64 (pV (wA x))] 36)) w1.heap.size A2 (parseP (wB x)).length c2 (parseP (wB x)) := own_below (own_mono o2 hzi) bA (Nat.le_refl _)
        have v0 : ((w2.alloc (.cells #[.slice A2 (parseP (wB x)).length c2, .int .i64 (pV (wA x))] 36)).alloc (.cells #[.slice A2 (parseP (wB x)).length c2, .int .i64 (pV (wA x))] 36)).cell? ⟨w2.heap.size, 0, none⟩ = some (.slice A2 (parseP (wB x)).length c2) := by simp [go_sem]
        have v1 : ((w2.alloc (.cells #[.slice A2 (parseP (wB x)).length c2, .int .i64 (pV (wA x))] 36)).alloc (.cells #[.slice A2 (parseP (wB x)).length c2, .int .i64 (pV (wA x))] 36)).cell? ⟨w2.heap.size, 1, none⟩ = some (.int .i64 (pV (wA x))) := by simp [go_sem]
        have u0 : ((w2.alloc (.cells #[.slice A2 (parseP (wB x)).length c2, .int .i64 (pV (wA x))] 36)).alloc (.cells #[.slice A2 (parseP (wB x)).length c2, .int .i64 (pV (wA x))] 36)).cell? ⟨w2.heap.size + 1, 0, none⟩ = some (.slice A2 (parseP (wB x)).length c2) := by simp [go_sem]
        have u1 : ((w2.alloc (.cells #[.slice A2 (parseP (wB x)).length c2, .int .i64 (pV (wA x))] 36)).alloc (.cells #[.slice A2 (parseP (wB x)).length c2, .int .i64 (pV (wA x))] 36)).cell? ⟨w2.heap.size + 1, 1, none⟩ = some (.int .i64 (pV (wA x))) := by simp [go_sem]
        have P0 := Lib.hid ((bA.cell (p := ⟨w.heap.size + 1, 0, none⟩) sr).trans p0)
        have P1 := Lib.hid ((bA.cell (p := ⟨w.heap.size + 1, 1, none⟩) sr).trans p1)
        have PF0 := Lib.hid ((bA.frozen (p := ⟨w.heap.size + 1, 0, none⟩) sr).trans pf0)
        have PF1 := Lib.hid ((bA.frozen (p := ⟨w.heap.size + 1, 1, none⟩) sr).trans pf1)
        have szA : ((w2.alloc (.cells #[.slice A2 (parseP (wB x)).length c2, .int .i64 (pV (wA x))] 36)).alloc (.cells #[.slice A2 (parseP (wB x)).length c2, .int .i64 (pV (wA x))] 36)).heap.size = w2.heap.size + 2 := by simp
        have HST := Lib.hid (hst2.below bA (by omega))
        have HBW := Lib.hid (Below.on bw2 bA)
        have SZA := Lib.hid szA; clear szA
        have kG : ∀ j, j < k → ∀ a b, G j = some a → A2 = some b → a.block ≠ b.block := fun j hj a b ha hb => by have := own_ge (iO.each j hj) a ha; have := q2 b hb; omega
        have kA : ∀ a g, A2 = some a → A = some g → a.block ≠ g.block := fun a g ha hg => by have := iO.ge g hg; have := q2 a ha; omega
        have kP : ∀ a, A = some a → a.block ≠ w.heap.size + 1 := fun a ha => by have := iO.ge a ha; omega
        have kQ : ∀ a, A = some a → a.block ≠ w2.heap.size := fun a ha => by have := iO2.ge a ha; omega
        have hkb : k ≤ 1048576 := by omega
        have hsrA : w.heap.size + 1 < ((w2.alloc (.cells #[.slice A2 (parseP (wB x)).length c2, .int .i64 (pV (wA x))] 36)).alloc (.cells #[.slice A2 (parseP (wB x)).length c2, .int .i64 (pV (wA x))] 36)).heap.size := by rw [SZA.out]; omega
        have hsqA : w2.heap.size < ((w2.alloc (.cells #[.slice A2 (parseP (wB x)).length c2, .int .i64 (pV (wA x))] 36)).alloc (.cells #[.slice A2 (parseP (wB x)).length c2, .int .i64 (pV (wA x))] 36)).heap.size := by rw [SZA.out]; omega
        have hbase : w1.heap.size ≤ ((w2.alloc (.cells #[.slice A2 (parseP (wB x)).length c2, .int .i64 (pV (wA x))] 36)).alloc (.cells #[.slice A2 (parseP (wB x)).length c2, .int .i64 (pV (wA x))] 36)).heap.size := by rw [SZA.out]; omega
        have V0 := Lib.hid v0; have U0 := Lib.hid u0; have U1 := Lib.hid u1
        clear u0 u1
        have x1w := v1
        have x0w := v0
        clear bA
        go_wp2_with (first | (at_builtin; refine wpList_apW _ rfl _ _ rfl w1.heap.size A k c G C (rk V) (ct V) rfl own1 A2 c2 (parseP (wB x)) (pV (wA x)) (w2.heap.size + 1) 1 rfl U0.out U1.out o2b kG kA hkb hbase ?_; intro A6 c6 w6 o6 g6 _p6; have d0 := far_cell g6 hsrA kP P0.out; have d1 := far_cell g6 hsrA kP P1.out; have df0 := far_frozen g6 hsrA kP PF0.out; have df1 := far_frozen g6 hsrA kP PF1.out; have e0 := far_cell g6 hsqA kQ V0.out; have O6 := Lib.hid o6; have G6 := Lib.hid g6; clear o6 g6))
        go_roundw
        case rel =>
          refine ⟨k + 1, A6, c6, (fun j => if j = k then A2 else G j), (fun j => if j = k then c2 else C j), by omega, by go_num, ?_, ?_, ?_, ?_, ?_, ?_, ?_, ?_⟩
          · rw [HVX.out, szV_snoc]
            simp [go_sem, d0]
            rfl
          · simp [go_sem, d1]
          · rw [World.frozen?_setCell, World.frozen?_setCell]; exact df0
          · rw [World.frozen?_setCell, World.frozen?_setCell]; exact df1
          · rw [HVX.out]
            exact ((O6.out.setOther (p := ⟨w.heap.size + 1, 1, none⟩) (by show w.heap.size + 1 < w1.heap.size; omega) _).setOther (p := ⟨w.heap.size + 1, 0, none⟩) (by show w.heap.size + 1 < w1.heap.size; omega) _).congr (fun j hj => rk_snoc HVL.out hj) (fun j hj => ct_snoc HVL.out hj)
          · intro y hy
            rw [HTK.out, List.mem_append, List.mem_singleton] at hy
            rcases hy with hy | rfl
            · exact HALL.out y hy
            · exact HLV.out
          · exact Step.setP (Step.setP (HST.out.grown G6.out own1 (Nat.le_refl _) hbase) 1 _) 0 _
          · refine Below.setCell (p := ⟨w.heap.size + 1, 0, none⟩) (Below.setCell (p := ⟨w.heap.size + 1, 1, none⟩) (HBW.out.grown G6.out (by omega) (fun j e => ?_)) (by show w.heap.size ≤ w.heap.size + 1; omega) _) (by show w.heap.size ≤ w.heap.size + 1; omega) _
            obtain ⟨a, ha, he⟩ := map_block e.symm
            have := iO.ge a ha
            omega
        case measure => simp [intOf]; omega
    · obtain rfl : k = n := by omega
      have htk : ws.take k = ws := List.take_of_length_le (by rw [HNL.out]; exact Nat.le_refl _)
      rw [htk] at p0 iO HALL
      clear htk
      have h2n := words_len (t := t) (c := 32) (fun y hy => ok_ne (HALL.out y (by rw [HWS.out]; exact hy)))
      rw [← HWS.out, HNL.out] at h2n
      have hkI : (k : Int) ≤ 1048576 := by omega
      have HPP := Lib.hid (pp_pos HN.out)
      obtain ⟨V, hV⟩ : ∃ V, V = ws.map voteW := ⟨_, rfl⟩
      rw [← hV] at p0 iO
      have HK : Hid (V.length = k) := by rw [Hid, hV, List.length_map, HNL.out]
      have HSM : Hid (∀ j, j < k → (rl V j : Int) ≤ 1048576) := fun j hj => by
        rw [hV]
        exact rl_small ht (q := []) (by rw [List.append_nil, HWS.out]) j (by rw [HNL.out]; exact hj)
      have HV : Hid (ppV t = V) := by rw [Hid, HPP.out.2, ← HWS.out, hV]
      have HZ : Hid (ppM t = szV V) := by rw [Hid, HPP.out.1, ← HWS.out, hV]
      have HM : Hid (fOk (szV V) V t = ppOk t) := by rw [Hid, ppOk, HZ.out, HV.out]
      clear hV HALL h2n
      have hvo := iO.votes HK.out (fun _ _ => rfl) (fun _ _ => rfl)
      have hRlo : w.heap.size < w1.heap.size := by omega
      have hlo : w.heap.size ≤ w1.heap.size := by omega
      generalize szV V = z at *
      clear hst
      go_wp2_with fail
      generalize wi = W9 at *
      refine (specProfileOk z A k c V _ hvo hkI HSM.out).mono ?_; rintro e w7 ⟨rfl, b7⟩
      replace r0 := (b7.cell (p := ⟨w.heap.size, 0, none⟩) sk).trans r0
      replace r1 := (b7.cell (p := ⟨w.heap.size, 1, none⟩) sk).trans r1
      replace rf0 := (b7.frozen (p := ⟨w.heap.size, 0, none⟩) sk).trans rf0
      replace rf1 := (b7.frozen (p := ⟨w.heap.size, 1, none⟩) sk).trans rf1
      replace p0 := (b7.cell (p := ⟨w.heap.size + 1, 0, none⟩) sr).trans p0
      replace p1 := (b7.cell (p := ⟨w.heap.size + 1, 1, none⟩) sr).trans p1
      replace pf0 := (b7.frozen (p := ⟨w.heap.size + 1, 0, none⟩) sr).trans pf0
      replace pf1 := (b7.frozen (p := ⟨w.heap.size + 1, 1, none⟩) sr).trans pf1
      replace sk := Nat.lt_of_lt_of_le sk b7.size
      replace sr := Nat.lt_of_lt_of_le sr b7.size
      replace bw := Below.on bw b7
      replace iO := iO.on b7
      replace hvo := hvo.on b7
      clear b7
      cases hp : profP z V with
      | false =>
        have HF : Hid (ppOk t = false) := HM.out ▸ f_no1 hp
        clear hp
        go_wp2_with fail
        refine bodyPost_ret (v := .tuple #[.agg #[.int .i64 0, .slice none 0 0], .bool false]) (by simp [results, Tryz.results4, go_sem, r0, r1]) rfl ?_
        rw [(pp_no HF.out).1, (pp_no HF.out).2, HF.out]
        exact ⟨none, 0, fun _ => none, fun _ => 0, rfl, OwnV.nil_ _ _ _ _ _ _, Below.setCell (p := ⟨w.heap.size, 1, none⟩) (Below.setCell (p := ⟨w.heap.size, 0, none⟩) bw (Nat.le_refl _) _) (Nat.le_refl _) _⟩
      | true =>
        have HPT := Lib.hid hp; clear hp
        go_wp2_with fail
        refine (specFormatProfile z A k c V _ hvo hkI HSM.out).mono ?_; rintro e w8 ⟨rfl, b8⟩
        replace r0 := (b8.cell (p := ⟨w.heap.size, 0, none⟩) sk).trans r0
        replace r1 := (b8.cell (p := ⟨w.heap.size, 1, none⟩) sk).trans r1
        replace rf0 := (b8.frozen (p := ⟨w.heap.size, 0, none⟩) sk).trans rf0
        replace rf1 := (b8.frozen (p := ⟨w.heap.size, 1, none⟩) sk).trans rf1
        replace p0 := (b8.cell (p := ⟨w.heap.size + 1, 0, none⟩) sr).trans p0
        replace p1 := (b8.cell (p := ⟨w.heap.size + 1, 1, none⟩) sr).trans p1
        replace pf0 := (b8.frozen (p := ⟨w.heap.size + 1, 0, none⟩) sr).trans pf0
        replace pf1 := (b8.frozen (p := ⟨w.heap.size + 1, 1, none⟩) sr).trans pf1
        replace sk := Nat.lt_of_lt_of_le sk b8.size
        replace sr := Nat.lt_of_lt_of_le sr b8.size
        replace bw := Below.on bw b8
        replace iO := iO.on b8
        clear b8 hvo
        by_cases hte : textB z V = t
        · have HF : Hid (ppOk t = true) := HM.out ▸ f_yes HPT.out hte
          have hq : ((textB z V).toList == t.toList) = true := by rw [hte]; simp
          have HR : Hid (ppRM t = z ∧ ppRV t = V) := ⟨(pp_yes HF.out).1.trans HZ.out, (pp_yes HF.out).2.trans HV.out⟩
          clear hte
          go_wp2_with fail
          refine bodyPost_ret (v := .tuple #[.agg #[.int .i64 z, .slice A k c], .bool true]) (by simp [results, Tryz.results4, go_sem, r0, r1]) rfl ?_
          rw [HR.out.1, HR.out.2, HF.out, HK.out]
          exact ⟨A, c, G, C, rfl, ((iO.setOther (p := ⟨w.heap.size, 0, none⟩) hRlo _).setOther (p := ⟨w.heap.size, 1, none⟩) hRlo _).mono hlo, Below.setCell (p := ⟨w.heap.size, 1, none⟩) (Below.setCell (p := ⟨w.heap.size, 0, none⟩) bw (Nat.le_refl _) _) (Nat.le_refl _) _⟩
        · have HF : Hid (ppOk t = false) := HM.out ▸ f_no2 hte
          have hq := bytes_ne hte
          clear hte
          go_wp2_with fail
          refine bodyPost_ret (v := .tuple #[.agg #[.int .i64 0, .slice none 0 0], .bool false]) (by simp [results, Tryz.results4, go_sem, r0, r1]) rfl ?_
          rw [(pp_no HF.out).1, (pp_no HF.out).2, HF.out]
          exact ⟨none, 0, fun _ => none, fun _ => 0, rfl, OwnV.nil_ _ _ _ _ _ _, Below.setCell (p := ⟨w.heap.size, 1, none⟩) (Below.setCell (p := ⟨w.heap.size, 0, none⟩) bw (Nat.le_refl _) _) (Nat.le_refl _) _⟩

theorem specParseProfile (t : ByteArray) (w : World) (ht : t.size ≤ 1048576) :
    Calls Tryz.prog 4 #[.string t] w fun e w' => ∃ A' c' G C, e = .returned (.tuple #[.agg #[.int .i64 (ppRM t), .slice A' (ppRV t).length c'], .bool (ppOk t)]) ∧ OwnV w' w.heap.size A' (ppRV t).length c' G C (rk (ppRV t)) (ct (ppRV t)) ∧ Below w.heap.size w w' := by
  cases hn : negT t with
  | true => exact specParseProfileN t w ht hn
  | false =>
    by_cases h0 : 0 < t.size
    · exact specParseProfileC t w ht hn h0
    · exact specParseProfileE w t (ByteArray.ext (Array.toList_inj.1 (List.eq_nil_of_length_eq_zero (by have : t.data.toList.length = t.size := by simp
                                                                                                        omega))))
end Go.Proofs.YtkofjdddmpebmaaGreatDoor

/-! A profile read from a text: its size. -/
namespace Go.Proofs.YtkofjdddmpebmaaGreatDoor
open Go.RowKit

theorem pp_small (t : ByteArray) : ((ppRV t).length : Int) ≤ 1048576 ∧ ∀ j, j < (ppRV t).length → (rl (ppRV t) j : Int) ≤ 1048576 := by
  cases h : ppOk t with
  | false =>
    rw [(pp_no h).2]
    exact ⟨by decide, fun j hj => absurd hj (by simp)⟩
  | true =>
    rw [(pp_yes h).2]
    rw [ppOk, fOk, Bool.and_eq_true] at h
    have hp := of_prof h.1
    refine ⟨by omega, fun j hj => ?_⟩
    have := (of_rank (of_votes hp.2.2 hj).1)
    have e : rl (ppV t) j = (rk (ppV t) j).length := rfl
    omega
end Go.Proofs.YtkofjdddmpebmaaGreatDoor
