/- A text drawn from a code: what the reference's function computes; pieces joined give the text back. -/
import Derived.Test.YtfcbnpjfpeiheaaDoorCursor
import Derived.Test.YtfcbnpjfpeiheaaDoorCutL
import Derived.Test.YtfcbnpjfpeiheaaDoorJoin
namespace Go.Proofs.YtfcbnpjfpeiheaaDoor
open Go.RowKit
set_option maxRecDepth 100000

set_option maxHeartbeats 1000000 in
theorem specStr (B P : Nat) (A : Option Addr) (n c : Nat) (ss : List ByteArray) (w : World) (h : Cur w B P) (hs : Strs w A n ss) (hA : ∀ a, A = some a → a.block ≠ P) (h0 : 0 < n) (hn : (n : Int) ≤ 1048576) :
    Calls Tryd.prog 37 #[.pointer (some ⟨P, 0, none⟩), .slice A n c] w fun e w' => ∃ j : Nat, j < n ∧ e = .returned (.string (snth ss j)) ∧ Cur w' B P ∧ w.grownBy w' (some P) := by
  go_enter Tryd.func37, Tryd.ntmps37
  go_wp2_with fail
  refine (specBelow B P n _ h (by omega)).mono ?_; rintro e w1 ⟨r, rfl, r1, r2, c1, g1⟩
  have r3 := r2 (by omega)
  clear r2
  obtain ⟨j, rfl⟩ : ∃ j : Nat, r = (j : Int) := ⟨r.toNat, by omega⟩
  obtain ⟨b, o, rfl, hb, hc⟩ := hs.at_ (k := j) (by omega)
  have hne := hA _ rfl
  have hc1 : w1.cell? ⟨b, o + j, none⟩ = some (.string (snth ss j)) := (World.cell?_of_block (w := w) (a := ⟨b, o + j, none⟩) (g1.block b hb (fun e => by injection e with e; exact hne e))).trans hc
  have C1 := Lib.hid c1; have G1 := Lib.hid g1
  clear c1 g1 hc
  go_wp2_with fail
  go_ret
  exact ⟨j, by omega, rfl, C1.out, G1.out⟩
/-- The words of which the text is made. -/
def lit5 : List ByteArray := [⟨#[97]⟩, ⟨#[98, 99]⟩, ⟨#[32]⟩, ⟨#[44]⟩, ⟨#[120, 49]⟩]
theorem lit5_size : ∀ j, j < 5 → (snth lit5 j).size ≤ 2 := by decide
theorem lit5_strs (w : World) : Strs (w.alloc (.cells #[.string ⟨#[97]⟩, .string ⟨#[98, 99]⟩, .string ⟨#[32]⟩, .string ⟨#[44]⟩, .string ⟨#[120, 49]⟩] 9)) (some ⟨w.heap.size, 0, none⟩) 5 lit5 := by
  refine ⟨rfl, fun _ => ⟨w.heap.size, 0, rfl, by simp, fun j hj => ?_⟩⟩
  have hj5 : j = 0 ∨ j = 1 ∨ j = 2 ∨ j = 3 ∨ j = 4 := by omega
  rcases hj5 with rfl | rfl | rfl | rfl | rfl <;> simp [snth, lit5]
set_option maxHeartbeats 4000000 in
theorem specMakeText (A : Option Addr) (n c : Nat) (w : World) (h : Byts w w.heap.size A n) (hn : (n : Int) ≤ 1048576) :
    Calls Tryd.prog 15 #[.slice A n c] w fun e w' => ∃ t : ByteArray, e = .returned (.string t) ∧ t.size ≤ 14 ∧ Below w.heap.size w w' := by
  go_enter Tryd.func15, Tryd.ntmps15
  go_wp2_with fail
  refine (specNew A n c _ h hn).mono ?_; rintro e w1 ⟨rfl, c1, b1⟩
  go_wp2_with fail
  refine (specBelow _ _ 8 _ c1 (by omega)).mono ?_; rintro e w2 ⟨r, rfl, r1, r2, c2, g2⟩
  have r3 := r2 (by omega)
  have b2 := b1.grown g2 b1.size (fun j hj => by injection hj with hj; omega)
  clear r2 c1 g2 b1
  go_wp2_with fail
  go_loopw [4, 5] (fun u v wr => ∃ (t : ByteArray) (m : Int), u = .string t ∧ v = .int .i64 m ∧ 0 ≤ m ∧ m ≤ 7 ∧ (t.size : Int) ≤ 14 - 2 * m ∧ Cur wr w.heap.size w.heap.size ∧ Below w.heap.size w wr) (fun _ v _ => (intOf v).toNat)
  case atStart => exact ⟨⟨#[]⟩, r, rfl, rfl, r1, by omega, by show (0 : Int) ≤ _; omega, c2, b2⟩
  case round =>
    obtain ⟨t, m, rfl, rfl, m1, m2, ht, hc, hb⟩ := hrel
    obtain ⟨wi, rfl⟩ : ∃ wi : World, wi = wr := ⟨_, rfl⟩
    by_cases hpos : 0 < m
    · have hal : Below wi.heap.size wi (wi.alloc (.cells #[.string ⟨#[97]⟩, .string ⟨#[98, 99]⟩, .string ⟨#[32]⟩, .string ⟨#[44]⟩, .string ⟨#[120, 49]⟩] 9)) := (Below.refl _ _).alloc (Nat.le_refl _) _
      have hst := lit5_strs wi
      have hcA := hc.on hal
      have hbA := hb.trans (hal.mono hb.size)
      have hlt : w.heap.size < wi.heap.size := hc.2.1
      clear hc
      go_wp2_with fail
      generalize wi.alloc (.cells #[.string ⟨#[97]⟩, .string ⟨#[98, 99]⟩, .string ⟨#[32]⟩, .string ⟨#[44]⟩, .string ⟨#[120, 49]⟩] 9) = V at *
      refine (specStr _ _ _ 5 5 lit5 _ hcA hst (fun a ha => by injection ha with ha; subst ha; exact Nat.ne_of_gt hlt) (by omega) (by omega)).mono ?_; rintro e w3 ⟨j, hj, rfl, c3, g3⟩
      have hz := lit5_size j hj
      have hz2 : ((snth lit5 j).size : Int) ≤ 2 := by omega
      have hzs : (t ++ snth lit5 j).size = t.size + (snth lit5 j).size := ByteArray.size_append
      have HZS := Lib.hid hzs; clear hzs
      generalize snth lit5 j = x at *
      have b3 := hbA.grown g3 hbA.size (fun k hk => by injection hk with hk; omega)
      go_wp2_with fail
      go_roundw
      case rel => exact ⟨t ++ x, m - 1, rfl, by go_num, by omega, by omega, by rw [HZS.out]; omega, c3, b3⟩
      case measure => simp [intOf]; omega
    · obtain rfl : m = 0 := by omega
      go_wp2_with fail
      go_ret
      exact ⟨t, rfl, by omega, hb⟩

/-! ### Pieces joined -/
theorem cutL_short (c : UInt8) : ∀ (l : List UInt8) (p : List UInt8), p ∈ cutL c l → p.length ≤ l.length
  | [], p, h => by rw [cutL_nil, List.mem_singleton] at h; subst h; simp
  | b :: l, p, h => by
    by_cases hb : b = c
    · subst hb
      rw [cutL_sep, List.mem_cons] at h
      rcases h with rfl | h
      · simp
      · have := cutL_short b l p h
        simp only [List.length_cons]; omega
    · obtain ⟨q, r, e⟩ := cutL_some c l
      rw [cutL_in hb e, List.mem_cons] at h
      have ih := cutL_short c l
      rw [e] at ih
      rcases h with rfl | h
      · have := ih q List.mem_cons_self
        simp only [List.length_cons]; omega
      · have := ih p (List.mem_cons_of_mem _ h)
        simp only [List.length_cons]; omega
theorem piece_short {s : ByteArray} {c : UInt8} {j : Nat} (hj : j < (spP ⟨#[c]⟩ s).length) : (snth (spP ⟨#[c]⟩ s) j).size ≤ s.size := by
  have hm : (snth (spP ⟨#[c]⟩ s) j).data.toList ∈ cutL c s.data.toList := by
    rw [← spP_cut, List.mem_map]
    exact ⟨_, by rw [snth_get hj]; exact List.getElem_mem hj, rfl⟩
  have := cutL_short c _ _ hm
  simpa using this
theorem sumSz_le' {ss : List ByteArray} {b : Nat} : ∀ n, (∀ j, j < n → (snth ss j).size ≤ b) → sumSz ss n ≤ n * b
  | 0, _ => by simp [sumSz]
  | n + 1, h => by
    have h1 := sumSz_le' n (fun j hj => h j (by omega))
    have h2 := h n (by omega)
    rw [sumSz_succ, Nat.add_mul]
    omega
theorem join_split (c : UInt8) (s : ByteArray) : jK (spP ⟨#[c]⟩ s) ⟨#[c]⟩ (spP ⟨#[c]⟩ s).length = s := by
  rw [← jK_all rfl]
  apply ByteArray.ext
  apply Array.toList_inj.1
  show ((Lib.join ((spP ⟨#[c]⟩ s).map (·.data.toList)) [c]).toArray).toList = _
  rw [spP_cut, cutL_join]
theorem own_le {w : World} {base c n : Nat} {A : Option Addr} {ss : List ByteArray} (h : OwnS w base A n c ss) (h0 : 0 < n) : n ≤ c := by
  obtain ⟨_, h1 | ⟨g1, cap1, cur1, hv1, _, _, hcc, _⟩⟩ := h
  · exact absurd h1.2 (by omega)
  · injection hv1 with _ _ e3
    omega
end Go.Proofs.YtfcbnpjfpeiheaaDoor
