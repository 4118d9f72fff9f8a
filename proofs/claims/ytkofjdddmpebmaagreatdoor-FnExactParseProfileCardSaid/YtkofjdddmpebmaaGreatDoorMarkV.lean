/- Profiles of the call's own: the laws' copy, marks laid and marks found. -/
import Derived.Test.YtkofjdddmpebmaaGreatDoorOwnV
namespace Go.Proofs.YtkofjdddmpebmaaGreatDoor
open Go.RowKit
set_option maxRecDepth 100000

/-- How many marks lie ahead of the k-th vote. -/
def prv (R : Nat → List Int) : Nat → Nat
  | 0 => 0
  | k + 1 => prv R k + (R k).length + 1
def mkR (R : Nat → List Int) (m : Int) (k j : Nat) : List Int := if j < k then marks (m + (prv R j : Int)) (R j).length else R j
def mkT (R : Nat → List Int) (T : Nat → Int) (m : Int) (k j : Nat) : Int := if j < k then m + (prv R j : Int) + ((R j).length : Int) else T j
theorem mkR_len (R : Nat → List Int) (m : Int) (k j : Nat) : (mkR R m k j).length = (R j).length := by
  unfold mkR; split
  · rw [marks_len]
  · rfl
theorem prv_le (R : Nat → List Int) (n : Nat) (hb : ∀ k, k < n → ((R k).length : Int) ≤ 1048576) : ∀ k, k ≤ n → (prv R k : Int) ≤ 1048577 * k
  | 0, _ => by simp [prv]
  | k + 1, h => by
    have h1 := prv_le R n hb k (by omega)
    have h2 := hb k (by omega)
    simp only [prv]
    omega
theorem mkR_self (R : Nat → List Int) (m : Int) (k : Nat) : mkR R m k k = R k := by rw [mkR, if_neg (by omega)]
theorem mkT_self (R : Nat → List Int) (T : Nat → Int) (m : Int) (k : Nat) : mkT R T m k k = T k := by rw [mkT, if_neg (by omega)]
theorem mkR_step (R : Nat → List Int) (m : Int) (k j : Nat) : (if j = k then marks (m + (prv R k : Int)) (R k).length else mkR R m k j) = mkR R m (k + 1) j := by
  unfold mkR
  by_cases e : j = k
  · subst e; rw [if_pos rfl, if_pos (by omega)]
  · rw [if_neg e]
    by_cases e2 : j < k
    · rw [if_pos e2, if_pos (by omega)]
    · rw [if_neg e2, if_neg (by omega)]
theorem mkT_step (R : Nat → List Int) (T : Nat → Int) (m : Int) (k j : Nat) : (if j = k then m + (prv R k : Int) + ((R k).length : Int) else mkT R T m k j) = mkT R T m (k + 1) j := by
  unfold mkT
  by_cases e : j = k
  · subst e; rw [if_pos rfl, if_pos (by omega)]
  · rw [if_neg e]
    by_cases e2 : j < k
    · rw [if_pos e2, if_pos (by omega)]
    · rw [if_neg e2, if_neg (by omega)]

set_option maxHeartbeats 2000000 in
theorem markVoteS (A : Option Addr) (n c base : Nat) (G : Nat → Option Addr) (C : Nat → Nat) (R : Nat → List Int) (T : Nat → Int) (m : Int) (hi : Nat) (w : World) (h : OwnV w base A n c G C R T) (hin : InV A n G hi) (hn : (n : Int) ≤ 1048576) (hb : ∀ k, k < n → ((R k).length : Int) ≤ 1048576) (hm : 0 ≤ m ∧ m ≤ 4294967296) :
    Calls Tryz.prog 21 #[.slice A n c, .int .i64 m] w fun e w' => e = .returned (.int .i64 (m + (prv R n : Int))) ∧ OwnV w' base A n c G C (mkR R m n) (mkT R T m n) ∧ Mid base hi w w' := by
  have HB := Lib.hid hb
  have HP := Lib.hid (prv_le R n hb)
  clear hb
  go_enter Tryz.func21, Tryz.ntmps21
  go_wp2
  go_loopw [1, 5] (fun u v wr => ∃ k : Nat, (k : Int) ≤ n ∧ u = .int .i64 (m + (prv R k : Int)) ∧ v = .int .i64 k ∧ OwnV wr base A n c G C (mkR R m k) (mkT R T m k) ∧ Mid base hi w wr) (fun _ v _ => n - (intOf v).toNat)
  case atStart => exact ⟨0, by omega, by simp [prv], rfl, h.congr (fun k hk => by simp [mkR]) (fun k hk => by simp [mkT]), Mid.refl _ _ _⟩
  case round =>
    obtain ⟨k, hk, rfl, rfl, hV, hmid⟩ := hrel
    have hms := hmid.size
    by_cases hlt : (k : Int) < n
    · have hkn : k < n := by omega
      obtain ⟨g, hAg, hg0, hg1, c0, c1, f0, f1⟩ := hV.cells hkn
      rw [mkR_self] at c0
      rw [mkT_self] at c1
      have hlb := HB.out k (by omega)
      have hpb := HP.out k (by omega)
      have hek := hV.each k hkn
      rw [mkR_self] at hek
      have HIN := Lib.hid hin
      have hgh := HIN.out.1 ⟨g, 0, none⟩ hAg
      have HOF := Lib.hid (fun a ha => hV.off k hkn a ⟨g, 0, none⟩ ha hAg)
      subst hAg
      go_wp2_with fail
      refine (markIntS _ _ _ _ _ (m + (prv R k : Int)) _ hek hlb ⟨by omega, by omega⟩).mono ?_; rintro e w1 ⟨rfl, o1, gr⟩
      have hgne : some g ≠ (G k).map (·.block) := by
        intro he
        obtain ⟨a1, h1, h2⟩ := map_block he
        exact HOF.out a1 h1 h2
      have hblk := gr.block g hg1 hgne
      have c0 := (World.cell?_of_block (w := wr) (a := ⟨g, k * 2, none⟩) hblk).trans c0
      have c1 := (World.cell?_of_block (w := wr) (a := ⟨g, k * 2 + 1, none⟩) hblk).trans c1
      have f1 := (World.frozen?_of_block (w := wr) (a := ⟨g, k * 2 + 1, none⟩) hblk).trans f1
      have HNX := Lib.hid (OwnV.marked hV hkn (xs := marks (m + (prv R k : Int)) (R k).length) (by rw [mkR_len, marks_len]) (by rw [mkR_len]; exact o1) gr (m + (prv R k : Int) + ((R k).length : Int)))
      go_wp2_with fail
      go_roundw
      case rel =>
        refine ⟨k + 1, by omega, by simp only [prv]; congr 1; omega, by go_num, HNX.out.congr (fun j _ => mkR_step R m k j) (fun j _ => mkT_step R T m k j), (hmid.trans (Mid.of_grown gr (fun q hq => ?_))).trans (Mid.setCell _ ⟨hg0, hgh⟩ _)⟩
        obtain ⟨a1, h1, h2⟩ := map_block hq.symm
        have h3 := (own_ge hek a1 h1).1
        have h4 := HIN.out.2 k hkn a1 h1
        omega
      case measure => simp [intOf]; omega
    · obtain rfl : k = n := by omega
      go_wp2
      go_ret
      exact ⟨rfl, hV, hmid⟩

set_option maxHeartbeats 1000000 in
theorem markProfile (z : Int) (A : Option Addr) (n c base : Nat) (G : Nat → Option Addr) (C : Nat → Nat) (R : Nat → List Int) (T : Nat → Int) (m : Int) (hi : Nat) (w : World) (h : OwnV w base A n c G C R T) (hin : InV A n G hi) (hn : (n : Int) ≤ 1048576) (hb : ∀ k, k < n → ((R k).length : Int) ≤ 1048576) (hm : 0 ≤ m ∧ m ≤ 4294967296) :
    Calls Tryz.prog 7 #[.agg #[.int .i64 z, .slice A n c], .int .i64 m] w fun e w' => e = .returned (.int .i64 (m + (prv R n : Int))) ∧ OwnV w' base A n c G C (mkR R m n) (mkT R T m n) ∧ Mid base hi w w' := by
  have bl : Below w.heap.size w (w.alloc (.cells #[.int .i64 z, .slice A n c] 24)) := (Below.refl _ _).alloc (Nat.le_refl _) _
  have HP := Lib.hid (prv_le R n hb n (Nat.le_refl _))
  have hp := HP.out
  have ml : Mid base hi w (w.alloc (.cells #[.int .i64 z, .slice A n c] 24)) := ⟨rfl, rfl, rfl, bl.size, fun k hk _ => bl.block k hk⟩
  go_enter Tryz.func7, Tryz.ntmps7
  go_wp2_with fail
  refine (markVoteS A n c base G C R T m hi _ (h.alloc _) hin hn hb hm).mono ?_; rintro e w1 ⟨rfl, o1, b1⟩
  go_wp2_with fail
  go_ret
  exact ⟨rfl, o1, ml.trans b1⟩

end Go.Proofs.YtkofjdddmpebmaaGreatDoor
