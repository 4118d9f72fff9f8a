/- A text split at separators: what the program's and the reference's functions compute. -/
import Derived.Test.YtkofjdddmpebmaaGreatDoorMarkS
import Derived.Test.YtkofjdddmpebmaaGreatDoorShelf
import Derived.Lib.IndexLaws
import Derived.Lib.Strings
namespace Go.Proofs.YtkofjdddmpebmaaGreatDoor
open Go.RowKit
set_option maxRecDepth 100000

/-- The k-th byte. -/
def bnth (s : ByteArray) (k : Nat) : UInt8 := s.data.toList.getD k 0
theorem bnth_at {s : ByteArray} {k : Nat} (h : k < s.size) : bnth s k = s[k] := by
  have h2 : k < s.data.toList.length := by simpa using h
  have e : s[k] = s.data.toList[k]'h2 := rfl
  rw [bnth, List.getD, List.getElem?_eq_getElem h2, e]; rfl
/-- Is the byte one of the separators? -/
def inBy (b : ByteArray) (c : UInt8) : Bool := b.data.toList.contains c
/-- The pieces that stand whole before place k, and where the next one begins. -/
def spK (b s : ByteArray) : Nat → List ByteArray × Nat
  | 0 => ([], 0)
  | k + 1 => if inBy b (bnth s k) then ((spK b s k).1 ++ [s.extract (spK b s k).2 k], k + 1) else spK b s k
def spP (b s : ByteArray) : List ByteArray := (spK b s s.size).1 ++ [s.extract (spK b s s.size).2 s.size]
theorem sp_yes {b s : ByteArray} {k : Nat} (h : inBy b (bnth s k) = true) : spK b s (k + 1) = ((spK b s k).1 ++ [s.extract (spK b s k).2 k], k + 1) := by rw [spK, if_pos h]
theorem sp_no {b s : ByteArray} {k : Nat} (h : inBy b (bnth s k) = false) : spK b s (k + 1) = spK b s k := by rw [spK, if_neg (by simp [h])]
theorem sp_le (b s : ByteArray) : ∀ k, (spK b s k).2 ≤ k ∧ (spK b s k).1.length ≤ k
  | 0 => ⟨Nat.le_refl _, Nat.le_refl _⟩
  | k + 1 => by
    have := sp_le b s k
    cases h : inBy b (bnth s k) with
    | true => rw [sp_yes h]; simp; omega
    | false => rw [sp_no h]; omega
theorem sp_len (b s : ByteArray) : (spP b s).length ≤ s.size + 1 := by
  have := (sp_le b s s.size).2
  simp [spP]; omega
theorem inBy_idx {b : ByteArray} {c : UInt8} : (0 ≤ Lib.indexByte b.data.toList c) ↔ inBy b c = true := by
  unfold inBy
  rw [List.contains_iff_mem]
  constructor
  · intro h
    obtain ⟨o, ho⟩ : ∃ o : Nat, Lib.indexByte b.data.toList c = (o : Int) := ⟨(Lib.indexByte b.data.toList c).toNat, by omega⟩
    exact List.mem_of_getElem? (Lib.indexByte_some ho).1
  · intro h
    have hg := Lib.indexByte_ge b.data.toList c
    rcases Int.lt_or_le (Lib.indexByte b.data.toList c) 0 with h1 | h1
    · obtain ⟨k, hk⟩ := List.getElem?_of_mem h
      exact absurd hk (Lib.indexByte_none (by omega) k)
    · exact h1
theorem byte_back (c : UInt8) : ((c.toNat : Int)).toNat.toUInt8 = c := by simp

set_option maxHeartbeats 8000000 in
theorem specSplitAny (s b : ByteArray) (w : World) (hs : (s.size : Int) ≤ 1048576) (hb' : (b.size : Int) ≤ 1048576) :
    Calls Tryz.prog 10 #[.string s, .string b] w fun e w' => ∃ A' c', e = .returned (.slice A' (spP b s).length c') ∧ OwnS w' w.heap.size A' (spP b s).length c' (spP b s) ∧ Below w.heap.size w w' := by
  have he0 := ownS_empty w (Nat.le_refl w.heap.size)
  have hb0 : Below w.heap.size w (w.alloc (.cells #[] 9)) := (Below.refl _ _).alloc (Nat.le_refl _) _
  go_enter Tryz.func10, Tryz.ntmps10
  go_wp2_with fail
  go_loopw [5, 6, 7] (fun u v x wr => ∃ (k n f : Nat) (ps : List ByteArray) (A : Option Addr) (d : Nat), (k : Int) ≤ s.size ∧ ps = (spK b s k).1 ∧ f = (spK b s k).2 ∧ n ≤ k ∧ f ≤ k ∧ u = .slice A n d ∧ v = .int .i64 f ∧ x = .int .i64 k ∧ OwnS wr w.heap.size A n d ps ∧ Below w.heap.size w wr) (fun _ _ x _ => s.size - (intOf x).toNat)
  case atStart => exact ⟨0, 0, 0, [], _, 0, by omega, rfl, rfl, Nat.le_refl _, Nat.le_refl _, rfl, rfl, rfl, he0, hb0⟩
  case round =>
    obtain ⟨k, n, f, ps, A, d, hk, hps, hf, hnk, hfk, rfl, rfl, rfl, hown, hb⟩ := hrel
    obtain ⟨wo, rfl⟩ : ∃ wo : World, wo = wr := ⟨_, rfl⟩
    have HPS := Lib.hid hps; clear hps
    have HF := Lib.hid hf; clear hf
    have hbz := hb.size
    by_cases hlt : (k : Int) < s.size
    · have hks : k < s.size := by omega
      have hfk2 : (f : Int) ≤ k := by omega
      have HBB := Lib.hid (bnth_at hks)
      go_wp2_with fail
      go_loopw [5, 6, 8] (fun u v x wi => ∃ (j z : Nat), (j : Int) ≤ b.size ∧ u = .slice A n d ∧ v = .int .i64 f ∧ x = .int .i64 j ∧ (∀ t, t < j → bnth b t ≠ s[k]) ∧ wi = wo.drewN z) (fun _ _ x _ => b.size - (intOf x).toNat)
      case atStart => exact ⟨0, 0, by omega, rfl, rfl, rfl, fun t ht => absurd ht (by omega), rfl⟩
      case round =>
        obtain ⟨j, z, hj, rfl, rfl, rfl, hno, rfl⟩ := hrel
        have HN := Lib.hid hno; clear hno
        by_cases hlt2 : (j : Int) < b.size
        · have hjb : j < b.size := by omega
          have hbj := Lib.hid (bnth_at hjb)
          cases hx : ((s[k].toNat : Int) == (b[j].toNat : Int)) with
          | true =>
            have hin : inBy b (bnth s k) = true := by
              have e : s[k] = b[j] := by
                apply UInt8.toNat_inj.1
                have := beq_iff_eq.1 hx
                omega
              rw [HBB.out, e, inBy, List.contains_iff_mem]
              exact List.getElem_mem (by simpa using hjb)
            have HY := Lib.hid (sp_yes hin)
            clear hin
            go_wp2_with fail
            go_quiet (fail)
            have bW := below_drewN (below_drewN hb z) nq
            have hoW : OwnS ((wo.drewN z).drewN nq) w.heap.size A n d ps := hown
            generalize (wo.drewN z).drewN nq = W at *
            have hbz := bW.size
            go_wp2_with (first | (at_builtin; refine wpList_apS _ rfl _ _ rfl w.heap.size A n d ps rfl (ownS_alloc hoW _) ⟨W.heap.size, 0, none⟩ 1 1 [s.extract f k] rfl (strs_one W _ _) (by omega) (by simp; omega) ?_; intro A2 d2 w2 o2 g2 hblk2))
            go_roundw
            case rel => exact ⟨k + 1, n + 1, k + 1, ps ++ [s.extract f k], A2, d2, by omega, by rw [HY.out, HPS.out, HF.out], by rw [HY.out], by omega, by omega, rfl, by go_num, by go_num, o2, below_apS (bW.alloc hbz _) (ownS_alloc hoW _) g2 (by simp; omega)⟩
            case measure => simp [intOf]; omega
          | false =>
            have hnx : bnth b j ≠ s[k] := fun e => by
              rw [hbj.out] at e
              rw [e] at hx
              simp at hx
            have HX := Lib.hid hnx; clear hnx
            go_wp2_with fail
            go_quiet (fail)
            go_wp2_with fail
            go_roundw
            case rel =>
              refine ⟨j + 1, z + nq, by omega, rfl, rfl, by go_num, fun t ht => ?_, by first | rfl | rw [World.drewN_drewN]⟩
              by_cases e : t = j
              · subst e; exact HX.out
              · exact HN.out t (by omega)
            case measure => simp [intOf]; omega
        · have hin : inBy b (bnth s k) = false := by
            rw [HBB.out, inBy, Bool.eq_false_iff]
            intro hc
            rw [List.contains_iff_mem] at hc
            obtain ⟨t, ht, e⟩ := List.mem_iff_getElem.1 hc
            have ht2 : t < b.size := by simpa using ht
            exact HN.out t (by omega) (by rw [bnth_at ht2]; exact e)
          have HY := Lib.hid (sp_no hin)
          clear hin
          go_wp2_with fail
          go_roundw
          case rel => exact ⟨k + 1, n, f, ps, A, d, by omega, by rw [HY.out, HPS.out], by rw [HY.out, HF.out], by omega, by omega, rfl, rfl, by go_num, hown, below_drewN hb _⟩
          case measure => simp [intOf]; omega
    · obtain rfl : k = s.size := by omega
      have hfk2 : (f : Int) ≤ s.size := by omega
      have hlen : (spP b s).length = n + 1 := by rw [spP, List.length_append, ← HPS.out, ownS_len hown]; rfl
      have HE : Hid (ps ++ [s.extract f s.size] = spP b s) := by rw [Hid, spP, HPS.out, HF.out]
      have HLN := Lib.hid hlen; clear hlen
      go_wp2_with (first | (at_builtin; refine wpList_apS _ rfl _ _ rfl w.heap.size A n d ps rfl (ownS_alloc hown _) ⟨wo.heap.size, 0, none⟩ 1 1 [s.extract f s.size] rfl (strs_one wo _ _) (by omega) (by simp; omega) ?_; intro A2 d2 w2 o2 g2 hblk2))
      go_ret
      exact ⟨A2, d2, by rw [HLN.out]; rfl, by rw [HLN.out, ← HE.out]; exact o2, below_apS (hb.alloc hbz _) (ownS_alloc hown _) g2 (by simp; omega)⟩
end Go.Proofs.YtkofjdddmpebmaaGreatDoor
