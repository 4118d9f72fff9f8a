/- Texts joined: what the laws' helpers and the program's function compute. -/
import Derived.Test.YtkofjdddmpebmaaGreatDoorJoinP
import Derived.Test.YtkofjdddmpebmaaGreatDoorShelf
import Derived.Lib.Join
namespace Go.Proofs.YtkofjdddmpebmaaGreatDoor
open Go.RowKit
set_option maxRecDepth 100000

theorem take_map_one {ss : List ByteArray} {k : Nat} (h : k < ss.length) (f : ByteArray → List UInt8) : (ss.take (k + 1)).map f = (ss.take k).map f ++ [f (snth ss k)] := by
  rw [List.take_succ_eq_append_getElem h, List.map_append, snth_get h]; rfl
theorem joinTail_snoc (sep : List UInt8) (r : List (List UInt8)) (x : List UInt8) : Lib.joinTail sep (r ++ [x]) = Lib.joinTail sep r ++ (sep ++ x) := by simp [Lib.joinTail]
theorem jK_join {ss : List ByteArray} {sep : ByteArray} : ∀ k, k ≤ ss.length → (jK ss sep k).data.toList = Lib.join ((ss.take k).map (·.data.toList)) sep.data.toList
  | 0, _ => by simp [jK, Lib.join_nil]
  | k + 1, h => by
    have ih := jK_join (ss := ss) (sep := sep) k (by omega)
    cases ss with
    | nil => simp at h
    | cons s r =>
      cases k with
      | zero =>
        rw [jK, if_pos rfl]
        simp [jK, snth, Lib.join_one]
      | succ k =>
        rw [jK_next (by omega), ByteArray.data_append, ByteArray.data_append, Array.toList_append, Array.toList_append, ih, take_map_one (k := k + 1) (by omega)]
        rw [List.take_succ_cons, List.map_cons, List.cons_append, Lib.join_cons, Lib.join_cons, joinTail_snoc, List.append_assoc, List.append_assoc]
theorem jK_all {ss : List ByteArray} {sep : ByteArray} {n : Nat} (h : ss.length = n) : (⟨(Lib.join (ss.map (·.data.toList)) sep.data.toList).toArray⟩ : ByteArray) = jK ss sep n := by
  apply ByteArray.ext
  have := jK_join (ss := ss) (sep := sep) n (by omega)
  rw [List.take_of_length_le (by omega)] at this
  show (Lib.join (ss.map (·.data.toList)) sep.data.toList).toArray = _
  rw [← this]

set_option maxHeartbeats 1000000 in
theorem implJoin (A : Option Addr) (n c : Nat) (ss : List ByteArray) (sep : ByteArray) (w : World) (h : Strs w A n ss) (hn : (n : Int) ≤ 1048576) (hcap : n ≤ c) (hs : sumSz ss n ≤ 1048576) (hp : (sep.size : Int) ≤ 1048576) :
    Calls Tryz.prog 51 #[.slice A n c, .string sep] w fun e w' => e = .returned (.string (jK ss sep n)) ∧ Below w.heap.size w w' := by
  have HA := Lib.hid (jK_all (ss := ss) (sep := sep) h.1)
  by_cases h0 : n = 0
  · subst h0
    have HE : Hid ((⟨#[]⟩ : ByteArray) = jK ss sep 0) := rfl
    go_enter Tryz.func51, Tryz.ntmps51
    go_wp2_with fail
    refine (Tryz.strings_Join_none A c sep _).mono ?_; rintro e w1 ⟨rfl, hw⟩
    subst hw
    go_wp2_with fail
    go_ret
    exact ⟨ret_stringJ HE.out, Below.refl _ _⟩
  · obtain ⟨b, o, rfl, hb, hc⟩ := h.2 (by omega)
    have hl := h.1
    have hlen : (Lib.join (ss.map (·.data.toList)) sep.data.toList).length ≤ 140737488355328 := by
      have e : (Lib.join (ss.map (·.data.toList)) sep.data.toList).length = (jK ss sep n).size := by rw [← HA.out]; simp [ByteArray.size]
      rw [e]
      have := jK_bd (ss := ss) (sep := sep) (k := n) (n := n) (Nat.le_refl _) (by omega) hs (by omega)
      omega
    have hcall := Tryz.strings_Join b o c ss sep w (fun j x hx => by
      have hj : j < ss.length := (List.getElem?_eq_some_iff.1 hx).1
      rw [hc j (by omega), snth_get hj]
      rw [List.getElem?_eq_getElem hj] at hx
      injection hx with hx
      rw [hx]) hb (by omega) (by omega) hlen
    rw [hl] at hcall
    have HC := Lib.hid hcall
    clear hcall hc hlen hl h
    go_enter Tryz.func51, Tryz.ntmps51
    go_wp2_with fail
    refine HC.out.mono ?_; rintro e w1 ⟨rfl, b1⟩
    rw [HA.out]
    go_wp2_with fail
    go_ret
    exact ⟨rfl, b1⟩

end Go.Proofs.YtkofjdddmpebmaaGreatDoor
