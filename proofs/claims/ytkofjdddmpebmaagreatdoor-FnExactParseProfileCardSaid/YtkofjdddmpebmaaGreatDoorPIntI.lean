/- A number read out of its text: what the program's function computes, where the library's variables read as they were laid. -/
import Derived.Test.YtkofjdddmpebmaaGreatDoorPIntS
import Derived.Test.YtkofjdddmpebmaaGreatDoorItoa
namespace Go.Proofs.YtkofjdddmpebmaaGreatDoor
open Go.RowKit
set_option maxRecDepth 100000

/-- The two errors of the library's. -/
def Errs (w : World) : Prop := (∃ tp p, w.var? Tryz.prog "strconv.ErrSyntax" = some #[.iface tp p]) ∧ (∃ tp p, w.var? Tryz.prog "strconv.ErrRange" = some #[.iface tp p])
theorem var_on {P : Program} {w w' : World} {n : String} {cs : Array Value} (h : w.var? P n = some cs) (b : Below w.heap.size w w') : w'.var? P n = some cs := by
  unfold World.var? at *
  cases hg : P.globalNamed n with
  | none => simp [hg] at h
  | some g =>
    simp only [hg, Option.bind_some] at h ⊢
    have hlt : g < w.heap.size := by
      rcases Nat.lt_or_ge g w.heap.size with h' | h'
      · exact h'
      · simp [Array.getElem?_eq_none h'] at h
    rw [b.block g hlt]
    exact h
theorem Errs.on {w w' : World} (h : Errs w) (b : Below w.heap.size w w') : Errs w' := by
  obtain ⟨⟨tp, p, h1⟩, ⟨tq, q, h2⟩⟩ := h
  exact ⟨⟨tp, p, var_on h1 b⟩, ⟨tq, q, var_on h2 b⟩⟩
theorem below_bytesWorld {w w' : World} {T : TypeId} (h : w' = w ∨ ∃ t, w' = Lib.bytesWorld w T t) : Below w.heap.size w w' := by
  rcases h with rfl | ⟨t, rfl⟩
  · exact Below.refl _ _
  · exact Lib.bytesWorld_below _ _ _

set_option maxHeartbeats 1000000 in
theorem implParseInt (s : ByteArray) (w : World) (hs : s.size ≤ 1048576) (hp : Pow w) (he : Errs w) :
    Calls Tryz.prog 15 #[.string s] w fun e w' => e = .returned (.tuple #[.int .i64 (pV s), .bool (pOk s)]) ∧ Below w.heap.size w w' := by
  have HP := Lib.hid hp; clear hp
  have HE := Lib.hid he; clear he
  rcases hq : Lib.atoiAll s.data.toList with v | ⟨⟩ | ⟨⟩
  · obtain ⟨e1, e2⟩ := p_ok hq
    have hv := atoi_bd hq
    have HQ := Lib.hid hq; clear hq
    go_enter Tryz.func15, Tryz.ntmps15
    go_wp2_with fail
    refine (Tryz.strconv_Atoi_ok s (by omega) v HQ.out _).mono ?_; rintro e w1 ⟨rfl, hw1⟩
    have b1 := below_bytesWorld hw1
    clear hw1
    by_cases ht : txt v = s
    · have HF : Hid (pV s = v ∧ pOk s = true) := ⟨by rw [e2, if_pos ht], by rw [e1, decide_eq_true ht]⟩
      have hne : ((strOfNums (fmtI v)).toList == s.toList) = true := by rw [beq_iff_eq]; exact congrArg ByteArray.toList ht
      clear e1 e2 ht
      go_wp2_with fail
      refine (implFormatInt v _ hv.1 hv.2 (HP.out.on b1)).mono ?_; rintro e w2 ⟨rfl, b2⟩
      go_wp2_with fail
      go_ret2
      exact ⟨ret_p HF.out.1 HF.out.2, Below.on b1 b2⟩
    · have HF : Hid (pV s = 0 ∧ pOk s = false) := ⟨by rw [e2, if_neg ht], by rw [e1, decide_eq_false ht]⟩
      have hne : ((strOfNums (fmtI v)).toList == s.toList) = false := by
        rw [beq_eq_false_iff_ne, ByteArray.toList_eq, ByteArray.toList_eq]
        intro e
        exact ht (ByteArray.ext (Array.toList_inj.1 e))
      clear e1 e2 ht
      go_wp2_with fail
      refine (implFormatInt v _ hv.1 hv.2 (HP.out.on b1)).mono ?_; rintro e w2 ⟨rfl, b2⟩
      go_wp2_with fail
      go_ret2
      exact ⟨ret_p HF.out.1 HF.out.2, Below.on b1 b2⟩
  · have HF : Hid (pOk s = false ∧ pV s = 0) := p_bad (fun v => by rw [hq]; intro e; cases e)
    obtain ⟨⟨tp, p, hv⟩, _⟩ := HE.out
    have HC := Lib.hid (Any.strconv_Atoi_syntax_var Tryz.laysC172 s (by omega) hq tp p w hv)
    clear hq
    go_enter Tryz.func15, Tryz.ntmps15
    go_wp2_with fail
    refine HC.out.mono ?_; rintro e w1 ⟨N, rfl, _, _, b1⟩
    go_wp2_with fail
    go_ret2
    exact ⟨ret_p HF.out.2 HF.out.1, b1⟩
  · have HF : Hid (pOk s = false ∧ pV s = 0) := p_bad (fun v => by rw [hq]; intro e; cases e)
    obtain ⟨_, ⟨tp, p, hv⟩⟩ := HE.out
    have HC := Lib.hid (Tryz.strconv_Atoi_range_var s (by omega) hq tp p w hv)
    clear hq
    go_enter Tryz.func15, Tryz.ntmps15
    go_wp2_with fail
    refine HC.out.mono ?_; rintro e w1 ⟨N, rfl, _, _, b1⟩
    go_wp2_with fail
    go_ret2
    exact ⟨ret_p HF.out.2 HF.out.1, b1⟩
end Go.Proofs.YtkofjdddmpebmaaGreatDoor
