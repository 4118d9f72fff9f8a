/- The library's SplitSeq at one sign: its iterator hands out the pieces, whatever the loop's body does with them. -/
import Derived.RangeFuncNested
import Derived.RangeFuncBound
import Derived.RangeFuncCalls
import Derived.RangeFuncLeaves
import Derived.Shelf.Abstract
import Derived.Shelf.RegionOpen
import Derived.WalkKit
import Derived.OwnWalkIn
import Derived.TacticsInMore
import Derived.LoopNIn
import Derived.LoopIn
import Derived.Test.YtkofjdddmpebmaaGreatDoorCut
import Derived.Test.YtkofjdddmpebmaaGreatDoorShelf
/-! The library's SplitSeq at one sign: its iterator hands out the pieces, whatever the loop's body does with them. -/
namespace Go.Proofs.YtkofjdddmpebmaaGreatDoor
open Go.RowKit
attribute [local go_sem] Oper.semAt_some
set_option maxRecDepth 100000

def boxLeft (b : Nat) (w : World) : Nat := match w.cell? ⟨b, 0, none⟩ with | some (.string r) => r.size + 1 | _ => 0
theorem boxLeft_of {b : Nat} {w : World} {r : ByteArray} (h : w.cell? ⟨b, 0, none⟩ = some (.string r)) : boxLeft b w = r.size + 1 := by simp [boxLeft, h]
theorem sp_miss {c : UInt8} {r : ByteArray} (h : Lib.index r.data.toList [c] = -1) : spP ⟨#[c]⟩ r = [r] := map_data_inj (by rw [spP_cut, cutL_miss h]; rfl)
theorem sp_hit {c : UInt8} {r : ByteArray} {j : Nat} (h : Lib.index r.data.toList [c] = j) : spP ⟨#[c]⟩ r = ⟨(r.data.toList.take j).toArray⟩ :: spP ⟨#[c]⟩ ⟨(r.data.toList.drop (j + 1)).toArray⟩ :=
  map_data_inj (by rw [List.map_cons, spP_cut, spP_cut, (cutL_hit h).1])

set_option maxHeartbeats 2000000 in
theorem seqIter (n l bS bP bQ : Nat) (c : UInt8) (s : ByteArray) (hs : s.size ≤ 1048576) (J : List ByteArray → ByteArray → World → Prop) (Jx : World → Prop)
    (hread : ∀ pre r W, J pre r W → W.cell? ⟨bS, 0, none⟩ = some (.string r) ∧ W.frozen? ⟨bS, 0, none⟩ = false ∧ W.cell? ⟨bP, 0, none⟩ = some (.string ⟨#[c]⟩) ∧ W.cell? ⟨bQ, 0, none⟩ = some (.int .i64 0))
    (hset : ∀ pre r r' W, J pre r W → J pre r' (W.setCell ⟨bS, 0, none⟩ (.string r')))
    (hY : ∀ pre x q r W, J pre r W → pre ++ x :: q = spP ⟨#[c]⟩ s → YieldAt Fence.wide (n - 1) Tryz.prog l #[.string x] W fun e W' => (e = .returned (.bool true) ∧ J (pre ++ [x]) r W') ∨ (e = .returned (.bool false) ∧ Jx W'))
    (W : World) (h0 : J [] s W) :
    CallsIn Fence.wide n Tryz.prog 52 #[.func (.yield l) #[] #[], .pointer (some ⟨bP, 0, none⟩), .pointer (some ⟨bS, 0, none⟩), .pointer (some ⟨bQ, 0, none⟩)] W fun e W' => (∃ v, e = .returned v) ∧ ((∃ r, J (spP ⟨#[c]⟩ s) r W') ∨ Jx W') := by
  refine callsIn_of_wp Tryz.func52 rfl trivial ?_ rfl
  simp only [Tryz.ntmps52, List.size_toArray, List.length_cons, List.length_nil, Nat.reduceAdd, Nat.reduceSub, Array.replicate_succ, Array.replicate_zero, List.push_toArray, List.append_toArray, List.nil_append, List.cons_append]
  obtain ⟨q1, q2, q3, q4⟩ := hread _ _ _ h0
  gi_wp2
  gi_loopw [7] (fun _ wr => ∃ (pre : List ByteArray) (r : ByteArray), pre ++ spP ⟨#[c]⟩ r = spP ⟨#[c]⟩ s ∧ r.size ≤ 1048576 ∧ J pre r wr) (fun _ wr => boxLeft bS wr)
  case atStart => exact ⟨[], s, rfl, hs, h0⟩
  case round =>
    obtain ⟨pre, r, hpr, hrs, hJ⟩ := hrel
    obtain ⟨p1, p2, p3, p4⟩ := hread _ _ _ hJ
    clear q1 q2 q3 q4
    gi_wp2
    refine ⟨trivial, fun h => (by cases h), ?_⟩
    refine ((callsIn_wide (n := n - 1)).2 (Tryz.strings_Index_one r c _)).mono ?_; rintro e w1 ⟨rfl, hw⟩
    subst hw
    rw [idxB_eq]
    rcases hi : Lib.index r.data.toList [c] with j | j
    · have hi' : Lib.index r.data.toList [c] = (j : Int) := hi
      obtain ⟨_, _, hj3⟩ := cutL_hit hi'
      have hj4 : j < r.size := by simpa using hj3
      have hsp := sp_hit hi'
      have hz : (⟨(r.data.toList.drop (j + 1)).toArray⟩ : ByteArray).size + (j + 1) = r.size := by
        show (r.data.toList.drop (j + 1)).toArray.size + (j + 1) = r.size
        rw [List.size_toArray, List.length_drop]
        have : r.data.toList.length = r.size := by simp
        omega
      have he1 := ext_head r j
      have he2 := ext_tail r (j + 1)
      have hj0 : Int.ofNat j = (j : Int) := rfl
      rw [hj0]
      have hneg : decide ((j : Int) < 0) = false := decide_eq_false (by omega)
      have hw1 : IntKind.i64.wrap ((j : Int) + 0) = (j : Int) := by rw [IntKind.wrap_i64]; omega
      have hw2 : IntKind.i64.wrap ((j : Int) + 1) = (j : Int) + 1 := by rw [IntKind.wrap_i64]; omega
      have hjle : (j : Int) ≤ r.size := by omega
      have hjle2 : (j : Int) + 1 ≤ r.size := by omega
      rw [hsp] at hpr
      obtain ⟨f1, t1, a1, b1, hy1, hR1⟩ := hY pre _ _ r _ hJ hpr
      gi_wp2
      refine ⟨fun h => (by cases h), hR1.mono ?_⟩
      rintro e W3 (⟨rfl, hJ3⟩ | ⟨rfl, hx3⟩)
      · obtain ⟨s1, s2, s3, s4⟩ := hread _ _ _ hJ3
        have hJ4 := hset _ _ ⟨(r.data.toList.drop (j + 1)).toArray⟩ _ hJ3
        have hc4 := (hread _ _ _ hJ4).1
        clear p1 p2 p3 p4
        gi_wp2
        go_roundw
        case rel => exact ⟨pre ++ [_], _, by rw [List.append_assoc]; exact hpr, by omega, hJ4⟩
        case measure => rw [boxLeft_of hc4, boxLeft_of (hread _ _ _ hJ).1]; omega
      · gi_wp2
        refine bodyPost_ret (results_none rfl _ _ _) rfl ?_
        exact ⟨⟨_, rfl⟩, .inr hx3⟩
    · have hm := Lib.index_ge r.data.toList [c]
      rw [hi] at hm
      obtain rfl : j = 0 := by have : Int.negSucc j = -(j : Int) - 1 := by omega
                               omega
      have hsp := sp_miss (c := c) (r := r) hi
      rw [show Int.negSucc 0 = -1 from rfl]
      rw [hsp] at hpr
      obtain ⟨f1, t1, a1, b1, hy1, hR1⟩ := hY pre _ _ r _ hJ hpr
      gi_wp2
      refine ⟨fun h => (by cases h), hR1.mono ?_⟩
      rintro e W3 (⟨rfl, hJ3⟩ | ⟨rfl, hx3⟩)
      · gi_wp2
        go_end0
        exact ⟨⟨_, rfl⟩, .inl ⟨r, by rw [hpr] at hJ3; exact hJ3⟩⟩
      · gi_wp2
        go_end0
        exact ⟨⟨_, rfl⟩, .inr hx3⟩
end Go.Proofs.YtkofjdddmpebmaaGreatDoor

/-! A loop over SplitSeq: the law by which its caller is walked. -/
namespace Go.Proofs.YtkofjdddmpebmaaGreatDoor
open Go.RowKit
set_option maxRecDepth 100000

/-- The boxes in which the iterator keeps the text's rest, the sign and the number of bytes to keep. -/
structure Bx (bS bP bQ : Nat) (c : UInt8) (W : World) (r : ByteArray) : Prop where
  rest : W.cell? ⟨bS, 0, none⟩ = some (.string r)
  soft : W.frozen? ⟨bS, 0, none⟩ = false
  sign : W.cell? ⟨bP, 0, none⟩ = some (.string ⟨#[c]⟩)
  none_ : W.cell? ⟨bQ, 0, none⟩ = some (.int .i64 0)
theorem frozen_block {W W' : World} {b : Nat} (h : W'.heap[b]? = W.heap[b]?) : W'.frozen? ⟨b, 0, none⟩ = W.frozen? ⟨b, 0, none⟩ := by simp [World.frozen?, h]
theorem cell_block {W W' : World} {b : Nat} (h : W'.heap[b]? = W.heap[b]?) (o : Nat) : W'.cell? ⟨b, o, none⟩ = W.cell? ⟨b, o, none⟩ := World.cell?_of_block (w := W) (a := ⟨b, o, none⟩) h
theorem Bx.blocks {bS bP bQ : Nat} {c : UInt8} {W W' : World} {r : ByteArray} (h : Bx bS bP bQ c W r) (hb : ∀ b, b = bS ∨ b = bP ∨ b = bQ → W'.heap[b]? = W.heap[b]?) : Bx bS bP bQ c W' r :=
  ⟨(cell_block (hb bS (.inl rfl)) 0).trans h.rest, (frozen_block (hb bS (.inl rfl))).trans h.soft, (cell_block (hb bP (.inr (.inl rfl))) 0).trans h.sign, (cell_block (hb bQ (.inr (.inr rfl))) 0).trans h.none_⟩
theorem cell_lt {W : World} {b o : Nat} {v : Value} (h : W.cell? ⟨b, o, none⟩ = some v) : b < W.heap.size := by
  obtain ⟨x, hx, _⟩ := cells_of_cell h
  exact (Array.getElem?_eq_some_iff.1 hx).1
theorem Bx.set {bS bP bQ : Nat} {c : UInt8} {W : World} {r : ByteArray} (h : Bx bS bP bQ c W r) (h1 : bP ≠ bS) (h2 : bQ ≠ bS) (r' : ByteArray) : Bx bS bP bQ c (W.setCell ⟨bS, 0, none⟩ (.string r')) r' := by
  have hg := grownBy_setCell' W bS (.string r')
  refine ⟨World.cell?_setCell_same' _ _ _ (by rw [h.rest]; rfl), by rw [World.frozen?_setCell]; exact h.soft, ?_, ?_⟩
  · exact (cell_block (hg.block bP (cell_lt h.sign) (fun e => h1 (by injection e))) 0).trans h.sign
  · exact (cell_block (hg.block bQ (cell_lt h.none_) (fun e => h2 (by injection e))) 0).trans h.none_

/-- How a round may be left. -/
def seqPost (bS bP bQ : Nat) (c : UInt8) (r : ByteArray) (I : World → Prop) (Ix : World → Prop) (W : World) : Exit → Act → World → Prop
  | .normal, _, W' => KeepsOthers W W' ∧ Bx bS bP bQ c W' r ∧ I W'
  | .ret, _, W' => KeepsOthers W W' ∧ Ix W'
  | .exit _, _, _ => False
  | .goto _, _, _ => False
  | .panic _, _, _ => False
  | .outgrown, _, _ => False

set_option maxHeartbeats 2000000 in
theorem rangeSeq {g : Operand} {ps : Array Tmp} {assign body : Code} {Q : Exit → Act → World → Prop} {a : Act} {w : World} (n bS bP bQ : Nat) (c : UInt8) (s : ByteArray) (hs : s.size ≤ 1048576)
    (hg : a.eval g = .func (.func 52) #[] #[.pointer (some ⟨bP, 0, none⟩), .pointer (some ⟨bS, 0, none⟩), .pointer (some ⟨bQ, 0, none⟩)])
    (h1 : bP ≠ bS) (h2 : bQ ≠ bS) (hps : ps.size = 1) (hB : Bx bS bP bQ c w s)
    (I : List ByteArray → World → Prop) (Ix : World → Prop)
    (hI : ∀ pre W l o o', w.heap.size ≤ l → W.heap[l]? = some o → o.isCells = false → I pre W → I pre (W.putObj l o'))
    (hIx : ∀ W l o o', w.heap.size ≤ l → W.heap[l]? = some o → o.isCells = false → Ix W → Ix (W.putObj l o'))
    (hIa : ∀ W o, w.heap.size ≤ W.heap.size → I [] W → I [] (W.alloc o))
    (hIs : ∀ pre W r', I pre W → I pre (W.setCell ⟨bS, 0, none⟩ (.string r')))
    (h0 : I [] w) (a₁ : ByteArray → Act)
    (hassign : ∀ (l : Nat) (x : ByteArray) (W : World) (K : Act → World → Prop), K (a₁ x) W →
      assign.wpIn (Fence.wide.inRound l) (n - 1 - 1) Tryz.prog (Exit.then K (fun _ _ _ => False)) { tmps := (ps.zip #[.string x]).foldl (fun t (p, v) => t.setIfInBounds p v) a.tmps, defers := [] } W)
    (hbody : ∀ (l : Nat) (pre : List ByteArray) (x : ByteArray) (q : List ByteArray) (r : ByteArray) (W : World), w.heap.size ≤ W.heap.size → I pre W → pre ++ x :: q = spP ⟨#[c]⟩ s → Bx bS bP bQ c W r →
      body.wpIn (Fence.wide.inRound l) (n - 1 - 1) Tryz.prog (seqPost bS bP bQ c r (I (pre ++ [x])) Ix W) (a₁ x) W)
    (hdone : ∀ (D : Nat) (W : World), w.heap.size ≤ D → I (spP ⟨#[c]⟩ s) W → W.heap[D]? = some (.deferred (some [])) → Q .normal { a with defers := { target := .collected D, args := #[] } :: a.defers } W)
    (hstop : ∀ (D : Nat) (W : World), w.heap.size ≤ D → Ix W → W.heap[D]? = some (.deferred (some [])) → Code.ret.wpIn Fence.wide n Tryz.prog Q { a with defers := { target := .collected D, args := #[] } :: a.defers } W) :
    (Code.rangeFunc g ps assign body).wpIn Fence.wide n Tryz.prog Q a w := by
  have hSlt := cell_lt hB.rest
  have hPlt := cell_lt hB.sign
  have hQlt := cell_lt hB.none_
  refine wpIn_rangeFunc ?_
  intro fn hfn
  obtain ⟨rec, hrec⟩ : ∃ rec : LoopState → Option Code → Loop, rec = fun st pe => { state := st, pending := pe, fn, tmps := a.tmps, params := ps, assign, body, defers := w.heap.size } := ⟨_, rfl⟩
  obtain ⟨W1, hW1⟩ : ∃ W1, (w.alloc (.deferred (some []))).alloc (.loop (rec .ready none)) = W1 := ⟨_, rfl⟩
  have hL1 : W1.heap[w.heap.size + 1]? = some (.loop (rec .ready none)) := by
    rw [← hW1]; have := World.alloc_heap_new (w.alloc (.deferred (some []))) (.loop (rec .ready none)); rwa [World.size_alloc] at this
  have hK1 : W1.heap[w.heap.size]? = some (.deferred (some [])) := by
    rw [← hW1]; exact (Below.heap_alloc _ _ _ (by simp)).trans (World.alloc_heap_new w _)
  have hI1 : I [] W1 := by rw [← hW1]; exact hIa _ _ (by simp) (hIa _ _ (Nat.le_refl _) h0)
  have hblk : ∀ b, b < w.heap.size → W1.heap[b]? = w.heap[b]? := fun b hb => by
    rw [← hW1]; exact (Below.heap_alloc _ _ _ (by simp; omega)).trans (Below.heap_alloc _ _ _ hb)
  have hB1 : Bx bS bP bQ c W1 s := hB.blocks (fun b hb => hblk b (by rcases hb with rfl | rfl | rfl <;> assumption))
  -- what the iterator is told
  have put : ∀ {W : World} {l : Nat} {o' : Obj} {r : ByteArray}, w.heap.size ≤ l → Bx bS bP bQ c W r → Bx bS bP bQ c (W.putObj l o') r := fun hl h =>
    h.blocks (fun b hb => World.putObj_heap_other (by rcases hb with rfl | rfl | rfl <;> omega))
  refine ⟨w.heap.size + 1, [{ target := .collected w.heap.size, args := #[] }], W1, { target := .fn (.func 52) #[.pointer (some ⟨bP, 0, none⟩), .pointer (some ⟨bS, 0, none⟩), .pointer (some ⟨bQ, 0, none⟩)], args := #[.func (.yield (w.heap.size + 1)) #[] #[]] }, W1, 52,
    #[.func (.yield (w.heap.size + 1)) #[] #[], .pointer (some ⟨bP, 0, none⟩), .pointer (some ⟨bS, 0, none⟩), .pointer (some ⟨bQ, 0, none⟩)], W1, ?_, ?_, ?_, ?_, fun h => (by cases h), ?_⟩
  · rw [← hW1, hrec]; exact run_enterLoop_outer _ _ _ _ _
  · simp only [resolve, hg]
    simp [go_sem]
  · intro f' _; trivial
  · simp [invoke, go_sem]
  · refine (seqIter (n - 1) (w.heap.size + 1) bS bP bQ c s hs
      (fun pre r W => w.heap.size ≤ W.heap.size ∧ I pre W ∧ Bx bS bP bQ c W r ∧ W.heap[w.heap.size + 1]? = some (.loop (rec .ready none)) ∧ W.heap[w.heap.size]? = some (.deferred (some [])))
      (fun W => Ix W ∧ W.heap[w.heap.size + 1]? = some (.loop (rec .done (some .ret))) ∧ W.heap[w.heap.size]? = some (.deferred (some [])))
      (fun pre r W h => ⟨h.2.2.1.rest, h.2.2.1.soft, h.2.2.1.sign, h.2.2.1.none_⟩)
      (fun pre r r' W h => by
        obtain ⟨k0, k1, k2, k3, k4⟩ := h
        have hg := grownBy_setCell' W bS (.string r')
        exact ⟨Nat.le_trans k0 hg.size, hIs _ _ _ k1, k2.set h1 h2 r', (hg.block _ (Array.getElem?_eq_some_iff.1 k3).1 (fun e => by injection e with e; omega)).trans k3, (hg.block _ (Array.getElem?_eq_some_iff.1 k4).1 (fun e => by injection e with e; omega)).trans k4⟩)
      ?_ W1 ⟨by rw [← hW1]; simp; omega, hI1, hB1, hL1, hK1⟩).mono ?_
    · rintro pre x q r W ⟨hsz, hi, hbx, hl, hk⟩ hpre
      have hlt : w.heap.size + 1 < W.heap.size := (Array.getElem?_eq_some_iff.1 hl).1
      have hy := run_yield (P := Tryz.prog) (args := #[.string x]) hl (by rw [hrec]; exact hps.symm)
      rw [hrec] at hy
      refine ⟨fn, _, assign, body, hy, roundIn_of_wpIn hfn (hassign _ x W _ ⟨_, run_beginRound hl (by rw [hrec]), ?_⟩)⟩
      have hl2 : (W.putObj (w.heap.size + 1) (.loop { rec .ready none with state := .busy })).heap[w.heap.size + 1]? = some (.loop { rec .ready none with state := .busy }) := World.putObj_heap_same hlt
      have hk2 : (W.putObj (w.heap.size + 1) (.loop { rec .ready none with state := .busy })).heap[w.heap.size]? = some (.deferred (some [])) := (World.putObj_heap_other (by omega)).trans hk
      refine wpIn_mono (hbody _ pre x q r _ (by simpa [World.putObj] using hsz) (hI _ _ _ _ _ (by omega) hl rfl hi) hpre (put (by omega) hbx)) ?_
      rintro e a3 W3 hp
      cases e with
      | normal =>
        obtain ⟨hk3, hb3, hi3⟩ := hp
        have hl3 := hk3.same _ _ hl2 rfl
        have hr := run_endRound (P := Tryz.prog) none hl3
        rw [hrec] at hr
        have hz3 := (Array.getElem?_eq_some_iff.1 hl3).1
        exact ⟨_, _, hr, .inl ⟨rfl, by simp only [World.putObj, Array.size_setIfInBounds]; omega, hI _ _ _ _ _ (by omega) hl3 rfl hi3, put (by omega) hb3, by rw [hrec]; exact World.putObj_heap_same hz3, (World.putObj_heap_other (by omega)).trans (hk3.same _ _ hk2 rfl)⟩⟩
      | ret =>
        obtain ⟨hk3, hi3⟩ := hp
        have hl3 := hk3.same _ _ hl2 rfl
        have hr := run_endRound (P := Tryz.prog) (some .ret) hl3
        rw [hrec] at hr
        have hz3 := (Array.getElem?_eq_some_iff.1 hl3).1
        exact ⟨_, _, hr, .inr ⟨rfl, hIx _ _ _ _ (by omega) hl3 rfl hi3, by rw [hrec]; exact World.putObj_heap_same hz3, (World.putObj_heap_other (by omega)).trans (hk3.same _ _ hk2 rfl)⟩⟩
      | exit id => exact hp.elim
      | goto t => exact hp.elim
      | panic ch => exact hp.elim
      | outgrown => exact hp.elim
    · rintro e W2 ⟨⟨v, rfl⟩, (⟨r, _, hi, _, hl, hk⟩ | ⟨hi, hl, hk⟩)⟩
      · exact ⟨none, _, by have := run_endLoop (P := Tryz.prog) hl (by rw [hrec]; simp); rw [hrec] at this; exact this, hdone _ _ (Nat.le_refl _) (hI _ _ _ _ _ (by omega) hl rfl hi) ((World.putObj_heap_other (by omega)).trans hk)⟩
      · exact ⟨some .ret, _, by have := run_endLoop (P := Tryz.prog) hl (by rw [hrec]; simp); rw [hrec] at this; exact this, hstop _ _ (Nat.le_refl _) (hIx _ _ _ _ (by omega) hl rfl hi) ((World.putObj_heap_other (by omega)).trans hk)⟩
end Go.Proofs.YtkofjdddmpebmaaGreatDoor
