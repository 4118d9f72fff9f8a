/- A profile read from a text: what the program's function computes. -/
import Derived.Test.YtkofjdddmpebmaaGreatDoorSeq
import Derived.Test.YtkofjdddmpebmaaGreatDoorPlainPP
import Derived.Test.YtkofjdddmpebmaaGreatDoorPIntI
import Derived.Test.YtkofjdddmpebmaaGreatDoorApW
/-! A profile read from a text: what the program's function computes. -/
namespace Go.Proofs.YtkofjdddmpebmaaGreatDoor
open Go.RowKit
attribute [local go_sem] Oper.semAt_some
set_option maxRecDepth 100000

theorem bytes_of (x : ByteArray) : (⟨x.data.toList.toArray⟩ : ByteArray) = x := bytes_back x
theorem libCut (x : ByteArray) (w : World) (hx : x.size ≤ 1048576) :
    Calls Tryz.prog 18 #[.string x, .string ⟨#[42]⟩] w fun e w' => e = .returned (.tuple #[.string (wA x), .string (wB x), .bool (wF x)]) ∧ Below w.heap.size w w' := by
  rcases Lib.index_spec x.data.toList [42] with ⟨h, _⟩ | ⟨i, h, _⟩
  · rw [wA, wB, wF, cut_miss h, bytes_of]
    refine (libCutMiss x 42 w h).mono ?_; rintro e w1 ⟨rfl, rfl⟩
    exact ⟨rfl, Below.refl _ _⟩
  · rw [wA, wB, wF, cut_hit h]
    exact libCutHit x 42 i w hx h
set_option maxHeartbeats 1000000 in
theorem libCutPrefixNo (t : ByteArray) (w : World) (h : negT t = false) :
    Calls Tryz.prog 14 #[.string t, .string ⟨#[45]⟩] w fun e w' => e = .returned (.tuple #[.string t, .bool false]) ∧ w = w' := by
  have H := Lib.hid h; clear h
  have hin : ∀ w : World, Calls Tryz.prog 30 #[.string t, .string ⟨#[45]⟩] w fun e w' => e = .returned (.tuple #[.string t, .bool false]) ∧ w = w' := by
    intro w
    go_enter Tryz.func30, Tryz.ntmps30
    go_wp2_with fail
    refine (Tryz.stringslite_HasPrefix t ⟨#[45]⟩ _).mono ?_; rintro e w1 ⟨rfl, hw⟩
    subst hw
    rw [show Lib.hasPrefix t.data.toList (⟨#[45]⟩ : ByteArray).data.toList = negT t from rfl, H.out]
    go_wp2_with fail
    go_ret2
    exact ⟨rfl, rfl⟩
  have HI := Lib.hid hin; clear hin
  go_enter Tryz.func14, Tryz.ntmps14
  go_wp2_with fail
  refine (HI.out _).mono ?_; rintro e w1 ⟨rfl, rfl⟩
  go_wp2_with fail
  go_ret2
  exact ⟨rfl, rfl⟩
theorem neg_pos {t : ByteArray} (h : negT t = true) : 0 < t.size := by
  rw [negT, Lib.hasPrefix] at h
  have : t.data.toList.length = t.size := by simp
  cases hl : t.data.toList with
  | nil => rw [hl] at h; simp at h
  | cons a l => rw [hl, List.length_cons] at this; omega
set_option maxHeartbeats 1000000 in
theorem libCutPrefixYes (t : ByteArray) (w : World) (ht : t.size ≤ 1048576) (h : negT t = true) :
    Calls Tryz.prog 14 #[.string t, .string ⟨#[45]⟩] w fun e w' => e = .returned (.tuple #[.string (restT t), .bool true]) ∧ w = w' := by
  have hpos := neg_pos h
  have hle : (1 : Int) ≤ t.size := by omega
  have H := Lib.hid h; clear h
  have hin : ∀ w : World, Calls Tryz.prog 30 #[.string t, .string ⟨#[45]⟩] w fun e w' => e = .returned (.tuple #[.string (restT t), .bool true]) ∧ w = w' := by
    intro w
    have he := Lib.hid (ext_tail t 1)
    go_enter Tryz.func30, Tryz.ntmps30
    go_wp2_with fail
    refine (Tryz.stringslite_HasPrefix t ⟨#[45]⟩ _).mono ?_; rintro e w1 ⟨rfl, hw⟩
    subst hw
    rw [show Lib.hasPrefix t.data.toList (⟨#[45]⟩ : ByteArray).data.toList = negT t from rfl, H.out]
    go_wp2_with fail
    go_ret2
    exact ⟨by rw [he.out]; rfl, rfl⟩
  have HI := Lib.hid hin; clear hin
  go_enter Tryz.func14, Tryz.ntmps14
  go_wp2_with fail
  refine (HI.out _).mono ?_; rintro e w1 ⟨rfl, rfl⟩
  go_wp2_with fail
  go_ret2
  exact ⟨rfl, rfl⟩
set_option maxHeartbeats 1000000 in
theorem libSplitSeq (t s : ByteArray) (w : World) :
    Calls Tryz.prog 17 #[.string t, .string s] w fun e w' => e = .returned (.func (.func 52) #[] #[.pointer (some ⟨w.heap.size + 1, 0, none⟩), .pointer (some ⟨w.heap.size, 0, none⟩), .pointer (some ⟨w.heap.size + 2, 0, none⟩)]) ∧ w' = ((w.alloc (.cells #[.string t] 9)).alloc (.cells #[.string s] 9)).alloc (.cells #[.int .i64 0] 3) := by
  have hin : ∀ w : World, Calls Tryz.prog 35 #[.string t, .string s, .int .i64 0] w fun e w' => e = .returned (.func (.func 52) #[] #[.pointer (some ⟨w.heap.size + 1, 0, none⟩), .pointer (some ⟨w.heap.size, 0, none⟩), .pointer (some ⟨w.heap.size + 2, 0, none⟩)]) ∧ w' = ((w.alloc (.cells #[.string t] 9)).alloc (.cells #[.string s] 9)).alloc (.cells #[.int .i64 0] 3) := by
    intro w
    go_enter Tryz.func35, Tryz.ntmps35
    go_wp2_with fail
    go_ret
    exact ⟨rfl, rfl⟩
  have HI := Lib.hid hin; clear hin
  go_enter Tryz.func17, Tryz.ntmps17
  go_wp2_with fail
  refine (HI.out _).mono ?_; rintro e w1 ⟨rfl, rfl⟩
  go_wp2_with fail
  go_ret
  exact ⟨rfl, rfl⟩
end Go.Proofs.YtkofjdddmpebmaaGreatDoor

/-! A profile read from a text: the program's loop over the words. -/
namespace Go.Proofs.YtkofjdddmpebmaaGreatDoor
open Go.RowKit
attribute [local go_sem] Oper.semAt_some
set_option maxRecDepth 100000

theorem wpListIn_apW {F : Fence} {m : Nat} (w : World) {ops : Array Oper} {rest : List Oper} {o : Oper} {a : Act} {Q : Exit → Act → World → Prop} (hgd : o.guard = none) (s x : Operand)
    (ho : o.op = .call { callee := .builtin .append, args := #[s, x], argTypes := #[22, 22] })
    (base : Nat) (A : Option Addr) (n c : Nat) (G : Nat → Option Addr) (C : Nat → Nat) (R : Nat → List Int) (T : Nat → Int) (he : a.eval s = .slice A n c) (hown : OwnV w base A n c G C R T) (G1 : Option Addr) (n1 C1 : Nat) (R1 : List Int) (T1 : Int) (hn1 : R1.length = n1) (g d : Nat) (hx : a.eval x = .slice (some ⟨g, 0, none⟩) 1 d)
    (hcell : w.cell? ⟨g, 0, none⟩ = some (.slice G1 n1 C1)) (hcell1 : w.cell? ⟨g, 1, none⟩ = some (.int .i64 T1)) (hon : Own w base G1 R1.length C1 R1) (hap1 : ∀ k, k < n → ∀ a b, G k = some a → G1 = some b → a.block ≠ b.block) (hap2 : ∀ a g, G1 = some a → A = some g → a.block ≠ g.block) (hlen : n ≤ 1048576) (hbase : base ≤ w.heap.size)
    (hK : ∀ A' c' w', OwnV w' base A' (n + 1) c' (fun j => if j = n then G1 else G j) (fun j => if j = n then C1 else C j) (fun j => if j = n then R1 else R j) (fun j => if j = n then T1 else T j) → w.grownBy w' (A.map (·.block)) → wpListIn F m Tryz.prog ops Q rest (a.put o.dst (.slice A' (n + 1) c')) w') :
    wpListIn F m Tryz.prog ops Q (o :: rest) a w := by
  subst hn1
  refine wpListIn_plain hgd fun K hKK => ?_
  obtain ⟨A', c', w', q1, q2, q3, q4⟩ := run_apW hown G1 C1 R1 T1 g d hcell hcell1 hon hap1 hap2 o.type hlen hbase
  unfold Oper.wpIn
  refine ⟨?_, ?_⟩
  · simp [Oper.about, ho, resolve, Target.leads, Sem.run_pure]
  · rw [Oper.semAt_plain F _ _ (by rw [ho]; intro c hc'; cases hc')]
    simp [execOp, ho, resolve, invoke, builtin, he, hx, q1, Result.andThen]
    exact hKK _ _ (hK _ _ _ q2 q3)
theorem keeps_below {W W' : World} (h : Below W.heap.size W W') : KeepsOthers W W' := ⟨h.size, fun k _ hk _ => (h.block k (Array.getElem?_eq_some_iff.1 hk).1).trans hk⟩
theorem own_put {W : World} {base : Nat} {A : Option Addr} {n c l : Nat} {xs : List Int} {o : Obj} (o' : Obj) (h : Own W base A n c xs) (hl : W.heap[l]? = some o) (ho : o.isCells = false) : Own (W.putObj l o') base A n c xs := ownsRow_putObj h o' hl ho
theorem OwnV.put {W : World} {base n c l : Nat} {A : Option Addr} {G : Nat → Option Addr} {C : Nat → Nat} {R : Nat → List Int} {T : Nat → Int} {o : Obj} (o' : Obj) (h : OwnV W base A n c G C R T) (hl : W.heap[l]? = some o) (ho : o.isCells = false) : OwnV (W.putObj l o') base A n c G C R T := by
  obtain ⟨vs, hr, hc⟩ := h.row
  exact ⟨⟨vs, ownsRow_putObj hr o' hl ho, hc⟩, fun k hk => own_put o' (h.each k hk) hl ho, h.apart, h.off⟩
/-- What lay below lo lies as it lay, but for block P; whatever is no cells lies as it lay. -/
structure Step (lo P : Nat) (W W' : World) : Prop where
  keeps : KeepsOthers W W'
  block : ∀ b, b < lo → b ≠ P → W'.heap[b]? = W.heap[b]?
theorem Step.refl (lo P : Nat) (W : World) : Step lo P W W := ⟨KeepsOthers.refl W, fun _ _ _ => rfl⟩
theorem Step.below {lo P : Nat} {W V V' : World} (h : Step lo P W V) (b : Below V.heap.size V V') (hlo : lo ≤ V.heap.size) : Step lo P W V' := ⟨h.keeps.trans (keeps_below b), fun j hj hP => (b.block j (by omega)).trans (h.block j hj hP)⟩
theorem Step.setP {lo P : Nat} {W V : World} (h : Step lo P W V) (o : Nat) (v : Value) : Step lo P W (V.setCell ⟨P, o, none⟩ v) := ⟨h.keeps.trans (KeepsOthers.setCell _ _ _), fun j hj hP => (Below.heap_setCell _ _ _ _ (fun e => hP e)).trans (h.block j hj hP)⟩
theorem Step.alloc {lo P : Nat} {W V : World} (h : Step lo P W V) (hlo : lo ≤ V.heap.size) (o : Obj) : Step lo P W (V.alloc o) := ⟨h.keeps.trans (KeepsOthers.alloc _ _), fun j hj hP => (Below.heap_alloc _ _ _ (by omega)).trans (h.block j hj hP)⟩
theorem Step.grown {lo P base : Nat} {W V V' : World} {A : Option Addr} {n c : Nat} {G : Nat → Option Addr} {C : Nat → Nat} {R : Nat → List Int} {T : Nat → Int} (h : Step lo P W V) (hg : V.grownBy V' (A.map (·.block))) (hown : OwnV V base A n c G C R T) (hb : lo ≤ base) (hlo : lo ≤ V.heap.size) : Step lo P W V' := by
  refine ⟨h.keeps.trans (KeepsOthers.of_grownBy hg ?_), fun j hj hP => (hg.block j (by omega) ?_).trans (h.block j hj hP)⟩
  · intro j o e ho
    obtain ⟨a, ha, he⟩ := map_block e.symm
    obtain ⟨vs, hr, _⟩ := hown.row
    subst ha
    rcases hr.2 with ⟨hv, _⟩ | ⟨g, cap, cur, hv, _, hh, _⟩
    · injection hv with h1; cases h1
    · injection hv with h1
      injection h1 with h1
      subst h1
      simp only at he
      subst he
      rw [hh] at ho
      injection ho with ho
      subst ho
      rfl
  · intro e
    obtain ⟨a, ha, he⟩ := map_block e
    have := (hown.ge a ha).1
    omega
theorem rk_snoc {V : List (List Int × Int)} {x : ByteArray} {k j : Nat} (hk : V.length = k) (hj : j < k + 1) : (if j = k then parseP (wB x) else rk V j) = rk (V ++ [voteW x]) j := by
  by_cases h : j = k
  · subst h; subst hk
    rw [if_pos rfl]
    simp [rk, vnth, List.getD]
    rfl
  · rw [if_neg h]
    simp [rk, vnth, List.getD, List.getElem?_append, show j < V.length by omega]
theorem ct_snoc {V : List (List Int × Int)} {x : ByteArray} {k j : Nat} (hk : V.length = k) (hj : j < k + 1) : (if j = k then pV (wA x) else ct V j) = ct (V ++ [voteW x]) j := by
  by_cases h : j = k
  · subst h; subst hk
    rw [if_pos rfl]
    simp [ct, vnth, List.getD]
    rfl
  · rw [if_neg h]
    simp [ct, vnth, List.getD, List.getElem?_append, show j < V.length by omega]
theorem fin_cells {W1 : World} {R D : Nat} {x0 x1 xb : Value} (g0 : W1.cell? ⟨R, 0, none⟩ = some x0) (g1 : W1.cell? ⟨R, 1, none⟩ = some x1) (gb : W1.cell? ⟨R + 1, 0, none⟩ = some xb) (hD : R + 1 < D) (hK : W1.heap[D]? = some (.deferred (some []))) (a b c : Value) (o : Obj) :
    (((W1.setCell ⟨R, 0, none⟩ a).setCell ⟨R, 1, none⟩ b).setCell ⟨R + 1, 0, none⟩ c).heap[D]? = some (.deferred (some [])) ∧
    ((((W1.setCell ⟨R, 0, none⟩ a).setCell ⟨R, 1, none⟩ b).setCell ⟨R + 1, 0, none⟩ c).putObj D o).cell? ⟨R, 0, none⟩ = some a ∧ ((((W1.setCell ⟨R, 0, none⟩ a).setCell ⟨R, 1, none⟩ b).setCell ⟨R + 1, 0, none⟩ c).putObj D o).cell? ⟨R, 1, none⟩ = some b ∧ ((((W1.setCell ⟨R, 0, none⟩ a).setCell ⟨R, 1, none⟩ b).setCell ⟨R + 1, 0, none⟩ c).putObj D o).cell? ⟨R + 1, 0, none⟩ = some c := by
  refine ⟨?_, ?_, ?_, ?_⟩
  · exact (Below.heap_setCell _ _ _ _ (by show D ≠ R + 1; omega)).trans ((Below.heap_setCell _ _ _ _ (by show D ≠ R; omega)).trans ((Below.heap_setCell _ _ _ _ (by show D ≠ R; omega)).trans hK))
  · exact (cell_block (World.putObj_heap_other (by omega)) 0).trans (by simp [go_sem, g0])
  · exact (cell_block (World.putObj_heap_other (by omega)) 1).trans (by simp [go_sem, g1])
  · exact (cell_block (World.putObj_heap_other (by omega)) 0).trans (by simp [go_sem, gb])
/-- Between two rounds: the words' votes lie in the profile's block P. -/
structure InvP (w W0 : World) (V : List (List Int × Int)) (W : World) : Prop where
  below : Below w.heap.size w W
  r0 : W.heap[w.heap.size]? = W0.heap[w.heap.size]?
  r1 : W.heap[w.heap.size + 1]? = W0.heap[w.heap.size + 1]?
  f0 : W.frozen? ⟨w.heap.size + 1 + 1, 0, none⟩ = false
  f1 : W.frozen? ⟨w.heap.size + 1 + 1, 1, none⟩ = false
  p0 : W.cell? ⟨w.heap.size + 1 + 1, 0, none⟩ = some (.int .i64 (szV V))
  len : V.length ≤ 24
  own : ∃ A c G C, W.cell? ⟨w.heap.size + 1 + 1, 1, none⟩ = some (.slice A V.length c) ∧ OwnV W W0.heap.size A V.length c G C (rk V) (ct V)
structure InvX (w : World) (t : ByteArray) (W : World) : Prop where
  below : Below w.heap.size w W
  r0 : W.cell? ⟨w.heap.size, 0, none⟩ = some (.int .i64 0)
  r1 : W.cell? ⟨w.heap.size, 1, none⟩ = some (.slice none 0 0)
  b0 : W.cell? ⟨w.heap.size + 1, 0, none⟩ = some (.bool false)
  no : ppOk t = false
theorem below_put {w W : World} {l : Nat} (o' : Obj) (h : Below w.heap.size w W) (hl : w.heap.size ≤ l) : Below w.heap.size w (W.putObj l o') :=
  h.grown (grownBy_putObj' W l o') h.size (fun k e => by cases e; exact hl)
theorem InvP.put {w W0 W : World} {V : List (List Int × Int)} {l : Nat} {o : Obj} (o' : Obj) (h : InvP w W0 V W) (h0 : w.heap.size + 1 + 1 < W0.heap.size) (hl : W0.heap.size ≤ l) (ho : W.heap[l]? = some o) (hc : o.isCells = false) : InvP w W0 V (W.putObj l o') := by
  have hb : ∀ b, b < W0.heap.size → (W.putObj l o').heap[b]? = W.heap[b]? := fun b hb => World.putObj_heap_other (by omega)
  obtain ⟨A, c, G, C, h1, h2⟩ := h.own
  exact ⟨below_put o' h.below (by omega), (hb _ (by omega)).trans h.r0, (hb _ (by omega)).trans h.r1, (World.frozen?_of_block (w := W) (a := ⟨w.heap.size + 1 + 1, 0, none⟩) (hb _ h0)).trans h.f0, (World.frozen?_of_block (w := W) (a := ⟨w.heap.size + 1 + 1, 1, none⟩) (hb _ h0)).trans h.f1, (cell_block (hb _ h0) 0).trans h.p0, h.len, A, c, G, C, (cell_block (hb _ h0) 1).trans h1, h2.put o' ho hc⟩
theorem InvX.put {w W : World} {t : ByteArray} {l : Nat} (o' : Obj) (h : InvX w t W) (hl : w.heap.size + 1 < l) : InvX w t (W.putObj l o') := by
  have hb : ∀ b, b < l → (W.putObj l o').heap[b]? = W.heap[b]? := fun b hb => World.putObj_heap_other (by omega)
  exact ⟨below_put o' h.below (by omega), (cell_block (hb _ (by omega)) 0).trans h.r0, (cell_block (hb _ (by omega)) 1).trans h.r1, (cell_block (hb _ (by omega)) 0).trans h.b0, h.no⟩
theorem InvP.alloc {w W0 W : World} {V : List (List Int × Int)} (h : InvP w W0 V W) (h0 : w.heap.size + 1 + 1 < W.heap.size) (o : Obj) : InvP w W0 V (W.alloc o) := by
  have hb : ∀ b, b < W.heap.size → (W.alloc o).heap[b]? = W.heap[b]? := fun b hb => Below.heap_alloc _ _ _ hb
  obtain ⟨A, c, G, C, h1, h2⟩ := h.own
  exact ⟨h.below.alloc h.below.size _, (hb _ (by omega)).trans h.r0, (hb _ (by omega)).trans h.r1, (World.frozen?_of_block (w := W) (a := ⟨w.heap.size + 1 + 1, 0, none⟩) (hb _ h0)).trans h.f0, (World.frozen?_of_block (w := W) (a := ⟨w.heap.size + 1 + 1, 1, none⟩) (hb _ h0)).trans h.f1, (cell_block (hb _ h0) 0).trans h.p0, h.len, A, c, G, C, (cell_block (hb _ h0) 1).trans h1, h2.on ((Below.refl _ _).alloc (Nat.le_refl _) _)⟩
theorem InvP.set {w W0 W : World} {V : List (List Int × Int)} (h : InvP w W0 V W) (b : Nat) (hb : w.heap.size + 1 + 1 < b) (hb2 : b < W0.heap.size) (v : Value) : InvP w W0 V (W.setCell ⟨b, 0, none⟩ v) := by
  have hbl : ∀ j, j ≠ b → (W.setCell ⟨b, 0, none⟩ v).heap[j]? = W.heap[j]? := fun j hj => Below.heap_setCell _ _ _ _ hj
  obtain ⟨A, c, G, C, h1, h2⟩ := h.own
  exact ⟨h.below.setCell (by show w.heap.size ≤ b; omega) _, (hbl _ (by omega)).trans h.r0, (hbl _ (by omega)).trans h.r1, (World.frozen?_of_block (w := W) (a := ⟨w.heap.size + 1 + 1, 0, none⟩) (hbl _ (by show w.heap.size + 1 + 1 ≠ b; omega))).trans h.f0, (World.frozen?_of_block (w := W) (a := ⟨w.heap.size + 1 + 1, 1, none⟩) (hbl _ (by show w.heap.size + 1 + 1 ≠ b; omega))).trans h.f1, (cell_block (hbl _ (by omega)) 0).trans h.p0, h.len, A, c, G, C, (cell_block (hbl _ (by omega)) 1).trans h1, h2.setOther (p := ⟨b, 0, none⟩) hb2 v⟩

set_option maxHeartbeats 8000000 in
theorem implParseProfileL (t : ByteArray) (w : World) (ht : t.size ≤ 1048576) (hneg : negT t = false) (hp : Pow w) (he : Errs w) :
    Calls Tryz.prog 5 #[.string t] w fun e w' => ∃ A' c' G C, e = .returned (.tuple #[.agg #[.int .i64 (ppRM t), .slice A' (ppRV t).length c'], .bool (ppOk t)]) ∧ OwnV w' w.heap.size A' (ppRV t).length c' G C (rk (ppRV t)) (ct (ppRV t)) ∧ Below w.heap.size w w' := by
  have HP := Lib.hid hp; clear hp
  have HE := Lib.hid he; clear he
  have HN := Lib.hid hneg; clear hneg
  refine (callsIn_wide (n := 3)).1 ?_
  refine callsIn_of_wp_marks Tryz.func5 rfl trivial ?_ rfl
  simp only [Tryz.ntmps5, List.size_toArray, List.length_cons, List.length_nil, Nat.reduceAdd, Nat.reduceSub, Array.replicate_succ, Array.replicate_zero, List.push_toArray, List.append_toArray, List.nil_append, List.cons_append]
  gi_wp2
  refine ⟨trivial, ?_⟩
  refine ((callsIn_wide (n := 2)).2 (libCutPrefixNo t _ HN.out)).mono ?_; rintro e w1 ⟨rfl, rfl⟩
  gi_wp2
  refine ⟨trivial, ?_⟩
  refine ((callsIn_wide (n := 2)).2 (libSplitSeq t ⟨#[32]⟩ _)).mono ?_; rintro e w2 ⟨rfl, rfl⟩
  gi_wp2
  have bl : Below w.heap.size w ((((((w.alloc (.cells #[.int .i64 0, .slice none 0 0] 24)).alloc (.cells #[.bool false] 4)).alloc (.cells #[.int .i64 0, .slice none 0 0] 24)).alloc (.cells #[.string t] 9)).alloc (.cells #[.string ⟨#[32]⟩] 9)).alloc (.cells #[.int .i64 0] 3)) := (((((((Below.refl _ _).alloc (Nat.le_refl _) _).alloc (by simp) _).alloc (by simp; omega) _).alloc (by simp; omega) _).alloc (by simp; omega) _).alloc (by simp; omega) _)
  have r0 : ((((((w.alloc (.cells #[.int .i64 0, .slice none 0 0] 24)).alloc (.cells #[.bool false] 4)).alloc (.cells #[.int .i64 0, .slice none 0 0] 24)).alloc (.cells #[.string t] 9)).alloc (.cells #[.string ⟨#[32]⟩] 9)).alloc (.cells #[.int .i64 0] 3)).cell? ⟨w.heap.size, 0, none⟩ = some (.int .i64 0) := by simp [go_sem]
  have r1 : ((((((w.alloc (.cells #[.int .i64 0, .slice none 0 0] 24)).alloc (.cells #[.bool false] 4)).alloc (.cells #[.int .i64 0, .slice none 0 0] 24)).alloc (.cells #[.string t] 9)).alloc (.cells #[.string ⟨#[32]⟩] 9)).alloc (.cells #[.int .i64 0] 3)).cell? ⟨w.heap.size, 1, none⟩ = some (.slice none 0 0) := by simp [go_sem]
  have b0 : ((((((w.alloc (.cells #[.int .i64 0, .slice none 0 0] 24)).alloc (.cells #[.bool false] 4)).alloc (.cells #[.int .i64 0, .slice none 0 0] 24)).alloc (.cells #[.string t] 9)).alloc (.cells #[.string ⟨#[32]⟩] 9)).alloc (.cells #[.int .i64 0] 3)).cell? ⟨w.heap.size + 1, 0, none⟩ = some (.bool false) := by simp [go_sem]
  have p0 : ((((((w.alloc (.cells #[.int .i64 0, .slice none 0 0] 24)).alloc (.cells #[.bool false] 4)).alloc (.cells #[.int .i64 0, .slice none 0 0] 24)).alloc (.cells #[.string t] 9)).alloc (.cells #[.string ⟨#[32]⟩] 9)).alloc (.cells #[.int .i64 0] 3)).cell? ⟨w.heap.size + 1 + 1, 0, none⟩ = some (.int .i64 0) := by simp [go_sem]
  have p1 : ((((((w.alloc (.cells #[.int .i64 0, .slice none 0 0] 24)).alloc (.cells #[.bool false] 4)).alloc (.cells #[.int .i64 0, .slice none 0 0] 24)).alloc (.cells #[.string t] 9)).alloc (.cells #[.string ⟨#[32]⟩] 9)).alloc (.cells #[.int .i64 0] 3)).cell? ⟨w.heap.size + 1 + 1, 1, none⟩ = some (.slice none 0 0) := by simp [go_sem]
  have rf0 : ((((((w.alloc (.cells #[.int .i64 0, .slice none 0 0] 24)).alloc (.cells #[.bool false] 4)).alloc (.cells #[.int .i64 0, .slice none 0 0] 24)).alloc (.cells #[.string t] 9)).alloc (.cells #[.string ⟨#[32]⟩] 9)).alloc (.cells #[.int .i64 0] 3)).frozen? ⟨w.heap.size, 0, none⟩ = false := by simp [go_sem]
  have rf1 : ((((((w.alloc (.cells #[.int .i64 0, .slice none 0 0] 24)).alloc (.cells #[.bool false] 4)).alloc (.cells #[.int .i64 0, .slice none 0 0] 24)).alloc (.cells #[.string t] 9)).alloc (.cells #[.string ⟨#[32]⟩] 9)).alloc (.cells #[.int .i64 0] 3)).frozen? ⟨w.heap.size, 1, none⟩ = false := by simp [go_sem]
  have bf0 : ((((((w.alloc (.cells #[.int .i64 0, .slice none 0 0] 24)).alloc (.cells #[.bool false] 4)).alloc (.cells #[.int .i64 0, .slice none 0 0] 24)).alloc (.cells #[.string t] 9)).alloc (.cells #[.string ⟨#[32]⟩] 9)).alloc (.cells #[.int .i64 0] 3)).frozen? ⟨w.heap.size + 1, 0, none⟩ = false := by simp [go_sem]
  have pf0 : ((((((w.alloc (.cells #[.int .i64 0, .slice none 0 0] 24)).alloc (.cells #[.bool false] 4)).alloc (.cells #[.int .i64 0, .slice none 0 0] 24)).alloc (.cells #[.string t] 9)).alloc (.cells #[.string ⟨#[32]⟩] 9)).alloc (.cells #[.int .i64 0] 3)).frozen? ⟨w.heap.size + 1 + 1, 0, none⟩ = false := by simp [go_sem]
  have pf1 : ((((((w.alloc (.cells #[.int .i64 0, .slice none 0 0] 24)).alloc (.cells #[.bool false] 4)).alloc (.cells #[.int .i64 0, .slice none 0 0] 24)).alloc (.cells #[.string t] 9)).alloc (.cells #[.string ⟨#[32]⟩] 9)).alloc (.cells #[.int .i64 0] 3)).frozen? ⟨w.heap.size + 1 + 1, 1, none⟩ = false := by simp [go_sem]
  have hB : Bx (w.heap.size + 1 + 1 + 1) (w.heap.size + 1 + 1 + 1 + 1) (w.heap.size + 1 + 1 + 1 + 2) 32 ((((((w.alloc (.cells #[.int .i64 0, .slice none 0 0] 24)).alloc (.cells #[.bool false] 4)).alloc (.cells #[.int .i64 0, .slice none 0 0] 24)).alloc (.cells #[.string t] 9)).alloc (.cells #[.string ⟨#[32]⟩] 9)).alloc (.cells #[.int .i64 0] 3)) t := ⟨by simp [go_sem], by simp [go_sem], by simp [go_sem], by simp [go_sem]⟩
  have hsz : ((((((w.alloc (.cells #[.int .i64 0, .slice none 0 0] 24)).alloc (.cells #[.bool false] 4)).alloc (.cells #[.int .i64 0, .slice none 0 0] 24)).alloc (.cells #[.string t] 9)).alloc (.cells #[.string ⟨#[32]⟩] 9)).alloc (.cells #[.int .i64 0] 3)).heap.size = w.heap.size + 6 := by simp
  generalize ((((((w.alloc (.cells #[.int .i64 0, .slice none 0 0] 24)).alloc (.cells #[.bool false] 4)).alloc (.cells #[.int .i64 0, .slice none 0 0] 24)).alloc (.cells #[.string t] 9)).alloc (.cells #[.string ⟨#[32]⟩] 9)).alloc (.cells #[.int .i64 0] 3)) = W0 at *
  have hown : InvP w W0 [] W0 := ⟨bl, rfl, rfl, pf0, pf1, p0, Nat.zero_le _, none, 0, fun _ => none, fun _ => 0, p1, OwnV.nil_ _ _ _ _ _ _⟩
  refine rangeSeq (n := 3) (w.heap.size + 1 + 1 + 1) (w.heap.size + 1 + 1 + 1 + 1) (w.heap.size + 1 + 1 + 1 + 2) 32 t ht rfl (by omega) (by omega) rfl hB
    (fun pre W => InvP w W0 (pre.map voteW) W) (InvX w t)
    (fun pre W l o o' hl ho hc h => h.put o' (by omega) hl ho hc) (fun W l o o' hl _ _ h => h.put o' (by omega)) (fun W o hW h => h.alloc (by omega) o) (fun pre W r' h => h.set _ (by omega) (by omega) _)
    hown (fun x => { tmps := #[.string t, undef, .pointer (some ⟨w.heap.size, 0, none⟩), .pointer (some ⟨w.heap.size + 1, 0, none⟩), .string t, .bool false, undef, undef, .pointer (some ⟨w.heap.size + 1 + 1, 0, none⟩), .string x, undef, undef, undef, undef, undef, undef, undef, .tuple #[.string t, .bool false], .string t, .tuple #[.string t, .bool false], .string t, .bool false, .bool false, undef, undef, undef, undef, undef, undef, undef, undef, undef, undef, undef, .string t, .func (.func 52) #[] #[.pointer (some ⟨w.heap.size + 1 + 1 + 1 + 1, 0, none⟩), .pointer (some ⟨w.heap.size + 1 + 1 + 1, 0, none⟩), .pointer (some ⟨w.heap.size + 1 + 1 + 1 + 2, 0, none⟩)], .string x, undef, undef, undef, undef, undef, undef, undef, undef, undef, undef, undef, undef, undef, undef, undef, undef, undef, undef, undef, undef, undef, undef, undef, undef, undef, undef, undef, undef, undef, undef, undef, undef, undef, undef, undef, undef, undef], defers := [] }) ?assign ?body ?done ?stop
  case assign =>
    intro l x W K hK
    gi_wp2
    exact hK
  case body =>
    intro l pre x q r W hszW hI hpre hBx
    have hxs := piece_le (c := 32) (t := t) (x := x) (by rw [← hpre]; simp)
    have hA := wA_le x
    have hBw := wB_le x
    have hPL := Lib.hid (parse_len (wB x))
    obtain ⟨V, hV⟩ : ∃ V, V = pre.map voteW := ⟨_, rfl⟩
    have HX : Hid ((pre ++ [x]).map voteW = V ++ [voteW x]) := by rw [Hid, List.map_append, hV]; rfl
    have HQ : Hid (24 = V.length → ppOk t = false) := fun e => pp_long HN.out (by rw [← hpre, List.length_append, List.length_cons]; have := congrArg List.length hV; rw [List.length_map] at this; omega)
    simp only [HX.out, ← hV] at hI ⊢
    clear hV hpre
    obtain ⟨k, hk⟩ : ∃ k, V.length = k := ⟨_, rfl⟩
    obtain ⟨iB, i0, i1, if0, if1, ip0, iL, A, c, G, C, ip1, iO⟩ := hI
    rw [hk] at ip1 iO iL
    have HK := Lib.hid hk; clear hk
    have hkI : (k : Int) ≤ 24 := by omega
    have bC := Below.refl W.heap.size W
    gi_wp2
    refine ⟨trivial, ?_⟩
    refine (CallsIn.inRound l ((callsIn_wide (n := 0)).2 (libCut x _ (by omega)))).mono ?_; rintro e W1 ⟨rfl, b⟩
    replace bC := Below.on bC b
    clear b
    gi_wp2
    refine ⟨trivial, ?_⟩
    refine (CallsIn.inRound l ((callsIn_wide (n := 0)).2 (implParseInt (wA x) _ (by omega) (HP.out.on (Below.on iB bC)) (HE.out.on (Below.on iB bC))))).mono ?_; rintro e W2 ⟨rfl, b⟩
    replace bC := Below.on bC b
    have hz2 := bC.size
    clear b
    gi_wp2
    refine ⟨trivial, ?_⟩
    refine (CallsIn.inRound l ((callsIn_wide (n := 0)).2 (implParseRanking (wB x) _ (by omega)))).mono ?_; rintro e W3 ⟨A1, c1, rfl, o1, b⟩
    have hz3 := b.size
    replace bC := Below.on bC b
    clear b
    have hPW : w.heap.size + 1 + 1 < W.heap.size := by omega
    have z3 := bC.size
    have hPW3 : w.heap.size + 1 + 1 < W3.heap.size := by omega
    replace ip0 := (bC.cell (p := ⟨w.heap.size + 1 + 1, 0, none⟩) hPW).trans ip0
    replace ip1 := (bC.cell (p := ⟨w.heap.size + 1 + 1, 1, none⟩) hPW).trans ip1
    replace if0 := (bC.frozen (p := ⟨w.heap.size + 1 + 1, 0, none⟩) hPW).trans if0
    replace if1 := (bC.frozen (p := ⟨w.heap.size + 1 + 1, 1, none⟩) hPW).trans if1
    have iR := (bC.block w.heap.size (by omega)).trans i0
    have iRB := (bC.block (w.heap.size + 1) (by omega)).trans i1
    have g0 := (cell_block iR 0).trans r0
    have g1 := (cell_block iR 1).trans r1
    have gb := (cell_block iRB 0).trans b0
    have gf0 := (World.frozen?_of_block (w := W0) (a := ⟨w.heap.size, 0, none⟩) iR).trans rf0
    have gf1 := (World.frozen?_of_block (w := W0) (a := ⟨w.heap.size, 1, none⟩) iR).trans rf1
    have gbf := (World.frozen?_of_block (w := W0) (a := ⟨w.heap.size + 1, 0, none⟩) iRB).trans bf0
    by_cases hk24 : k = 24
    · have h24 : ((k : Int) == 24) = true := by rw [beq_iff_eq]; omega
      gi_wp2
      exact ⟨(((keeps_below bC).trans (KeepsOthers.setCell _ _ _)).trans (KeepsOthers.setCell _ _ _)).trans (KeepsOthers.setCell _ _ _),
        Below.setCell (p := ⟨w.heap.size + 1, 0, none⟩) (Below.setCell (p := ⟨w.heap.size, 1, none⟩) (Below.setCell (p := ⟨w.heap.size, 0, none⟩) (Below.on iB bC) (Nat.le_refl _) _) (Nat.le_refl _) _) (by show w.heap.size ≤ w.heap.size + 1; omega) _, by simp [go_sem, g0], by simp [go_sem, g1], by simp [go_sem, gb], HQ.out (by have := HK.out; omega)⟩
    · have h24 : ((k : Int) == 24) = false := by rw [beq_eq_false_iff_ne]; omega
      have iO3 := iO.on bC
      have hlo2 : W0.heap.size ≤ W2.heap.size := by omega
      have own1 : OwnV ((W3.setCell ⟨w.heap.size + 1 + 1, 0, none⟩ (.int .i64 ((parseP (wB x)).length : Int))).alloc (.cells #[.slice A1 (parseP (wB x)).length c1, .int .i64 (pV (wA x))] 36)) W0.heap.size A k c G C (rk V) (ct V) :=
        (iO3.setOther (p := ⟨w.heap.size + 1 + 1, 0, none⟩) (by show w.heap.size + 1 + 1 < W0.heap.size; omega) _).on ((Below.refl _ _).alloc (Nat.le_refl _) _)
      have q1 := own_ge o1
      have o1b : Own ((W3.setCell ⟨w.heap.size + 1 + 1, 0, none⟩ (.int .i64 ((parseP (wB x)).length : Int))).alloc (.cells #[.slice A1 (parseP (wB x)).length c1, .int .i64 (pV (wA x))] 36)) W0.heap.size A1 (parseP (wB x)).length c1 (parseP (wB x)) :=
        own_below (own_mono (own_grown o1 (grownBy_setCell' W3 (w.heap.size + 1 + 1) _) (fun a ha e => by have := q1 a ha; injection e with e; omega)) hlo2) ((Below.refl _ _).alloc (Nat.le_refl _) _) (Nat.le_refl _)
      have cl0 : ((W3.setCell ⟨w.heap.size + 1 + 1, 0, none⟩ (.int .i64 ((parseP (wB x)).length : Int))).alloc (.cells #[.slice A1 (parseP (wB x)).length c1, .int .i64 (pV (wA x))] 36)).cell? ⟨W3.heap.size, 0, none⟩ = some (.slice A1 (parseP (wB x)).length c1) := by simp [go_sem]
      have cl1 : ((W3.setCell ⟨w.heap.size + 1 + 1, 0, none⟩ (.int .i64 ((parseP (wB x)).length : Int))).alloc (.cells #[.slice A1 (parseP (wB x)).length c1, .int .i64 (pV (wA x))] 36)).cell? ⟨W3.heap.size, 1, none⟩ = some (.int .i64 (pV (wA x))) := by simp [go_sem]
      have cp0 : ((W3.setCell ⟨w.heap.size + 1 + 1, 0, none⟩ (.int .i64 ((parseP (wB x)).length : Int))).alloc (.cells #[.slice A1 (parseP (wB x)).length c1, .int .i64 (pV (wA x))] 36)).cell? ⟨w.heap.size + 1 + 1, 0, none⟩ = some (.int .i64 ((parseP (wB x)).length : Int)) := by simp [go_sem, ip0, hPW3]
      have cp1 : ((W3.setCell ⟨w.heap.size + 1 + 1, 0, none⟩ (.int .i64 ((parseP (wB x)).length : Int))).alloc (.cells #[.slice A1 (parseP (wB x)).length c1, .int .i64 (pV (wA x))] 36)).cell? ⟨w.heap.size + 1 + 1, 1, none⟩ = some (.slice A k c) := by simp [go_sem, ip1, hPW3]
      have cf0 : ((W3.setCell ⟨w.heap.size + 1 + 1, 0, none⟩ (.int .i64 ((parseP (wB x)).length : Int))).alloc (.cells #[.slice A1 (parseP (wB x)).length c1, .int .i64 (pV (wA x))] 36)).frozen? ⟨w.heap.size + 1 + 1, 0, none⟩ = false := by simp [go_sem, if0, hPW3]
      have cf1 : ((W3.setCell ⟨w.heap.size + 1 + 1, 0, none⟩ (.int .i64 ((parseP (wB x)).length : Int))).alloc (.cells #[.slice A1 (parseP (wB x)).length c1, .int .i64 (pV (wA x))] 36)).frozen? ⟨w.heap.size + 1 + 1, 1, none⟩ = false := by simp [go_sem, if1, hPW3]
      have szA : W3.heap.size < ((W3.setCell ⟨w.heap.size + 1 + 1, 0, none⟩ (.int .i64 ((parseP (wB x)).length : Int))).alloc (.cells #[.slice A1 (parseP (wB x)).length c1, .int .i64 (pV (wA x))] 36)).heap.size := by simp
      have hSt : Step W0.heap.size (w.heap.size + 1 + 1) W ((W3.setCell ⟨w.heap.size + 1 + 1, 0, none⟩ (.int .i64 ((parseP (wB x)).length : Int))).alloc (.cells #[.slice A1 (parseP (wB x)).length c1, .int .i64 (pV (wA x))] 36)) :=
        (((Step.refl _ _ W).below bC hszW).setP 0 _).alloc (by simp; omega) _
      have hBl : Below w.heap.size w ((W3.setCell ⟨w.heap.size + 1 + 1, 0, none⟩ (.int .i64 ((parseP (wB x)).length : Int))).alloc (.cells #[.slice A1 (parseP (wB x)).length c1, .int .i64 (pV (wA x))] 36)) :=
        ((Below.on iB bC).setCell (by show w.heap.size ≤ w.heap.size + 1 + 1; omega) _).alloc (by simp; omega) _
      have kG : ∀ j, j < k → ∀ a b, G j = some a → A1 = some b → a.block ≠ b.block := fun j hj a b ha hb => by have := own_ge (iO.each j hj) a ha; have := q1 b hb; omega
      have kA : ∀ a g, A1 = some a → A = some g → a.block ≠ g.block := fun a g ha hg => by have := iO.ge g hg; have := q1 a ha; omega
      have kP : ∀ a, A = some a → a.block ≠ w.heap.size + 1 + 1 := fun a ha => by have := iO.ge a ha; omega
      have CL0 := Lib.hid cl0; have CL1 := Lib.hid cl1; have CP0 := Lib.hid cp0; have CP1 := Lib.hid cp1; have CF0 := Lib.hid cf0; have CF1 := Lib.hid cf1
      have HS := Lib.hid hSt; have HBL := Lib.hid hBl
      clear cl0 cl1 cp0 cp1 cf0 cf1 hSt hBl
      gi_wp2_with (gi_at_builtin; refine wpListIn_apW _ rfl _ _ rfl W0.heap.size A k c G C (rk V) (ct V) rfl own1 A1 _ c1 (parseP (wB x)) (pV (wA x)) rfl W3.heap.size 1 rfl CL0.out CL1.out o1b kG kA (by omega) (by omega) ?_; intro A6 c6 W6 o6 g6; have d0 := far_cell g6 (Nat.lt_trans hPW3 szA) kP CP0.out; have d1 := far_cell g6 (Nat.lt_trans hPW3 szA) kP CP1.out; have df0 := far_frozen g6 (Nat.lt_trans hPW3 szA) kP CF0.out; have df1 := far_frozen g6 (Nat.lt_trans hPW3 szA) kP CF1.out; have O6 := Lib.hid o6; have G6 := Lib.hid g6; clear o6 g6)
      have HW := Lib.hid (Step.setP (HS.out.grown G6.out own1 (Nat.le_refl _) (by omega)) 1 (.slice A6 (k + 1) c6))
      have hl : (V ++ [voteW x]).length = k + 1 := by rw [List.length_append, List.length_singleton, HK.out]
      refine ⟨HW.out.keeps, hBx.blocks (fun b hb => HW.out.block b (by omega) (by omega)), ?_⟩
      refine ⟨Below.setCell (p := ⟨w.heap.size + 1 + 1, 1, none⟩) (HBL.out.grown G6.out (by omega) (fun j e => ?_)) (by show w.heap.size ≤ w.heap.size + 1 + 1; omega) _, (HW.out.block _ (by omega) (by omega)).trans i0, (HW.out.block _ (by omega) (by omega)).trans i1, by rw [World.frozen?_setCell]; exact df0, by rw [World.frozen?_setCell]; exact df1, ?_, by omega, A6, c6, (fun j => if j = k then A1 else G j), (fun j => if j = k then c1 else C j), ?_, ?_⟩
      · obtain ⟨a, ha, he⟩ := map_block e.symm
        have := iO.ge a ha
        omega
      · rw [szV_snoc]
        simp [go_sem, d0]
        rfl
      · rw [hl]
        simp [go_sem, d1]
      · rw [hl]
        exact (O6.out.setOther (p := ⟨w.heap.size + 1 + 1, 1, none⟩) (by show w.heap.size + 1 + 1 < W0.heap.size; omega) _).congr (fun j hj => rk_snoc HK.out hj) (fun j hj => ct_snoc HK.out hj)
  case done =>
    intro D W hD hI hK
    have HPP := Lib.hid (pp_pos HN.out)
    obtain ⟨V, hV⟩ : ∃ V, V = (spP ⟨#[32]⟩ t).map voteW := ⟨_, rfl⟩
    rw [← hV] at hI
    have HSM : Hid (∀ j, j < V.length → (rl V j : Int) ≤ 1048576) := fun j hj => by
      rw [hV]
      exact rl_small ht (q := []) (List.append_nil _) j (by rw [hV, List.length_map] at hj; exact hj)
    have HV : Hid (ppV t = V) := HPP.out.2.trans hV.symm
    have HMM : Hid (ppM t = szV V) := by rw [Hid, HPP.out.1, ← hV]
    clear hV
    obtain ⟨k, hk⟩ : ∃ k, V.length = k := ⟨_, rfl⟩
    obtain ⟨iB, i0, i1, if0, if1, ip0, iL, A, c, G, C, ip1, iO⟩ := hI
    rw [hk] at ip1 iO iL HSM
    have HK := Lib.hid hk; clear hk
    have g0 := (cell_block i0 0).trans r0
    have g1 := (cell_block i0 1).trans r1
    have gb := (cell_block i1 0).trans b0
    have gf0 := (World.frozen?_of_block (w := W0) (a := ⟨w.heap.size, 0, none⟩) i0).trans rf0
    have gf1 := (World.frozen?_of_block (w := W0) (a := ⟨w.heap.size, 1, none⟩) i0).trans rf1
    have gbf := (World.frozen?_of_block (w := W0) (a := ⟨w.heap.size + 1, 0, none⟩) i1).trans bf0
    have hDW : D < W.heap.size := (Array.getElem?_eq_some_iff.1 hK).1
    have hHK := Lib.hid hK; clear hK
    have hvo := iO.votes HK.out (fun _ _ => rfl) (fun _ _ => rfl)
    generalize hz : szV V = z at *
    gi_wp2
    refine ⟨trivial, ?_⟩
    refine ((callsIn_wide (n := 2)).2 (implFormatted z A k c V t _ hvo (by omega) HSM (HP.out.on iB))).mono ?_; rintro e W1 ⟨rfl, b⟩
    have hfo : fOk z V t = ppOk t := by rw [ppOk, HMM.out, HV.out]
    have hRW : w.heap.size + 1 < W.heap.size := by omega
    have hRW0 : w.heap.size < W.heap.size := by omega
    replace g0 := (b.cell (p := ⟨w.heap.size, 0, none⟩) hRW0).trans g0
    replace g1 := (b.cell (p := ⟨w.heap.size, 1, none⟩) hRW0).trans g1
    replace gb := (b.cell (p := ⟨w.heap.size + 1, 0, none⟩) hRW).trans gb
    replace gf0 := (b.frozen (p := ⟨w.heap.size, 0, none⟩) hRW0).trans gf0
    replace gf1 := (b.frozen (p := ⟨w.heap.size, 1, none⟩) hRW0).trans gf1
    replace gbf := (b.frozen (p := ⟨w.heap.size + 1, 0, none⟩) hRW).trans gbf
    have hK1 : W1.heap[D]? = some (.deferred (some [])) := (b.block D hDW).trans hHK.out
    have hO := iO.on b
    have hBl := Below.on iB b
    have hD1 : w.heap.size + 1 < D := by omega
    clear b ip0 ip1 if0 if1 hvo
    cases hf : ppOk t with
    | true =>
      obtain ⟨e1, e2⟩ := pp_yes hf
      rw [HMM.out] at e1
      rw [HV.out] at e2
      have HE1 := Lib.hid e1; have HE2 := Lib.hid e2
      rw [hf] at hfo
      have HF := Lib.hid hf
      clear e1 e2 hf
      rw [hfo, if_pos rfl]
      obtain ⟨f0, f1, f2, f3⟩ := fin_cells g0 g1 gb hD1 hK1 (.int .i64 z) (.slice A k c) (.bool true) (.deferred none)
      gi_wp2
      refine ⟨by simp, .inl ⟨_, _, rfl, run_takeDeferred f0, ?_⟩⟩
      refine ⟨.tuple #[.agg #[.int .i64 z, .slice A k c], .bool true], by simp [results, Tryz.results5, go_sem, f1, f2, f3], ?_⟩
      rw [HE1.out, HE2.out, HK.out, HF.out]
      exact ⟨A, c, G, C, rfl, ((((hO.setOther (p := ⟨w.heap.size, 0, none⟩) (by show w.heap.size < W0.heap.size; omega) _).setOther (p := ⟨w.heap.size, 1, none⟩) (by show w.heap.size < W0.heap.size; omega) _).setOther (p := ⟨w.heap.size + 1, 0, none⟩) (by show w.heap.size + 1 < W0.heap.size; omega) _).put _ f0 rfl).mono (by omega),
        below_put _ (Below.setCell (p := ⟨w.heap.size + 1, 0, none⟩) (Below.setCell (p := ⟨w.heap.size, 1, none⟩) (Below.setCell (p := ⟨w.heap.size, 0, none⟩) hBl (Nat.le_refl _) _) (Nat.le_refl _) _) (by show w.heap.size ≤ w.heap.size + 1; omega) _) (by omega)⟩
    | false =>
      obtain ⟨e1, e2⟩ := pp_no hf
      have HE1 := Lib.hid e1; have HE2 := Lib.hid e2
      rw [hf] at hfo
      have HF := Lib.hid hf
      clear e1 e2 hf
      rw [hfo, if_neg (by decide)]
      obtain ⟨f0, f1, f2, f3⟩ := fin_cells g0 g1 gb hD1 hK1 (.int .i64 0) (.slice none 0 0) (.bool false) (.deferred none)
      gi_wp2
      refine ⟨by simp, .inl ⟨_, _, rfl, run_takeDeferred f0, ?_⟩⟩
      refine ⟨.tuple #[.agg #[.int .i64 0, .slice none 0 0], .bool false], by simp [results, Tryz.results5, go_sem, f1, f2, f3], ?_⟩
      rw [HE1.out, HE2.out, HF.out]
      exact ⟨none, 0, fun _ => none, fun _ => 0, rfl, OwnV.nil_ _ _ _ _ _ _,
        below_put _ (Below.setCell (p := ⟨w.heap.size + 1, 0, none⟩) (Below.setCell (p := ⟨w.heap.size, 1, none⟩) (Below.setCell (p := ⟨w.heap.size, 0, none⟩) hBl (Nat.le_refl _) _) (Nat.le_refl _) _) (by show w.heap.size ≤ w.heap.size + 1; omega) _) (by omega)⟩
  case stop =>
    intro D W hD hX hK
    obtain ⟨xB, x0, x1, xb, xn⟩ := hX
    obtain ⟨e1, e2⟩ := pp_no xn
    have hb : ∀ b, b < D → (W.putObj D (.deferred none)).heap[b]? = W.heap[b]? := fun b hb => World.putObj_heap_other (by omega)
    have f1 := (cell_block (hb w.heap.size (by omega)) 0).trans x0
    have f2 := (cell_block (hb w.heap.size (by omega)) 1).trans x1
    have f3 := (cell_block (hb (w.heap.size + 1) (by omega)) 0).trans xb
    have HE1 := Lib.hid e1; have HE2 := Lib.hid e2; have HXN := Lib.hid xn
    clear e1 e2 xn x0 x1 xb
    gi_wp2
    refine ⟨by simp, .inl ⟨_, _, rfl, run_takeDeferred hK, ?_⟩⟩
    refine ⟨.tuple #[.agg #[.int .i64 0, .slice none 0 0], .bool false], by simp [results, Tryz.results5, go_sem, f1, f2, f3], ?_⟩
    rw [HE1.out, HE2.out, HXN.out]
    exact ⟨none, 0, fun _ => none, fun _ => 0, rfl, OwnV.nil_ _ _ _ _ _ _, below_put _ xB (by omega)⟩
end Go.Proofs.YtkofjdddmpebmaaGreatDoor

/-! A profile read from a text: the program's function, whole. -/
namespace Go.Proofs.YtkofjdddmpebmaaGreatDoor
open Go.RowKit
set_option maxRecDepth 100000

set_option maxHeartbeats 4000000 in
theorem implParseProfileN (t : ByteArray) (w : World) (ht : t.size ≤ 1048576) (hneg : negT t = true) (hp : Pow w) (he : Errs w) :
    Calls Tryz.prog 5 #[.string t] w fun e w' => ∃ A' c' G C, e = .returned (.tuple #[.agg #[.int .i64 (ppRM t), .slice A' (ppRV t).length c'], .bool (ppOk t)]) ∧ OwnV w' w.heap.size A' (ppRV t).length c' G C (rk (ppRV t)) (ct (ppRV t)) ∧ Below w.heap.size w w' := by
  have HP := Lib.hid hp; clear hp
  have HE := Lib.hid he; clear he
  have HN := Lib.hid hneg; clear hneg
  have hrl := rest_le t
  have bl : Below w.heap.size w ((w.alloc (.cells #[.int .i64 0, .slice none 0 0] 24)).alloc (.cells #[.bool false] 4)) := ((Below.refl _ _).alloc (Nat.le_refl _) _).alloc (by simp) _
  have r0 : ((w.alloc (.cells #[.int .i64 0, .slice none 0 0] 24)).alloc (.cells #[.bool false] 4)).cell? ⟨w.heap.size, 0, none⟩ = some (.int .i64 0) := by simp [go_sem]
  have r1 : ((w.alloc (.cells #[.int .i64 0, .slice none 0 0] 24)).alloc (.cells #[.bool false] 4)).cell? ⟨w.heap.size, 1, none⟩ = some (.slice none 0 0) := by simp [go_sem]
  have b0 : ((w.alloc (.cells #[.int .i64 0, .slice none 0 0] 24)).alloc (.cells #[.bool false] 4)).cell? ⟨w.heap.size + 1, 0, none⟩ = some (.bool false) := by simp [go_sem]
  have rf0 : ((w.alloc (.cells #[.int .i64 0, .slice none 0 0] 24)).alloc (.cells #[.bool false] 4)).frozen? ⟨w.heap.size, 0, none⟩ = false := by simp [go_sem]
  have rf1 : ((w.alloc (.cells #[.int .i64 0, .slice none 0 0] 24)).alloc (.cells #[.bool false] 4)).frozen? ⟨w.heap.size, 1, none⟩ = false := by simp [go_sem]
  have bf0 : ((w.alloc (.cells #[.int .i64 0, .slice none 0 0] 24)).alloc (.cells #[.bool false] 4)).frozen? ⟨w.heap.size + 1, 0, none⟩ = false := by simp [go_sem]
  have sr : w.heap.size + 1 < ((w.alloc (.cells #[.int .i64 0, .slice none 0 0] 24)).alloc (.cells #[.bool false] 4)).heap.size := by simp
  have sk : w.heap.size < ((w.alloc (.cells #[.int .i64 0, .slice none 0 0] 24)).alloc (.cells #[.bool false] 4)).heap.size := by omega
  go_enter Tryz.func5, Tryz.ntmps5
  go_wp2_with fail
  generalize ((w.alloc (.cells #[.int .i64 0, .slice none 0 0] 24)).alloc (.cells #[.bool false] 4)) = W at *
  refine (libCutPrefixYes t _ ht HN.out).mono ?_; rintro e w1 ⟨rfl, rfl⟩
  go_wp2_with fail
  refine (implParseInt (restT t) _ (by omega) (HP.out.on bl) (HE.out.on bl)).mono ?_; rintro e w2 ⟨rfl, b2⟩
  have bl2 := Below.on bl b2
  replace r0 := (b2.cell (p := ⟨w.heap.size, 0, none⟩) sk).trans r0
  replace r1 := (b2.cell (p := ⟨w.heap.size, 1, none⟩) sk).trans r1
  replace b0 := (b2.cell (p := ⟨w.heap.size + 1, 0, none⟩) sr).trans b0
  replace rf0 := (b2.frozen (p := ⟨w.heap.size, 0, none⟩) sk).trans rf0
  replace rf1 := (b2.frozen (p := ⟨w.heap.size, 1, none⟩) sk).trans rf1
  replace bf0 := (b2.frozen (p := ⟨w.heap.size + 1, 0, none⟩) sr).trans bf0
  replace sk := Nat.lt_of_lt_of_le sk b2.size
  replace sr := Nat.lt_of_lt_of_le sr b2.size
  clear b2
  go_wp2_with fail
  refine (implFormatted (pV (restT t)) none 0 0 [] t _ Votes.nil_ (by omega) (fun j hj => absurd hj (by omega)) (HP.out.on bl2)).mono ?_; rintro e w3 ⟨rfl, b3⟩
  have bl3 := Below.on bl2 b3
  replace r0 := (b3.cell (p := ⟨w.heap.size, 0, none⟩) sk).trans r0
  replace r1 := (b3.cell (p := ⟨w.heap.size, 1, none⟩) sk).trans r1
  replace b0 := (b3.cell (p := ⟨w.heap.size + 1, 0, none⟩) sr).trans b0
  replace rf0 := (b3.frozen (p := ⟨w.heap.size, 0, none⟩) sk).trans rf0
  replace rf1 := (b3.frozen (p := ⟨w.heap.size, 1, none⟩) sk).trans rf1
  replace bf0 := (b3.frozen (p := ⟨w.heap.size + 1, 0, none⟩) sr).trans bf0
  replace sk := Nat.lt_of_lt_of_le sk b3.size
  replace sr := Nat.lt_of_lt_of_le sr b3.size
  clear b3
  obtain ⟨m1, m2⟩ := pp_neg HN.out
  have hfo : fOk (pV (restT t)) [] t = ppOk t := by rw [ppOk, m1, m2]
  rw [hfo]
  cases hf : ppOk t with
  | true =>
    have HF := Lib.hid hf
    have HR : Hid (ppRM t = pV (restT t) ∧ ppRV t = []) := ⟨(pp_yes hf).1.trans m1, (pp_yes hf).2.trans m2⟩
    clear hf hfo m1 m2
    rw [if_pos rfl]
    go_wp2_with fail
    refine bodyPost_ret (v := .tuple #[.agg #[.int .i64 (pV (restT t)), .slice none 0 0], .bool true]) (by simp [results, Tryz.results5, go_sem, r0, r1, b0]) rfl ?_
    rw [HR.out.1, HR.out.2, HF.out]
    exact ⟨none, 0, fun _ => none, fun _ => 0, rfl, OwnV.nil_ _ _ _ _ _ _, Below.setCell (p := ⟨w.heap.size + 1, 0, none⟩) (Below.setCell (p := ⟨w.heap.size, 1, none⟩) (Below.setCell (p := ⟨w.heap.size, 0, none⟩) bl3 (Nat.le_refl _) _) (Nat.le_refl _) _) (by show w.heap.size ≤ w.heap.size + 1; omega) _⟩
  | false =>
    have HF := Lib.hid hf
    have HR : Hid (ppRM t = 0 ∧ ppRV t = []) := pp_no hf
    clear hf hfo m1 m2
    rw [if_neg (by decide)]
    go_wp2_with fail
    refine bodyPost_ret (v := .tuple #[.agg #[.int .i64 0, .slice none 0 0], .bool false]) (by simp [results, Tryz.results5, go_sem, r0, r1, b0]) rfl ?_
    rw [HR.out.1, HR.out.2, HF.out]
    exact ⟨none, 0, fun _ => none, fun _ => 0, rfl, OwnV.nil_ _ _ _ _ _ _, Below.setCell (p := ⟨w.heap.size + 1, 0, none⟩) (Below.setCell (p := ⟨w.heap.size, 1, none⟩) (Below.setCell (p := ⟨w.heap.size, 0, none⟩) bl3 (Nat.le_refl _) _) (Nat.le_refl _) _) (by show w.heap.size ≤ w.heap.size + 1; omega) _⟩

theorem implParseProfile (t : ByteArray) (w : World) (ht : t.size ≤ 1048576) (hp : Pow w) (he : Errs w) :
    Calls Tryz.prog 5 #[.string t] w fun e w' => ∃ A' c' G C, e = .returned (.tuple #[.agg #[.int .i64 (ppRM t), .slice A' (ppRV t).length c'], .bool (ppOk t)]) ∧ OwnV w' w.heap.size A' (ppRV t).length c' G C (rk (ppRV t)) (ct (ppRV t)) ∧ Below w.heap.size w w' := by
  cases hn : negT t with
  | true => exact implParseProfileN t w ht hn hp he
  | false => exact implParseProfileL t w ht hn hp he
end Go.Proofs.YtkofjdddmpebmaaGreatDoor
