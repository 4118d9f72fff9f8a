/- What the laws over two fractions share: the two boxed arguments stay as they are through a statement whose order is open. -/
import Derived.Test.YtadacfammhianaaFrac3
import Derived.Deep.RegionHeld3
import Derived.Deep.DeepCutAuto
import Derived.Deep.RegionWith
import Derived.Deep.DrawnRows
namespace Go.Proofs.Ytadacfammhianaa
open Go.RowKit

/-- The law's two boxes hold the two fractions; below them nothing has turned; what was there at W0 is as it was. -/
def Two (B : Nat) (x1 y1 x2 y2 : Int) (w W0 w' : World) : Prop :=
  w'.cell? ⟨B, 0, none⟩ = some (.int .i64 x1) ∧ w'.cell? ⟨B, 1, none⟩ = some (.int .i64 y1) ∧ w'.cell? ⟨B + 1, 0, none⟩ = some (.int .i64 x2) ∧ w'.cell? ⟨B + 1, 1, none⟩ = some (.int .i64 y2) ∧ B + 1 < w'.heap.size ∧ Below B w w' ∧ Below W0.heap.size W0 w'
section
variable {B : Nat} {x1 y1 x2 y2 : Int} {w W0 w' w2 : World}
theorem Two.on (h : Two B x1 y1 x2 y2 w W0 w') (hb : Below w'.heap.size w' w2) : Two B x1 y1 x2 y2 w W0 w2 := by
  obtain ⟨a0, a1, b0, b1, sz, bl, bk⟩ := h
  exact ⟨(hb.cell (p := ⟨B, 0, none⟩) (by simp; omega)).trans a0, (hb.cell (p := ⟨B, 1, none⟩) (by simp; omega)).trans a1,
   (hb.cell (p := ⟨B + 1, 0, none⟩) sz).trans b0, (hb.cell (p := ⟨B + 1, 1, none⟩) sz).trans b1, Nat.lt_of_lt_of_le sz hb.size, bl.trans (hb.mono (by omega)), Below.on bk hb⟩
theorem Two.drew (h : Two B x1 y1 x2 y2 w W0 w') : Two B x1 y1 x2 y2 w W0 w'.drew := h.on (Below.refl _ _).drew
theorem Two.alloc (h : Two B x1 y1 x2 y2 w W0 w') (o : Obj) : Two B x1 y1 x2 y2 w W0 (w'.alloc o) := h.on ((Below.refl _ _).alloc (Nat.le_refl _) o)
theorem Two.start (x1 y1 x2 y2 : Int) (w : World) (T : TypeId) : Two w.heap.size x1 y1 x2 y2 w ((w.alloc (.cells #[.int .i64 x1, .int .i64 y1] T)).alloc (.cells #[.int .i64 x2, .int .i64 y2] T)) ((w.alloc (.cells #[.int .i64 x1, .int .i64 y1] T)).alloc (.cells #[.int .i64 x2, .int .i64 y2] T)) :=
  ⟨by simp [go_sem], by simp [go_sem], by simp [go_sem], by simp [go_sem], by simp, ((Below.refl _ _).alloc (Nat.le_refl _) _).alloc (by simp) _, Below.refl _ _⟩
theorem Two.again (h : Two B x1 y1 x2 y2 w W0 w') : Two B x1 y1 x2 y2 w w' w' := by
  obtain ⟨a0, a1, b0, b1, sz, bl, bk⟩ := h
  exact ⟨a0, a1, b0, b1, sz, bl, Below.refl _ _⟩
/-- A new fraction's block, still zero. -/
def New (S : Nat) (w : World) (n : Nat) : Prop :=
  w.cell? ⟨n, 0, none⟩ = some (.int .i64 0) ∧ w.cell? ⟨n, 1, none⟩ = some (.int .i64 0) ∧ w.frozen? ⟨n, 0, none⟩ = false ∧ w.frozen? ⟨n, 1, none⟩ = false ∧ n < w.heap.size ∧ S ≤ n
theorem New.on {S n : Nat} (h : New S w' n) (hb : Below w'.heap.size w' w2) : New S w2 n := by
  obtain ⟨h0, h1, h2, h3, h4, h5⟩ := h
  exact ⟨(hb.cell (p := ⟨n, 0, none⟩) h4).trans h0, (hb.cell (p := ⟨n, 1, none⟩) h4).trans h1, (hb.frozen (p := ⟨n, 0, none⟩) h4).trans h2, (hb.frozen (p := ⟨n, 1, none⟩) h4).trans h3, Nat.lt_of_lt_of_le h4 hb.size, h5⟩
theorem New.made (h : Two B x1 y1 x2 y2 w W0 w') : New W0.heap.size (w'.alloc (.cells #[.int .i64 0, .int .i64 0] 35)) w'.heap.size :=
  ⟨by simp, by simp, by simp, by simp, by simp, h.2.2.2.2.2.2.size⟩
theorem New.drew {S n : Nat} (h : New S w' n) : New S w'.drew n := h.on (Below.refl _ _).drew
/-- What a statement leaves: a fraction's block, and all else as it was. -/
def Left (B : Nat) (x1 y1 x2 y2 : Int) (w W0 w' : World) (n : Nat) (t b : Int) : Prop :=
  w'.cell? ⟨n, 0, none⟩ = some (.int .i64 t) ∧ w'.cell? ⟨n, 1, none⟩ = some (.int .i64 b) ∧ n < w'.heap.size ∧ Two B x1 y1 x2 y2 w W0 w'
theorem Left.drew {n : Nat} {t b : Int} (h : Left B x1 y1 x2 y2 w W0 w' n t b) : Left B x1 y1 x2 y2 w W0 w'.drew n t b := ⟨h.1, h.2.1, h.2.2.1, h.2.2.2.drew⟩
theorem Left.made (h : Two B x1 y1 x2 y2 w W0 w') (t b : Int) : Left B x1 y1 x2 y2 w W0 (w'.alloc (.cells #[.int .i64 t, .int .i64 b] 35)) w'.heap.size t b :=
  ⟨by simp, by simp, by simp, h.alloc _⟩
theorem Left.set {n : Nat} (h : Two B x1 y1 x2 y2 w W0 w') (hw : B + 1 < W0.heap.size) (hN : New W0.heap.size w' n) (t b : Int) : Left B x1 y1 x2 y2 w W0 ((w'.setCell ⟨n, 0, none⟩ (.int .i64 t)).setCell ⟨n, 1, none⟩ (.int .i64 b)) n t b := by
  obtain ⟨a0, a1, b0, b1, sz, bl, bk⟩ := h
  obtain ⟨h0, h1, h2, h3, h4, h5⟩ := hN
  have hk : Below W0.heap.size w' ((w'.setCell ⟨n, 0, none⟩ (.int .i64 t)).setCell ⟨n, 1, none⟩ (.int .i64 b)) := ((Below.refl _ _).setCell h5 _).setCell h5 _
  refine ⟨?_, ?_, by simpa using h4, (hk.cell (p := ⟨B, 0, none⟩) (by simp; omega)).trans a0, (hk.cell (p := ⟨B, 1, none⟩) (by simp; omega)).trans a1,
   (hk.cell (p := ⟨B + 1, 0, none⟩) hw).trans b0, (hk.cell (p := ⟨B + 1, 1, none⟩) hw).trans b1, Nat.lt_of_lt_of_le sz hk.size, bl.trans (hk.mono (by omega)), bk.trans hk⟩
  · simp [go_sem, h0]
  · simp [go_sem, h1]
end

def addT (x1 y1 x2 y2 : Int) : Int := if fracOkP x1 y1 && fracOkP x2 y2 then resT (x1 * y2 + x2 * y1) (y1 * y2) else 0
def addB (x1 y1 x2 y2 : Int) : Int := if fracOkP x1 y1 && fracOkP x2 y2 then resB (x1 * y2 + x2 * y1) (y1 * y2) else 0
def addOk (x1 y1 x2 y2 : Int) : Bool := if fracOkP x1 y1 && fracOkP x2 y2 then rok (x1 * y2 + x2 * y1) (y1 * y2) else false
theorem addV_open (x1 y1 x2 y2 : Int) : addV x1 y1 x2 y2 = .tuple #[.agg #[.int .i64 (addT x1 y1 x2 y2), .int .i64 (addB x1 y1 x2 y2)], .bool (addOk x1 y1 x2 y2)] := by
  unfold addV addT addB addOk
  split <;> rfl
theorem implAddX (x1 y1 x2 y2 : Int) (w : World) :
    Calls Try.prog 29 #[.agg #[.int .i64 x1, .int .i64 y1], .agg #[.int .i64 x2, .int .i64 y2]] w fun e w' => e = .returned (.tuple #[.agg #[.int .i64 (addT x1 y1 x2 y2), .int .i64 (addB x1 y1 x2 y2)], .bool (addOk x1 y1 x2 y2)]) ∧ Below w.heap.size w w' := by
  rw [← addV_open]; exact implAddFractions x1 y1 x2 y2 w
theorem specAddX (x1 y1 x2 y2 : Int) (w : World) :
    Calls Try.prog 39 #[.agg #[.int .i64 x1, .int .i64 y1], .agg #[.int .i64 x2, .int .i64 y2]] w fun e w' => e = .returned (.tuple #[.agg #[.int .i64 (addT x1 y1 x2 y2), .int .i64 (addB x1 y1 x2 y2)], .bool (addOk x1 y1 x2 y2)]) ∧ Below w.heap.size w w' := by
  rw [← addV_open]; exact specAddFractions x1 y1 x2 y2 w

def timesT (x1 y1 x2 y2 : Int) : Int := if fracOkP x1 y1 && fracOkP x2 y2 then resT (x1 * x2) (y1 * y2) else 0
def timesB (x1 y1 x2 y2 : Int) : Int := if fracOkP x1 y1 && fracOkP x2 y2 then resB (x1 * x2) (y1 * y2) else 0
def timesOk (x1 y1 x2 y2 : Int) : Bool := if fracOkP x1 y1 && fracOkP x2 y2 then rok (x1 * x2) (y1 * y2) else false
theorem timesV_open (x1 y1 x2 y2 : Int) : timesV x1 y1 x2 y2 = .tuple #[.agg #[.int .i64 (timesT x1 y1 x2 y2), .int .i64 (timesB x1 y1 x2 y2)], .bool (timesOk x1 y1 x2 y2)] := by
  unfold timesV timesT timesB timesOk
  split <;> rfl
theorem implTimesX (x1 y1 x2 y2 : Int) (w : World) :
    Calls Try.prog 30 #[.agg #[.int .i64 x1, .int .i64 y1], .agg #[.int .i64 x2, .int .i64 y2]] w fun e w' => e = .returned (.tuple #[.agg #[.int .i64 (timesT x1 y1 x2 y2), .int .i64 (timesB x1 y1 x2 y2)], .bool (timesOk x1 y1 x2 y2)]) ∧ Below w.heap.size w w' := by
  rw [← timesV_open]; exact implTimesFractions x1 y1 x2 y2 w
def divideT (x1 y1 x2 y2 : Int) : Int := if fracOkP x1 y1 && fracOkP x2 y2 && !(x2 == 0) then resT (x1 * y2) (y1 * x2) else 0
def divideB (x1 y1 x2 y2 : Int) : Int := if fracOkP x1 y1 && fracOkP x2 y2 && !(x2 == 0) then resB (x1 * y2) (y1 * x2) else 0
def divideOk (x1 y1 x2 y2 : Int) : Bool := if fracOkP x1 y1 && fracOkP x2 y2 && !(x2 == 0) then rok (x1 * y2) (y1 * x2) else false
theorem divideV_open (x1 y1 x2 y2 : Int) : divideV x1 y1 x2 y2 = .tuple #[.agg #[.int .i64 (divideT x1 y1 x2 y2), .int .i64 (divideB x1 y1 x2 y2)], .bool (divideOk x1 y1 x2 y2)] := by
  unfold divideV divideT divideB divideOk
  split <;> rfl
theorem implDivideX (x1 y1 x2 y2 : Int) (w : World) :
    Calls Try.prog 32 #[.agg #[.int .i64 x1, .int .i64 y1], .agg #[.int .i64 x2, .int .i64 y2]] w fun e w' => e = .returned (.tuple #[.agg #[.int .i64 (divideT x1 y1 x2 y2), .int .i64 (divideB x1 y1 x2 y2)], .bool (divideOk x1 y1 x2 y2)]) ∧ Below w.heap.size w w' := by
  rw [← divideV_open]; exact implDivideFractions x1 y1 x2 y2 w
end Go.Proofs.Ytadacfammhianaa
