/- Votes are appended one by one: laws for a statement that draws its order. -/
import Derived.Test.YtkofjdddmpebmaaGreatDoorOwnV
import Derived.Deep.RegionHeldLaw
namespace Go.Proofs.YtkofjdddmpebmaaGreatDoor
open Go.RowKit
set_option maxRecDepth 100000

theorem step_apnew (w : World) {ops : Array Oper} {o : Oper} {a : Act} {K : Act → World → Prop} {Q : Exit → Act → World → Prop} {E : Prop} (hgd : o.guard = none) (s x : Operand)
    (ho : o.op = .call { callee := .builtin .append, args := #[s, x], argTypes := #[34, 34] })
    (hs : a.eval s = .slice (some ⟨w.heap.size, 0, none⟩) 0 0) (A : Option Addr) (n c : Nat) (xs : List Int) (hx : a.eval x = .slice A n c) (h : Ints w A n xs)
    (hlen : n ≤ 1099511627776)
    (hK : ∀ A' c' w', Own w' w.heap.size A' n c' xs → Below w.heap.size w w' → K (a.put o.dst (.slice A' n c')) w') :
    if Region.wanted o (yielded ops a.tmps) = true then Oper.wp Tryz.prog o a (w.alloc (.cells #[] 3)) K Q else E := by
  have hw : Region.wanted o (yielded ops a.tmps) = true := by simp [Region.wanted, hgd]
  rw [if_pos hw]
  have he := own_empty w (Nat.le_refl w.heap.size)
  have hb : Below w.heap.size w (w.alloc (.cells #[] 3)) := (Below.refl _ _).alloc (Nat.le_refl _) _
  obtain ⟨A', c', w', h1, h2, h3, h4⟩ := run_ap he (d := c) (h.alloc (.cells #[] 3)) o.type (by omega) (by simp)
  rw [Nat.zero_add] at h1 h2
  rw [List.nil_append] at h2
  unfold Oper.wp execOp
  simp only [ho, resolve, invoke, builtin, Sem.run_bind, Sem.run_pure, Result.andThen_ok, List.map_toArray, List.map_cons, List.map_nil, hs, hx, h1]
  exact hK A' c' w' h2 (below_ap hb he h3 (by simp))

theorem step_apV (w : World) {ops : Array Oper} {o : Oper} {a : Act} {K : Act → World → Prop} {Q : Exit → Act → World → Prop} {E : Prop} (hgd : o.guard = none) (s x : Operand)
    (ho : o.op = .call { callee := .builtin .append, args := #[s, x], argTypes := #[22, 22] })
    (base : Nat) (A : Option Addr) (n c : Nat) (G : Nat → Option Addr) (C : Nat → Nat) (R : Nat → List Int) (T : Nat → Int) (he : a.eval s = .slice A n c) (hown : OwnV w base A n c G C R T) (G1 : Option Addr) (C1 : Nat) (R1 : List Int) (T1 : Int) (g d : Nat) (hx : a.eval x = .slice (some ⟨g, 0, none⟩) 1 d)
    (hcell : w.cell? ⟨g, 0, none⟩ = some (.slice G1 R1.length C1)) (hcell1 : w.cell? ⟨g, 1, none⟩ = some (.int .i64 T1)) (hon : Own w base G1 R1.length C1 R1) (B : Nat) (hin : InV A n G B) (hfar : ∀ a, G1 = some a → B ≤ a.block) (hlen : n ≤ 1048576) (hbase : base ≤ w.heap.size)
    (hK : ∀ A' c' w', OwnV w' base A' (n + 1) c' (fun j => if j = n then G1 else G j) (fun j => if j = n then C1 else C j) (fun j => if j = n then R1 else R j) (fun j => if j = n then T1 else T j) → w.grownBy w' (A.map (·.block)) → (A'.map (·.block) = A.map (·.block) ∨ A'.map (·.block) = some w.heap.size) → K (a.put o.dst (.slice A' (n + 1) c')) w') :
    if Region.wanted o (yielded ops a.tmps) = true then Oper.wp Tryz.prog o a w K Q else E := by
  have hw : Region.wanted o (yielded ops a.tmps) = true := by simp [Region.wanted, hgd]
  rw [if_pos hw]
  obtain ⟨A', c', w', q1, q2, q3, q4⟩ := run_apV hown G1 C1 R1 T1 g d hcell hcell1 hon B hin hfar o.type hlen hbase
  unfold Oper.wp execOp
  simp only [ho, resolve, invoke, builtin, Sem.run_bind, Sem.run_pure, Result.andThen_ok, List.map_toArray, List.map_cons, List.map_nil, he, hx, q1]
  exact hK A' c' w' q2 q3 q4

theorem Mid.on {lo hi : Nat} {a b c : World} (h : Mid lo hi a b) (k : Below b.heap.size b c) : Mid lo hi a c :=
  ⟨k.os.trans h.os, k.tape.trans h.tape, k.output.trans h.output, Nat.le_trans h.size k.size, fun i hi' ho => (k.block i (Nat.lt_of_lt_of_le hi' h.size)).trans (h.block i hi' ho)⟩
theorem Mid.grown {lo hi : Nat} {a b c : World} {row : Option Nat} (h : Mid lo hi a b) (g : b.grownBy c row) (hr : ∀ r, row = some r → a.heap.size ≤ r) : Mid lo hi a c :=
  ⟨g.os.trans h.os, g.tape.trans h.tape, g.output.trans h.output, Nat.le_trans h.size g.size, fun i hi' ho => (g.block i (Nat.lt_of_lt_of_le hi' h.size) (fun e => by have := hr i e.symm; omega)).trans (h.block i hi' ho)⟩
theorem Mid.drew {lo hi : Nat} {a b : World} (h : Mid lo hi a b) : Mid lo hi a b.drew := ⟨h.os, h.tape, h.output, h.size, h.block⟩
/-- A cell of another block than the row that grew. -/
theorem far_cell {w w' : World} {A : Option Addr} (hg : w.grownBy w' (A.map (·.block))) {b o : Nat} {v : Value} (hb : b < w.heap.size) (hne : ∀ a, A = some a → a.block ≠ b) (h : w.cell? ⟨b, o, none⟩ = some v) : w'.cell? ⟨b, o, none⟩ = some v :=
  (World.cell?_of_block (w := w) (a := ⟨b, o, none⟩) (hg.block b hb (fun he => by obtain ⟨a, h1, h2⟩ := map_block he; exact hne a h1 h2))).trans h
theorem far_frozen {w w' : World} {A : Option Addr} (hg : w.grownBy w' (A.map (·.block))) {b o : Nat} {v : Bool} (hb : b < w.heap.size) (hne : ∀ a, A = some a → a.block ≠ b) (h : w.frozen? ⟨b, o, none⟩ = v) : w'.frozen? ⟨b, o, none⟩ = v :=
  (World.frozen?_of_block (w := w) (a := ⟨b, o, none⟩) (hg.block b hb (fun he => by obtain ⟨a, h1, h2⟩ := map_block he; exact hne a h1 h2))).trans h
theorem OwnV.setOther {w : World} {base n c : Nat} {A : Option Addr} {G : Nat → Option Addr} {C : Nat → Nat} {R : Nat → List Int} {T : Nat → Int} (h : OwnV w base A n c G C R T) {p : Addr} (hp : p.block < base) (v : Value) : OwnV (w.setCell p v) base A n c G C R T :=
  h.mid (Mid.setCell (lo := p.block) (hi := p.block + 1) w ⟨Nat.le_refl _, Nat.lt_succ_self _⟩ v) (fun a ha => .inr (by have := (h.ge a ha).1; omega)) (fun j hj a ha => .inr (by have := (own_ge (h.each j hj) a ha).1; omega))
theorem upd_same {α : Type} (f : Nat → α) (k j : Nat) : (if j = k then f k else f j) = f j := by
  by_cases e : j = k
  · rw [if_pos e, e]
  · rw [if_neg e]
/-- One ranking is replaced. -/
theorem OwnV.setRank {w : World} {base g n c k : Nat} {G : Nat → Option Addr} {C : Nat → Nat} {R : Nat → List Int} {T : Nat → Int} (h : OwnV w base (some ⟨g, 0, none⟩) n c G C R T) (hk : k < n) {G1 : Option Addr} {C1 : Nat} {R1 : List Int} (o1 : Own w base G1 R1.length C1 R1) {B : Nat} (hin : InV (some ⟨g, 0, none⟩) n G B) (hfar : ∀ a, G1 = some a → B ≤ a.block) :
    OwnV (w.setCell ⟨g, k * 2, none⟩ (.slice G1 R1.length C1)) base (some ⟨g, 0, none⟩) n c (fun j => if j = k then G1 else G j) (fun j => if j = k then C1 else C j) (fun j => if j = k then R1 else R j) T := by
  obtain ⟨vs, hr, hc⟩ := h.row
  obtain ⟨s1, s2⟩ := hr.stored (k * 2) (.slice G1 R1.length C1)
  have hg : g < B := hin.1 ⟨g, 0, none⟩ rfl
  refine ⟨⟨_, s1, fun j hj => ?_⟩, fun j hj => ?_, fun i j hij hj a b ha hb => ?_, fun j hj a g' ha hg' => ?_⟩
  · have hlen := hr.1
    unfold VC
    by_cases e : j = k
    · subst e
      simp only [if_true]
      rw [List.getElem?_set_self (by omega), List.getElem?_set_ne (by omega)]
      exact ⟨rfl, (hc j hj).2⟩
    · simp only [if_neg e]
      rw [List.getElem?_set_ne (by omega), List.getElem?_set_ne (by omega)]
      exact hc j hj
  · by_cases e : j = k
    · subst e
      simp only [if_true]
      exact own_grown o1 s2 (fun a ha he => by injection he with he; have := hfar a ha; omega)
    · simp only [if_neg e]
      exact own_grown (h.each j hj) s2 (fun a ha he => by injection he with he; exact h.off j hj a ⟨g, 0, none⟩ ha rfl he)
  · by_cases e1 : i = k
    · subst e1
      simp only [if_true] at ha
      simp only [if_neg (show j ≠ i by omega)] at hb
      have := hfar a ha
      have := hin.2 j hj b hb
      omega
    · simp only [if_neg e1] at ha
      by_cases e2 : j = k
      · subst e2
        simp only [if_true] at hb
        have := hfar b hb
        have := hin.2 i (by omega) a ha
        omega
      · simp only [if_neg e2] at hb
        exact h.apart i j hij hj a b ha hb
  · injection hg' with hg'
    subst hg'
    show a.block ≠ g
    by_cases e : j = k
    · subst e
      simp only [if_true] at ha
      have := hfar a ha
      omega
    · simp only [if_neg e] at ha
      exact h.off j hj a ⟨g, 0, none⟩ ha rfl
end Go.Proofs.YtkofjdddmpebmaaGreatDoor
