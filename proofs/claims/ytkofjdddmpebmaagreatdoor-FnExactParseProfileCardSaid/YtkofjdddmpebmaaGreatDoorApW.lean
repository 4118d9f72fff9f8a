/- A vote is put behind a row of votes of the call's own, its ranking apart from theirs. -/
import Derived.Test.YtkofjdddmpebmaaGreatDoorStepV
namespace Go.Proofs.YtkofjdddmpebmaaGreatDoor
open Go.RowKit
set_option maxRecDepth 100000

theorem run_apW {w : World} {base : Nat} {A : Option Addr} {n c : Nat} {G : Nat → Option Addr} {C : Nat → Nat} {R : Nat → List Int} {T : Nat → Int} (hown : OwnV w base A n c G C R T) (G1 : Option Addr) (C1 : Nat) (R1 : List Int) (T1 : Int) (g d : Nat)
    (hcell : w.cell? ⟨g, 0, none⟩ = some (.slice G1 R1.length C1)) (hcell1 : w.cell? ⟨g, 1, none⟩ = some (.int .i64 T1)) (ho : Own w base G1 R1.length C1 R1) (hap1 : ∀ k, k < n → ∀ a b, G k = some a → G1 = some b → a.block ≠ b.block) (hap2 : ∀ a g, G1 = some a → A = some g → a.block ≠ g.block) (ty : TypeId) (hlen : n ≤ 1048576) (hbase : base ≤ w.heap.size) :
    ∃ A' c' w', (Builtin.append_ #[22, 22] ty #[.slice A n c, .slice (some ⟨g, 0, none⟩) 1 d]).run Tryz.prog w = .ok (.slice A' (n + 1) c') w' ∧ OwnV w' base A' (n + 1) c' (fun j => if j = n then G1 else G j) (fun j => if j = n then C1 else C j) (fun j => if j = n then R1 else R j) (fun j => if j = n then T1 else T j) ∧ w.grownBy w' (A.map (·.block)) ∧
      (A'.map (·.block) = A.map (·.block) ∨ A'.map (·.block) = some w.heap.size) := by
  obtain ⟨i0, hi, hz0, hz1, hz2⟩ := info_parts infoVote
  obtain ⟨vs, hrow, hvc⟩ := hown.row
  have hvl := hrow.1
  have hcells : ∀ j u, ([.slice G1 R1.length C1, .int .i64 T1] : List Value)[j]? = some u → w.cell? ((⟨g, 0, none⟩ : Addr).add j) = some u := by
    intro j u hu
    match j, hu with
    | 0, hu =>
      simp at hu
      subst hu
      simpa [Addr.add] using hcell
    | 1, hu =>
      simp at hu
      subst hu
      simpa [Addr.add] using hcell1
  obtain ⟨v', w', q1, q2, q3, _, q5⟩ := run_append_own_at (P := Tryz.prog) w base 22 ty 36 i0 (.agg #[.slice none 0 0, .int .i64 0]) 2 32 Tryz.underlying22 hi hz0 hz1 hz2 rfl (by omega) (.slice A n c) n vs hrow
    ⟨g, 0, none⟩ 1 d [.slice G1 R1.length C1, .int .i64 T1] rfl hcells (by intro u hu; simp at hu; rcases hu with rfl | rfl <;> rfl) (by simp only [maxLen]; omega) (by omega) hbase
  obtain ⟨A', c', rfl, hb⟩ := own_sliceV q2
  rw [ownBlock_slice] at q3
  rw [ownBlock_slice, ownBlock_slice] at q5
  have hA' : ∀ a, A' = some a → (∃ a0, A = some a0 ∧ a.block = a0.block) ∨ a.block = w.heap.size := by
    intro a ha
    rcases q5 with e | e
    · left
      rw [ha] at e
      obtain ⟨a0, h0, h2⟩ := map_block e
      exact ⟨a0, h0, h2.symm⟩
    · right
      rw [ha] at e
      injection e
  refine ⟨A', c', w', q1, ⟨⟨_, q2, ?_⟩, ?_, ?_, ?_⟩, q3, q5⟩
  · intro k hk
    by_cases e : k = n
    · subst e
      unfold VC
      simp only [if_true]
      rw [List.getElem?_append_right (by omega), List.getElem?_append_right (by omega), show k * 2 - vs.length = 0 by omega, show k * 2 + 1 - vs.length = 1 by omega]
      exact ⟨rfl, rfl⟩
    · exact vc_lt (hvc k (by omega)) hvl (by omega) G1 C1 R1 T1
  · intro k hk
    by_cases e : k = n
    · subst e
      simp only [if_true]
      refine own_grown ho q3 (fun a ha he => ?_)
      obtain ⟨a0, h0, h2⟩ := map_block he
      exact hap2 a a0 ha h0 h2.symm
    · simp only [if_neg e]
      refine own_grown (hown.each k (by omega)) q3 (fun a ha he => ?_)
      obtain ⟨a0, h0, h2⟩ := map_block he
      exact hown.off k (by omega) a a0 ha h0 h2.symm
  · intro i j hij hj a b ha hb
    by_cases e : j = n
    · subst e
      simp only [if_true] at hb
      simp only [if_neg (show i ≠ j by omega)] at ha
      exact hap1 i hij a b ha hb
    · simp only [if_neg e] at hb
      simp only [if_neg (show i ≠ n by omega)] at ha
      exact hown.apart i j hij (by omega) a b ha hb
  · intro k hk a g' ha hg'
    have hlt : a.block < w.heap.size := by
      by_cases e : k = n
      · subst e
        simp only [if_true] at ha
        exact (own_ge ho a ha).2
      · simp only [if_neg e] at ha
        exact (own_ge (hown.each k (by omega)) a ha).2
    rcases hA' g' hg' with ⟨a0, h0, h2⟩ | h2
    · rw [h2]
      by_cases e : k = n
      · subst e
        simp only [if_true] at ha
        exact hap2 a a0 ha h0
      · simp only [if_neg e] at ha
        exact hown.off k (by omega) a a0 ha h0
    · omega

theorem wpList_apW (w : World) {ops : Array Oper} {rest : List Oper} {o : Oper} {a : Act} {Q : Exit → Act → World → Prop} (hgd : o.guard = none) (s x : Operand)
    (ho : o.op = .call { callee := .builtin .append, args := #[s, x], argTypes := #[22, 22] })
    (base : Nat) (A : Option Addr) (n c : Nat) (G : Nat → Option Addr) (C : Nat → Nat) (R : Nat → List Int) (T : Nat → Int) (he : a.eval s = .slice A n c) (hown : OwnV w base A n c G C R T) (G1 : Option Addr) (C1 : Nat) (R1 : List Int) (T1 : Int) (g d : Nat) (hx : a.eval x = .slice (some ⟨g, 0, none⟩) 1 d)
    (hcell : w.cell? ⟨g, 0, none⟩ = some (.slice G1 R1.length C1)) (hcell1 : w.cell? ⟨g, 1, none⟩ = some (.int .i64 T1)) (hon : Own w base G1 R1.length C1 R1) (hap1 : ∀ k, k < n → ∀ a b, G k = some a → G1 = some b → a.block ≠ b.block) (hap2 : ∀ a g, G1 = some a → A = some g → a.block ≠ g.block) (hlen : n ≤ 1048576) (hbase : base ≤ w.heap.size)
    (hK : ∀ A' c' w', OwnV w' base A' (n + 1) c' (fun j => if j = n then G1 else G j) (fun j => if j = n then C1 else C j) (fun j => if j = n then R1 else R j) (fun j => if j = n then T1 else T j) → w.grownBy w' (A.map (·.block)) → (A'.map (·.block) = A.map (·.block) ∨ A'.map (·.block) = some w.heap.size) → wpList Tryz.prog ops Q rest (a.put o.dst (.slice A' (n + 1) c')) w') :
    wpList Tryz.prog ops Q (o :: rest) a w := by
  refine wpList_plain hgd fun K hKK => ?_
  obtain ⟨A', c', w', q1, q2, q3, q4⟩ := run_apW hown G1 C1 R1 T1 g d hcell hcell1 hon hap1 hap2 o.type hlen hbase
  unfold Oper.wp execOp
  simp only [ho, resolve, invoke, builtin, Sem.run_bind, Sem.run_pure, Result.andThen_ok, List.map_toArray, List.map_cons, List.map_nil, he, hx, q1]
  exact hKK _ _ (hK A' c' w' q2 q3 q4)
end Go.Proofs.YtkofjdddmpebmaaGreatDoor
