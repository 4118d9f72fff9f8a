/- A slice of votes of the call's own, each ranking in a block of its own; append onto it. -/
import Derived.Test.YtkofjdddmpebmaaGreatDoorProf
import Derived.Test.YtkofjdddmpebmaaGreatDoorHeads
namespace Go.Proofs.YtkofjdddmpebmaaGreatDoor
open Go.RowKit
set_option maxRecDepth 100000

section
variable {w w' : World} {A : Option Addr} {base n c sz : Nat} {e : TypeId} {vs : List Value}
theorem ownS_ge (h : w.ownsRow base e sz (.slice A n c) n vs) : ∀ a, A = some a → base ≤ a.block ∧ a.block < w.heap.size := by
  intro a ha
  subst ha
  exact h.lt a.block rfl
theorem ownS_cap (h : w.ownsRow base e sz (.slice A n c) n vs) : n ≤ c ∧ c ≤ maxLen := by
  rcases h.2 with ⟨hv, h0⟩ | ⟨g, cap, cur, hv, _, _, h1, h2, _⟩
  · injection hv with h1 h2 h3
    subst h3
    exact ⟨by omega, Nat.zero_le _⟩
  · injection hv with e1 e2 e3
    subst e3
    exact ⟨h1, h2⟩
theorem ownS_grown {row : Option Nat} (h : w.ownsRow base e sz (.slice A n c) n vs) (hg : w.grownBy w' row) (hr : ∀ a, A = some a → some a.block ≠ row) : w'.ownsRow base e sz (.slice A n c) n vs := by
  refine h.kept hg ?_
  cases A with
  | none => exact .inl rfl
  | some a => exact .inr (hr a rfl)
theorem ownS_below {B : Nat} (h : w.ownsRow base e sz (.slice A n c) n vs) (hb : Below B w w') (hr : ∀ a, A = some a → a.block < B) : w'.ownsRow base e sz (.slice A n c) n vs := by
  refine ⟨h.1, ?_⟩
  rcases h.2 with h0 | ⟨g, cap, cur, h1, h2, h3, h4⟩
  · exact .inl h0
  · have hA : A = some ⟨g, 0, none⟩ := by injection h1
    exact .inr ⟨g, cap, cur, h1, h2, (hb.block g (hr _ hA)).trans h3, h4⟩
theorem ownS_mono {base' : Nat} (h : w.ownsRow base e sz (.slice A n c) n vs) (hb : base' ≤ base) : w.ownsRow base' e sz (.slice A n c) n vs := by
  refine ⟨h.1, ?_⟩
  rcases h.2 with h0 | ⟨g, cap, cur, h1, h2, h3⟩
  · exact .inl h0
  · exact .inr ⟨g, cap, cur, h1, by omega, h3⟩
theorem ownS_form (h : w.ownsRow base e sz (.slice A n c) n vs) (hn : 0 < n) : ∃ g, A = some ⟨g, 0, none⟩ ∧ base ≤ g ∧ g < w.heap.size := by
  rcases h.2 with ⟨_, h0⟩ | ⟨g, cap, cur, hv, hb, hh, _⟩
  · omega
  · injection hv with h1 h2 h3
    subst h1
    exact ⟨g, rfl, hb, (ownS_ge h ⟨g, 0, none⟩ rfl).2⟩
theorem ownS_mid {lo hi : Nat} (h : w.ownsRow base e sz (.slice A n c) n vs) (k : Mid lo hi w w') (ho : ∀ a, A = some a → a.block < lo ∨ hi ≤ a.block) : w'.ownsRow base e sz (.slice A n c) n vs := by
  refine ⟨h.1, ?_⟩
  rcases h.2 with h0 | ⟨g, cap, cur, h1, h2, h3, h4⟩
  · exact .inl h0
  · have hA : A = some ⟨g, 0, none⟩ := by injection h1
    exact .inr ⟨g, cap, cur, h1, h2, (k.block g (ownS_ge h _ hA).2 (ho _ hA)).trans h3, h4⟩
end

/-- The k-th vote of a row. -/
def VC (vs : List Value) (G : Nat → Option Addr) (C : Nat → Nat) (R : Nat → List Int) (T : Nat → Int) (k : Nat) : Prop :=
  vs[k * 2]? = some (.slice (G k) (R k).length (C k)) ∧ vs[k * 2 + 1]? = some (.int .i64 (T k))
/-- A slice of votes of the call's own: each ranking lies in a block of its own. -/
structure OwnV (w : World) (base : Nat) (A : Option Addr) (n c : Nat) (G : Nat → Option Addr) (C : Nat → Nat) (R : Nat → List Int) (T : Nat → Int) : Prop where
  row : ∃ vs, w.ownsRow base 36 2 (.slice A n c) n vs ∧ ∀ k, k < n → VC vs G C R T k
  each : ∀ k, k < n → Own w base (G k) (R k).length (C k) (R k)
  apart : ∀ i j, i < j → j < n → ∀ a b, G i = some a → G j = some b → a.block ≠ b.block
  off : ∀ k, k < n → ∀ a g, G k = some a → A = some g → a.block ≠ g.block
/-- All its blocks lie below B. -/
def InV (A : Option Addr) (n : Nat) (G : Nat → Option Addr) (B : Nat) : Prop := (∀ a, A = some a → a.block < B) ∧ ∀ k, k < n → ∀ a, G k = some a → a.block < B

section
variable {w w' : World} {base n c : Nat} {A : Option Addr} {G : Nat → Option Addr} {C : Nat → Nat} {R : Nat → List Int} {T : Nat → Int}
theorem OwnV.nil_ (w : World) (base : Nat) (G : Nat → Option Addr) (C : Nat → Nat) (R : Nat → List Int) (T : Nat → Int) : OwnV w base none 0 0 G C R T :=
  ⟨⟨[], World.ownsRow_nil w base 36 2, fun k hk => absurd hk (by omega)⟩, fun k hk => absurd hk (by omega), fun i j _ hj => absurd hj (by omega), fun k hk => absurd hk (by omega)⟩
theorem OwnV.ge (h : OwnV w base A n c G C R T) : ∀ a, A = some a → base ≤ a.block ∧ a.block < w.heap.size := by
  obtain ⟨vs, hr, _⟩ := h.row
  exact ownS_ge hr
theorem OwnV.cap (h : OwnV w base A n c G C R T) : n ≤ c ∧ c ≤ maxLen := by
  obtain ⟨vs, hr, _⟩ := h.row
  exact ownS_cap hr
theorem OwnV.inn (h : OwnV w base A n c G C R T) : InV A n G w.heap.size := ⟨fun a ha => (h.ge a ha).2, fun k hk a ha => (own_ge (h.each k hk) a ha).2⟩
theorem OwnV.below {B : Nat} (h : OwnV w base A n c G C R T) (hb : Below B w w') (hB : w.heap.size ≤ B) : OwnV w' base A n c G C R T := by
  refine ⟨?_, fun k hk => own_below (h.each k hk) hb hB, h.apart, h.off⟩
  obtain ⟨vs, hr, hc⟩ := h.row
  exact ⟨vs, ownS_below hr hb (fun a ha => Nat.lt_of_lt_of_le (ownS_ge hr a ha).2 hB), hc⟩
theorem OwnV.on (h : OwnV w base A n c G C R T) (hb : Below w.heap.size w w') : OwnV w' base A n c G C R T := h.below hb (Nat.le_refl _)
theorem OwnV.belowIn {B : Nat} (h : OwnV w base A n c G C R T) (hb : Below B w w') (hi : InV A n G B) : OwnV w' base A n c G C R T := by
  refine ⟨?_, fun k hk => own_belowIn (h.each k hk) hb (hi.2 k hk), h.apart, h.off⟩
  obtain ⟨vs, hr, hc⟩ := h.row
  exact ⟨vs, ownS_below hr hb hi.1, hc⟩
theorem OwnV.mono {base' : Nat} (h : OwnV w base A n c G C R T) (hb : base' ≤ base) : OwnV w base' A n c G C R T := by
  refine ⟨?_, fun k hk => own_mono (h.each k hk) hb, h.apart, h.off⟩
  obtain ⟨vs, hr, hc⟩ := h.row
  exact ⟨vs, ownS_mono hr hb, hc⟩
theorem OwnV.congr {R' : Nat → List Int} {T' : Nat → Int} (h : OwnV w base A n c G C R T) (hR : ∀ k, k < n → R k = R' k) (hT : ∀ k, k < n → T k = T' k) : OwnV w base A n c G C R' T' := by
  refine ⟨?_, fun k hk => by rw [← hR k hk]; exact h.each k hk, h.apart, h.off⟩
  obtain ⟨vs, hr, hc⟩ := h.row
  exact ⟨vs, hr, fun k hk => by unfold VC; rw [← hR k hk, ← hT k hk]; exact hc k hk⟩
theorem OwnV.mid {lo hi : Nat} (h : OwnV w base A n c G C R T) (k : Mid lo hi w w') (h1 : ∀ a, A = some a → a.block < lo ∨ hi ≤ a.block) (h2 : ∀ k, k < n → ∀ a, G k = some a → a.block < lo ∨ hi ≤ a.block) : OwnV w' base A n c G C R T := by
  refine ⟨?_, fun j hj => own_mid (h.each j hj) k (h2 j hj), h.apart, h.off⟩
  obtain ⟨vs, hr, hc⟩ := h.row
  exact ⟨vs, ownS_mid hr k h1, hc⟩
theorem OwnV.cells (h : OwnV w base A n c G C R T) {k : Nat} (hk : k < n) : ∃ g, A = some ⟨g, 0, none⟩ ∧ base ≤ g ∧ g < w.heap.size ∧ w.cell? ⟨g, k * 2, none⟩ = some (.slice (G k) (R k).length (C k)) ∧ w.cell? ⟨g, k * 2 + 1, none⟩ = some (.int .i64 (T k)) ∧ w.frozen? ⟨g, k * 2, none⟩ = false ∧ w.frozen? ⟨g, k * 2 + 1, none⟩ = false := by
  obtain ⟨vs, hr, hc⟩ := h.row
  obtain ⟨g, rfl, h1, h2⟩ := ownS_form hr (by omega)
  refine ⟨g, rfl, h1, h2, ?_, ?_, hr.frozenAt _, hr.frozenAt _⟩
  · rw [hr.cellAt _ (by omega)]; exact (hc k hk).1
  · rw [hr.cellAt _ (by omega)]; exact (hc k hk).2
theorem OwnV.votes {vs : List (List Int × Int)} (h : OwnV w base A n c G C R T) (hl : vs.length = n) (hR : ∀ k, k < n → R k = rk vs k) (hT : ∀ k, k < n → T k = ct vs k) : Votes w A n vs := by
  refine ⟨hl, fun hn => ?_⟩
  obtain ⟨g, rfl, _, hg, _⟩ := h.cells hn
  refine ⟨g, 0, rfl, hg, fun j hj => ?_⟩
  obtain ⟨g', e, _, _, c0, c1, _⟩ := h.cells hj
  injection e with e
  injection e with e _ _
  subst e
  have hc := own_cap (h.each j hj)
  have ho := Ints.of_own (h.each j hj)
  rw [hR j hj] at c0 hc ho
  exact ⟨G j, C j, by rw [Nat.zero_add]; exact c0, hc.1, hc.2, ho, by rw [Nat.zero_add, ← hT j hj]; exact c1⟩
/-- One ranking is written anew, then its count. -/
theorem OwnV.marked {w1 : World} {g k : Nat} {xs : List Int} (h : OwnV w base (some ⟨g, 0, none⟩) n c G C R T) (hk : k < n) (hl : xs.length = (R k).length) (o1 : Own w1 base (G k) (R k).length (C k) xs) (gr : w.grownBy w1 ((G k).map (·.block))) (x : Int) :
    OwnV (w1.setCell ⟨g, k * 2 + 1, none⟩ (.int .i64 x)) base (some ⟨g, 0, none⟩) n c G C (fun j => if j = k then xs else R j) (fun j => if j = k then x else T j) := by
  obtain ⟨vs, hr, hc⟩ := h.row
  have hr1 : w1.ownsRow base 36 2 (.slice (some ⟨g, 0, none⟩) n c) n vs := ownS_grown hr gr (fun a ha he => by
    obtain ⟨a1, h1, h2⟩ := map_block he
    exact h.off k hk a1 a h1 ha h2)
  obtain ⟨s1, s2⟩ := hr1.stored (k * 2 + 1) (.int .i64 x)
  have hne : ∀ j, j < n → ∀ a, G j = some a → a.block ≠ g := fun j hj a ha => h.off j hj a ⟨g, 0, none⟩ ha rfl
  refine ⟨⟨_, s1, fun j hj => ?_⟩, fun j hj => ?_, h.apart, h.off⟩
  · have hlen := hr.1
    unfold VC
    dsimp only
    by_cases e : j = k
    · subst e
      rw [if_pos rfl, if_pos rfl, hl, List.getElem?_set_ne (by omega), List.getElem?_set_self (by omega)]
      exact ⟨(hc j hj).1, rfl⟩
    · rw [if_neg e, if_neg e, List.getElem?_set_ne (by omega), List.getElem?_set_ne (by omega)]
      exact hc j hj
  · by_cases e : j = k
    · subst e
      rw [if_pos rfl, hl]
      exact own_grown o1 s2 (fun a ha he => by injection he with he; exact hne j hj a ha he)
    · rw [if_neg e]
      refine own_grown (own_grown (h.each j hj) gr (fun a ha he => ?_)) s2 (fun a ha he => by injection he with he; exact hne j hj a ha he)
      obtain ⟨a1, h1, h2⟩ := map_block he
      rcases Nat.lt_or_gt_of_ne e with e2 | e2
      · exact h.apart j k e2 hk a a1 ha h1 h2.symm
      · exact h.apart k j e2 hj a1 a h1 ha h2
end

/-! ### append -/
theorem vc_lt {vs ws : List Value} {G : Nat → Option Addr} {C : Nat → Nat} {R : Nat → List Int} {T : Nat → Int} {k n : Nat} (h : VC vs G C R T k) (hl : vs.length = n * 2) (hk : k < n) (G1 : Option Addr) (C1 : Nat) (R1 : List Int) (T1 : Int) :
    VC (vs ++ ws) (fun j => if j = n then G1 else G j) (fun j => if j = n then C1 else C j) (fun j => if j = n then R1 else R j) (fun j => if j = n then T1 else T j) k := by
  unfold VC at h ⊢
  rw [List.getElem?_append_left (by omega), List.getElem?_append_left (by omega)]
  have e : k ≠ n := by omega
  simp only [if_neg e]
  exact h
theorem own_sliceV {w : World} {base : Nat} {v : Value} {n : Nat} {vs : List Value} (h : w.ownsRow base 36 2 v n vs) : ∃ A c, v = .slice A n c ∧ v.ownBlock = A.map (·.block) := by
  rcases h.2 with ⟨rfl, rfl⟩ | ⟨g, cap, cur, rfl, _⟩
  · exact ⟨none, 0, rfl, rfl⟩
  · exact ⟨some ⟨g, 0, none⟩, cap, rfl, rfl⟩
theorem run_apV {w : World} {base : Nat} {A : Option Addr} {n c : Nat} {G : Nat → Option Addr} {C : Nat → Nat} {R : Nat → List Int} {T : Nat → Int} (hown : OwnV w base A n c G C R T) (G1 : Option Addr) (C1 : Nat) (R1 : List Int) (T1 : Int) (g d : Nat)
    (hcell : w.cell? ⟨g, 0, none⟩ = some (.slice G1 R1.length C1)) (hcell1 : w.cell? ⟨g, 1, none⟩ = some (.int .i64 T1)) (ho : Own w base G1 R1.length C1 R1) (B : Nat) (hin : InV A n G B) (hfar : ∀ a, G1 = some a → B ≤ a.block) (ty : TypeId) (hlen : n ≤ 1048576) (hbase : base ≤ w.heap.size) :
    ∃ A' c' w', (Builtin.append_ #[22, 22] ty #[.slice A n c, .slice (some ⟨g, 0, none⟩) 1 d]).run Tryz.prog w = .ok (.slice A' (n + 1) c') w' ∧ OwnV w' base A' (n + 1) c' (fun j => if j = n then G1 else G j) (fun j => if j = n then C1 else C j) (fun j => if j = n then R1 else R j) (fun j => if j = n then T1 else T j) ∧ w.grownBy w' (A.map (·.block)) ∧
      (A'.map (·.block) = A.map (·.block) ∨ A'.map (·.block) = some w.heap.size) := by
  obtain ⟨i0, hi, hz0, hz1, hz2⟩ := info_parts infoVote
  obtain ⟨vs, hrow, hvc⟩ := hown.row
  have hvl := hrow.1
  have hcells : ∀ j u, ([.slice G1 R1.length C1, .int .i64 T1] : List Value)[j]? = some u → w.cell? ((⟨g, 0, none⟩ : Addr).add j) = some u := by
    intro j u hu
    match j, hu with
    | 0, hu =>
      simp at hu
      subst hu
      simpa [Addr.add] using hcell
    | 1, hu =>
      simp at hu
      subst hu
      simpa [Addr.add] using hcell1
  obtain ⟨v', w', q1, q2, q3, _, q5⟩ := run_append_own_at (P := Tryz.prog) w base 22 ty 36 i0 (.agg #[.slice none 0 0, .int .i64 0]) 2 32 Tryz.underlying22 hi hz0 hz1 hz2 rfl (by omega) (.slice A n c) n vs hrow
    ⟨g, 0, none⟩ 1 d [.slice G1 R1.length C1, .int .i64 T1] rfl hcells (by intro u hu; simp at hu; rcases hu with rfl | rfl <;> rfl) (by simp only [maxLen]; omega) (by omega) hbase
  obtain ⟨A', c', rfl, hb⟩ := own_sliceV q2
  rw [ownBlock_slice] at q3
  rw [ownBlock_slice, ownBlock_slice] at q5
  have hAlt : ∀ a, A = some a → a.block < B := hin.1
  have hA' : ∀ a, A' = some a → (∃ a0, A = some a0 ∧ a.block = a0.block) ∨ a.block = w.heap.size := by
    intro a ha
    rcases q5 with e | e
    · left
      rw [ha] at e
      obtain ⟨a0, h0, h2⟩ := map_block e
      exact ⟨a0, h0, h2.symm⟩
    · right
      rw [ha] at e
      injection e
  refine ⟨A', c', w', q1, ⟨⟨_, q2, ?_⟩, ?_, ?_, ?_⟩, q3, q5⟩
  · intro k hk
    by_cases e : k = n
    · subst e
      unfold VC
      simp only [if_true]
      rw [List.getElem?_append_right (by omega), List.getElem?_append_right (by omega), show k * 2 - vs.length = 0 by omega, show k * 2 + 1 - vs.length = 1 by omega]
      exact ⟨rfl, rfl⟩
    · exact vc_lt (hvc k (by omega)) hvl (by omega) G1 C1 R1 T1
  · intro k hk
    by_cases e : k = n
    · subst e
      simp only [if_true]
      refine own_grown ho q3 (fun a ha he => ?_)
      obtain ⟨a0, h0, h2⟩ := map_block he
      have := hfar a ha
      have := hAlt a0 h0
      omega
    · simp only [if_neg e]
      refine own_grown (hown.each k (by omega)) q3 (fun a ha he => ?_)
      obtain ⟨a0, h0, h2⟩ := map_block he
      exact hown.off k (by omega) a a0 ha h0 h2.symm
  · intro i j hij hj a b ha hb
    by_cases e : j = n
    · subst e
      simp only [if_true] at hb
      simp only [if_neg (show i ≠ j by omega)] at ha
      have := hin.2 i hij a ha
      have := hfar b hb
      omega
    · simp only [if_neg e] at hb
      simp only [if_neg (show i ≠ n by omega)] at ha
      exact hown.apart i j hij (by omega) a b ha hb
  · intro k hk a g' ha hg'
    have hlt : a.block < w.heap.size := by
      by_cases e : k = n
      · subst e
        simp only [if_true] at ha
        exact (own_ge ho a ha).2
      · simp only [if_neg e] at ha
        exact (own_ge (hown.each k (by omega)) a ha).2
    rcases hA' g' hg' with ⟨a0, h0, h2⟩ | h2
    · rw [h2]
      by_cases e : k = n
      · subst e
        simp only [if_true] at ha
        have := hfar a ha
        have := hAlt a0 h0
        omega
      · simp only [if_neg e] at ha
        exact hown.off k (by omega) a a0 ha h0
    · omega

theorem wpList_apV (w : World) {ops : Array Oper} {rest : List Oper} {o : Oper} {a : Act} {Q : Exit → Act → World → Prop} (hgd : o.guard = none) (s x : Operand)
    (ho : o.op = .call { callee := .builtin .append, args := #[s, x], argTypes := #[22, 22] })
    (base : Nat) (A : Option Addr) (n c : Nat) (G : Nat → Option Addr) (C : Nat → Nat) (R : Nat → List Int) (T : Nat → Int) (he : a.eval s = .slice A n c) (hown : OwnV w base A n c G C R T) (G1 : Option Addr) (C1 : Nat) (R1 : List Int) (T1 : Int) (g d : Nat) (hx : a.eval x = .slice (some ⟨g, 0, none⟩) 1 d)
    (hcell : w.cell? ⟨g, 0, none⟩ = some (.slice G1 R1.length C1)) (hcell1 : w.cell? ⟨g, 1, none⟩ = some (.int .i64 T1)) (hon : Own w base G1 R1.length C1 R1) (B : Nat) (hin : InV A n G B) (hfar : ∀ a, G1 = some a → B ≤ a.block) (hlen : n ≤ 1048576) (hbase : base ≤ w.heap.size)
    (hK : ∀ A' c' w', OwnV w' base A' (n + 1) c' (fun j => if j = n then G1 else G j) (fun j => if j = n then C1 else C j) (fun j => if j = n then R1 else R j) (fun j => if j = n then T1 else T j) → w.grownBy w' (A.map (·.block)) → (A'.map (·.block) = A.map (·.block) ∨ A'.map (·.block) = some w.heap.size) → wpList Tryz.prog ops Q rest (a.put o.dst (.slice A' (n + 1) c')) w') :
    wpList Tryz.prog ops Q (o :: rest) a w := by
  refine wpList_plain hgd fun K hKK => ?_
  obtain ⟨A', c', w', q1, q2, q3, q4⟩ := run_apV hown G1 C1 R1 T1 g d hcell hcell1 hon B hin hfar o.type hlen hbase
  unfold Oper.wp execOp
  simp only [ho, resolve, invoke, builtin, Sem.run_bind, Sem.run_pure, Result.andThen_ok, List.map_toArray, List.map_cons, List.map_nil, he, hx, q1]
  exact hKK _ _ (hK A' c' w' q2 q3 q4)
theorem InV.mono {A : Option Addr} {n : Nat} {G : Nat → Option Addr} {B B' : Nat} (h : InV A n G B) (hB : B ≤ B') : InV A n G B' := ⟨fun a ha => Nat.lt_of_lt_of_le (h.1 a ha) hB, fun k hk a ha => Nat.lt_of_lt_of_le (h.2 k hk a ha) hB⟩
theorem below_apV {a w w' : World} {base n c : Nat} {A : Option Addr} {G : Nat → Option Addr} {C : Nat → Nat} {R : Nat → List Int} {T : Nat → Int} (hb : Below base a w) (hown : OwnV w base A n c G C R T) (hg : w.grownBy w' (A.map (·.block))) (hbase : base ≤ w.heap.size) : Below base a w' :=
  hb.grown hg hbase fun k hk => by
    obtain ⟨ad, h1, h2⟩ := map_block hk.symm
    have := (hown.ge ad h1).1
    omega
theorem OwnV.alloc {w : World} {base n c : Nat} {A : Option Addr} {G : Nat → Option Addr} {C : Nat → Nat} {R : Nat → List Int} {T : Nat → Int} (h : OwnV w base A n c G C R T) (o : Obj) : OwnV (w.alloc o) base A n c G C R T := h.below ((Below.refl w.heap.size w).alloc (Nat.le_refl _) o) (Nat.le_refl _)
end Go.Proofs.YtkofjdddmpebmaaGreatDoor
