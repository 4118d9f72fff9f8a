/- append onto a slice of numbers of the call's own: what comes out. -/
import Derived.Test.YtkofjdddmpebmaaGreatDoorRange
import Derived.Maps.AppendAt
namespace Go.Proofs.YtkofjdddmpebmaaGreatDoor
open Go.RowKit
set_option maxRecDepth 100000

theorem run_ap_none {w : World} {base : Nat} {A : Option Addr} {n c : Nat} {xs : List Int} (hown : Own w base A n c xs) (ty : TypeId) (d : Nat) :
    (Builtin.append_ #[34, 34] ty #[.slice A n c, .slice none 0 d]).run Tryz.prog w = .ok (.slice A n c) w := by
  obtain ⟨i0, hi, hz0, hz1, hz2⟩ := info_parts infoInt
  rcases hown.2 with ⟨hv, rfl⟩ | ⟨g, cap, cur, hv, _, _, hnc, _⟩
  · injection hv with h1 h2 h3
    subst h1; subst h3
    simp [Builtin.append_, run_underlying Tryz.underlying34, sizeOf, typeInfo, hi, Builtin.lenOf, Builtin.firstCells]
  · injection hv with h1 h2 h3
    subst h1; subst h3
    simp [Builtin.append_, run_underlying Tryz.underlying34, sizeOf, typeInfo, hi, Builtin.lenOf, Builtin.firstCells, hnc, storeCells]

theorem own_slice {w : World} {base : Nat} {v : Value} {n : Nat} {xs : List Int} (h : w.ownsRow base 3 1 v n (iv xs)) : ∃ A c, v = .slice A n c ∧ Own w base A n c xs ∧ v.ownBlock = A.map (·.block) := by
  rcases h.2 with ⟨rfl, rfl⟩ | ⟨g, cap, cur, rfl, _⟩
  · exact ⟨none, 0, rfl, h, rfl⟩
  · exact ⟨some ⟨g, 0, none⟩, cap, rfl, h, rfl⟩
theorem ownBlock_slice (A : Option Addr) (n c : Nat) : (Value.slice A n c).ownBlock = A.map (·.block) := by cases A <;> rfl
theorem iv_append (xs ys : List Int) : iv (xs ++ ys) = iv xs ++ iv ys := by simp [iv]

theorem run_ap {w : World} {base : Nat} {A : Option Addr} {n c : Nat} {xs : List Int} (hown : Own w base A n c xs) {B : Option Addr} {m d : Nat} {ys : List Int} (hr : Ints w B m ys) (ty : TypeId)
    (hlen : n + m ≤ 1099511627776) (hbase : base ≤ w.heap.size) :
    ∃ A' c' w', (Builtin.append_ #[34, 34] ty #[.slice A n c, .slice B m d]).run Tryz.prog w = .ok (.slice A' (n + m) c') w' ∧ Own w' base A' (n + m) c' (xs ++ ys) ∧ w.grownBy w' (A.map (·.block)) ∧
      (A'.map (·.block) = A.map (·.block) ∨ A'.map (·.block) = some w.heap.size) := by
  obtain ⟨i0, hi, hz0, hz1, hz2⟩ := info_parts infoInt
  by_cases hB : B = none ∧ m = 0
  · obtain ⟨rfl, rfl⟩ := hB
    have hy : ys = [] := List.eq_nil_of_length_eq_zero hr.1
    subst hy
    exact ⟨A, c, w, run_ap_none hown ty d, by simpa using hown, World.grownBy.refl _ _, .inl rfl⟩
  · obtain ⟨ad, rfl⟩ : ∃ ad, B = some ad := by
      cases B with
      | some ad => exact ⟨ad, rfl⟩
      | none =>
        obtain ⟨b, o, e, _⟩ := hr.2 (by
          rcases Nat.eq_zero_or_pos m with h0 | h0
          · exact absurd ⟨rfl, h0⟩ hB
          · exact h0)
        cases e
    have hcells : ∀ j u, (iv ys)[j]? = some u → w.cell? (ad.add j) = some u := by
      intro j u hu
      have hj : j < ys.length := by have := (List.getElem?_eq_some_iff.1 hu).1; simpa [iv] using this
      obtain ⟨b, o, e, _, hc⟩ := hr.2 (by have := hr.1; omega)
      injection e with e
      subst e
      rw [Addr.add_lit, hc j (by have := hr.1; omega), ← iv_at hj]
      exact hu
    obtain ⟨v', w', h1, h2, h3, _, h5⟩ := run_append_own_at (P := Tryz.prog) w base 34 ty 3 i0 (.int .i64 0) 1 8 Tryz.underlying34 hi hz0 hz1 hz2 rfl (by omega) (.slice A n c) n (iv xs) hown
      ad m d (iv ys) (by rw [iv_len]; have := hr.1; omega) hcells iv_one (by simp only [maxLen]; omega) (by omega) hbase
    rw [← iv_append] at h2
    obtain ⟨A', c', rfl, ho, hb⟩ := own_slice h2
    rw [ownBlock_slice, ownBlock_slice] at h5
    rw [ownBlock_slice] at h3
    exact ⟨A', c', w', h1, ho, h3, h5⟩

/-- 'append' at the operations' list. -/
theorem wpList_ap (w : World) {ops : Array Oper} {rest : List Oper} {o : Oper} {a : Act} {Q : Exit → Act → World → Prop} (hgd : o.guard = none) (s x : Operand)
    (ho : o.op = .call { callee := .builtin .append, args := #[s, x], argTypes := #[34, 34] })
    (base : Nat) (A : Option Addr) (n c : Nat) (xs : List Int) (hs : a.eval s = .slice A n c) (hown : Own w base A n c xs)
    (B : Option Addr) (m d : Nat) (ys : List Int) (hx : a.eval x = .slice B m d) (hr : Ints w B m ys)
    (hlen : n + m ≤ 1099511627776) (hbase : base ≤ w.heap.size)
    (h : ∀ A' c' w', Own w' base A' (n + m) c' (xs ++ ys) → w.grownBy w' (A.map (·.block)) → (A'.map (·.block) = A.map (·.block) ∨ A'.map (·.block) = some w.heap.size) → wpList Tryz.prog ops Q rest (a.put o.dst (.slice A' (n + m) c')) w') :
    wpList Tryz.prog ops Q (o :: rest) a w := by
  refine wpList_plain hgd fun K hK => ?_
  obtain ⟨A', c', w', h1, h2, h3, h4⟩ := run_ap hown (d := d) hr o.type hlen hbase
  unfold Oper.wp execOp
  simp only [ho, resolve, invoke, builtin, Sem.run_bind, Sem.run_pure, Result.andThen_ok, List.map_toArray, List.map_cons, List.map_nil, hs, hx, h1]
  exact hK _ _ (h A' c' w' h2 h3 h4)

/-- The new one-cell block of 'append(out, x)'. -/
theorem ints_one (w : World) (x : Int) (t : TypeId) : Ints (w.alloc (.cells #[.int .i64 x] t)) (some ⟨w.heap.size, 0, none⟩) 1 [x] := by
  refine ⟨rfl, fun _ => ⟨w.heap.size, 0, rfl, by simp, fun j hj => ?_⟩⟩
  obtain rfl : j = 0 := by omega
  simp [nth]
theorem own_nil (w : World) (base : Nat) : Own w base none 0 0 [] := World.ownsRow_nil w base 3 1
theorem own_alloc {w : World} {base : Nat} {A : Option Addr} {n c : Nat} {xs : List Int} (h : Own w base A n c xs) (o : Obj) : Own (w.alloc o) base A n c xs := own_below (w := w) h ((Below.refl w.heap.size w).alloc (Nat.le_refl _) o) (Nat.le_refl _)
/-- An empty slice that is not nil. -/
theorem own_empty (w : World) {base : Nat} (h : base ≤ w.heap.size) : Own (w.alloc (.cells #[] 3)) base (some ⟨w.heap.size, 0, none⟩) 0 0 [] := World.ownsRow_lit (e := 3) (size := 1) w #[] 0 h (Nat.zero_le _) rfl
theorem map_block {A : Option Addr} {k : Nat} (h : some k = A.map (·.block)) : ∃ a, A = some a ∧ a.block = k := by
  cases A with
  | none => cases h
  | some a => injection h with h; exact ⟨a, rfl, h.symm⟩
/-- Below, behind an append onto a row of the call's own. -/
theorem below_ap {a w w' : World} {base : Nat} {A : Option Addr} {n c : Nat} {xs : List Int} (hb : Below base a w) (hown : Own w base A n c xs) (hg : w.grownBy w' (A.map (·.block))) (hbase : base ≤ w.heap.size) : Below base a w' :=
  hb.grown hg hbase fun k hk => by
    cases A with
    | none => cases hk
    | some ad => injection hk with hk; subst hk; exact (own_ge hown ad rfl).1
/-- 'append([]int{}, xs...)': a new row; all that was there stays. -/
theorem wpList_apnew (w : World) {ops : Array Oper} {rest : List Oper} {o : Oper} {a : Act} {Q : Exit → Act → World → Prop} (hgd : o.guard = none) (s x : Operand)
    (ho : o.op = .call { callee := .builtin .append, args := #[s, x], argTypes := #[34, 34] })
    (hs : a.eval s = .slice (some ⟨w.heap.size, 0, none⟩) 0 0) (A : Option Addr) (n c : Nat) (xs : List Int) (hx : a.eval x = .slice A n c) (h : Ints w A n xs)
    (hlen : n ≤ 1099511627776)
    (hK : ∀ A' c' w', Own w' w.heap.size A' n c' xs → Below w.heap.size w w' → wpList Tryz.prog ops Q rest (a.put o.dst (.slice A' n c')) w') :
    wpList Tryz.prog ops Q (o :: rest) a (w.alloc (.cells #[] 3)) := by
  have he := own_empty w (Nat.le_refl w.heap.size)
  have hb : Below w.heap.size w (w.alloc (.cells #[] 3)) := (Below.refl _ _).alloc (Nat.le_refl _) _
  refine wpList_ap _ hgd s x ho w.heap.size _ 0 0 [] hs he A n c xs hx (h.alloc _) (by omega) (by simp) ?_
  intro A' c' w' h1 h2 _
  rw [Nat.zero_add, List.nil_append] at h1
  rw [Nat.zero_add]
  exact hK A' c' w' h1 (below_ap hb he h2 (by simp))
theorem Ints.none_zero {w : World} {n : Nat} {xs : List Int} (h : Ints w none n xs) : n = 0 := by
  rcases Nat.eq_zero_or_pos n with h0 | h0
  · exact h0
  · obtain ⟨b, o, e, _⟩ := h.2 h0
    cases e
theorem Ints.empty {w : World} {A : Option Addr} {xs : List Int} (h : Ints w A 0 xs) : xs = [] := List.eq_nil_of_length_eq_zero h.1

end Go.Proofs.YtkofjdddmpebmaaGreatDoor
