/- append onto a slice of slices of the call's own. -/
import Derived.Test.YtaclpilehlednaaHeads
namespace Go.Proofs.Ytaclpilehlednaa
open Go.RowKit
set_option maxRecDepth 100000

theorem infoInts : (Try.prog.info? 22).map (fun i => (i.zero, i.size, i.bytes)) = some (some (.slice none 0 0), 1, 24) := by kernel_rfl
theorem hvs_append (hs ks : List Hd) : hvs (hs ++ ks) = hvs hs ++ hvs ks := by simp [hvs]
theorem cont_append (hs ks : List Hd) : cont (hs ++ ks) = cont hs ++ cont ks := by simp [cont]
theorem hnth_lt {hs ks : List Hd} {k : Nat} (h : k < hs.length) : hnth (hs ++ ks) k = hnth hs k := by
  simp [hnth, List.getD, List.getElem?_append_left h]
theorem hnth_last (hs : List Hd) (h : Hd) : hnth (hs ++ [h]) hs.length = h := by simp [hnth, List.getD]
theorem own_sliceL {w : World} {base : Nat} {v : Value} {n : Nat} {vs : List Value} (h : w.ownsRow base 22 1 v n vs) : ∃ A c, v = .slice A n c ∧ v.ownBlock = A.map (·.block) := by
  rcases h.2 with ⟨rfl, rfl⟩ | ⟨g, cap, cur, rfl, _⟩
  · exact ⟨none, 0, rfl, rfl⟩
  · exact ⟨some ⟨g, 0, none⟩, cap, rfl, rfl⟩
theorem hv_one (h : Hd) : ∀ u ∈ [hv h], u.oneCell' = true := by
  intro u hu
  simp at hu
  subst hu
  rfl

theorem run_apL {w : World} {base : Nat} {A : Option Addr} {n c : Nat} {hs : List Hd} (hown : OwnL w base A n c hs) (h1 : Hd) (g : Nat) (d : Nat)
    (hcell : w.cell? ⟨g, 0, none⟩ = some (hv h1)) (ho : Own w base h1.1 h1.2.2.length h1.2.1 h1.2.2) (T : Nat) (hin : InL A hs T) (hfar : ∀ a, h1.1 = some a → T ≤ a.block) (ty : TypeId) (hlen : n ≤ 1048576) (hbase : base ≤ w.heap.size) :
    ∃ A' c' w', (Builtin.append_ #[35, 35] ty #[.slice A n c, .slice (some ⟨g, 0, none⟩) 1 d]).run Try.prog w = .ok (.slice A' (n + 1) c') w' ∧ OwnL w' base A' (n + 1) c' (hs ++ [h1]) ∧ w.grownBy w' (A.map (·.block)) ∧
      (A'.map (·.block) = A.map (·.block) ∨ A'.map (·.block) = some w.heap.size) := by
  obtain ⟨i0, hi, hz0, hz1, hz2⟩ := info_parts infoInts
  have hlen' := hown.len
  have hcells : ∀ j u, ([hv h1] : List Value)[j]? = some u → w.cell? ((⟨g, 0, none⟩ : Addr).add j) = some u := by
    intro j u hu
    match j, hu with
    | 0, hu =>
      simp at hu
      subst hu
      simpa [Addr.add] using hcell
  obtain ⟨v', w', q1, q2, q3, _, q5⟩ := run_append_own_at (P := Try.prog) w base 35 ty 22 i0 (.slice none 0 0) 1 24 Try.underlying35 hi hz0 hz1 hz2 rfl (by omega) (.slice A n c) n (hvs hs) hown.row
    ⟨g, 0, none⟩ 1 d [hv h1] rfl hcells (hv_one h1) (by simp only [maxLen]; omega) (by omega) hbase
  have hq : hvs hs ++ [hv h1] = hvs (hs ++ [h1]) := by rw [hvs_append]; rfl
  rw [hq] at q2
  obtain ⟨A', c', rfl, hb⟩ := own_sliceL q2
  rw [ownBlock_slice] at q3
  rw [ownBlock_slice, ownBlock_slice] at q5
  have hAlt : ∀ a, A = some a → a.block < T := hin.1
  have hA' : ∀ a, A' = some a → (∃ a0, A = some a0 ∧ a.block = a0.block) ∨ a.block = w.heap.size := by
    intro a ha
    rcases q5 with e | e
    · left
      rw [ha] at e
      obtain ⟨a0, h0, h2⟩ := map_block e
      exact ⟨a0, h0, h2.symm⟩
    · right
      rw [ha] at e
      injection e
  refine ⟨A', c', w', q1, ⟨q2, ?_, ?_, ?_⟩, q3, q5⟩
  · intro k hk
    rw [List.length_append, List.length_singleton] at hk
    by_cases e : k = hs.length
    · subst e
      simp only [hA, hl, hx, hc, hnth_last]
      refine own_grown ho q3 (fun a ha he => ?_)
      obtain ⟨a0, h0, h2⟩ := map_block he
      have := hfar a ha
      have := hAlt a0 h0
      omega
    · have hk2 : k < hs.length := by omega
      have := hown.each k hk2
      simp only [hA, hl, hx, hc, hnth_lt hk2] at this ⊢
      refine own_grown this q3 (fun a ha he => ?_)
      obtain ⟨a0, h0, h2⟩ := map_block he
      exact hown.off k hk2 a a0 ha h0 h2.symm
  · intro i j hij hj a b ha hb
    rw [List.length_append, List.length_singleton] at hj
    by_cases e : j = hs.length
    · subst e
      simp only [hA, hnth_last] at hb
      simp only [hA, hnth_lt hij] at ha
      have := hin.2 i hij a ha
      have := hfar b hb
      omega
    · have hj2 : j < hs.length := by omega
      simp only [hA, hnth_lt hj2] at hb
      simp only [hA, hnth_lt (show i < hs.length by omega)] at ha
      exact hown.apart i j hij hj2 a b ha hb
  · intro k hk a g' ha hg'
    rw [List.length_append, List.length_singleton] at hk
    have hlt : a.block < w.heap.size := by
      by_cases e : k = hs.length
      · subst e
        simp only [hA, hnth_last] at ha
        exact (own_ge ho a ha).2
      · have hk2 : k < hs.length := by omega
        simp only [hA, hnth_lt hk2] at ha
        exact (own_ge (hown.each k hk2) a ha).2
    rcases hA' g' hg' with ⟨a0, h0, h2⟩ | h2
    · rw [h2]
      by_cases e : k = hs.length
      · subst e
        simp only [hA, hnth_last] at ha
        have := hfar a ha
        have := hAlt a0 h0
        omega
      · have hk2 : k < hs.length := by omega
        simp only [hA, hnth_lt hk2] at ha
        exact hown.off k hk2 a a0 ha h0
    · omega

theorem wpList_apL (w : World) {ops : Array Oper} {rest : List Oper} {o : Oper} {a : Act} {Q : Exit → Act → World → Prop} (hgd : o.guard = none) (s x : Operand)
    (ho : o.op = .call { callee := .builtin .append, args := #[s, x], argTypes := #[35, 35] })
    (base : Nat) (A : Option Addr) (n c : Nat) (hs : List Hd) (he : a.eval s = .slice A n c) (hown : OwnL w base A n c hs) (h1 : Hd) (g d : Nat) (hx : a.eval x = .slice (some ⟨g, 0, none⟩) 1 d)
    (hcell : w.cell? ⟨g, 0, none⟩ = some (hv h1)) (hon : Own w base h1.1 h1.2.2.length h1.2.1 h1.2.2) (T : Nat) (hin : InL A hs T) (hfar : ∀ a, h1.1 = some a → T ≤ a.block) (hlen : n ≤ 1048576) (hbase : base ≤ w.heap.size)
    (hK : ∀ A' c' w', OwnL w' base A' (n + 1) c' (hs ++ [h1]) → w.grownBy w' (A.map (·.block)) → (A'.map (·.block) = A.map (·.block) ∨ A'.map (·.block) = some w.heap.size) → wpList Try.prog ops Q rest (a.put o.dst (.slice A' (n + 1) c')) w') :
    wpList Try.prog ops Q (o :: rest) a w := by
  refine wpList_plain hgd fun K hKK => ?_
  obtain ⟨A', c', w', q1, q2, q3, q4⟩ := run_apL hown h1 g d hcell hon T hin hfar o.type hlen hbase
  unfold Oper.wp execOp
  simp only [ho, resolve, invoke, builtin, Sem.run_bind, Sem.run_pure, Result.andThen_ok, List.map_toArray, List.map_cons, List.map_nil, he, hx, q1]
  exact hKK _ _ (hK A' c' w' q2 q3 q4)

theorem InL.mono {A : Option Addr} {hs : List Hd} {T T' : Nat} (h : InL A hs T) (hT : T ≤ T') : InL A hs T' := ⟨fun a ha => Nat.lt_of_lt_of_le (h.1 a ha) hT, fun k hk a ha => Nat.lt_of_lt_of_le (h.2 k hk a ha) hT⟩
/-- Lists of the call's own stay where a row outside their range is written. -/
theorem OwnL.far {w w' : World} {base n c T : Nat} {A : Option Addr} {hs : List Hd} {row : Option Nat} (h : OwnL w base A n c hs) (hg : w.grownBy w' row) (hin : InL A hs T) (hr : ∀ r, row = some r → r < base ∨ T ≤ r) : OwnL w' base A n c hs :=
  ⟨own_grown h.row hg (fun a ha he => by have := hr _ he.symm; have := own_ge h.row a ha; have := hin.1 a ha; omega),
   fun k hk => own_grown (h.each k hk) hg (fun a ha he => by have := hr _ he.symm; have := own_ge (h.each k hk) a ha; have := hin.2 k hk a ha; omega), h.apart, h.off⟩
theorem below_apL {a w w' : World} {base n c : Nat} {A : Option Addr} {hs : List Hd} (hb : Below base a w) (hown : OwnL w base A n c hs) (hg : w.grownBy w' (A.map (·.block))) (hbase : base ≤ w.heap.size) : Below base a w' :=
  hb.grown hg hbase fun k hk => by
    obtain ⟨ad, h1, h2⟩ := map_block hk.symm
    have := (own_ge hown.row ad h1).1
    omega
theorem own_allocL {w : World} {base n c : Nat} {A : Option Addr} {hs : List Hd} (h : OwnL w base A n c hs) (o : Obj) : OwnL (w.alloc o) base A n c hs := h.below ((Below.refl w.heap.size w).alloc (Nat.le_refl _) o) (Nat.le_refl _)
/-- A slice of one list, laid as a literal. -/
theorem ownL_one (w : World) (base : Nat) (hb : base ≤ w.heap.size) : OwnL (w.alloc (.cells #[.slice none 0 0] 22)) base (some ⟨w.heap.size, 0, none⟩) 1 1 [(none, 0, [])] := by
  refine ⟨World.ownsRow_lit (e := 22) (size := 1) w #[.slice none 0 0] 1 hb (by simp [maxLen]) rfl, ?_, ?_, ?_⟩
  · intro k hk
    obtain rfl : k = 0 := by simpa using hk
    exact own_nil _ _
  · intro i j hij hj
    simp at hj
    omega
  · intro k hk a g ha
    obtain rfl : k = 0 := by simpa using hk
    cases ha
end Go.Proofs.Ytaclpilehlednaa
