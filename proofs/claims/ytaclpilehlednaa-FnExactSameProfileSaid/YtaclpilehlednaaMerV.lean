/- Votes appended whose rankings lie in blocks that were there before; two rankings compared. -/
import Derived.Test.YtaclpilehlednaaCloneV
import Derived.Test.YtaclpilehlednaaNum
namespace Go.Proofs.Ytaclpilehlednaa
open Go.RowKit
set_option maxRecDepth 100000

theorem ret_boolM {a b : Bool} (h : a = b) : Ending.returned (.bool a) = .returned (.bool b) := by rw [h]
set_option maxHeartbeats 1000000 in
theorem specSame (A B : Option Addr) (n c m d : Nat) (xs ys : List Int) (w : World) (h : Ints w A n xs) (h' : Ints w B m ys) (hn : (n : Int) ≤ 1048576) (hm : (m : Int) ≤ 1048576) :
    Calls Try.prog 72 #[.slice A n c, .slice B m d] w fun e w' => e = .returned (.bool (decide (xs = ys))) ∧ w = w' := by
  have HL := Lib.hid h.1
  have HM := Lib.hid h'.1
  cases hnm : ((n : Int) != (m : Int)) with
  | true =>
    have HF := Lib.hid (eqP_len (xs := xs) (ys := ys) (by rw [HL.out, HM.out]; simp at hnm; omega))
    go_enter Try.func72, Try.ntmps72
    go_wp2
    go_ret
    exact ⟨ret_boolM HF.out.symm, rfl⟩
  | false =>
    obtain rfl : m = n := by simp at hnm; omega
    go_enter Try.func72, Try.ntmps72
    go_wp2
    go_loop [14] (fun u => ∃ k : Nat, (k : Int) ≤ m ∧ u = .int .i64 k ∧ (∀ j, j < k → nth xs j = nth ys j)) (fun u => m - (intOf u).toNat)
    case atStart => exact ⟨0, by omega, rfl, fun j hj => absurd hj (by omega)⟩
    case round =>
      obtain ⟨k, hk, rfl, hall⟩ := hrel
      have HA := Lib.hid hall; clear hall
      by_cases hlt : (k : Int) < m
      · obtain ⟨b, o, rfl, hbs, hc⟩ := h.at_ (k := k) (by omega)
        obtain ⟨b', o', rfl, hbs', hc'⟩ := h'.at_ (k := k) (by omega)
        cases hx : (nth xs k != nth ys k) with
        | true =>
          have HF := Lib.hid (eqP_no (xs := xs) (ys := ys) (k := k) (by simpa using hx))
          go_wp2
          go_ret
          exact ⟨ret_boolM HF.out.symm, rfl⟩
        | false =>
          have HX := Lib.hid (show nth xs k = nth ys k by simpa using hx)
          go_wp2
          go_round
          case rel =>
            refine ⟨k + 1, by omega, by go_num, fun j hj => ?_⟩
            by_cases e : j = k
            · subst e; exact HX.out
            · exact HA.out j (by omega)
          case measure => simp [intOf]; omega
      · have HF := Lib.hid (eqP_yes (xs := xs) (ys := ys) (by rw [HL.out, HM.out]) (fun j hj => HA.out j (by rw [HL.out] at hj; omega)))
        go_wp2
        go_ret
        exact ⟨ret_boolM HF.out.symm, rfl⟩

theorem run_apW {w : World} {base : Nat} {A : Option Addr} {n c : Nat} {G : Nat → Option Addr} {C : Nat → Nat} {R : Nat → List Int} {T : Nat → Int} (hown : OwnV w base A n c G C R T) (G1 : Option Addr) (C1 : Nat) (R1 : List Int) (T1 : Int) (g d : Nat)
    (hcell : w.cell? ⟨g, 0, none⟩ = some (.slice G1 R1.length C1)) (hcell1 : w.cell? ⟨g, 1, none⟩ = some (.int .i64 T1)) (ho : Own w base G1 R1.length C1 R1) (hap1 : ∀ k, k < n → ∀ a b, G k = some a → G1 = some b → a.block ≠ b.block) (hap2 : ∀ a g, G1 = some a → A = some g → a.block ≠ g.block) (ty : TypeId) (hlen : n ≤ 1048576) (hbase : base ≤ w.heap.size) :
    ∃ A' c' w', (Builtin.append_ #[54, 54] ty #[.slice A n c, .slice (some ⟨g, 0, none⟩) 1 d]).run Try.prog w = .ok (.slice A' (n + 1) c') w' ∧ OwnV w' base A' (n + 1) c' (fun j => if j = n then G1 else G j) (fun j => if j = n then C1 else C j) (fun j => if j = n then R1 else R j) (fun j => if j = n then T1 else T j) ∧ w.grownBy w' (A.map (·.block)) ∧
      (A'.map (·.block) = A.map (·.block) ∨ A'.map (·.block) = some w.heap.size) := by
  obtain ⟨i0, hi, hz0, hz1, hz2⟩ := info_parts infoVote
  obtain ⟨vs, hrow, hvc⟩ := hown.row
  have hvl := hrow.1
  have hcells : ∀ j u, ([.slice G1 R1.length C1, .int .i64 T1] : List Value)[j]? = some u → w.cell? ((⟨g, 0, none⟩ : Addr).add j) = some u := by
    intro j u hu
    match j, hu with
    | 0, hu =>
      simp at hu
      subst hu
      simpa [Addr.add] using hcell
    | 1, hu =>
      simp at hu
      subst hu
      simpa [Addr.add] using hcell1
  obtain ⟨v', w', q1, q2, q3, _, q5⟩ := run_append_own_at (P := Try.prog) w base 54 ty 89 i0 (.agg #[.slice none 0 0, .int .i64 0]) 2 32 Try.underlying54 hi hz0 hz1 hz2 rfl (by omega) (.slice A n c) n vs hrow
    ⟨g, 0, none⟩ 1 d [.slice G1 R1.length C1, .int .i64 T1] rfl hcells (by intro u hu; simp at hu; rcases hu with rfl | rfl <;> rfl) (by simp only [maxLen]; omega) (by omega) hbase
  obtain ⟨A', c', rfl, hb⟩ := own_sliceV q2
  rw [ownBlock_slice] at q3
  rw [ownBlock_slice, ownBlock_slice] at q5
  have hA' : ∀ a, A' = some a → (∃ a0, A = some a0 ∧ a.block = a0.block) ∨ a.block = w.heap.size := by
    intro a ha
    rcases q5 with e | e
    · left
      rw [ha] at e
      obtain ⟨a0, h0, h2⟩ := map_block e
      exact ⟨a0, h0, h2.symm⟩
    · right
      rw [ha] at e
      injection e
  refine ⟨A', c', w', q1, ⟨⟨_, q2, ?_⟩, ?_, ?_, ?_⟩, q3, q5⟩
  · intro k hk
    by_cases e : k = n
    · subst e
      unfold VC
      simp only [if_true]
      rw [List.getElem?_append_right (by omega), List.getElem?_append_right (by omega), show k * 2 - vs.length = 0 by omega, show k * 2 + 1 - vs.length = 1 by omega]
      exact ⟨rfl, rfl⟩
    · exact vc_lt (hvc k (by omega)) hvl (by omega) G1 C1 R1 T1
  · intro k hk
    by_cases e : k = n
    · subst e
      simp only [if_true]
      refine own_grown ho q3 (fun a ha he => ?_)
      obtain ⟨a0, h0, h2⟩ := map_block he
      exact hap2 a a0 ha h0 h2.symm
    · simp only [if_neg e]
      refine own_grown (hown.each k (by omega)) q3 (fun a ha he => ?_)
      obtain ⟨a0, h0, h2⟩ := map_block he
      exact hown.off k (by omega) a a0 ha h0 h2.symm
  · intro i j hij hj a b ha hb
    by_cases e : j = n
    · subst e
      simp only [if_true] at hb
      simp only [if_neg (show i ≠ j by omega)] at ha
      exact hap1 i hij a b ha hb
    · simp only [if_neg e] at hb
      simp only [if_neg (show i ≠ n by omega)] at ha
      exact hown.apart i j hij (by omega) a b ha hb
  · intro k hk a g' ha hg'
    have hlt : a.block < w.heap.size := by
      by_cases e : k = n
      · subst e
        simp only [if_true] at ha
        exact (own_ge ho a ha).2
      · simp only [if_neg e] at ha
        exact (own_ge (hown.each k (by omega)) a ha).2
    rcases hA' g' hg' with ⟨a0, h0, h2⟩ | h2
    · rw [h2]
      by_cases e : k = n
      · subst e
        simp only [if_true] at ha
        exact hap2 a a0 ha h0
      · simp only [if_neg e] at ha
        exact hown.off k (by omega) a a0 ha h0
    · omega

theorem wpList_apW (w : World) {ops : Array Oper} {rest : List Oper} {o : Oper} {a : Act} {Q : Exit → Act → World → Prop} (hgd : o.guard = none) (s x : Operand)
    (ho : o.op = .call { callee := .builtin .append, args := #[s, x], argTypes := #[54, 54] })
    (base : Nat) (A : Option Addr) (n c : Nat) (G : Nat → Option Addr) (C : Nat → Nat) (R : Nat → List Int) (T : Nat → Int) (he : a.eval s = .slice A n c) (hown : OwnV w base A n c G C R T) (G1 : Option Addr) (C1 : Nat) (R1 : List Int) (T1 : Int) (g d : Nat) (hx : a.eval x = .slice (some ⟨g, 0, none⟩) 1 d)
    (hcell : w.cell? ⟨g, 0, none⟩ = some (.slice G1 R1.length C1)) (hcell1 : w.cell? ⟨g, 1, none⟩ = some (.int .i64 T1)) (hon : Own w base G1 R1.length C1 R1) (hap1 : ∀ k, k < n → ∀ a b, G k = some a → G1 = some b → a.block ≠ b.block) (hap2 : ∀ a g, G1 = some a → A = some g → a.block ≠ g.block) (hlen : n ≤ 1048576) (hbase : base ≤ w.heap.size)
    (hK : ∀ A' c' w', OwnV w' base A' (n + 1) c' (fun j => if j = n then G1 else G j) (fun j => if j = n then C1 else C j) (fun j => if j = n then R1 else R j) (fun j => if j = n then T1 else T j) → w.grownBy w' (A.map (·.block)) → (A'.map (·.block) = A.map (·.block) ∨ A'.map (·.block) = some w.heap.size) → wpList Try.prog ops Q rest (a.put o.dst (.slice A' (n + 1) c')) w') :
    wpList Try.prog ops Q (o :: rest) a w := by
  refine wpList_plain hgd fun K hKK => ?_
  obtain ⟨A', c', w', q1, q2, q3, q4⟩ := run_apW hown G1 C1 R1 T1 g d hcell hcell1 hon hap1 hap2 o.type hlen hbase
  unfold Oper.wp execOp
  simp only [ho, resolve, invoke, builtin, Sem.run_bind, Sem.run_pure, Result.andThen_ok, List.map_toArray, List.map_cons, List.map_nil, he, hx, q1]
  exact hKK _ _ (hK A' c' w' q2 q3 q4)
/-- Votes whose rankings are lists of hs, each at most once, those among the first k. -/
structure FromL (A : Option Addr) (n : Nat) (G : Nat → Option Addr) (hs : List Hd) (k : Nat) : Prop where
  idx : ∀ j, j < n → ∃ i, i < k ∧ i < hs.length ∧ G j = hA hs i
  off : ∀ i, i < hs.length → ∀ a g, hA hs i = some a → A = some g → a.block ≠ g.block
theorem FromL.start (hs : List Hd) (G : Nat → Option Addr) : FromL none 0 G hs 0 := ⟨fun j hj => absurd hj (by omega), fun i _ a g _ h => by cases h⟩
theorem FromL.next {A : Option Addr} {n : Nat} {G : Nat → Option Addr} {hs : List Hd} {k : Nat} (h : FromL A n G hs k) : FromL A n G hs (k + 1) :=
  ⟨fun j hj => by obtain ⟨i, h1, h2, h3⟩ := h.idx j hj; exact ⟨i, by omega, h2, h3⟩, h.off⟩
theorem FromL.ap1 {w : World} {base nL cL n : Nat} {A L : Option Addr} {G : Nat → Option Addr} {hs : List Hd} {k : Nat} (h : FromL A n G hs k) (hl : OwnL w base L nL cL hs) (hk : k < hs.length) : ∀ j, j < n → ∀ a b, G j = some a → hA hs k = some b → a.block ≠ b.block := by
  intro j hj a b ha hb
  obtain ⟨i, h1, h2, h3⟩ := h.idx j hj
  rw [h3] at ha
  exact hl.apart i k h1 hk a b ha hb
theorem FromL.snoc {w : World} {base nL cL n : Nat} {A A' L : Option Addr} {G : Nat → Option Addr} {hs : List Hd} {k : Nat} (h : FromL A n G hs k) (hl : OwnL w base L nL cL hs) (hk : k < hs.length) (hA' : A'.map (·.block) = A.map (·.block) ∨ A'.map (·.block) = some w.heap.size) : FromL A' (n + 1) (fun j => if j = n then hA hs k else G j) hs (k + 1) := by
  refine ⟨fun j hj => ?_, fun i hi a g ha hg => ?_⟩
  · by_cases e : j = n
    · exact ⟨k, by omega, hk, by simp [e]⟩
    · obtain ⟨i, h1, h2, h3⟩ := h.idx j (by omega)
      exact ⟨i, by omega, h2, by simp [e, h3]⟩
  · rcases hA' with e | e
    · rw [hg] at e
      obtain ⟨a0, h0, h2⟩ := map_block e
      exact fun q => h.off i hi a a0 ha h0 (q.trans h2.symm)
    · rw [hg] at e
      injection e with e
      have := (own_ge (hl.each i hi) a ha).2
      simp only [] at e
      omega
end Go.Proofs.Ytaclpilehlednaa
