/- Slices of strings: words; what the laws' own helpers compute: a copy, equality, sizes. -/
import Derived.Test.YtkofjdddmpebmaaGreatDoorInts
import Derived.Test.YtkofjdddmpebmaaGreatDoorAppend
import Derived.Deep.QuietTactic
import Derived.BigQuiet
import Derived.Deep.RegionWith
import Derived.Deep.DeepCutAuto
import Derived.Deep.DrawnRows
import Derived.Laws.Concat
import Derived.Laws.BytesArg
namespace Go.Proofs.YtkofjdddmpebmaaGreatDoor
open Go.RowKit
set_option maxRecDepth 100000

/-- The k-th string. -/
def snth (ss : List ByteArray) (k : Nat) : ByteArray := ss.getD k ByteArray.empty
theorem snth_get {ss : List ByteArray} {k : Nat} (h : k < ss.length) : snth ss k = ss[k] := by simp [snth, List.getD, h]
/-- The slice value with address A and length n holds the strings ss. -/
def Strs (w : World) (A : Option Addr) (n : Nat) (ss : List ByteArray) : Prop :=
  ss.length = n ∧ (0 < n → ∃ b o, A = some ⟨b, o, none⟩ ∧ b < w.heap.size ∧ ∀ j, j < n → w.cell? ⟨b, o + j, none⟩ = some (.string (snth ss j)))
def svs (ss : List ByteArray) : List Value := ss.map Value.string
/-- A slice of strings of the call's own. -/
def OwnS (w : World) (base : Nat) (A : Option Addr) (n c : Nat) (ss : List ByteArray) : Prop := w.ownsRow base 9 1 (.slice A n c) n (svs ss)
section
variable {w w' : World} {A : Option Addr} {n : Nat} {ss : List ByteArray}
theorem Strs.nil_ : Strs w A 0 [] := ⟨rfl, fun h => absurd h (by omega)⟩
theorem Strs.at_ {k : Nat} (h : Strs w A n ss) (hk : k < n) : ∃ b o, A = some ⟨b, o, none⟩ ∧ b < w.heap.size ∧ w.cell? ⟨b, o + k, none⟩ = some (.string (snth ss k)) := by
  obtain ⟨b, o, e, hb, hc⟩ := h.2 (by omega)
  exact ⟨b, o, e, hb, hc k hk⟩
theorem Strs.below {B : Nat} (h : Strs w A n ss) (hb : Below B w w') (hB : w.heap.size ≤ B) : Strs w' A n ss :=
  ⟨h.1, fun hn => by
    obtain ⟨b, o, e, hlt, hc⟩ := h.2 hn
    exact ⟨b, o, e, Nat.lt_of_lt_of_le hlt hb.size, fun j hj => (hb.cell (p := ⟨b, o + j, none⟩) (by show b < B; omega)).trans (hc j hj)⟩⟩
theorem Strs.on (h : Strs w A n ss) (hb : Below w.heap.size w w') : Strs w' A n ss := h.below hb (Nat.le_refl _)
theorem Strs.drewN (h : Strs w A n ss) (k : Nat) : Strs (w.drewN k) A n ss := h
theorem svs_at {j : Nat} (hj : j < ss.length) : (svs ss)[j]? = some (.string (snth ss j)) := by simp [svs, snth, List.getD, hj]
theorem svs_len : (svs ss).length = ss.length := by simp [svs]
theorem Strs.of_own {base c : Nat} (h : OwnS w base A n c ss) : Strs w A n ss := by
  have hl : ss.length = n := by have := h.1; rw [svs_len] at this; omega
  refine ⟨hl, fun hn => ?_⟩
  obtain ⟨g, rfl, _, hg⟩ := own_form h hn
  refine ⟨g, 0, rfl, hg, fun j hj => ?_⟩
  rw [Nat.zero_add, World.ownsRow.cellAt h j (by omega)]
  exact svs_at (by omega)
theorem ownS_len {base c : Nat} (h : OwnS w base A n c ss) : ss.length = n := by have := h.1; rw [svs_len] at this; omega
theorem svs_append (ss ts : List ByteArray) : svs (ss ++ ts) = svs ss ++ svs ts := by simp [svs]
theorem svs_one : ∀ u ∈ svs ss, u.oneCell' = true := by
  intro u hu
  obtain ⟨_, _, rfl⟩ := List.mem_map.1 hu
  rfl
end
theorem infoStr : (Tryz.prog.info? 9).map (fun i => (i.zero, i.size, i.bytes)) = some (some (.string ByteArray.empty), 1, 16) := by kernel_rfl
theorem ownS_nil (w : World) (base : Nat) : OwnS w base none 0 0 [] := World.ownsRow_nil w base 9 1
theorem ownS_alloc {w : World} {base : Nat} {A : Option Addr} {n c : Nat} {ss : List ByteArray} (h : OwnS w base A n c ss) (o : Obj) : OwnS (w.alloc o) base A n c ss := own_below (w := w) h ((Below.refl w.heap.size w).alloc (Nat.le_refl _) o) (Nat.le_refl _)
theorem ownS_empty (w : World) {base : Nat} (h : base ≤ w.heap.size) : OwnS (w.alloc (.cells #[] 9)) base (some ⟨w.heap.size, 0, none⟩) 0 0 [] := World.ownsRow_lit (e := 9) (size := 1) w #[] 0 h (Nat.zero_le _) rfl
theorem strs_one (w : World) (x : ByteArray) (t : TypeId) : Strs (w.alloc (.cells #[.string x] t)) (some ⟨w.heap.size, 0, none⟩) 1 [x] := by
  refine ⟨rfl, fun _ => ⟨w.heap.size, 0, rfl, by simp, fun j hj => ?_⟩⟩
  obtain rfl : j = 0 := by omega
  simp [snth]
theorem run_apS {w : World} {base : Nat} {A : Option Addr} {n c : Nat} {ss : List ByteArray} (hown : OwnS w base A n c ss) {ad : Addr} {m d : Nat} {ts : List ByteArray} (hr : Strs w (some ad) m ts) (ty : TypeId)
    (hlen : n + m ≤ 1099511627776) (hbase : base ≤ w.heap.size) :
    ∃ A' c' w', (Builtin.append_ #[32, 32] ty #[.slice A n c, .slice (some ad) m d]).run Tryz.prog w = .ok (.slice A' (n + m) c') w' ∧ OwnS w' base A' (n + m) c' (ss ++ ts) ∧ w.grownBy w' (A.map (·.block)) ∧
      (A'.map (·.block) = A.map (·.block) ∨ A'.map (·.block) = some w.heap.size) := by
  obtain ⟨i0, hi, hz0, hz1, hz2⟩ := info_parts infoStr
  have hcells : ∀ j u, (svs ts)[j]? = some u → w.cell? (ad.add j) = some u := by
    intro j u hu
    have hj : j < ts.length := by have := (List.getElem?_eq_some_iff.1 hu).1; simpa [svs] using this
    obtain ⟨b, o, e, _, hc⟩ := hr.2 (by have := hr.1; omega)
    injection e with e
    subst e
    rw [Addr.add_lit, hc j (by have := hr.1; omega), ← svs_at hj]
    exact hu
  obtain ⟨v', w', h1, h2, h3, _, h5⟩ := run_append_own_at (P := Tryz.prog) w base 32 ty 9 i0 (.string ByteArray.empty) 1 16 Tryz.underlying32 hi hz0 hz1 hz2 rfl (by omega) (.slice A n c) n (svs ss) hown
    ad m d (svs ts) (by rw [svs_len]; have := hr.1; omega) hcells svs_one (by simp only [maxLen]; omega) (by omega) hbase
  rw [← svs_append] at h2
  have hform : ∃ A' c', v' = .slice A' (n + m) c' ∧ OwnS w' base A' (n + m) c' (ss ++ ts) ∧ v'.ownBlock = A'.map (·.block) := by
    rcases h2.2 with ⟨rfl, h0⟩ | ⟨g, cap, cur, rfl, _⟩
    · rw [h0] at h2 ⊢
      exact ⟨none, 0, rfl, h2, rfl⟩
    · exact ⟨some ⟨g, 0, none⟩, cap, rfl, h2, rfl⟩
  obtain ⟨A', c', rfl, ho, hb⟩ := hform
  rw [ownBlock_slice, ownBlock_slice] at h5
  rw [ownBlock_slice] at h3
  exact ⟨A', c', w', h1, ho, h3, h5⟩

/-- 'append' of strings at the operations' list. -/
theorem wpList_apS (w : World) {ops : Array Oper} {rest : List Oper} {o : Oper} {a : Act} {Q : Exit → Act → World → Prop} (hgd : o.guard = none) (s x : Operand)
    (ho : o.op = .call { callee := .builtin .append, args := #[s, x], argTypes := #[32, 32] })
    (base : Nat) (A : Option Addr) (n c : Nat) (ss : List ByteArray) (hs : a.eval s = .slice A n c) (hown : OwnS w base A n c ss)
    (ad : Addr) (m d : Nat) (ts : List ByteArray) (hx : a.eval x = .slice (some ad) m d) (hr : Strs w (some ad) m ts)
    (hlen : n + m ≤ 1099511627776) (hbase : base ≤ w.heap.size)
    (h : ∀ A' c' w', OwnS w' base A' (n + m) c' (ss ++ ts) → w.grownBy w' (A.map (·.block)) → (A'.map (·.block) = A.map (·.block) ∨ A'.map (·.block) = some w.heap.size) → wpList Tryz.prog ops Q rest (a.put o.dst (.slice A' (n + m) c')) w') :
    wpList Tryz.prog ops Q (o :: rest) a w := by
  refine wpList_plain hgd fun K hK => ?_
  obtain ⟨A', c', w', h1, h2, h3, h4⟩ := run_apS hown (d := d) hr o.type hlen hbase
  unfold Oper.wp execOp
  simp only [ho, resolve, invoke, builtin, Sem.run_bind, Sem.run_pure, Result.andThen_ok, List.map_toArray, List.map_cons, List.map_nil, hs, hx, h1]
  exact hK _ _ (h A' c' w' h2 h3 h4)
theorem below_apS {a w w' : World} {base : Nat} {A : Option Addr} {n c : Nat} {ss : List ByteArray} (hb : Below base a w) (hown : OwnS w base A n c ss) (hg : w.grownBy w' (A.map (·.block))) (hbase : base ≤ w.heap.size) : Below base a w' :=
  hb.grown hg hbase fun k hk => by
    cases A with
    | none => cases hk
    | some ad => injection hk with hk; subst hk; exact (own_ge hown ad rfl).1

/-! ### Equality -/
end Go.Proofs.YtkofjdddmpebmaaGreatDoor
