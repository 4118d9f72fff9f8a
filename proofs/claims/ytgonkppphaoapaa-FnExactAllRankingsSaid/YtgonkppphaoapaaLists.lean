/- Slices of slices of integers: words, and what the laws' own helpers compute on them. -/
import Derived.Test.YtgonkppphaoapaaAppend
import Derived.Test.YtgonkppphaoapaaRev
namespace Go.Proofs.Ytgonkppphaoapaa
open Go.RowKit

/-- A header: where a list of numbers lies, its room, and the numbers. -/
abbrev Hd : Type := Option Addr × Nat × List Int
def hv (h : Hd) : Value := .slice h.1 h.2.2.length h.2.1
def hvs (hs : List Hd) : List Value := hs.map hv
def hnth (hs : List Hd) (k : Nat) : Hd := hs.getD k (none, 0, [])
def hA (hs : List Hd) (k : Nat) : Option Addr := (hnth hs k).1
def hc (hs : List Hd) (k : Nat) : Nat := (hnth hs k).2.1
def hx (hs : List Hd) (k : Nat) : List Int := (hnth hs k).2.2
def hl (hs : List Hd) (k : Nat) : Nat := (hx hs k).length
/-- The lists themselves. -/
def cont (hs : List Hd) : List (List Int) := hs.map fun h => h.2.2
theorem hnth_get {hs : List Hd} {k : Nat} (h : k < hs.length) : hnth hs k = hs[k] := by simp [hnth, List.getD, h]
theorem hv_nth (hs : List Hd) (k : Nat) : hv (hnth hs k) = .slice (hA hs k) (hl hs k) (hc hs k) := rfl
theorem cont_len (hs : List Hd) : (cont hs).length = hs.length := by simp [cont]
theorem cont_nth {hs : List Hd} {k : Nat} (h : k < hs.length) : (cont hs)[k]? = some (hx hs k) := by
  simp [cont, hx, hnth, List.getD, h]
theorem cont_eq {hs ks : List Hd} (h : cont hs = cont ks) {k : Nat} (hk : k < hs.length) : hx hs k = hx ks k := by
  have hl : hs.length = ks.length := by rw [← cont_len, h, cont_len]
  have e : (cont hs)[k]? = (cont ks)[k]? := by rw [h]
  rw [cont_nth hk, cont_nth (by omega)] at e
  injection e
theorem hvs_len (hs : List Hd) : (hvs hs).length = hs.length := by simp [hvs]
theorem hvs_nth {hs : List Hd} {k : Nat} (h : k < hs.length) : (hvs hs)[k]? = some (.slice (hA hs k) (hl hs k) (hc hs k)) := by
  rw [← hv_nth]; simp [hvs, hnth, List.getD, h]

/-- The slice of slices with address A and length n holds the lists behind the headers hs. -/
def Lists (w : World) (A : Option Addr) (n : Nat) (hs : List Hd) : Prop :=
  hs.length = n ∧ (0 < n → ∃ b o, A = some ⟨b, o, none⟩ ∧ b < w.heap.size ∧ ∀ j, j < n → w.cell? ⟨b, o + j, none⟩ = some (.slice (hA hs j) (hl hs j) (hc hs j)) ∧ hl hs j ≤ hc hs j ∧ hc hs j ≤ maxLen ∧ Ints w (hA hs j) (hl hs j) (hx hs j))
/-- A slice of slices of the call's own, all its lists too, each in a block of its own. -/
structure OwnL (w : World) (base : Nat) (A : Option Addr) (n c : Nat) (hs : List Hd) : Prop where
  row : w.ownsRow base 22 1 (.slice A n c) n (hvs hs)
  each : ∀ k, k < hs.length → Own w base (hA hs k) (hl hs k) (hc hs k) (hx hs k)
  apart : ∀ i j, i < j → j < hs.length → ∀ a b, hA hs i = some a → hA hs j = some b → a.block ≠ b.block
  off : ∀ k, k < hs.length → ∀ a g, hA hs k = some a → A = some g → a.block ≠ g.block

section
variable {w w' : World} {base n c : Nat} {A : Option Addr} {hs : List Hd}
theorem OwnL.len (h : OwnL w base A n c hs) : hs.length = n := by have := h.row.1; rw [hvs_len] at this; omega
theorem OwnL.nil_ (w : World) (base : Nat) : OwnL w base none 0 0 [] :=
  ⟨World.ownsRow_nil w base 22 1, fun k hk => absurd hk (by simp), fun i j _ hj => absurd hj (by simp), fun k hk => absurd hk (by simp)⟩
theorem OwnL.lists (h : OwnL w base A n c hs) : Lists w A n hs := by
  refine ⟨h.len, fun hn => ?_⟩
  obtain ⟨g, rfl, _, hg⟩ := own_form h.row hn
  refine ⟨g, 0, rfl, hg, fun j hj => ?_⟩
  have hj' : j < hs.length := by rw [h.len]; exact hj
  have hc := own_cap (h.each j hj')
  refine ⟨?_, hc.1, hc.2, Ints.of_own (h.each j hj')⟩
  rw [Nat.zero_add, h.row.cellAt j (by omega)]
  exact hvs_nth hj'
theorem OwnL.below {B : Nat} (h : OwnL w base A n c hs) (hb : Below B w w') (hB : w.heap.size ≤ B) : OwnL w' base A n c hs :=
  ⟨own_below h.row hb hB, fun k hk => own_below (h.each k hk) hb hB, h.apart, h.off⟩
theorem OwnL.mono {base' : Nat} (h : OwnL w base A n c hs) (hb : base' ≤ base) : OwnL w base' A n c hs :=
  ⟨own_mono h.row hb, fun k hk => own_mono (h.each k hk) hb, h.apart, h.off⟩
/-- All its blocks lie below T. -/
def InL (A : Option Addr) (hs : List Hd) (T : Nat) : Prop := (∀ a, A = some a → a.block < T) ∧ ∀ k, k < hs.length → ∀ a, hA hs k = some a → a.block < T
theorem OwnL.inn (h : OwnL w base A n c hs) : InL A hs w.heap.size := ⟨fun a ha => (own_ge h.row a ha).2, fun k hk a ha => (own_ge (h.each k hk) a ha).2⟩
theorem own_belowIn {w w' : World} {base B : Nat} {e : TypeId} {A : Option Addr} {n c : Nat} {vs : List Value} (h : w.ownsRow base e 1 (.slice A n c) n vs) (hb : Below B w w') (hr : ∀ a, A = some a → a.block < B) : w'.ownsRow base e 1 (.slice A n c) n vs := by
  refine ⟨h.1, ?_⟩
  rcases h.2 with h0 | ⟨g, cap, cur, h1, h2, h3, h4⟩
  · exact .inl h0
  · have hA : A = some ⟨g, 0, none⟩ := by injection h1
    exact .inr ⟨g, cap, cur, h1, h2, (hb.block g (hr _ hA)).trans h3, h4⟩
theorem OwnL.belowIn {B : Nat} (h : OwnL w base A n c hs) (hb : Below B w w') (hi : InL A hs B) : OwnL w' base A n c hs :=
  ⟨own_belowIn h.row hb hi.1, fun k hk => own_belowIn (h.each k hk) hb (hi.2 k hk), h.apart, h.off⟩
theorem Lists.on (h : Lists w A n hs) (hb : Below w.heap.size w w') : Lists w' A n hs :=
  ⟨h.1, fun hn => by
    obtain ⟨b, o, e, hlt, hcell⟩ := h.2 hn
    refine ⟨b, o, e, Nat.lt_of_lt_of_le hlt hb.size, fun j hj => ?_⟩
    obtain ⟨h1, h2, h3, h4⟩ := hcell j hj
    exact ⟨(hb.cell (p := ⟨b, o + j, none⟩) hlt).trans h1, h2, h3, h4.on hb⟩⟩
theorem Lists.at_ {k : Nat} (h : Lists w A n hs) (hk : k < n) : ∃ b o, A = some ⟨b, o, none⟩ ∧ b < w.heap.size ∧ w.cell? ⟨b, o + k, none⟩ = some (.slice (hA hs k) (hl hs k) (hc hs k)) ∧ hl hs k ≤ hc hs k ∧ hc hs k ≤ maxLen ∧ Ints w (hA hs k) (hl hs k) (hx hs k) := by
  obtain ⟨b, o, e, hb, hcell⟩ := h.2 (by omega)
  exact ⟨b, o, e, hb, hcell k hk⟩
end

theorem drewN_more {w wr : World} (h : ∃ m, wr = w.drewN m) (k : Nat) : Hid (∃ m, wr.drewN k = w.drewN m) := by
  obtain ⟨m, rfl⟩ := h
  exact ⟨m + k, by rw [World.drewN_drewN]⟩
set_option maxHeartbeats 1000000 in
/-- Equality of two slices of numbers draws alone. -/
theorem eqIntSq (A B : Option Addr) (n c d : Nat) (xs : List Int) (w : World) (h : Ints w A n xs) (h' : Ints w B n xs) (hn : (n : Int) ≤ 1048576) :
    Calls Try.prog 25 #[.slice A n c, .slice B n d] w fun e w' => e = .returned (.bool true) ∧ ∃ m, w' = w.drewN m := by
  have hne : ((n : Int) != (n : Int)) = false := by simp
  go_enter Try.func25, Try.ntmps25
  go_wp2
  go_loopw [5] (fun u wr => ∃ k : Nat, (k : Int) ≤ n ∧ u = .int .i64 k ∧ Hid (∃ m, wr = w.drewN m)) (fun u _ => n - (intOf u).toNat)
  case atStart => exact ⟨0, by omega, rfl, ⟨0, rfl⟩⟩
  case round =>
    obtain ⟨k, hk, rfl, HW⟩ := hrel
    have h1 : Ints wr A n xs := by obtain ⟨m, e⟩ := HW.out; rw [e]; exact h.drewN m
    have h2 : Ints wr B n xs := by obtain ⟨m, e⟩ := HW.out; rw [e]; exact h'.drewN m
    by_cases hlt : (k : Int) < n
    · obtain ⟨b, o, rfl, hbs, hc⟩ := h1.at_ (k := k) (by omega)
      obtain ⟨b', o', rfl, hbs', hc'⟩ := h2.at_ (k := k) (by omega)
      have hn2 : (nth xs k != nth xs k) = false := by simp
      go_wp2
      go_quiet (fail)
      go_wp2
      go_roundw
      case rel => exact ⟨k + 1, by omega, by go_num, drewN_more HW.out _⟩
      case measure => simp [intOf]; omega
    · go_wp2
      go_ret
      exact ⟨rfl, HW.out⟩

set_option maxHeartbeats 1000000 in
theorem eqIntSS (A B : Option Addr) (n c d : Nat) (hs ks : List Hd) (w : World) (h : Lists w A n hs) (h' : Lists w B n ks) (hn : (n : Int) ≤ 1048576) (he : cont hs = cont ks) (hb : ∀ k, k < n → (hl hs k : Int) ≤ 1048576) :
    Calls Try.prog 58 #[.slice A n c, .slice B n d] w fun e w' => e = .returned (.bool true) ∧ Below w.heap.size w w' := by
  have hne : ((n : Int) != (n : Int)) = false := by simp
  have HE : Hid (∀ k, k < n → hx hs k = hx ks k) := fun k hk => cont_eq he (by rw [h.1]; exact hk)
  have HB := Lib.hid hb
  clear he hb
  go_enter Try.func58, Try.ntmps58
  go_wp2
  go_loopw [5] (fun u wr => ∃ k : Nat, (k : Int) ≤ n ∧ u = .int .i64 k ∧ Hid (∃ m, wr = w.drewN m)) (fun u _ => n - (intOf u).toNat)
  case atStart => exact ⟨0, by omega, rfl, ⟨0, rfl⟩⟩
  case round =>
    obtain ⟨k, hk, rfl, HW⟩ := hrel
    have q1 : Lists wr A n hs := by obtain ⟨m, e⟩ := HW.out; rw [e]; exact h.on (below_drewN (Below.refl _ _) m)
    have q2 : Lists wr B n ks := by obtain ⟨m, e⟩ := HW.out; rw [e]; exact h'.on (below_drewN (Below.refl _ _) m)
    by_cases hlt : (k : Int) < n
    · obtain ⟨b, o, rfl, hbs, h1, h2, h3, h4⟩ := q1.at_ (k := k) (by omega)
      obtain ⟨b', o', rfl, hbs', g1, g2, g3, g4⟩ := q2.at_ (k := k) (by omega)
      have e1 := HE.out k (by omega)
      have e2 : hl ks k = hl hs k := by simp [hl, e1]
      rw [e2] at g1 g4
      rw [← e1] at g4
      have hlb := HB.out k (by omega)
      clear e1 e2
      go_wp2
      go_quiet ((go_at_call 25; exact Calls.quiet_of (eqIntSq _ _ _ _ _ (hx hs k) _ (h4.drewN _) (g4.drewN _) hlb)))
      go_wp2
      go_roundw
      case rel => exact ⟨k + 1, by omega, by go_num, drewN_more HW.out _⟩
      case measure => simp [intOf]; omega
    · go_wp2
      go_ret
      obtain ⟨m, e⟩ := HW.out
      exact ⟨rfl, by rw [e]; exact below_drewN (Below.refl _ _) m⟩

/-! ### Marks -/
/-- How many numbers lie ahead of the k-th list. -/
def pre (hs : List Hd) : Nat → Nat
  | 0 => 0
  | k + 1 => pre hs k + hl hs k
/-- The headers behind the marks, the first k lists marked. -/
def markd (hs : List Hd) (m : Int) (k : Nat) (j : Nat) : List Int := if j < k then marks (m + (pre hs j : Int)) (hl hs j) else hx hs j
theorem markd_len (hs : List Hd) (m : Int) (k j : Nat) : (markd hs m k j).length = hl hs j := by
  unfold markd; split
  · rw [marks_len]
  · rfl
theorem pre_le (hs : List Hd) (n : Nat) (hb : ∀ k, k < n → (hl hs k : Int) ≤ 1048576) : ∀ k, k ≤ n → (pre hs k : Int) ≤ 1048576 * k
  | 0, _ => by simp [pre]
  | k + 1, h => by
    have h1 := pre_le hs n hb k (by omega)
    have h2 := hb k (by omega)
    simp only [pre]
    omega

set_option maxHeartbeats 2000000 in
theorem markIntSS (A : Option Addr) (n c base : Nat) (hs : List Hd) (w : World) (h : OwnL w base A n c hs) (hn : (n : Int) ≤ 1048576) (hb : ∀ k, k < n → (hl hs k : Int) ≤ 1048576) (hbase : base ≤ w.heap.size) :
    Calls Try.prog 59 #[.slice A n c, .int .i64 1] w fun e w' => e = .returned (.int .i64 (1 + (pre hs n : Int))) ∧ w'.ownsRow base 22 1 (.slice A n c) n (hvs hs) ∧ (∀ k, k < n → Own w' base (hA hs k) (hl hs k) (hc hs k) (markd hs 1 n k)) ∧ Below base w w' := by
  have HB := Lib.hid hb
  have HP := Lib.hid (pre_le hs n hb)
  clear hb
  go_enter Try.func59, Try.ntmps59
  go_wp2
  go_loopw [1, 5] (fun u v wr => ∃ k : Nat, (k : Int) ≤ n ∧ u = .int .i64 (1 + (pre hs k : Int)) ∧ v = .int .i64 k ∧ wr.ownsRow base 22 1 (.slice A n c) n (hvs hs) ∧ (∀ j, j < n → Own wr base (hA hs j) (hl hs j) (hc hs j) (markd hs 1 k j)) ∧ Below base w wr) (fun _ v _ => n - (intOf v).toNat)
  case atStart => exact ⟨0, by omega, by simp [pre], rfl, h.row, fun j hj => by have := h.each j (by rw [h.len]; exact hj); simpa [markd] using this, Below.refl _ _⟩
  case round =>
    obtain ⟨k, hk, rfl, rfl, hrow, heach, hbl⟩ := hrel
    have hbs := hbl.size
    by_cases hlt : (k : Int) < n
    · have hkn : k < hs.length := by rw [h.len]; omega
      obtain ⟨g, hAg, hg0, hg1⟩ := own_form hrow (by omega)
      have hcell : wr.cell? ⟨g, k, none⟩ = some (.slice (hA hs k) (hl hs k) (hc hs k)) := by
        subst hAg
        rw [hrow.cellAt k (by omega)]
        exact hvs_nth hkn
      have hap := Lib.hid h.apart
      have hof := Lib.hid h.off
      have hln := Lib.hid h.len
      have HAg := Lib.hid hAg
      have hlb := HB.out k (by omega)
      have hpb := HP.out k (by omega)
      have hek := heach k (by omega)
      subst hAg
      go_wp2_with fail
      refine (markIntS _ _ _ _ _ (1 + (pre hs k : Int)) _ hek hlb ⟨by omega, by omega⟩).mono ?_; rintro e w1 ⟨rfl, o1, gr⟩
      go_wp2_with fail
      go_roundw
      case rel =>
        refine ⟨k + 1, by omega, by simp only [pre]; rw [Int.natCast_add, Int.add_assoc], by go_num, ?_, ?_, ?_⟩
        · refine own_grown hrow gr (fun a ha => ?_)
          intro he
          obtain ⟨a1, ha1, he1⟩ := map_block he
          exact hof.out k (by rw [hln.out]; omega) a1 a ha1 (by rw [ha]) he1
        · intro j hj
          by_cases e : j = k
          · subst e
            have : markd hs 1 (j + 1) j = marks (1 + (pre hs j : Int)) (hl hs j) := by simp [markd]
            rw [this]; exact o1
          · have : markd hs 1 (k + 1) j = markd hs 1 k j := by
              unfold markd
              by_cases e2 : j < k
              · rw [if_pos e2, if_pos (by omega)]
              · rw [if_neg e2, if_neg (by omega)]
            rw [this]
            refine own_grown (heach j hj) gr (fun a ha => ?_)
            intro he
            obtain ⟨a1, ha1, he1⟩ := map_block he
            rcases Nat.lt_or_gt_of_ne e with e3 | e3
            · exact hap.out j k e3 (by rw [hln.out]; omega) a a1 ha ha1 he1.symm
            · exact hap.out k j e3 (by rw [hln.out]; omega) a1 a ha1 ha he1
        · exact hbl.grown gr (by omega) (fun q hq => by obtain ⟨a1, ha1, he1⟩ := map_block hq.symm; have := (own_ge hek a1 ha1).1; omega)
      case measure => simp [intOf]; omega
    · obtain rfl : k = n := by omega
      go_wp2
      go_ret
      exact ⟨rfl, hrow, heach, hbl⟩

set_option maxHeartbeats 2000000 in
theorem heldIntSS (A : Option Addr) (n c base : Nat) (hs : List Hd) (w : World) (hlen : hs.length = n) (hrow : w.ownsRow base 22 1 (.slice A n c) n (hvs hs)) (heach : ∀ k, k < n → Own w base (hA hs k) (hl hs k) (hc hs k) (markd hs 1 n k)) (hn : (n : Int) ≤ 1048576) (hb : ∀ k, k < n → (hl hs k : Int) ≤ 1048576) :
    Calls Try.prog 60 #[.slice A n c, .int .i64 1] w fun e w' => e = .returned (.int .i64 (1 + (pre hs n : Int))) ∧ w = w' := by
  have HB := Lib.hid hb
  have HP := Lib.hid (pre_le hs n hb)
  have HL := Lib.hid hlen
  have HE := Lib.hid heach
  clear hb hlen heach
  go_enter Try.func60, Try.ntmps60
  go_wp2
  go_loop [1, 5] (fun u v => ∃ k : Nat, (k : Int) ≤ n ∧ u = .int .i64 (1 + (pre hs k : Int)) ∧ v = .int .i64 k) (fun _ v => n - (intOf v).toNat)
  case atStart => exact ⟨0, by omega, by simp [pre], rfl⟩
  case round =>
    obtain ⟨k, hk, rfl, rfl⟩ := hrel
    by_cases hlt : (k : Int) < n
    · have hkn : k < hs.length := by rw [HL.out]; omega
      obtain ⟨g, hAg, hg0, hg1⟩ := own_form hrow (by omega)
      have hcell : w.cell? ⟨g, k, none⟩ = some (.slice (hA hs k) (hl hs k) (hc hs k)) := by
        subst hAg
        rw [hrow.cellAt k (by omega)]
        exact hvs_nth hkn
      have hlb := HB.out k (by omega)
      have hpb := HP.out k (by omega)
      have hek : Ints w (hA hs k) (hl hs k) (marks (1 + (pre hs k : Int)) (hl hs k)) := by
        have := Ints.of_own (HE.out k (by omega))
        rwa [markd, if_pos (by omega)] at this
      subst hAg
      go_wp2_with fail
      refine (heldIntS _ _ _ (1 + (pre hs k : Int)) _ hek hlb ⟨by omega, by omega⟩).mono ?_; rintro e w1 ⟨rfl, rfl⟩
      go_wp2_with fail
      go_round
      case rel => exact ⟨k + 1, by omega, by simp only [pre]; rw [Int.natCast_add, Int.add_assoc], by go_num⟩
      case measure => simp [intOf]; omega
    · obtain rfl : k = n := by omega
      go_wp2
      go_ret
      exact ⟨rfl, rfl⟩
end Go.Proofs.Ytgonkppphaoapaa
