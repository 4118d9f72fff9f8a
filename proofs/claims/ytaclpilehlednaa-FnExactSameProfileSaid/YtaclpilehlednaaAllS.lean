/- All rankings: what the reference's functions compute. -/
import Derived.Test.YtaclpilehlednaaOrders
import Derived.Test.YtaclpilehlednaaRank2
import Derived.Maps.Range
namespace Go.Proofs.Ytaclpilehlednaa
open Go.RowKit

/-- What the loop has gathered behind x rounds. -/
def allK (m k : Nat) (xs : List Int) (x : Nat) : List (List Int) := (List.range x).flatMap fun (y : Nat) => if (y : Int) ∈ xs then [] else allP m k (xs ++ [(y : Int)])
theorem allP_succ (m k : Nat) (xs : List Int) : allP m (k + 1) xs = allK m k xs m := rfl
theorem allK_yes {m k : Nat} {xs : List Int} {x : Nat} (h : (x : Int) ∈ xs) : allK m k xs (x + 1) = allK m k xs x := by
  simp [allK, List.range_succ, h]
theorem allK_no {m k : Nat} {xs : List Int} {x : Nat} (h : ¬ (x : Int) ∈ xs) : allK m k xs (x + 1) = allK m k xs x ++ allP m k (xs ++ [(x : Int)]) := by
  simp [allK, List.range_succ, h]
theorem allK_mono (m k : Nat) (xs : List Int) {x y : Nat} (h : x ≤ y) : (allK m k xs x).length ≤ (allK m k xs y).length := by
  induction y with
  | zero =>
    obtain rfl : x = 0 := by omega
    exact Nat.le_refl _
  | succ y ih =>
    by_cases e : x = y + 1
    · subst e; exact Nat.le_refl _
    · have := ih (by omega)
      have h2 : (allK m k xs y).length ≤ (allK m k xs (y + 1)).length := by
        by_cases hm : (y : Int) ∈ xs
        · rw [allK_yes hm]; exact Nat.le_refl _
        · rw [allK_no hm, List.length_append]; omega
      omega
/-- A row lies where one lay, or in new memory. -/
def AtOr (A A' : Option Addr) (S : Nat) : Prop := ∀ a, A' = some a → (∃ a0, A = some a0 ∧ a0.block = a.block) ∨ S ≤ a.block
theorem grown_alloc {w : World} {row : Option Nat} (o : Obj) : w.grownBy (w.alloc o) row := World.grownBy_alloc w o row
theorem grown_of_below {w w' : World} {row : Option Nat} (h : Below w.heap.size w w') : w.grownBy w' row := ⟨h.os, h.tape, h.output, h.size, fun k hk _ => h.block k hk⟩
theorem below_of_grown {w w' : World} {base : Nat} {row : Option Nat} (h : w.grownBy w' row) (hb : base ≤ w.heap.size) (hr : ∀ r, row = some r → base ≤ r) : Below base w w' := (Below.refl base w).grown h hb hr

set_option maxHeartbeats 4000000 in
theorem specAll (m k : Nat) : ∀ (base T : Nat) (A : Option Addr) (n c : Nat) (hs : List Hd) (B : Option Addr) (l d : Nat) (xs : List Int) (w : World), (m : Int) ≤ 5 → l + k = m → OwnL w base A n c hs → InL A hs T → Own w base B l d xs → (∀ a, B = some a → T ≤ a.block) → base ≤ w.heap.size → hs.length + (allP m k xs).length ≤ 1000 →
    Calls Try.prog 93 #[.slice A n c, .slice B l d, .int .i64 (m : Int)] w fun e w' => ∃ A' n' c', e = .returned (.slice A' n' c') ∧ ∃ new, OwnL w' base A' n' c' (hs ++ new) ∧ cont new = allP m k xs ∧ w.grownBy w' (A.map (·.block)) ∧ AtOr A A' w.heap.size := by
  induction k with
  | zero =>
    intro base T A n c hs B l d xs w hm5 hlk hown hin ho hfar hbase hN
    obtain rfl : l = m := by omega
    have heq : ((l : Int) == (l : Int)) = true := by simp
    have hlx : xs.length = l := by have := ho.1; rw [iv_len] at this; omega
    have HN : Hid (hs.length ≤ 1000) := by rw [Hid]; omega
    have hnl : n ≤ 1048576 := by have := hown.len; have := HN.out; omega
    have HX := Lib.hid hlx; clear hlx
    go_enter Try.func93, Try.ntmps93
    go_wp2_with (first | (at_builtin; refine wpList_apL _ rfl _ _ rfl base A n c hs rfl (own_allocL hown _) (B, d, xs) w.heap.size 1 rfl (by simp [hv, HX.out]) (by show Own _ _ B xs.length d xs; rw [HX.out]; exact own_alloc ho _) T hin hfar hnl (by simp; omega) ?_; intro A' c' w3 hown' hg hblk))
    go_ret
    refine ⟨A', n + 1, c', rfl, [(B, d, xs)], hown', rfl, World.grownBy.andThen (grown_alloc _) hg (fun j hj => .inr hj), fun a ha => ?_⟩
    rcases hblk with e | e
    · left
      rw [ha] at e
      obtain ⟨a0, h0, h2⟩ := map_block e
      exact ⟨a0, h0, h2⟩
    · right
      rw [ha] at e
      injection e with e
      have he2 : a.block = w.heap.size + 1 := by simpa using e
      omega
  | succ k IH0 =>
    intro base T A n c hs B l d xs w hm5 hlk hown hin ho hfar hbase hN
    have IH := Lib.hid IH0
    clear IH0
    have hne : ((l : Int) == (m : Int)) = false := by simp; omega
    have hI := Ints.of_own ho
    have hlx : xs.length = l := by have := ho.1; rw [iv_len] at this; omega
    have HX := Lib.hid hlx; clear hlx
    have HNN := Lib.hid hN
    have hkl : Hid (l + 1 + k = m) := by rw [Hid]; omega
    have hl5 : (l : Int) ≤ 5 := by omega
    have hl4 : (l : Int) ≤ 1048576 := by omega
    have hlen := Lib.hid hown.len
    clear hN hlk
    have HFA := Lib.hid hfar
    have HAB : Hid (∀ a b, A = some a → B = some b → a.block ≠ b.block) := fun a b ha hb => by have := hin.1 a ha; have := hfar b hb; omega
    have hAge : Hid (∀ a, A = some a → base ≤ a.block) := fun a ha => (own_ge hown.row a ha).1
    clear hfar
    go_enter Try.func93, Try.ntmps93
    go_wp2_with fail
    go_loopw [0, 7] (fun u v wr => ∃ (x : Nat) (A' : Option Addr) (n' c' : Nat) (new : List Hd), (x : Int) ≤ m ∧ u = .slice A' n' c' ∧ v = .int .i64 x ∧ OwnL wr base A' n' c' (hs ++ new) ∧ cont new = allK m k xs x ∧ w.grownBy wr (A.map (·.block)) ∧ AtOr A A' w.heap.size) (fun _ v _ => m - (intOf v).toNat)
    case atStart => exact ⟨0, A, n, c, [], by omega, rfl, rfl, by simpa using hown, rfl, World.grownBy.refl _ _, fun a ha => .inl ⟨a, ha, rfl⟩⟩
    case round =>
      obtain ⟨x, A', n', c', new, hx, rfl, rfl, hownR, hcontR, hgR, hblkR⟩ := hrel
      have HC := Lib.hid hcontR; clear hcontR
      have HB := Lib.hid hblkR; clear hblkR
      by_cases hlt : (x : Int) < m
      · have hIr : Ints wr B l xs := hI.grown hgR (fun _ a ha he => by obtain ⟨a1, ha1, he1⟩ := map_block he; exact HAB.out a1 a ha1 ha he1)
        have hbd := idx_bd xs (x : Int)
        have hszR := hgR.size
        by_cases hmem : (x : Int) ∈ xs
        · have hi : ¬ idxP xs (x : Int) < 0 := by have := hbd.2.2.2 hmem; omega
          have HK := Lib.hid (allK_yes (m := m) (k := k) hmem)
          go_wp2_with fail
          refine (specPlaceOf _ _ _ xs _ _ hIr hl4).mono ?_; rintro e w1 ⟨rfl, rfl⟩
          go_wp2_with fail
          go_roundw
          case rel => exact ⟨x + 1, A', n', c', new, by omega, rfl, by go_num, hownR, HC.out.trans HK.out.symm, hgR, HB.out⟩
          case measure => simp [intOf]; omega
        · have hi : idxP xs (x : Int) < 0 := by
            rcases Int.lt_or_le (idxP xs (x : Int)) 0 with h | h
            · exact h
            · exact absurd (hbd.2.2.1 h) hmem
          have HK := Lib.hid (allK_no (m := m) (k := k) hmem)
          have hmono := allK_mono m k xs (show x + 1 ≤ m by omega)
          rw [HK.out, List.length_append, ← allP_succ] at hmono
          have hbase2 : base ≤ wr.heap.size := by omega
          have hinR := hownR.inn
          go_wp2_with fail
          refine (specPlaceOf _ _ _ xs _ _ hIr hl4).mono ?_; rintro e w1 ⟨rfl, rfl⟩
          go_wp2_with (first
            | (at_builtin; refine wpList_apnew _ rfl _ _ rfl rfl B l d xs rfl hIr (by omega) ?_; intro A1 c1 w2 o1 b1; have hs2 := b1.size; have hownR2 := hownR.below b1 (Nat.le_refl _))
            | (at_builtin; refine wpList_ap _ rfl _ _ rfl wr.heap.size A1 l c1 xs rfl (own_alloc o1 _) (some ⟨w2.heap.size, 0, none⟩) 1 1 [(x : Int)] rfl (ints_one w2 _ _) (by omega) (by simp; omega) ?_; intro A2 c2 w3 o2 hg2 hblk2))
          have bl2 : Below wr.heap.size wr (w2.alloc (.cells #[.int .i64 (x : Int)] 3)) := b1.alloc hs2 _
          have bl3 := below_ap bl2 (own_alloc o1 _) hg2 (by simp; omega)
          have hown3 := hownR.below bl3 (Nat.le_refl _)
          have hs3 := bl3.size
          refine (IH.out base wr.heap.size A' n' c' (hs ++ new) A2 (l + 1) c2 (xs ++ [(x : Int)]) _ hm5 hkl.out hown3 hinR (own_mono o2 (by omega)) (fun a ha => (own_ge o2 a ha).1) (by omega) ?_).mono ?_
          · rw [List.length_append, ← cont_len new, HC.out]
            have := HNN.out
            omega
          rintro e w4 ⟨A3, n3, c3, rfl, new3, hown4, hcont4, hg4, hblk4⟩
          have HC4 := Lib.hid hcont4; clear hcont4
          have HB4 := Lib.hid hblk4; clear hblk4
          go_wp2_with fail
          go_roundw
          case rel =>
            refine ⟨x + 1, A3, n3, c3, new ++ new3, by omega, rfl, by go_num, by rw [← List.append_assoc]; exact hown4, by rw [cont_append, HC.out, HC4.out, HK.out], ?_, ?_⟩
            · refine World.grownBy.andThen (hgR.andThen (grown_of_below (row := A'.map (·.block)) bl3) (fun j hj => ?_)) hg4 (fun j hj => ?_)
              · obtain ⟨a1, ha1, he1⟩ := map_block hj.symm
                rcases HB.out a1 ha1 with ⟨a0, h0, h2⟩ | h
                · right; rw [h0, ← he1, ← h2]; rfl
                · left; omega
              · obtain ⟨a1, ha1, he1⟩ := map_block hj.symm
                rcases HB.out a1 ha1 with ⟨a0, h0, h2⟩ | h
                · right; rw [h0, ← he1, ← h2]; rfl
                · left; omega
            · intro a ha
              rcases HB4.out a ha with ⟨a1, ha1, he1⟩ | h
              · rcases HB.out a1 ha1 with ⟨a0, h0, h2⟩ | h2
                · exact .inl ⟨a0, h0, h2.trans he1⟩
                · right; omega
              · right; omega
          case measure => simp [intOf]; omega
      · obtain rfl : x = m := by omega
        go_wp2
        go_ret
        exact ⟨A', n', c', rfl, new, hownR, HC.out, hgR, HB.out⟩

theorem ownL_empty (w : World) {base : Nat} (h : base ≤ w.heap.size) : OwnL (w.alloc (.cells #[] 22)) base (some ⟨w.heap.size, 0, none⟩) 0 0 [] :=
  ⟨World.ownsRow_lit (e := 22) (size := 1) w #[] 0 h (Nat.zero_le _) rfl, fun k hk => absurd hk (by simp), fun i j _ hj => absurd hj (by simp), fun k hk => absurd hk (by simp)⟩

set_option maxHeartbeats 1000000 in
theorem specAllRankings (m : Int) (w : World) :
    Calls Try.prog 71 #[.int .i64 m] w fun e w' => ∃ A' n' c', e = .returned (.slice A' n' c') ∧ ∃ hs, OwnL w' w.heap.size A' n' c' hs ∧ cont hs = ranksP m ∧ Below w.heap.size w w' := by
  by_cases h1 : 1 ≤ m ∧ m ≤ 5
  · have hin := inB_true h1
    obtain ⟨n, rfl⟩ : ∃ n : Nat, m = (n : Int) := ⟨m.toNat, by omega⟩
    obtain ⟨h1a, h1b⟩ := h1
    have hsame := all_same n (by omega)
    have HR : Hid (ranksP n = allP n n []) := (ranks_yes ⟨h1a, h1b⟩).trans hsame
    have hsm := ranks_small n (by omega)
    rw [hsame] at hsm
    clear hsame
    have q1 := own_allocL (ownL_empty w (Nat.le_refl w.heap.size)) (.cells #[] 3)
    have q2 := own_empty (w.alloc (.cells #[] 22)) (base := w.heap.size) (by simp)
    have bl : Below w.heap.size w ((w.alloc (.cells #[] 22)).alloc (.cells #[] 3)) := ((Below.refl _ _).alloc (Nat.le_refl _) _).alloc (by simp) _
    have SM : Hid (([] : List Hd).length + (allP n n []).length ≤ 1000) := by rw [Hid]; simp; omega
    clear hsm
    go_enter Try.func71, Try.ntmps71
    go_wp2_with fail
    refine (specIn _ _ _ _).mono ?_; rintro e w1 ⟨rfl, rfl⟩
    go_wp2_with fail
    refine (specAll n n w.heap.size (w.heap.size + 1) (some ⟨w.heap.size, 0, none⟩) 0 0 [] (some ⟨w.heap.size + 1, 0, none⟩) 0 0 [] _ h1b (by omega) q1 ⟨fun a ha => by injection ha with ha; subst ha; simp, fun k hk => absurd hk (by simp)⟩ (by simpa using q2) (fun a ha => by injection ha with ha; subst ha; simp) (by simp; omega) SM.out).mono ?_
    rintro e w2 ⟨A', n', c', rfl, new, o2, c2, g2, _⟩
    have C2 := Lib.hid c2; clear c2
    go_wp2_with fail
    go_ret
    exact ⟨A', n', c', rfl, new, by simpa using o2, C2.out.trans HR.out.symm, bl.grown g2 (by simp; omega) (fun k hk => by injection hk with hk; rw [← hk]; simp)⟩
  · have hin := inB_false h1
    rw [ranks_no h1]
    go_enter Try.func71, Try.ntmps71
    go_wp2_with fail
    refine (specIn _ _ _ _).mono ?_; rintro e w1 ⟨rfl, rfl⟩
    go_wp2_with fail
    go_ret
    exact ⟨none, 0, 0, rfl, [], OwnL.nil_ _ _, rfl, Below.refl _ _⟩
end Go.Proofs.Ytaclpilehlednaa
