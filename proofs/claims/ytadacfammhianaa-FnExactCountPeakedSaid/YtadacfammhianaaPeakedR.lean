/- The rankings that are single-peaked on an axis: what the program's function computes. -/
import Derived.Test.YtadacfammhianaaAppendM
import Derived.Test.YtadacfammhianaaAllS
import Derived.Test.YtadacfammhianaaPeakT
import Derived.Test.YtadacfammhianaaIsRank
import Derived.Test.YtadacfammhianaaPeakS
namespace Go.Proofs.Ytadacfammhianaa
open Go.RowKit
set_option maxRecDepth 100000

theorem cont_rank {hs : List Hd} {m : Int} (h : cont hs = ranksP m) {k : Nat} (hk : k < hs.length) : rankOkP m (hx hs k) = true ∧ (hl hs k : Int) = m ∧ m ≤ 5 := by
  have h1 := cont_nth hk
  rw [h] at h1
  have hmem : hx hs k ∈ ranksP m := List.mem_of_getElem? h1
  by_cases hm : 1 ≤ m ∧ m ≤ 5
  · obtain ⟨q, rfl⟩ : ∃ q : Nat, m = (q : Int) := ⟨m.toNat, by omega⟩
    rw [ranks_yes hm] at hmem
    have h2 := ranks_rank0 q (by omega) (by omega)
    rw [List.all_eq_true] at h2
    have h3 := h2 _ hmem
    have h4 := of_rank h3
    have h5 : (hx hs k).length = hl hs k := rfl
    exact ⟨h3, by omega, by omega⟩
  · rw [ranks_no hm] at hmem
    cases hmem
theorem cont_len' {hs : List Hd} {m : Int} (h : cont hs = ranksP m) : hs.length ≤ 120 := by
  have := ranks_len m
  rw [← h, cont_len] at this
  exact this
/-- The rankings single-peaked on an axis. -/
def pkR (ax : List Int) : List (List Int) := if rankOkP ax.length ax then (ranksP ax.length).filter (fun r => peakedP r ax) else []
theorem pkR_no {ax : List Int} {n : Nat} (hl : ax.length = n) (h : rankOkP n ax = false) : pkR ax = [] := by simp [pkR, hl, h]
theorem pkR_yes {ax : List Int} {n : Nat} (hl : ax.length = n) (h : rankOkP n ax = true) : pkR ax = (ranksP n).filter (fun r => peakedP r ax) := by simp [pkR, hl, h]
/-- The first k headers' lists that are single-peaked. -/
def pkK (hs : List Hd) (ax : List Int) (k : Nat) : List (List Int) := ((cont hs).take k).filter (fun r => peakedP r ax)
theorem pkK_yes {hs : List Hd} {ax : List Int} {k : Nat} (hk : k < hs.length) (h : peakedP (hx hs k) ax = true) : pkK hs ax (k + 1) = pkK hs ax k ++ [hx hs k] := by
  have hk2 : k < (cont hs).length := by rw [cont_len]; exact hk
  have e := (List.getElem?_eq_some_iff.1 (cont_nth hk)).2
  unfold pkK
  rw [List.take_succ_eq_append_getElem hk2, e, List.filter_append]
  simp [h]
theorem pkK_no {hs : List Hd} {ax : List Int} {k : Nat} (hk : k < hs.length) (h : peakedP (hx hs k) ax = false) : pkK hs ax (k + 1) = pkK hs ax k := by
  have hk2 : k < (cont hs).length := by rw [cont_len]; exact hk
  have e := (List.getElem?_eq_some_iff.1 (cont_nth hk)).2
  unfold pkK
  rw [List.take_succ_eq_append_getElem hk2, e, List.filter_append]
  simp [h]
theorem pkK_all {hs : List Hd} {ax : List Int} {n : Nat} (h : hs.length = n) : pkK hs ax n = (cont hs).filter (fun r => peakedP r ax) := by
  unfold pkK
  rw [List.take_of_length_le (by rw [cont_len, h]; exact Nat.le_refl _)]
/-- Each header picked so far is one of the first k. -/
def Pick (hs sel : List Hd) (k : Nat) : Prop := ∀ j, j < sel.length → ∃ i, i < k ∧ hnth sel j = hnth hs i
theorem Pick.snoc {hs sel : List Hd} {k : Nat} (h : Pick hs sel k) : Pick hs (sel ++ [hnth hs k]) (k + 1) := by
  intro j hj
  rw [List.length_append, List.length_singleton] at hj
  by_cases e : j = sel.length
  · subst e
    exact ⟨k, by omega, hnth_last _ _⟩
  · obtain ⟨i, hi, he⟩ := h j (by omega)
    exact ⟨i, by omega, by rw [hnth_lt (by omega), he]⟩
theorem Pick.more {hs sel : List Hd} {k : Nat} (h : Pick hs sel k) : Pick hs sel (k + 1) := fun j hj => by
  obtain ⟨i, hi, he⟩ := h j hj
  exact ⟨i, by omega, he⟩

set_option maxHeartbeats 8000000 in
theorem specPeakedRankings (A : Option Addr) (n c : Nat) (ax : List Int) (w : World) (h : Ints w A n ax) (hn : (n : Int) ≤ 1048576) :
    Calls Try.prog 43 #[.slice A n c] w fun e w' => ∃ A' n' c', e = .returned (.slice A' n' c') ∧ ∃ sel, OwnL w' w.heap.size A' n' c' sel ∧ cont sel = pkR ax ∧ Below w.heap.size w w' := by
  have hl := h.1
  cases hr : rankOkP n ax with
  | false =>
    have HR := Lib.hid hr
    have HE := Lib.hid (pkR_no hl hr)
    clear hr
    go_enter Try.func43, Try.ntmps43
    go_wp2_with fail
    refine (specRankingOk n A n c ax _ h hn).mono ?_; rintro e w1 ⟨rfl, b1⟩
    rw [HR.out]
    go_wp2_with fail
    go_ret
    exact ⟨none, 0, 0, rfl, [], OwnL.nil_ _ _, HE.out.symm, b1⟩
  | true =>
    have HR := Lib.hid hr
    have HE := Lib.hid (pkR_yes hl hr)
    clear hr hl
    go_enter Try.func43, Try.ntmps43
    go_wp2_with fail
    refine (specRankingOk n A n c ax _ h hn).mono ?_; rintro e w0 ⟨rfl, b0⟩
    rw [HR.out]
    have s0 := b0.size
    have hE := ownL_empty w0 (base := w.heap.size) s0
    have bE : Below w.heap.size w (w0.alloc (.cells #[] 60)) := b0.alloc s0 _
    have hT : (w0.alloc (.cells #[] 60)).heap.size = w0.heap.size + 1 := by simp
    go_wp2_with fail
    refine (specAllRankings n _).mono ?_; rintro e w1 ⟨A1, n1, c1, rfl, hs, hL, hcont, b1⟩
    rw [hT] at hL
    have HE1 := Lib.hid (hE.below b1 (Nat.le_refl _))
    have HLI := Lib.hid hL
    have HIN := Lib.hid hL.inn
    have HC := Lib.hid hcont
    have hln : hs.length = n1 := hL.len
    have h120 : n1 ≤ 120 := by have := cont_len' hcont; omega
    have HLN := Lib.hid hln
    have h120' : (n1 : Int) ≤ 120 := by omega
    have bl1 := Below.on bE b1
    have s1 : w0.heap.size + 1 ≤ w1.heap.size := by have := b1.size; omega
    clear hL hcont hln hE bE b1 hT b0
    go_wp2_with fail
    go_loopw [3, 16] (fun u v wr => ∃ (k : Nat) (A' : Option Addr) (n' c' : Nat) (sel : List Hd), (k : Int) ≤ n1 ∧ u = .slice A' n' c' ∧ v = .int .i64 k ∧ OwnL wr w.heap.size A' n' c' sel ∧ cont sel = pkK hs ax k ∧ Pick hs sel k ∧ n' ≤ k ∧ (∀ r, A'.map (·.block) = some r → r < w0.heap.size + 1 ∨ w1.heap.size ≤ r) ∧ Below w.heap.size w wr ∧ OwnL wr (w0.heap.size + 1) A1 n1 c1 hs ∧ w1.heap.size ≤ wr.heap.size) (fun _ v _ => n1 - (intOf v).toNat)
    case atStart => exact ⟨0, some ⟨w0.heap.size, 0, none⟩, 0, 0, [], by omega, rfl, rfl, HE1.out, rfl, fun j hj => absurd hj (by simp), by omega, (fun r hr => by injection hr with hr; subst hr; left; show w0.heap.size < _; omega), bl1, HLI.out, Nat.le_refl _⟩
    case round =>
      obtain ⟨k, A', n', c', sel, hk, rfl, rfl, hS, hcs, hpk, hnk, hfar, hb, hLo, hbz⟩ := hrel
      obtain ⟨wo, rfl⟩ : ∃ wo : World, wo = wr := ⟨_, rfl⟩
      have HCS := Lib.hid hcs; clear hcs
      have HPK := Lib.hid hpk; clear hpk
      have HFA := Lib.hid hfar; clear hfar
      have HS := Lib.hid hS; clear hS
      have hbw := hb.size
      by_cases hlt : (k : Int) < n1
      · have hkl : k < hs.length := by rw [HLN.out]; omega
        obtain ⟨b, o, rfl, hbs, hcl, hcapk, hmx, hI⟩ := hLo.lists.at_ (k := k) (by omega)
        obtain ⟨hrk, hlk, hm5⟩ := cont_rank HC.out hkl
        have hq1 : (1 : Int) ≤ n := by have := of_rank hrk; omega
        have hl5 : (hl hs k : Int) ≤ 1048576 := by omega
        have hl1 : (1 : Int) ≤ hl hs k := by omega
        have hlc : (hl hs k : Int) ≤ hc hs k := by omega
        have hpe : peakedP (hx hs k) ax = peakS (places ax (hx hs k)) := by
          have h6 : rankOkP (ax.length : Nat) (hx hs k) = true := by rw [h.1]; exact hrk
          have h7 : rankOkP (ax.length : Nat) ax = true := by rw [h.1]; exact HR.out
          simp [peakedP, h6, h7]
        have HPE := Lib.hid hpe
        have HOK := Lib.hid (hLo.each k hkl)
        have HIK := Lib.hid hI
        have HLO := Lib.hid hLo
        have HAX := Lib.hid (h.below hb (Nat.le_refl _))
        clear hrk hlk hm5 hLo hI hpe
        cases hp : peakedP (hx hs k) ax with
        | true =>
          have HP := Lib.hid hp
          have HK := Lib.hid (pkK_yes hkl hp)
          clear hp
          go_wp2_with fail
          refine (specPeakedL _ _ _ _ _ _ (hx hs k) ax _ HIK.out HAX.out hl5 hl1 hn hlc).mono ?_; rintro e w2 ⟨rfl, rfl⟩
          rw [← HPE.out, HP.out]
          have hS1 := own_allocL HS.out (.cells #[hv (hnth hs k)] 60)
          have hL1 := own_allocL HLO.out (.cells #[hv (hnth hs k)] 60)
          have hO1 := own_alloc (own_mono HOK.out (show w.heap.size ≤ w0.heap.size + 1 by omega)) (.cells #[hv (hnth hs k)] 60)
          have HS1 := Lib.hid hS1; have HO1 := Lib.hid hO1; have HL1 := Lib.hid hL1
          have hszL : w.heap.size ≤ (wo.alloc (.cells #[hv (hnth hs k)] 60)).heap.size := by simp; omega
          have hbL : Below w.heap.size w (wo.alloc (.cells #[hv (hnth hs k)] 60)) := hb.alloc hbw _
          have hcl1 : (wo.alloc (.cells #[hv (hnth hs k)] 60)).cell? ⟨wo.heap.size, 0, none⟩ = some (hv (hnth hs k)) := by simp
          have HCL := Lib.hid hcl1
          have hap : ∀ j, j < sel.length → ∀ a b, hA sel j = some a → (hnth hs k).1 = some b → a.block ≠ b.block := fun j hj a b ha hb' => by
            obtain ⟨i, hi, he⟩ := HPK.out j hj
            have ha' : hA hs i = some a := by unfold hA at ha ⊢; rw [← he]; exact ha
            exact HLI.out.apart i k hi hkl a b ha' hb'
          have hoff : ∀ a b, (hnth hs k).1 = some a → A' = some b → a.block ≠ b.block := fun a b ha hb' => by
            have h3 := HIN.out.2 k hkl a ha
            have h5 := (own_ge (HLI.out.each k hkl) a ha).1
            have h4 := HFA.out b.block (by rw [hb']; rfl)
            omega
          have HAP := Lib.hid hap; have HOF := Lib.hid hoff
          clear hS1 hO1 hL1 hcl1 hap hoff
          go_wp2_with (first | (at_builtin; refine wpList_apM _ rfl _ _ rfl w.heap.size A' n' c' sel rfl HS1.out (hnth hs k) wo.heap.size 1 rfl HCL.out HO1.out HAP.out HOF.out (by omega) hszL ?_; intro A2 c2 w4 hL4 hg4 hblk))
          go_roundw
          case rel =>
            refine ⟨k + 1, A2, n' + 1, c2, sel ++ [hnth hs k], by omega, rfl, by go_num, hL4, ?_, HPK.out.snoc, by omega, fun r hr => ?_, below_apL hbL HS1.out hg4 hszL, HL1.out.far hg4 HIN.out HFA.out, ?_⟩
            · rw [HK.out, cont_append, HCS.out]; rfl
            · rcases hblk with e | e <;> rw [e] at hr
              · exact HFA.out r hr
              · injection hr with hr; subst hr; right; simp; omega
            · have := hg4.size; simp at this; omega
          case measure => simp [intOf]; omega
        | false =>
          have HP := Lib.hid hp
          have HK := Lib.hid (pkK_no hkl hp)
          clear hp
          go_wp2_with fail
          refine (specPeakedL _ _ _ _ _ _ (hx hs k) ax _ HIK.out HAX.out hl5 hl1 hn hlc).mono ?_; rintro e w2 ⟨rfl, rfl⟩
          rw [← HPE.out, HP.out]
          go_wp2_with fail
          go_roundw
          case rel => exact ⟨k + 1, A', n', c', sel, by omega, rfl, by go_num, HS.out, by rw [HK.out]; exact HCS.out, HPK.out.more, by omega, HFA.out, hb, HLO.out, hbz⟩
          case measure => simp [intOf]; omega
      · obtain rfl : k = n1 := by omega
        go_wp2_with fail
        go_ret
        exact ⟨A', n', c', rfl, sel, HS.out, by rw [HCS.out, pkK_all HLN.out, HC.out, HE.out], hb⟩
/-- Few rankings, each short. -/
theorem pkR_small (ax : List Int) : (pkR ax).length ≤ 120 ∧ ∀ r ∈ pkR ax, r.length ≤ 5 := by
  cases hr : rankOkP (ax.length : Nat) ax with
  | false => rw [pkR_no rfl hr]; simp
  | true =>
    rw [pkR_yes rfl hr]
    have hq := of_rank hr
    refine ⟨Nat.le_trans (List.length_filter_le _ _) (ranks_len _), fun r hmem => ?_⟩
    have h1 := (List.mem_filter.1 hmem).1
    rw [ranks_yes hq.1] at h1
    have h2 := ranks_rank0 ax.length (by omega) (by omega)
    rw [List.all_eq_true] at h2
    have h4 := of_rank (h2 _ h1)
    omega
end Go.Proofs.Ytadacfammhianaa
