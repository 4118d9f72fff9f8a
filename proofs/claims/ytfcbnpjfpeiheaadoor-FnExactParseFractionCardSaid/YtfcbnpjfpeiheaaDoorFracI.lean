/- The text of a fraction: what the program's function computes. -/
import Derived.Test.YtfcbnpjfpeiheaaDoorFracT
import Derived.Test.YtfcbnpjfpeiheaaDoorItoa
namespace Go.Proofs.YtfcbnpjfpeiheaaDoor
open Go.RowKit
set_option maxRecDepth 100000

set_option maxHeartbeats 4000000 in
theorem implFormatFraction (t y : Int) (w : World) (hp : Pow w) :
    Calls Tryd.prog 23 #[.agg #[.int .i64 t, .int .i64 y]] w fun e w' => e = .returned (.string (fracT t y)) ∧ Below w.heap.size w w' := by
  have HP := Lib.hid hp; clear hp
  have bl : Below w.heap.size w (w.alloc (.cells #[.int .i64 t, .int .i64 y] 23)) := (Below.refl _ _).alloc (Nat.le_refl _) _
  have k0 : (w.alloc (.cells #[.int .i64 t, .int .i64 y] 23)).cell? ⟨w.heap.size, 0, none⟩ = some (.int .i64 t) := by simp
  have k1 : (w.alloc (.cells #[.int .i64 t, .int .i64 y] 23)).cell? ⟨w.heap.size, 1, none⟩ = some (.int .i64 y) := by simp
  have sk : w.heap.size < (w.alloc (.cells #[.int .i64 t, .int .i64 y] 23)).heap.size := by simp
  have hx := Nat.le_refl w.heap.size
  go_enter Tryd.func23, Tryd.ntmps23
  go_wp2_with fail
  generalize w.alloc (.cells #[.int .i64 t, .int .i64 y] 23) = W at *
  generalize hxx : w.heap.size = x at *
  refine (implFractionOk t y _).mono ?_; rintro e w1 ⟨rfl, b1⟩
  have bl1 := by subst hxx; exact Below.on bl b1
  replace k0 := (b1.cell (p := ⟨x, 0, none⟩) sk).trans k0
  replace k1 := (b1.cell (p := ⟨x, 1, none⟩) sk).trans k1
  replace sk := Nat.lt_of_lt_of_le sk b1.size
  have HPW : Hid (Pow w1) := by subst hxx; exact HP.out.on bl1
  clear b1 bl hx hxx
  cases hf : fracOkP t y with
  | false =>
    have HF := Lib.hid (fracT_no hf)
    clear hf
    go_wp2_with fail
    go_ret
    exact ⟨ret_stringF HF.out.symm, bl1⟩
  | true =>
    obtain ⟨⟨ht1, ht2⟩, ⟨hy1, hy2⟩, _⟩ := of_fracOk hf
    have hlt := fmtI_len (n := t) (by omega) (by omega)
    have hly := fmtI_len (n := y) (by omega) (by omega)
    by_cases h1 : y = 1
    · have HF := Lib.hid (fracT_one hf h1)
      have hb : (y == 1) = true := by rw [beq_iff_eq]; exact h1
      clear hf h1
      go_wp2_with fail
      refine (implFormatInt t _ (by omega) (by omega) HPW.out).mono ?_; rintro e w2 ⟨rfl, b2⟩
      go_wp2_with fail
      go_ret
      exact ⟨ret_stringF HF.out.symm, Below.on bl1 b2⟩
    · have HF := Lib.hid (fracT_two hf h1)
      have hb : (y == 1) = false := by rw [beq_eq_false_iff_ne]; exact h1
      have hz1 : (strOfNums (fmtI t)).size ≤ 20 := by rw [strOfNums_size]; exact hlt
      have hz2 : (strOfNums (fmtI y)).size ≤ 20 := by rw [strOfNums_size]; exact hly
      have hcat1 : ¬ 9223372036854775807 < (strOfNums (fmtI t)).size + 1 := by omega
      have hcat2 : ¬ 9223372036854775807 < (strOfNums (fmtI t)).size + 1 + (strOfNums (fmtI y)).size := by omega
      have hcat3 : ¬ 9223372036854775807 < (strOfNums (fmtI t) ++ (⟨#[47]⟩ : ByteArray)).size + (strOfNums (fmtI y)).size := by rw [ByteArray.size_append]; show ¬ 9223372036854775807 < (strOfNums (fmtI t)).size + 1 + (strOfNums (fmtI y)).size; omega
      have bd := Below.drew (Below.refl w1.heap.size w1)
      clear hf h1
      go_wp2_with fail
      refine wp_region_held_drew (S := (fun w' => w'.cell? ⟨x, 0, none⟩ = some (.int .i64 t) ∧ w'.cell? ⟨x, 1, none⟩ = some (.int .i64 y))) (by kernel_rfl) ?_ (fun hHeld => ?_)
      · (try dsimp only); go_keep
      refine wpAnyH_take (i := 0) (v := ?_) rfl (by kernel_rfl) (by kernel_rfl) (by kernel_rfl) (fun _ _ _ h => h) (Or.inl ⟨by rfl, ?_⟩) (by assumption) ?_
      rotate_left
      · intro wq hSw; (try dsimp only at hSw); go_simp; (try with_reducible rfl)
      simp only [Act.put]
      refine wpAnyH_take (i := 1) (v := ?_) rfl (by kernel_rfl) (by kernel_rfl) (by kernel_rfl) (fun _ _ _ h => h) (Or.inl ⟨by rfl, ?_⟩) (by assumption) ?_
      rotate_left
      · intro wq hSw; (try dsimp only at hSw); go_simp; (try with_reducible rfl)
      simp only [Act.put]
      refine wpAnyH_take (i := 4) (v := ?_) rfl (by kernel_rfl) (by kernel_rfl) (by kernel_rfl) (fun _ _ _ h => h) (Or.inl ⟨by rfl, ?_⟩) (by assumption) ?_
      rotate_left
      · intro wq hSw; (try dsimp only at hSw); go_simp; (try with_reducible rfl)
      simp only [Act.put]
      refine wpAnyH_take (i := 5) (v := ?_) rfl (by kernel_rfl) (by kernel_rfl) (by kernel_rfl) (fun _ _ _ h => h) (Or.inl ⟨by rfl, ?_⟩) (by assumption) ?_
      rotate_left
      · intro wq hSw; (try dsimp only at hSw); go_simp; (try with_reducible rfl)
      simp only [Act.put]
      refine wpAnyH_ready (rs := [2]) (by kernel_rfl) (by simp) ?_
      refine AllReadyH.cons rfl (fun K hK => ?_) ?_
      · skip
        go_simp
        go_at_call 14; refine (implFormatInt t _ (by omega) (by omega) (HPW.out.on bd)).mono ?_; rintro e w2 ⟨rfl, b2⟩
        have bt := bd.trans b2
        have k0r := (bt.cell (p := ⟨x, 0, none⟩) sk).trans k0
        have k1r := (bt.cell (p := ⟨x, 1, none⟩) sk).trans k1
        clear b2
        refine hK.out _ _ ?_ (fun hHeld => ?_)
        · (try dsimp only); go_keep
        clear hK K
        refine wpAnyH_ready (rs := [3, 6]) (by kernel_rfl) (by simp) ?_
        refine AllReadyH.cons rfl (fun K hK => ?_) ?_
        · skip
          go_simp
          refine hK.out _ _ ?_ (fun hHeld => ?_)
          · (try dsimp only); go_keep
          clear hK K
          refine wpAnyH_ready (rs := [6]) (by kernel_rfl) (by simp) ?_
          refine AllReadyH.cons rfl (fun K hK => ?_) ?_
          · skip
            go_simp
            go_at_call 14; refine (implFormatInt y _ (by omega) (by omega) (HPW.out.on bt)).mono ?_; rintro e w3 ⟨rfl, b3⟩
            have bt2 := Below.on bt b3
            have k0q := (bt2.cell (p := ⟨x, 0, none⟩) sk).trans k0
            have k1q := (bt2.cell (p := ⟨x, 1, none⟩) sk).trans k1
            clear b3
            refine hK.out _ _ ?_ (fun hHeld => ?_)
            · (try dsimp only); go_keep
            clear hK K
            refine wpAnyH_ready (rs := [7]) (by kernel_rfl) (by simp) ?_
            refine AllReadyH.cons rfl (fun K hK => ?_) ?_
            · skip
              go_simp
              refine hK.out _ _ ?_ (fun hHeld => ?_)
              · (try dsimp only); go_keep
              clear hK K
              refine wpAnyH_ready (rs := [8]) (by kernel_rfl) (by simp) ?_
              refine AllReadyH.cons rfl (fun K hK => ?_) ?_
              · skip
                go_simp
                refine hK.out _ _ ?_ (fun hHeld => ?_)
                · (try dsimp only); go_keep
                clear hK K
                refine wpAnyH_done (by kernel_rfl) ?_ _
                go_simp
                go_wp2_with fail
                go_ret
                exact ⟨ret_stringF HF.out.symm, Below.on bl1 bt2⟩
              exact AllReadyH.nil
            exact AllReadyH.nil
          exact AllReadyH.nil
        refine AllReadyH.cons rfl (fun K hK => ?_) ?_
        · skip
          go_simp
          go_at_call 14; refine (implFormatInt y _ (by omega) (by omega) (HPW.out.on bt)).mono ?_; rintro e w3 ⟨rfl, b3⟩
          have bt2 := Below.on bt b3
          have k0q := (bt2.cell (p := ⟨x, 0, none⟩) sk).trans k0
          have k1q := (bt2.cell (p := ⟨x, 1, none⟩) sk).trans k1
          clear b3
          refine hK.out _ _ ?_ (fun hHeld => ?_)
          · (try dsimp only); go_keep
          clear hK K
          refine wpAnyH_ready (rs := [3]) (by kernel_rfl) (by simp) ?_
          refine AllReadyH.cons rfl (fun K hK => ?_) ?_
          · skip
            go_simp
            refine hK.out _ _ ?_ (fun hHeld => ?_)
            · (try dsimp only); go_keep
            clear hK K
            refine wpAnyH_ready (rs := [7]) (by kernel_rfl) (by simp) ?_
            refine AllReadyH.cons rfl (fun K hK => ?_) ?_
            · skip
              go_simp
              refine hK.out _ _ ?_ (fun hHeld => ?_)
              · (try dsimp only); go_keep
              clear hK K
              refine wpAnyH_ready (rs := [8]) (by kernel_rfl) (by simp) ?_
              refine AllReadyH.cons rfl (fun K hK => ?_) ?_
              · skip
                go_simp
                refine hK.out _ _ ?_ (fun hHeld => ?_)
                · (try dsimp only); go_keep
                clear hK K
                refine wpAnyH_done (by kernel_rfl) ?_ _
                go_simp
                go_wp2_with fail
                go_ret
                exact ⟨ret_stringF HF.out.symm, Below.on bl1 bt2⟩
              exact AllReadyH.nil
            exact AllReadyH.nil
          exact AllReadyH.nil
        exact AllReadyH.nil
      exact AllReadyH.nil
end Go.Proofs.YtfcbnpjfpeiheaaDoor
