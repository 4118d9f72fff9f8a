/- Profiles: the laws' copy is of the call's own. -/
import Derived.Test.YtkofjdddmpebmaaGreatDoorOwnV
namespace Go.Proofs.YtkofjdddmpebmaaGreatDoor
open Go.RowKit
set_option maxRecDepth 100000

theorem vcell_list (vs : List (List Int × Int)) (G : Nat → Nat) (n : Nat) {k : Nat} (hk : k < n) : VC ((List.range (n * 2)).map (vcell vs G n)) (fun j => some ⟨G j, 0, none⟩) (rl vs) (rk vs) (ct vs) k := by
  unfold VC
  rw [List.getElem?_map, List.getElem?_range (by omega), List.getElem?_map, List.getElem?_range (by omega)]
  simp only [Option.map_some, vcell]
  rw [if_pos (by omega), if_pos (by omega), if_pos (by omega), if_neg (by omega), show k * 2 / 2 = k by omega, show (k * 2 + 1) / 2 = k by omega]
  exact ⟨rfl, rfl⟩
theorem ownV_of_row {w : World} {g base n : Nat} {vs : List (List Int × Int)} {G : Nat → Nat} (h : w.rowIs g 36 (n * 2) (vcell vs G n)) (hn : (n : Int) ≤ 1048576) (hb : base ≤ g)
    (ho : ∀ j, j < n → w.ownsRow (g + 1) 3 1 (.slice (some ⟨G j, 0, none⟩) (rl vs j) (rl vs j)) (rl vs j) (iv (rk vs j)) ∧ ∀ i, i < j → G i ≠ G j) : OwnV w base (some ⟨g, 0, none⟩) n n (fun j => some ⟨G j, 0, none⟩) (rl vs) (rk vs) (ct vs) := by
  refine ⟨⟨(List.range (n * 2)).map (vcell vs G n), ?_, fun k hk => vcell_list vs G n hk⟩, fun k hk => own_mono (ho k hk).1 (by omega), fun i j hij hj a b ha hb => ?_, fun k hk a g' ha hg => ?_⟩
  · obtain ⟨c, h1, h2, h3⟩ := h
    refine ⟨by simp, .inr ⟨g, n, c, rfl, hb, h1, Nat.le_refl _, by simp only [maxLen]; omega, h2, ?_⟩⟩
    apply List.ext_getElem?
    intro j
    by_cases hj : j < n * 2
    · rw [List.getElem?_take, if_pos hj, Array.getElem?_toList, h3 j hj, List.getElem?_map, List.getElem?_range hj]; rfl
    · rw [List.getElem?_eq_none (by rw [List.length_take]; omega), List.getElem?_eq_none (by simp; omega)]
  · injection ha with ha; injection hb with hb
    subst ha; subst hb
    exact (ho j hj).2 i hij
  · injection ha with ha; injection hg with hg
    subst ha; subst hg
    have := (own_ge (ho k hk).1 _ rfl).1
    have h2 : g + 1 ≤ G k := this
    show G k ≠ g
    omega

end Go.Proofs.YtkofjdddmpebmaaGreatDoor
