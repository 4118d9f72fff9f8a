/- The empty text, as a comparison shows it. -/
import Derived.Test.YtkofjdddmpebmaaGreatDoorCutL
namespace Go.Proofs.YtkofjdddmpebmaaGreatDoor
open Go.RowKit

theorem empty_yes {x : ByteArray} (h : x = ByteArray.empty) : x.toList.isEmpty = true ∧ (x.toList == (⟨#[]⟩ : ByteArray).toList) = true := by
  rw [h, ByteArray.toList_eq, ByteArray.toList_eq]; exact ⟨rfl, rfl⟩
theorem empty_no {x : ByteArray} (h : x ≠ ByteArray.empty) : x.toList.isEmpty = false ∧ (x.toList == (⟨#[]⟩ : ByteArray).toList) = false := by
  rw [ByteArray.toList_eq, ByteArray.toList_eq]
  cases hl : x.data.toList with
  | nil => exact absurd (ByteArray.ext (Array.toList_inj.1 (by rw [hl]; rfl))) h
  | cons _ _ => exact ⟨rfl, rfl⟩
end Go.Proofs.YtkofjdddmpebmaaGreatDoor
