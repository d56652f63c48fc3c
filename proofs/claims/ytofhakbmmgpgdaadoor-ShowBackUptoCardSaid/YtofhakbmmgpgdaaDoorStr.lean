/- Strings that are alike, or not, in the walk's own spelling. -/
import Derived.Test.YtofhakbmmgpgdaaDoorBase
namespace Go.Proofs.YtofhakbmmgpgdaaDoor
open Go Go.RowKit

theorem toList_data (x : ByteArray) : x.toList = x.data.toList := by
  have h := S_toList x.data.toList
  rwa [S_of] at h
theorem toList_inj {x y : ByteArray} (h : x.toList = y.toList) : x = y := by
  rw [toList_data, toList_data] at h
  rw [← S_of x, ← S_of y, h]
theorem str_ne {x y : ByteArray} (h : x ≠ y) : (x.toList == y.toList) = false := by
  rw [beq_eq_false_iff_ne]; exact fun h2 => h (toList_inj h2)
theorem str_eq {x y : ByteArray} (h : x = y) : (x.toList == y.toList) = true := by rw [h]; exact beq_self_eq_true _
theorem str_dec (x y : ByteArray) : (x.toList == y.toList) = decide (x = y) := by
  by_cases h : x = y
  · rw [str_eq h, decide_eq_true h]
  · rw [str_ne h, decide_eq_false h]
theorem toList_empty {x : ByteArray} (h : x.size = 0) : x.toList = [] := by
  rw [toList_data]; exact List.eq_nil_of_length_eq_zero (by simpa using h)
theorem size_empty {x : ByteArray} (h : x.size = 0) : x = ⟨#[]⟩ := by
  rw [← S_of x, ← toList_data, toList_empty h]; rfl
end Go.Proofs.YtofhakbmmgpgdaaDoor
