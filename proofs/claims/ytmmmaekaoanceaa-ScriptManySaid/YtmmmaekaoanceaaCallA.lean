/- The walks of call.PutCall, PutBind, PutSchema, PutCancel, of span.Put and of their twins of the document: what each hands back. -/
import Derived.Test.YtmmmaekaoanceaaVarA
namespace Go.Proofs.Ytmmmaekaoanceaa
open Go Go.RowKit

/-- a number's bytes, 0 for one below 0 -/
def numL (n : Int) : List UInt8 := putL n.toNat
/-- a text with its length ahead -/
def spanL (s : ByteArray) : List UInt8 := putL s.size ++ s.data.toList

theorem spanput_any (s : ByteArray) (w : World) (hs : s.size ≤ 140737488351232) :
    Calls Try.prog 95 #[.string s] w (Gives w (.string (S (spanL s)))) := by
  have hl : (S (putL s.size)).size ≤ 10 := by rw [S_size]; exact putL_ten (by omega)
  have H := Lib.hid (show S (putL s.size) ++ s = S (spanL s) by rw [S_cat]; rfl)
  go_enter Try.func95, Try.ntmps95
  go_wp2_with fail
  refine (varput_any _ _ (by omega) (by omega)).mono ?_
  rintro e w1 ⟨rfl, hu⟩
  rw [Int.toNat_natCast]
  go_wp2_with fail
  go_ret
  exact Gives.mk (congrArg Value.string H.out) hu
theorem refspanput_any (s : ByteArray) (w : World) (hs : s.size ≤ 140737488351232) :
    Calls Try.prog 80 #[.string s] w (Gives w (.string (S (spanL s)))) := by
  have hl : (S (putL s.size)).size ≤ 10 := by rw [S_size]; exact putL_ten (by omega)
  have H := Lib.hid (show S (putL s.size) ++ s = S (spanL s) by rw [S_cat]; rfl)
  go_enter Try.func80, Try.ntmps80
  go_wp2_with fail
  refine (refput_any _ _ _ (Nat.le_refl _) (by omega) (by omega)).mono ?_
  rintro e w1 ⟨rfl, hu⟩
  rw [Int.toNat_natCast]
  go_wp2_with fail
  go_ret
  exact Gives.mk (congrArg Value.string H.out) hu
/-- a call's body -/
def callL (id : Int) (wait num : Int) (args : ByteArray) : List UInt8 := putL id.toNat ++ numL wait ++ numL num ++ args.data.toList
theorem numL_len (n : Int) (h1 : n ≤ 9223372036854775807) : (S (numL n)).size ≤ 10 := by rw [S_size]; exact putL_ten (by omega)
theorem spanL_len (s : ByteArray) (hs : s.size ≤ 140737488351232) : (S (spanL s)).size ≤ 140737488351242 := by
  rw [S_size, spanL, List.length_append]
  have := putL_ten (n := s.size) (by omega)
  have h : s.data.toList.length = s.size := by simp
  omega
end Go.Proofs.Ytmmmaekaoanceaa
