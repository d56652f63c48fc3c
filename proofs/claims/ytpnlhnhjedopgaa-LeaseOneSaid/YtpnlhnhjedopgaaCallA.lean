/- The walks of call.PutCall, PutBind, PutSchema, PutCancel, of span.Put and of their twins of the document: what each hands back. -/
import Derived.Test.YtpnlhnhjedopgaaVarA
namespace Go.Proofs.Ytpnlhnhjedopgaa
open Go Go.RowKit

/-- a number's bytes, 0 for one below 0 -/
def numL (n : Int) : List UInt8 := putL n.toNat
/-- a text with its length ahead -/
def spanL (s : ByteArray) : List UInt8 := putL s.size ++ s.data.toList

/-- a call's body -/
def callL (id : Int) (wait num : Int) (args : ByteArray) : List UInt8 := putL id.toNat ++ numL wait ++ numL num ++ args.data.toList
theorem numL_len (n : Int) (h1 : n ≤ 9223372036854775807) : (S (numL n)).size ≤ 10 := by rw [S_size]; exact putL_ten (by omega)
theorem spanL_len (s : ByteArray) (hs : s.size ≤ 140737488351232) : (S (spanL s)).size ≤ 140737488351242 := by
  rw [S_size, spanL, List.length_append]
  have := putL_ten (n := s.size) (by omega)
  have h : s.data.toList.length = s.size := by simp
  omega
end Go.Proofs.Ytpnlhnhjedopgaa
