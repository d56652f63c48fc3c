/- The walks of call.PutCall, PutBind, PutSchema, PutCancel, of span.Put and of their twins of the document: what each hands back. -/
import Derived.Test.YtpldfoclogkppaaVarA
namespace Go.Proofs.Ytpldfoclogkppaa
open Go Go.RowKit

/-- a number's bytes, 0 for one below 0 -/
def numL (n : Int) : List UInt8 := putL n.toNat
/-- a text with its length ahead -/
def spanL (s : ByteArray) : List UInt8 := putL s.size ++ s.data.toList

theorem spanput_any (s : ByteArray) (w : World) (hs : s.size ≤ 140737488351232) :
    Calls Try.prog 55 #[.string s] w (Gives w (.string (S (spanL s)))) := by
  have hl : (S (putL s.size)).size ≤ 10 := by rw [S_size]; exact putL_ten (by omega)
  have H := Lib.hid (show S (putL s.size) ++ s = S (spanL s) by rw [S_cat]; rfl)
  go_enter Try.func55, Try.ntmps55
  go_wp2_with fail
  refine (varput_any _ _ (by omega) (by omega)).mono ?_
  rintro e w1 ⟨rfl, hu⟩
  rw [Int.toNat_natCast]
  go_wp2_with fail
  go_ret
  exact Gives.mk (congrArg Value.string H.out) hu
theorem refspanput_any (s : ByteArray) (w : World) (hs : s.size ≤ 140737488351232) :
    Calls Try.prog 56 #[.string s] w (Gives w (.string (S (spanL s)))) := by
  have hl : (S (putL s.size)).size ≤ 10 := by rw [S_size]; exact putL_ten (by omega)
  have H := Lib.hid (show S (putL s.size) ++ s = S (spanL s) by rw [S_cat]; rfl)
  go_enter Try.func56, Try.ntmps56
  go_wp2_with fail
  refine (refput_any _ _ _ (Nat.le_refl _) (by omega) (by omega)).mono ?_
  rintro e w1 ⟨rfl, hu⟩
  rw [Int.toNat_natCast]
  go_wp2_with fail
  go_ret
  exact Gives.mk (congrArg Value.string H.out) hu
theorem number_any (n : Int) (w : World) (h0 : -9223372036854775808 ≤ n) (h1 : n ≤ 9223372036854775807) :
    Calls Try.prog 85 #[.int .i64 n] w (Gives w (.string (S (numL n)))) := by
  by_cases hn : n < 0
  · have H := Lib.hid (show S (putL (0 : Int).toNat) = S (numL n) by unfold numL; rw [show n.toNat = (0 : Int).toNat from by omega])
    go_enter Try.func85, Try.ntmps85
    go_wp2_with fail
    refine (varput_any _ _ (by omega) (by omega)).mono ?_
    rintro e w1 ⟨rfl, hu⟩
    go_wp2_with fail
    go_ret
    exact Gives.mk (congrArg Value.string H.out) hu
  · go_enter Try.func85, Try.ntmps85
    go_wp2_with fail
    refine (varput_any _ _ (by omega) (by omega)).mono ?_
    rintro e w1 ⟨rfl, hu⟩
    go_wp2_with fail
    go_ret
    exact Gives.mk rfl hu
theorem refnumber_any (n : Int) (w : World) (h0 : -9223372036854775808 ≤ n) (h1 : n ≤ 9223372036854775807) :
    Calls Try.prog 86 #[.int .i64 n] w (Gives w (.string (S (numL n)))) := by
  by_cases hn : n < 0
  · have H := Lib.hid (show S (putL (0 : Int).toNat) = S (numL n) by unfold numL; rw [show n.toNat = (0 : Int).toNat from by omega])
    go_enter Try.func86, Try.ntmps86
    go_wp2_with fail
    refine (refput_any _ _ _ (Nat.le_refl _) (by omega) (by omega)).mono ?_
    rintro e w1 ⟨rfl, hu⟩
    go_wp2_with fail
    go_ret
    exact Gives.mk (congrArg Value.string H.out) hu
  · go_enter Try.func86, Try.ntmps86
    go_wp2_with fail
    refine (refput_any _ _ _ (Nat.le_refl _) (by omega) (by omega)).mono ?_
    rintro e w1 ⟨rfl, hu⟩
    go_wp2_with fail
    go_ret
    exact Gives.mk rfl hu

/-- a call's body -/
def callL (id : Int) (wait num : Int) (args : ByteArray) : List UInt8 := putL id.toNat ++ numL wait ++ numL num ++ args.data.toList
theorem numL_len (n : Int) (h1 : n ≤ 9223372036854775807) : (S (numL n)).size ≤ 10 := by rw [S_size]; exact putL_ten (by omega)
set_option maxHeartbeats 800000 in
set_option maxRecDepth 100000 in
theorem putcall_any (id wait num : Int) (args : ByteArray) (w : World) (h0 : 0 ≤ id) (h1 : id ≤ 18446744073709551615) (a0 : -9223372036854775808 ≤ wait) (a1 : wait ≤ 9223372036854775807)
    (b0 : -9223372036854775808 ≤ num) (b1 : num ≤ 9223372036854775807) (hs : args.size ≤ 140737488351232) :
    Calls Try.prog 22 #[.agg #[.int .u64 id, .int .i64 wait, .int .i64 num, .string args]] w (Gives w (.string (S (callL id wait num args)))) := by
  have hl1 : (S (putL id.toNat)).size ≤ 10 := by rw [S_size]; exact putL_ten (by omega)
  have hl2 := numL_len wait a1
  have hl3 := numL_len num b1
  have hl4 : (S (putL id.toNat) ++ S (numL wait)).size ≤ 20 := by rw [ByteArray.size_append]; omega
  have hl5 : (S (putL id.toNat) ++ S (numL wait) ++ S (numL num)).size ≤ 30 := by rw [ByteArray.size_append]; omega
  have H := Lib.hid (show S (putL id.toNat) ++ S (numL wait) ++ S (numL num) ++ args = S (callL id wait num args) by
    rw [S_append, S_append, S_cat]; rfl)
  go_enter Try.func22, Try.ntmps22
  go_wp2_with fail
  refine wp_region_up (by kernel_rfl) (by kernel_rfl) (Up.refl _) ?_


  repeat (go_big_quiet_step ((first | exact quiet_up (varput_any _ _ (by omega) (by omega)) | exact quiet_up (number_any _ _ (by omega) (by omega)))))
  refine wpQuiet_nil ?_
  intro w1 hu
  go_wp2_with fail
  go_ret
  exact Gives.mk (congrArg Value.string H.out) (((Up.refl w).alloc _).trans hu)
theorem spanL_len (s : ByteArray) (hs : s.size ≤ 140737488351232) : (S (spanL s)).size ≤ 140737488351242 := by
  rw [S_size, spanL, List.length_append]
  have := putL_ten (n := s.size) (by omega)
  have h : s.data.toList.length = s.size := by simp
  omega
end Go.Proofs.Ytpldfoclogkppaa
