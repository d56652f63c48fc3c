/- The walks of call.PutBind, PutSchema, PutCancel, the document's twins, and the law's own small functions. -/
import Derived.Test.YtpldfoclogkppaaCallA
namespace Go.Proofs.Ytpldfoclogkppaa
open Go Go.RowKit

/-- a bind's body -/
def bindL (id num : Int) (service method : ByteArray) (op : Int) : List UInt8 := putL id.toNat ++ numL num ++ spanL service ++ spanL method ++ numL op
set_option maxHeartbeats 800000 in
set_option maxRecDepth 100000 in
theorem putbind_any (id num : Int) (service method : ByteArray) (op : Int) (w : World) (h0 : 0 ≤ id) (h1 : id ≤ 18446744073709551615) (a0 : -9223372036854775808 ≤ num) (a1 : num ≤ 9223372036854775807)
    (hs : service.size ≤ 140737488351232) (hm : method.size ≤ 140737488351232) (b0 : -9223372036854775808 ≤ op) (b1 : op ≤ 9223372036854775807) :
    Calls Try.prog 25 #[.agg #[.int .u64 id, .int .i64 num, .string service, .string method, .int .i64 op]] w (Gives w (.string (S (bindL id num service method op)))) := by
  have hl1 : (S (putL id.toNat)).size ≤ 10 := by rw [S_size]; exact putL_ten (by omega)
  have hl2 := numL_len num a1
  have hl3 := numL_len op b1
  have hx1 := spanL_len service hs
  have hx2 := spanL_len method hm
  have hl4 : (S (putL id.toNat) ++ S (numL num)).size ≤ 20 := by rw [ByteArray.size_append]; omega
  have hl5 : (S (putL id.toNat) ++ S (numL num) ++ S (spanL service)).size ≤ 140737488351262 := by rw [ByteArray.size_append]; omega
  have hl6 : (S (putL id.toNat) ++ S (numL num) ++ S (spanL service) ++ S (spanL method)).size ≤ 281474976702604 := by rw [ByteArray.size_append]; omega
  have H := Lib.hid (show S (putL id.toNat) ++ S (numL num) ++ S (spanL service) ++ S (spanL method) ++ S (numL op) = S (bindL id num service method op) by
    simp only [S_append]; rfl)
  go_enter Try.func25, Try.ntmps25
  go_wp2_with fail
  refine wp_region_up (by kernel_rfl) (by kernel_rfl) (Up.refl _) ?_
  repeat (go_big_quiet_step ((first | exact quiet_up (varput_any _ _ (by omega) (by omega)) | exact quiet_up (number_any _ _ (by omega) (by omega)) | exact quiet_up (spanput_any _ _ (by omega)))))
  refine wpQuiet_nil ?_
  intro w1 hu
  go_wp2_with fail
  go_ret
  exact Gives.mk (congrArg Value.string H.out) (((Up.refl w).alloc _).trans hu)
set_option maxHeartbeats 800000 in
set_option maxRecDepth 100000 in
theorem refputcall_any (id wait num : Int) (args : ByteArray) (w : World) (h0 : 0 ≤ id) (h1 : id ≤ 18446744073709551615) (a0 : -9223372036854775808 ≤ wait) (a1 : wait ≤ 9223372036854775807)
    (b0 : -9223372036854775808 ≤ num) (b1 : num ≤ 9223372036854775807) (hs : args.size ≤ 140737488351232) :
    Calls Try.prog 24 #[.agg #[.int .u64 id, .int .i64 wait, .int .i64 num, .string args]] w (Gives w (.string (S (callL id wait num args)))) := by
  have hl1 : (S (putL id.toNat)).size ≤ 10 := by rw [S_size]; exact putL_ten (by omega)
  have hl2 := numL_len wait a1
  have hl3 := numL_len num b1
  have hl4 : (S (putL id.toNat) ++ S (numL wait)).size ≤ 20 := by rw [ByteArray.size_append]; omega
  have hl5 : (S (putL id.toNat) ++ S (numL wait) ++ S (numL num)).size ≤ 30 := by rw [ByteArray.size_append]; omega
  have H := Lib.hid (show S (putL id.toNat) ++ S (numL wait) ++ S (numL num) ++ args = S (callL id wait num args) by
    rw [S_append, S_append, S_cat]; rfl)
  go_enter Try.func24, Try.ntmps24
  go_wp2_with fail
  refine wp_region_up (by kernel_rfl) (by kernel_rfl) (Up.refl _) ?_
  repeat (go_big_quiet_step ((first | exact quiet_up (refput_any _ _ _ (Nat.le_refl _) (by omega) (by omega)) | exact quiet_up (refnumber_any _ _ (by omega) (by omega)))))
  refine wpQuiet_nil ?_
  intro w1 hu
  go_wp2_with fail
  go_ret
  exact Gives.mk (congrArg Value.string H.out) (((Up.refl w).alloc _).trans hu)
set_option maxHeartbeats 800000 in
set_option maxRecDepth 100000 in
theorem refputbind_any (id num : Int) (service method : ByteArray) (op : Int) (w : World) (h0 : 0 ≤ id) (h1 : id ≤ 18446744073709551615) (a0 : -9223372036854775808 ≤ num) (a1 : num ≤ 9223372036854775807)
    (hs : service.size ≤ 140737488351232) (hm : method.size ≤ 140737488351232) (b0 : -9223372036854775808 ≤ op) (b1 : op ≤ 9223372036854775807) :
    Calls Try.prog 27 #[.agg #[.int .u64 id, .int .i64 num, .string service, .string method, .int .i64 op]] w (Gives w (.string (S (bindL id num service method op)))) := by
  have hl1 : (S (putL id.toNat)).size ≤ 10 := by rw [S_size]; exact putL_ten (by omega)
  have hl2 := numL_len num a1
  have hl3 := numL_len op b1
  have hx1 := spanL_len service hs
  have hx2 := spanL_len method hm
  have hl4 : (S (putL id.toNat) ++ S (numL num)).size ≤ 20 := by rw [ByteArray.size_append]; omega
  have hl5 : (S (putL id.toNat) ++ S (numL num) ++ S (spanL service)).size ≤ 140737488351262 := by rw [ByteArray.size_append]; omega
  have hl6 : (S (putL id.toNat) ++ S (numL num) ++ S (spanL service) ++ S (spanL method)).size ≤ 281474976702604 := by rw [ByteArray.size_append]; omega
  have H := Lib.hid (show S (putL id.toNat) ++ S (numL num) ++ S (spanL service) ++ S (spanL method) ++ S (numL op) = S (bindL id num service method op) by
    simp only [S_append]; rfl)
  go_enter Try.func27, Try.ntmps27
  go_wp2_with fail
  refine wp_region_up (by kernel_rfl) (by kernel_rfl) (Up.refl _) ?_
  repeat (go_big_quiet_step ((first | exact quiet_up (refput_any _ _ _ (Nat.le_refl _) (by omega) (by omega)) | exact quiet_up (refnumber_any _ _ (by omega) (by omega)) | exact quiet_up (refspanput_any _ _ (by omega)))))
  refine wpQuiet_nil ?_
  intro w1 hu
  go_wp2_with fail
  go_ret
  exact Gives.mk (congrArg Value.string H.out) (((Up.refl w).alloc _).trans hu)

theorem putschema_any (id : Int) (s : ByteArray) (w : World) (h0 : 0 ≤ id) (h1 : id ≤ 18446744073709551615) (hs : s.size ≤ 140737488351232) :
    Calls Try.prog 28 #[.int .u64 id, .string s] w (Gives w (.string (S (putL id.toNat) ++ s))) := by
  have hl1 : (S (putL id.toNat)).size ≤ 10 := by rw [S_size]; exact putL_ten (by omega)
  go_enter Try.func28, Try.ntmps28
  go_wp2_with fail
  refine (varput_any _ _ h0 h1).mono ?_
  rintro e w1 ⟨rfl, hu⟩
  go_wp2_with fail
  go_ret
  exact Gives.mk rfl hu
theorem putcancel_any (id : Int) (w : World) (h0 : 0 ≤ id) (h1 : id ≤ 18446744073709551615) :
    Calls Try.prog 30 #[.int .u64 id] w (Gives w (.string (S (putL id.toNat)))) := by
  go_enter Try.func30, Try.ntmps30
  go_wp2_with fail
  refine (varput_any _ _ h0 h1).mono ?_
  rintro e w1 ⟨rfl, hu⟩
  go_wp2_with fail
  go_ret
  exact Gives.mk rfl hu
theorem ours_any (id wait num : Int) (args : ByteArray) (w : World) :
    Calls Try.prog 23 #[.agg #[.int .u64 id, .int .i64 wait, .int .i64 num, .string args]] w (Gives w (.agg #[.int .u64 id, .int .i64 wait, .int .i64 num, .string args])) := by
  go_enter Try.func23, Try.ntmps23
  go_wp2_with fail
  exact bodyPost_ret (v := .agg #[.int .u64 id, .int .i64 wait, .int .i64 num, .string args]) (by simp [results, Try.results23, go_sem]) rfl (Gives.mk rfl (by repeat (first | exact Up.refl _ | apply Up.alloc | apply Up.drew)))
theorem bind_any (id num : Int) (service method : ByteArray) (op : Int) (w : World) :
    Calls Try.prog 26 #[.agg #[.int .u64 id, .int .i64 num, .string service, .string method, .int .i64 op]] w (Gives w (.agg #[.int .u64 id, .int .i64 num, .string service, .string method, .int .i64 op])) := by
  go_enter Try.func26, Try.ntmps26
  go_wp2_with fail
  exact bodyPost_ret (v := .agg #[.int .u64 id, .int .i64 num, .string service, .string method, .int .i64 op]) (by simp [results, Try.results26, go_sem]) rfl (Gives.mk rfl (by repeat (first | exact Up.refl _ | apply Up.alloc | apply Up.drew)))
theorem awake34_any (w : World) : Calls Try.prog 31 #[] w (Gives w (.bool true)) := by
  have h : ((S (callL 1 0 2 ⟨#[120]⟩)).toList == [1, 0, 2, 120]) = true := by
    rw [S_toList, callL, numL, numL, putL_small (by decide), putL_small (by decide), putL_small (by decide)]; decide
  go_enter Try.func31, Try.ntmps31
  go_wp2_with fail
  refine (putcall_any _ _ _ _ _ (by omega) (by omega) (by omega) (by omega) (by omega) (by omega) (by decide)).mono ?_
  rintro e w1 ⟨rfl, hu⟩
  go_wp2_with fail
  go_ret
  exact Gives.mk rfl hu
end Go.Proofs.Ytpldfoclogkppaa
