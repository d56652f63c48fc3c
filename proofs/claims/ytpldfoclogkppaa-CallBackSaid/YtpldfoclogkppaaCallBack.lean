/- 'CallBack': what is put is taken, if it is within its bounds, and else not: the law hands back true. Conditions: none. -/
import Derived.Test.YtpldfoclogkppaaCallOne
namespace Go.Proofs.Ytpldfoclogkppaa
open Go Go.RowKit Go.ChangeShapes Go.WideShapes Go.ChangeAt
open Go.ChangeMaps (open_string shut_string)

theorem S_drop (l : List UInt8) : (S l).data.toList.drop 0 = l := by rw [S_list, List.drop_zero]
theorem toNat_max (x : Int) : ((x.toNat : Nat) : Int) = max x 0 := by omega

theorem call_back (id wait num : Int) (args : ByteArray) (h0 : 0 ≤ id) (h1 : id ≤ 18446744073709551615) (i1 : wait ≤ 9223372036854775807) (j1 : num ≤ 9223372036854775807) :
    (wait ≤ 1048576 ∧ num ≤ 1048576 ∧ callA (S (callL id wait num args)) = .agg #[.int .u64 id, .int .i64 (max wait 0), .int .i64 (max num 0), .string args] ∧ okE (callOk (S (callL id wait num args))) = 0) ∨
    (¬ (wait ≤ 1048576 ∧ num ≤ 1048576) ∧ callA (S (callL id wait num args)) = .agg #[.int .u64 0, .int .i64 0, .int .i64 0, .string ⟨#[]⟩] ∧ okE (callOk (S (callL id wait num args))) = 1) := by
  have p1 : (S (callL id wait num args)).data.toList.drop 0 = putL id.toNat ++ (putL wait.toNat ++ (putL num.toNat ++ args.data.toList)) := by
    rw [S_drop, callL, numL, numL]; simp only [List.append_assoc]
  have hz : (S (callL id wait num args)).size = (putL id.toNat).length + ((putL wait.toNat).length + ((putL num.toNat).length + args.size)) := by
    rw [S_size, callL, numL, numL]; simp only [List.length_append, ByteArray.size]; simp; omega
  generalize S (callL id wait num args) = B at *
  have n1 : c1 B = (id.toNat, 0 + (putL id.toNat).length, 0) := num_put p1 (by omega)
  have p2 := (drop_from p1).symm
  by_cases hw : wait ≤ 1048576
  · have n2 : c2 B = (wait.toNat, 0 + (putL id.toNat).length + (putL wait.toNat).length, 0) := by unfold c2; rw [n1]; exact int_put p2 (by omega) (by omega)
    have p3 := (drop_from p2).symm
    by_cases hn : num ≤ 1048576
    · have n3 : c3 B = (num.toNat, 0 + (putL id.toNat).length + (putL wait.toNat).length + (putL num.toNat).length, 0) := by unfold c3; rw [n2]; exact int_put p3 (by omega) (by omega)
      have p4 := (drop_from p3).symm
      have n4 : c4 B = (args, 0 + (putL id.toNat).length + (putL wait.toNat).length + (putL num.toNat).length + args.size, 0) := by unfold c4; rw [n3]; exact rest_put p4
      have n5 : callOk B = 0 := by unfold callOk; rw [n4]; exact done_put (by rw [hz]; show _ ≤ 0 + _ + _ + _ + _; omega)
      refine Or.inl ⟨hw, hn, ?_, by rw [n5]; rfl⟩
      unfold callA
      rw [if_pos n5, n1, n2, n3, n4, ← toNat_max wait, ← toNat_max num]
      show Value.agg #[.int .u64 (id.toNat : Int), _, _, _] = _
      rw [Int.toNat_of_nonneg h0]
    · have n3 : (c3 B).2.2 = 3 := by unfold c3; rw [n2]; exact int_long p3 (by omega) (by omega)
      have n4 : (c4 B).2.2 = 3 := by unfold c4; rw [rest_sticks (by rw [n3]; decide)]; exact n3
      have n5 : callOk B ≠ 0 := done_wrong (by rw [n4]; decide)
      exact Or.inr ⟨fun h => hn h.2, by unfold callA; rw [if_neg n5], by unfold okE; rw [if_neg n5]⟩
  · have n2 : (c2 B).2.2 = 3 := by unfold c2; rw [n1]; exact int_long p2 (by omega) (by omega)
    have n3 : (c3 B).2.2 = 3 := by unfold c3; rw [int_sticks (by rw [n2]; decide)]; exact n2
    have n4 : (c4 B).2.2 = 3 := by unfold c4; rw [rest_sticks (by rw [n3]; decide)]; exact n3
    have n5 : callOk B ≠ 0 := done_wrong (by rw [n4]; decide)
    exact Or.inr ⟨fun h => hw h.1, by unfold callA; rw [if_neg n5], by unfold okE; rw [if_neg n5]⟩
theorem bind_wrong5 {B : ByteArray} (h : (b5 B).2.2 = 3) : bindA B = .agg #[.int .u64 0, .int .i64 0, .string ⟨#[]⟩, .string ⟨#[]⟩, .int .i64 0] ∧ okE (bindOk B) = 1 := by
  have n5 : bindOk B ≠ 0 := done_wrong (by rw [h]; decide)
  exact ⟨by unfold bindA; rw [if_neg n5], by unfold okE; rw [if_neg n5]⟩
theorem bind_wrong4 {B : ByteArray} (h : (b4 B).2.2 = 3) : bindA B = .agg #[.int .u64 0, .int .i64 0, .string ⟨#[]⟩, .string ⟨#[]⟩, .int .i64 0] ∧ okE (bindOk B) = 1 :=
  bind_wrong5 (by unfold b5; rw [int_sticks (by rw [h]; decide)]; exact h)
theorem bind_wrong3 {B : ByteArray} (h : (b3 B).2.2 = 3) : bindA B = .agg #[.int .u64 0, .int .i64 0, .string ⟨#[]⟩, .string ⟨#[]⟩, .int .i64 0] ∧ okE (bindOk B) = 1 :=
  bind_wrong4 (by unfold b4; rw [text_sticks (by rw [h]; decide)]; exact h)
theorem bind_wrong2 {B : ByteArray} (h : (b2 B).2.2 = 3) : bindA B = .agg #[.int .u64 0, .int .i64 0, .string ⟨#[]⟩, .string ⟨#[]⟩, .int .i64 0] ∧ okE (bindOk B) = 1 :=
  bind_wrong3 (by unfold b3; rw [text_sticks (by rw [h]; decide)]; exact h)
theorem bind_back (id num : Int) (sv me : ByteArray) (op : Int) (h0 : 0 ≤ id) (h1 : id ≤ 18446744073709551615) (i1 : num ≤ 9223372036854775807) (hv : sv.size ≤ 140737488351232) (hm : me.size ≤ 140737488351232) (j1 : op ≤ 9223372036854775807) :
    (num ≤ 1048576 ∧ op ≤ 1048576 ∧ sv.size ≤ 16 ∧ me.size ≤ 16 ∧ bindA (S (bindL id num sv me op)) = .agg #[.int .u64 id, .int .i64 (max num 0), .string sv, .string me, .int .i64 (max op 0)] ∧ okE (bindOk (S (bindL id num sv me op))) = 0) ∨
    (¬ (num ≤ 1048576 ∧ op ≤ 1048576 ∧ sv.size ≤ 16 ∧ me.size ≤ 16) ∧ bindA (S (bindL id num sv me op)) = .agg #[.int .u64 0, .int .i64 0, .string ⟨#[]⟩, .string ⟨#[]⟩, .int .i64 0] ∧ okE (bindOk (S (bindL id num sv me op))) = 1) := by
  have p1 : (S (bindL id num sv me op)).data.toList.drop 0 = putL id.toNat ++ (putL num.toNat ++ (spanL sv ++ (spanL me ++ (putL op.toNat ++ [])))) := by
    rw [S_drop, bindL, numL, numL]; simp only [List.append_assoc, List.append_nil]
  have hz : (S (bindL id num sv me op)).size = (putL id.toNat).length + ((putL num.toNat).length + ((spanL sv).length + ((spanL me).length + (putL op.toNat).length))) := by
    rw [S_size, bindL, numL, numL]; simp only [List.length_append]; omega
  generalize S (bindL id num sv me op) = B at *
  have n1 : c1 B = (id.toNat, 0 + (putL id.toNat).length, 0) := num_put p1 (by omega)
  have p2 := (drop_from p1).symm
  by_cases c2 : num ≤ 1048576
  · have n2 : b2 B = (num.toNat, 0 + (putL id.toNat).length + (putL num.toNat).length, 0) := by unfold b2; rw [n1]; exact int_put p2 (by omega) (by omega)
    have p3 := (drop_from p2).symm
    by_cases c3 : sv.size ≤ 16
    · have n3 : b3 B = (sv, 0 + (putL id.toNat).length + (putL num.toNat).length + (spanL sv).length, 0) := by unfold b3; rw [n2]; exact text_put p3 hv (by omega)
      have p4 := (drop_from p3).symm
      by_cases c4 : me.size ≤ 16
      · have n4 : b4 B = (me, 0 + (putL id.toNat).length + (putL num.toNat).length + (spanL sv).length + (spanL me).length, 0) := by unfold b4; rw [n3]; exact text_put p4 hm (by omega)
        have p5 := (drop_from p4).symm
        by_cases c5 : op ≤ 1048576
        · have n5 : b5 B = (op.toNat, 0 + (putL id.toNat).length + (putL num.toNat).length + (spanL sv).length + (spanL me).length + (putL op.toNat).length, 0) := by unfold b5; rw [n4]; exact int_put p5 (by omega) (by omega)
          have n6 : bindOk B = 0 := by unfold bindOk; rw [n5]; exact done_put (by rw [hz]; show _ ≤ 0 + _ + _ + _ + _ + _; omega)
          refine Or.inl ⟨c2, c5, c3, c4, ?_, by rw [n6]; rfl⟩
          unfold bindA
          rw [if_pos n6, n1, n2, n3, n4, n5, ← toNat_max num, ← toNat_max op]
          show Value.agg #[.int .u64 (id.toNat : Int), _, _, _, _] = _
          rw [Int.toNat_of_nonneg h0]
        · exact Or.inr ⟨fun h => c5 h.2.1, bind_wrong5 (by unfold b5; rw [n4]; exact int_long p5 (by omega) (by omega))⟩
      · exact Or.inr ⟨fun h => c4 h.2.2.2, bind_wrong4 (by unfold b4; rw [n3]; exact text_long p4 hm (by omega))⟩
    · exact Or.inr ⟨fun h => c3 h.2.2.1, bind_wrong3 (by unfold b3; rw [n2]; exact text_long p3 hv (by omega))⟩
  · exact Or.inr ⟨fun h => c2 h.1, bind_wrong2 (by unfold b2; rw [n1]; exact int_long p2 (by omega) (by omega))⟩
theorem schema_back (id : Int) (s : ByteArray) (h0 : 0 ≤ id) (h1 : id ≤ 18446744073709551615) : schemaV (S (putL id.toNat) ++ s) = .tuple #[.int .u64 id, .string s, .int .i64 0] := by
  have p1 : (S (putL id.toNat) ++ s).data.toList.drop 0 = putL id.toNat ++ s.data.toList := by rw [S_cat, S_drop]
  have hz : (S (putL id.toNat) ++ s).size = (putL id.toNat).length + s.size := by rw [ByteArray.size_append, S_size]
  generalize S (putL id.toNat) ++ s = B at *
  have n1 : c1 B = (id.toNat, 0 + (putL id.toNat).length, 0) := num_put p1 (by omega)
  have p2 := (drop_from p1).symm
  have n2 : s2 B = (s, 0 + (putL id.toNat).length + s.size, 0) := by unfold s2; rw [n1]; exact rest_put p2
  have n3 : schemaOk B = 0 := by unfold schemaOk; rw [n2]; exact done_put (by rw [hz]; show _ ≤ 0 + _ + _; omega)
  unfold schemaV
  rw [if_pos n3, n1, n2]
  show Value.tuple #[.int .u64 (id.toNat : Int), _, _] = _
  rw [Int.toNat_of_nonneg h0]
theorem cancel_back (id : Int) (h0 : 0 ≤ id) (h1 : id ≤ 18446744073709551615) : cancelV (S (putL id.toNat)) = .tuple #[.int .u64 id, .int .i64 0] := by
  have p1 : (S (putL id.toNat)).data.toList.drop 0 = putL id.toNat ++ [] := by rw [S_drop, List.append_nil]
  have hz : (S (putL id.toNat)).size = (putL id.toNat).length := S_size _
  generalize S (putL id.toNat) = B at *
  have n1 : c1 B = (id.toNat, 0 + (putL id.toNat).length, 0) := num_put p1 (by omega)
  have n3 : cancelOk B = 0 := by unfold cancelOk; rw [n1]; exact done_put (by rw [hz]; show _ ≤ 0 + _; omega)
  unfold cancelV
  rw [if_pos n3, n1]
  show Value.tuple #[.int .u64 (id.toNat : Int), _] = _
  rw [Int.toNat_of_nonneg h0]

theorem call_tests (id wait num : Int) (args : ByteArray) (h0 : 0 ≤ id) (h1 : id ≤ 18446744073709551615) (i1 : wait ≤ 9223372036854775807) (j1 : num ≤ 9223372036854775807) :
    ∃ (xi xw xn : Int) (xa : ByteArray) (e : Int), callA (S (callL id wait num args)) = .agg #[.int .u64 xi, .int .i64 xw, .int .i64 xn, .string xa] ∧ okE (callOk (S (callL id wait num args))) = e ∧
      ((decide (wait ≤ 1048576) = true ∧ decide (num ≤ 1048576) = true ∧ id = xi ∧ max wait 0 = xw ∧ max num 0 = xn ∧ args = xa ∧ 0 = e) ∨ (decide (wait ≤ 1048576) = true ∧ decide (num ≤ 1048576) = false ∧ e = 1) ∨ (decide (wait ≤ 1048576) = false ∧ e = 1)) := by
  rcases call_back id wait num args h0 h1 i1 j1 with ⟨a, b, c, d⟩ | ⟨a, c, d⟩
  · exact ⟨_, _, _, _, _, c, d, Or.inl ⟨decide_eq_true a, decide_eq_true b, rfl, rfl, rfl, rfl, rfl⟩⟩
  · refine ⟨_, _, _, _, _, c, d, Or.inr ?_⟩
    by_cases hw : wait ≤ 1048576
    · exact Or.inl ⟨decide_eq_true hw, decide_eq_false (fun hn => a ⟨hw, hn⟩), rfl⟩
    · exact Or.inr ⟨decide_eq_false hw, rfl⟩
theorem bind_tests (id num : Int) (sv me : ByteArray) (op : Int) (h0 : 0 ≤ id) (h1 : id ≤ 18446744073709551615) (i1 : num ≤ 9223372036854775807) (hv : sv.size ≤ 140737488351232) (hm : me.size ≤ 140737488351232) (j1 : op ≤ 9223372036854775807) :
    ∃ (xi xn : Int) (xs xm : ByteArray) (xo : Int) (e : Int), bindA (S (bindL id num sv me op)) = .agg #[.int .u64 xi, .int .i64 xn, .string xs, .string xm, .int .i64 xo] ∧ okE (bindOk (S (bindL id num sv me op))) = e ∧
      ((decide (num ≤ 1048576) = true ∧ decide (op ≤ 1048576) = true ∧ decide ((sv.size : Int) ≤ 16) = true ∧ decide ((me.size : Int) ≤ 16) = true ∧ id = xi ∧ max num 0 = xn ∧ sv = xs ∧ me = xm ∧ max op 0 = xo ∧ 0 = e) ∨
       (decide (num ≤ 1048576) = true ∧ decide (op ≤ 1048576) = true ∧ decide ((sv.size : Int) ≤ 16) = true ∧ decide ((me.size : Int) ≤ 16) = false ∧ e = 1) ∨
       (decide (num ≤ 1048576) = true ∧ decide (op ≤ 1048576) = true ∧ decide ((sv.size : Int) ≤ 16) = false ∧ e = 1) ∨
       (decide (num ≤ 1048576) = true ∧ decide (op ≤ 1048576) = false ∧ e = 1) ∨ (decide (num ≤ 1048576) = false ∧ e = 1)) := by
  rcases bind_back id num sv me op h0 h1 i1 hv hm j1 with ⟨a, b, c, d, x, y⟩ | ⟨a, x, y⟩
  · exact ⟨_, _, _, _, _, _, x, y, Or.inl ⟨decide_eq_true a, decide_eq_true b, decide_eq_true (by omega), decide_eq_true (by omega), rfl, rfl, rfl, rfl, rfl, rfl⟩⟩
  · refine ⟨_, _, _, _, _, _, x, y, Or.inr ?_⟩
    by_cases k1 : num ≤ 1048576
    · by_cases k2 : op ≤ 1048576
      · by_cases k3 : (sv.size : Int) ≤ 16
        · exact Or.inl ⟨decide_eq_true k1, decide_eq_true k2, decide_eq_true k3, decide_eq_false (fun h => a ⟨k1, k2, by omega, by omega⟩), rfl⟩
        · exact Or.inr (Or.inl ⟨decide_eq_true k1, decide_eq_true k2, decide_eq_false k3, rfl⟩)
      · exact Or.inr (Or.inr (Or.inl ⟨decide_eq_true k1, decide_eq_false k2, rfl⟩))
    · exact Or.inr (Or.inr (Or.inr ⟨decide_eq_false k1, rfl⟩))

set_option maxHeartbeats 6400000 in
set_option maxRecDepth 100000 in
theorem callBack_walk (id : Int) (h0 : 0 ≤ id) (h1 : id ≤ 18446744073709551615) (wait : Int) (i0 : -9223372036854775808 ≤ wait) (i1 : wait ≤ 9223372036854775807) (num : Int) (j0 : -9223372036854775808 ≤ num) (j1 : num ≤ 9223372036854775807)
    (args : ByteArray) (ha : args.size ≤ 140737488351232) (bid : Int) (k0 : 0 ≤ bid) (k1 : bid ≤ 18446744073709551615) (bnum : Int) (l0 : -9223372036854775808 ≤ bnum) (l1 : bnum ≤ 9223372036854775807)
    (sv : ByteArray) (hv : sv.size ≤ 140737488351232) (me : ByteArray) (hm : me.size ≤ 140737488351232) (op : Int) (m0 : -9223372036854775808 ≤ op) (m1 : op ≤ 9223372036854775807) (s : ByteArray) (hs : s.size ≤ 140737488351232) (w : World) :
    Calls Try.prog 20 #[.agg #[.int .u64 id, .int .i64 wait, .int .i64 num, .string args], .agg #[.int .u64 bid, .int .i64 bnum, .string sv, .string me, .int .i64 op], .string s] w (Gives w (.bool true)) := by
  have z1 : (S (callL id wait num args)).size ≤ maxLen := by
    have a1 := putL_ten (n := id.toNat) (by omega); have a2 := putL_ten (n := wait.toNat) (by omega); have a3 := putL_ten (n := num.toNat) (by omega)
    rw [S_size, callL, numL, numL]; simp only [List.length_append]; unfold maxLen; have h : args.data.toList.length = args.size := by simp
    omega
  have z2 : (S (bindL bid bnum sv me op)).size ≤ maxLen := by
    have a1 := putL_ten (n := bid.toNat) (by omega); have a2 := putL_ten (n := bnum.toNat) (by omega); have a3 := putL_ten (n := op.toNat) (by omega)
    have a4 := spanL_len sv hv; have a5 := spanL_len me hm
    rw [S_size] at a4 a5
    rw [S_size, bindL, numL, numL]; simp only [List.length_append]; unfold maxLen; omega
  have z3 : (S (putL id.toNat) ++ s).size ≤ maxLen := by
    have a1 := putL_ten (n := id.toNat) (by omega)
    rw [ByteArray.size_append, S_size]; unfold maxLen; omega
  have z4 : (S (putL bid.toNat)).size ≤ maxLen := by
    have a1 := putL_ten (n := bid.toNat) (by omega)
    rw [S_size]; unfold maxLen; omega
  obtain ⟨xi, xw, xn, xa, e1, A1, E1, D1⟩ := call_tests id wait num args h0 h1 i1 j1
  obtain ⟨yi, yn, ys, ym, yo, e2, A2, E2, D2⟩ := bind_tests bid bnum sv me op k0 k1 l1 hv hm m1
  have C1 : ∀ w, Calls Try.prog 76 #[.string (S (callL id wait num args))] w (Gives w (.tuple #[.agg #[.int .u64 xi, .int .i64 xw, .int .i64 xn, .string xa], .int .i64 e1])) := fun w => by rw [← A1, ← E1]; exact takecall_any _ w z1
  have C2 : ∀ w, Calls Try.prog 78 #[.string (S (bindL bid bnum sv me op))] w (Gives w (.tuple #[.agg #[.int .u64 yi, .int .i64 yn, .string ys, .string ym, .int .i64 yo], .int .i64 e2])) := fun w => by rw [← A2, ← E2]; exact takebind_any _ w z2
  have C3 : ∀ w, Calls Try.prog 80 #[.string (S (putL id.toNat) ++ s)] w (Gives w (.tuple #[.int .u64 id, .string s, .int .i64 0])) := fun w => by rw [← schema_back id s h0 h1]; exact takeschema_any _ w z3
  have C4 : ∀ w, Calls Try.prog 82 #[.string (S (putL bid.toNat))] w (Gives w (.tuple #[.int .u64 bid, .int .i64 0])) := fun w => by rw [← cancel_back bid k0 k1]; exact takecancel_any _ w z4
  have P1 := fun w => putcall_any id wait num args w h0 h1 i0 i1 j0 j1 ha
  have P2 := fun w => putbind_any bid bnum sv me op w k0 k1 l0 l1 hv hm m0 m1
  have P3 := fun w => putschema_any id s w h0 h1 hs
  have P4 := fun w => putcancel_any bid w k0 k1
  clear A1 A2 E1 E2 z1 z2 z3 z4
  generalize S (callL id wait num args) = T1 at *
  generalize S (bindL bid bnum sv me op) = T2 at *
  generalize S (putL id.toNat) ++ s = T3 at *
  generalize S (putL bid.toNat) = T4 at *
  go_enter Try.func20, Try.ntmps20
  go_wp2_with fail
  have hA0 : ((w.alloc (.cells #[.int .u64 id, .int .i64 wait, .int .i64 num, .string args] 24)).alloc (.cells #[.int .u64 bid, .int .i64 bnum, .string sv, .string me, .int .i64 op] 26)).heap[w.heap.size]? = some (.cells #[.int .u64 id, .int .i64 wait, .int .i64 num, .string args] 24 (0, 0)) := blk_alloc (blk_new _ _)
  have hB0 : ((w.alloc (.cells #[.int .u64 id, .int .i64 wait, .int .i64 num, .string args] 24)).alloc (.cells #[.int .u64 bid, .int .i64 bnum, .string sv, .string me, .int .i64 op] 26)).heap[w.heap.size + 1]? = some (.cells #[.int .u64 bid, .int .i64 bnum, .string sv, .string me, .int .i64 op] 26 (0, 0)) := by
    have := blk_new (w.alloc (.cells #[.int .u64 id, .int .i64 wait, .int .i64 num, .string args] 24)) (.cells #[.int .u64 bid, .int .i64 bnum, .string sv, .string me, .int .i64 op] 26)
    simpa using this
  have hup0 : Up w ((w.alloc (.cells #[.int .u64 id, .int .i64 wait, .int .i64 num, .string args] 24)).alloc (.cells #[.int .u64 bid, .int .i64 bnum, .string sv, .string me, .int .i64 op] 26)) := ((Up.refl _).alloc _).alloc _
  generalize (w.alloc (.cells #[.int .u64 id, .int .i64 wait, .int .i64 num, .string args] 24)).alloc (.cells #[.int .u64 bid, .int .i64 bnum, .string sv, .string me, .int .i64 op] 26) = w0 at *
  refine (ours_any _ _ _ _ _).mono ?_
  rintro e w1 ⟨rfl, hu1⟩
  go_wp2_with fail
  refine (P1 _).mono ?_
  rintro e w2 ⟨rfl, hu2⟩
  go_wp2_with fail
  refine (C1 _).mono ?_
  rintro e w3 ⟨rfl, hu3⟩
  have hu : Up w0 (w3.alloc (.cells #[.int .u64 xi, .int .i64 xw, .int .i64 xn, .string xa] 28)) := ((hu1.trans hu2).trans hu3).alloc _
  have hX := blk_new w3 (.cells #[.int .u64 xi, .int .i64 xw, .int .i64 xn, .string xa] 28)
  have hA := hu.keep hA0
  have hB := hu.keep hB0
  have gX : w3.heap.size < (w3.alloc (.cells #[.int .u64 xi, .int .i64 xw, .int .i64 xn, .string xa] 28)).heap.size := blk_lt hX
  have x0 : (w3.alloc (.cells #[.int .u64 xi, .int .i64 xw, .int .i64 xn, .string xa] 28)).cell? ⟨w3.heap.size, 0, none⟩ = some (.int .u64 xi) := blk_cell hX 0
  have x1 : (w3.alloc (.cells #[.int .u64 xi, .int .i64 xw, .int .i64 xn, .string xa] 28)).cell? ⟨w3.heap.size, 1, none⟩ = some (.int .i64 xw) := blk_cell hX 1
  have x2 : (w3.alloc (.cells #[.int .u64 xi, .int .i64 xw, .int .i64 xn, .string xa] 28)).cell? ⟨w3.heap.size, 2, none⟩ = some (.int .i64 xn) := blk_cell hX 2
  have x3 : (w3.alloc (.cells #[.int .u64 xi, .int .i64 xw, .int .i64 xn, .string xa] 28)).cell? ⟨w3.heap.size, 3, none⟩ = some (.string xa) := blk_cell hX 3
  have a0 : (w3.alloc (.cells #[.int .u64 xi, .int .i64 xw, .int .i64 xn, .string xa] 28)).cell? ⟨w.heap.size, 0, none⟩ = some (.int .u64 id) := blk_cell hA 0
  have a1 : (w3.alloc (.cells #[.int .u64 xi, .int .i64 xw, .int .i64 xn, .string xa] 28)).cell? ⟨w.heap.size, 1, none⟩ = some (.int .i64 wait) := blk_cell hA 1
  have a2 : (w3.alloc (.cells #[.int .u64 xi, .int .i64 xw, .int .i64 xn, .string xa] 28)).cell? ⟨w.heap.size, 2, none⟩ = some (.int .i64 num) := blk_cell hA 2
  have a3 : (w3.alloc (.cells #[.int .u64 xi, .int .i64 xw, .int .i64 xn, .string xa] 28)).cell? ⟨w.heap.size, 3, none⟩ = some (.string args) := blk_cell hA 3
  have b0 : (w3.alloc (.cells #[.int .u64 xi, .int .i64 xw, .int .i64 xn, .string xa] 28)).cell? ⟨w.heap.size + 1, 0, none⟩ = some (.int .u64 bid) := blk_cell hB 0
  have b1 : (w3.alloc (.cells #[.int .u64 xi, .int .i64 xw, .int .i64 xn, .string xa] 28)).cell? ⟨w.heap.size + 1, 1, none⟩ = some (.int .i64 bnum) := blk_cell hB 1
  have b2 : (w3.alloc (.cells #[.int .u64 xi, .int .i64 xw, .int .i64 xn, .string xa] 28)).cell? ⟨w.heap.size + 1, 2, none⟩ = some (.string sv) := blk_cell hB 2
  have b3 : (w3.alloc (.cells #[.int .u64 xi, .int .i64 xw, .int .i64 xn, .string xa] 28)).cell? ⟨w.heap.size + 1, 3, none⟩ = some (.string me) := blk_cell hB 3
  have b4 : (w3.alloc (.cells #[.int .u64 xi, .int .i64 xw, .int .i64 xn, .string xa] 28)).cell? ⟨w.heap.size + 1, 4, none⟩ = some (.int .i64 op) := blk_cell hB 4
  have hW := Lib.hid hup0
  have HA := Lib.hid hA; have HB := Lib.hid hB; have HX := Lib.hid hX; have HU := Lib.hid hu
  clear hA hB hX hup0 hA0 hB0
  rcases D1 with ⟨d1, d2, rfl, rfl, rfl, rfl, rfl⟩ | ⟨d1, d2, rfl⟩ | ⟨d1, rfl⟩
  all_goals
    go_wp2_with fail
    refine (bind_any _ _ _ _ _ _).mono ?_
    rintro e w4 ⟨rfl, hu4⟩
    go_wp2_with fail
    refine (P2 _).mono ?_
    rintro e w5 ⟨rfl, hu5⟩
    go_wp2_with fail
    refine (C2 _).mono ?_
    rintro e w6 ⟨rfl, hu6⟩
    have hv6 : Up w0 w6 := ((hu.trans hu4).trans hu5).trans hu6
    have hu7 : Up w6 (w6.alloc (.cells #[.int .u64 yi, .int .i64 yn, .string ys, .string ym, .int .i64 yo] 32)) := (Up.refl _).alloc _
    have hY := blk_new w6 (.cells #[.int .u64 yi, .int .i64 yn, .string ys, .string ym, .int .i64 yo] 32)
    have hA := hu7.keep (hu6.keep (hu5.keep (hu4.keep HA.out)))
    have hB := hu7.keep (hu6.keep (hu5.keep (hu4.keep HB.out)))
    have hv7 : Up w0 (w6.alloc (.cells #[.int .u64 yi, .int .i64 yn, .string ys, .string ym, .int .i64 yo] 32)) := hv6.alloc _
    have y0 : (w6.alloc (.cells #[.int .u64 yi, .int .i64 yn, .string ys, .string ym, .int .i64 yo] 32)).cell? ⟨w6.heap.size, 0, none⟩ = some (.int .u64 yi) := blk_cell hY 0
    have y1 : (w6.alloc (.cells #[.int .u64 yi, .int .i64 yn, .string ys, .string ym, .int .i64 yo] 32)).cell? ⟨w6.heap.size, 1, none⟩ = some (.int .i64 yn) := blk_cell hY 1
    have y2 : (w6.alloc (.cells #[.int .u64 yi, .int .i64 yn, .string ys, .string ym, .int .i64 yo] 32)).cell? ⟨w6.heap.size, 2, none⟩ = some (.string ys) := blk_cell hY 2
    have y3 : (w6.alloc (.cells #[.int .u64 yi, .int .i64 yn, .string ys, .string ym, .int .i64 yo] 32)).cell? ⟨w6.heap.size, 3, none⟩ = some (.string ym) := blk_cell hY 3
    have y4 : (w6.alloc (.cells #[.int .u64 yi, .int .i64 yn, .string ys, .string ym, .int .i64 yo] 32)).cell? ⟨w6.heap.size, 4, none⟩ = some (.int .i64 yo) := blk_cell hY 4
    have a0' : (w6.alloc (.cells #[.int .u64 yi, .int .i64 yn, .string ys, .string ym, .int .i64 yo] 32)).cell? ⟨w.heap.size, 0, none⟩ = some (.int .u64 id) := blk_cell hA 0
    have b0' : (w6.alloc (.cells #[.int .u64 yi, .int .i64 yn, .string ys, .string ym, .int .i64 yo] 32)).cell? ⟨w.heap.size + 1, 0, none⟩ = some (.int .u64 bid) := blk_cell hB 0
    have b1' : (w6.alloc (.cells #[.int .u64 yi, .int .i64 yn, .string ys, .string ym, .int .i64 yo] 32)).cell? ⟨w.heap.size + 1, 1, none⟩ = some (.int .i64 bnum) := blk_cell hB 1
    have b2' : (w6.alloc (.cells #[.int .u64 yi, .int .i64 yn, .string ys, .string ym, .int .i64 yo] 32)).cell? ⟨w.heap.size + 1, 2, none⟩ = some (.string sv) := blk_cell hB 2
    have b3' : (w6.alloc (.cells #[.int .u64 yi, .int .i64 yn, .string ys, .string ym, .int .i64 yo] 32)).cell? ⟨w.heap.size + 1, 3, none⟩ = some (.string me) := blk_cell hB 3
    have b4' : (w6.alloc (.cells #[.int .u64 yi, .int .i64 yn, .string ys, .string ym, .int .i64 yo] 32)).cell? ⟨w.heap.size + 1, 4, none⟩ = some (.int .i64 op) := blk_cell hB 4
    have HA7 := Lib.hid hA; have HB7 := Lib.hid hB; have HV7 := Lib.hid hv7
    clear x0 x1 x2 x3 a0 a1 a2 a3 b0 b1 b2 b3 b4 hA hB hY hv6 hv7 hu hu7 HX HU gX
    rcases D2 with ⟨d3, d4, d5, d6, rfl, rfl, rfl, rfl, rfl, rfl⟩ | ⟨d3, d4, d5, d6, rfl⟩ | ⟨d3, d4, d5, rfl⟩ | ⟨d3, d4, rfl⟩ | ⟨d3, rfl⟩
  all_goals
    go_wp2_with fail
    refine (P3 _).mono ?_
    rintro e w8 ⟨rfl, hu8⟩
    go_wp2_with fail
    refine (C3 _).mono ?_
    rintro e w9 ⟨rfl, hu9⟩
    have hB := hu9.keep (hu8.keep HB7.out)
    have c0 : w9.cell? ⟨w.heap.size + 1, 0, none⟩ = some (.int .u64 bid) := blk_cell hB 0
    have HB9 := Lib.hid hB
    clear hB
    go_wp2_with fail
    refine (P4 _).mono ?_
    rintro e w10 ⟨rfl, hu10⟩
    go_wp2_with fail
    refine (C4 _).mono ?_
    rintro e w11 ⟨rfl, hu11⟩
    have hA := hu11.keep (hu10.keep (hu9.keep (hu8.keep HA7.out)))
    have hB := hu11.keep (hu10.keep HB9.out)
    have f0 : w11.cell? ⟨w.heap.size, 0, none⟩ = some (.int .u64 id) := blk_cell hA 0
    have g0 : w11.cell? ⟨w.heap.size + 1, 0, none⟩ = some (.int .u64 bid) := blk_cell hB 0
    clear hA hB
    go_wp2_with fail
    refine (awake34_any _).mono ?_
    rintro e w12 ⟨rfl, hu12⟩
    go_wp2_with fail
    go_ret
    exact Gives.mk rfl (hW.out.trans (((((HV7.out.trans hu8).trans hu9).trans hu10).trans hu11).trans hu12))

set_option linter.unusedVariables false in
set_option maxRecDepth 100000 in
theorem callBack_contract (H : Type) (enc : TypeId × Value → H) (W : World) (base : Nat) (args : Array Value) (ds gs : List (DataW H)) (before : List MemPlace)
    (hval : ∀ (j : Nat) t v, Try.f20.params[j]? = some t → args[j]? = some v → Value.okWide Try.prog W .any base t v)
    (hW : DataW.Whole enc Try.prog Try.f20.params.toList Rows.callBackSpec.vars false W args.toList ds gs before)
    (hsz : (DataW.weightsEach Try.prog (Try.f20.params.toList ++ (Rows.callBackSpec).plain.varTypes Try.prog) (ds ++ gs)).all (· ≤ reachBytes) = true) :
    Calls Try.prog 20 args W fun e W' => ∃ v, e = .returned v ∧ Rows.callBackSpec.post enc Try.prog Try.f20 false true false false W args v W' := by
  have hW' := hW
  obtain ⟨p, q, hA0, hV, rfl, hfz, hnd⟩ := hW
  have hA : DataW.TrodAll enc Try.prog W 0 (fun _ => true) true Try.f20.params.toList args.toList ds p := hA0
  rw [Try.params20] at hA hval hsz
  obtain ⟨v0, vs0, d0, ds0, p0, q0, hargs, rfl, rfl, h0, r0⟩ := trodAll_cons hA
  obtain ⟨v1, vs1, d1, ds1, p1, q1, rfl, rfl, rfl, h1, r1⟩ := trodAll_cons r0
  obtain ⟨v2, vs2, d2, ds2, p2, q2, rfl, rfl, rfl, h2, r2⟩ := trodAll_cons r1
  obtain ⟨rfl, rfl, rfl⟩ := trodAll_nil r2
  obtain rfl : args = #[v0, v1, v2] := by cases args; simp_all
  obtain ⟨rfl, rfl⟩ := trodVars_none hV
  clear hA0
  obtain ⟨l0, ys0, n0, rfl, hl0, hy0, rfl, rfl, hf0⟩ := struct_arg Try.underlying24 (by kernel_rfl) (by kernel_rfl) (hval 0 24 v0 rfl rfl) h0
  obtain ⟨c0_0, c0_1, c0_2, c0_3, rfl⟩ := list4 hl0
  obtain ⟨y0_0, y0_1, y0_2, y0_3, rfl⟩ := list4 hy0
  obtain ⟨a0_0, rfl, rfl, w0_0⟩ := int_field Try.underlying22 (hf0 0 _ _ rfl rfl)
  have b0_0 := bounds_u64 w0_0
  obtain ⟨a0_1, rfl, rfl, w0_1⟩ := int_field Try.underlying3 (hf0 1 _ _ rfl rfl)
  have b0_1 := bounds_i64 w0_1
  obtain ⟨a0_2, rfl, rfl, w0_2⟩ := int_field Try.underlying3 (hf0 2 _ _ rfl rfl)
  have b0_2 := bounds_i64 w0_2
  obtain ⟨a0_3, rfl, rfl, w0_3⟩ := string_field Try.underlying9 (hf0 3 _ _ rfl rfl)
  obtain ⟨l1, ys1, n1, rfl, hl1, hy1, rfl, rfl, hf1⟩ := struct_arg Try.underlying26 (by kernel_rfl) (by kernel_rfl) (hval 1 26 v1 rfl rfl) h1
  obtain ⟨c1_0, c1_1, c1_2, c1_3, c1_4, rfl⟩ := list5 hl1
  obtain ⟨y1_0, y1_1, y1_2, y1_3, y1_4, rfl⟩ := list5 hy1
  obtain ⟨a1_0, rfl, rfl, w1_0⟩ := int_field Try.underlying22 (hf1 0 _ _ rfl rfl)
  have b1_0 := bounds_u64 w1_0
  obtain ⟨a1_1, rfl, rfl, w1_1⟩ := int_field Try.underlying3 (hf1 1 _ _ rfl rfl)
  have b1_1 := bounds_i64 w1_1
  obtain ⟨a1_2, rfl, rfl, w1_2⟩ := string_field Try.underlying9 (hf1 2 _ _ rfl rfl)
  obtain ⟨a1_3, rfl, rfl, w1_3⟩ := string_field Try.underlying9 (hf1 3 _ _ rfl rfl)
  obtain ⟨a1_4, rfl, rfl, w1_4⟩ := int_field Try.underlying3 (hf1 4 _ _ rfl rfl)
  have b1_4 := bounds_i64 w1_4
  obtain ⟨a2, rfl, rfl, rfl, w2⟩ := open_string Try.underlying9 (hval 2 9 v2 rfl rfl) h2
  have z0_3 : a0_3.size ≤ 140737488351232 := by have := sized_string (sized_part hsz (j := 0) (t := 24) rfl rfl Try.underlying24) (j := 3) (t := 9) rfl rfl; simpa [reachBytes] using this
  have z1_2 : a1_2.size ≤ 140737488351232 := by have := sized_string (sized_part hsz (j := 1) (t := 26) rfl rfl Try.underlying26) (j := 2) (t := 9) rfl rfl; simpa [reachBytes] using this
  have z1_3 : a1_3.size ≤ 140737488351232 := by have := sized_string (sized_part hsz (j := 1) (t := 26) rfl rfl Try.underlying26) (j := 3) (t := 9) rfl rfl; simpa [reachBytes] using this
  have z2 : a2.size ≤ 140737488351232 := by have := sized_string hsz (j := 2) (t := 9) rfl rfl; simpa [reachBytes] using this
  refine (callBack_walk a0_0 b0_0.1 b0_0.2 a0_1 b0_1.1 b0_1.2 a0_2 b0_2.1 b0_2.2 a0_3 z0_3 a1_0 b1_0.1 b1_0.2 a1_1 b1_1.1 b1_1.2 a1_2 z1_2 a1_3 z1_3 a1_4 b1_4.1 b1_4.2 a2 z2 W).mono fun e W' ⟨he, hu⟩ => ?_
  subst he
  exact ⟨_, rfl, post_true laidOut (by kernel_rfl) Try.underlying4 rfl rfl hW' rfl hu⟩

theorem callBack_closed : joinedFacts Try.prog 20 Try.f20 Rows.callBackSpec Rows.callBackRow = true := by
  unfold joinedFacts
  rw [fact_mayEnter, fact_lifted, fact_make]
  kernel_rfl

set_option maxRecDepth 100000 in
theorem callBack_lifted (os : Os) (started : os.Started) (H : Type) (enc : TypeId × Value → H) :
    ReturnsInHanded {} Try.checked os 20 .any (Rows.callBackSpec.pre6 enc Try.prog Try.f20 Rows.callBackRow.domain false) (Rows.callBackSpec.post enc Try.prog Try.f20 false true false false) := by
  refine returnsInHanded_of_change_sized (C := Try.checked) own started (by kernel_rfl) Try.func20
    (ChangeSpec.witness6 (enc := enc) (C := Try.checked) false ⟨#[], #[.agg #[.int .u64 0, .int .i64 0, .int .i64 0, .string ⟨#[]⟩], .agg #[.int .u64 0, .int .i64 0, .string ⟨#[]⟩, .string ⟨#[]⟩, .int .i64 0], .string ⟨#[]⟩], []⟩ 8 (by kernel_rfl) (by kernel_rfl) (by kernel_rfl) (by kernel_rfl)) ?_
  intro W base args ds gs before hval hW _ hsz _
  exact callBack_contract H enc W base args ds gs before hval hW hsz

theorem callBack_holds : Rows.CallBackSaid :=
  OpenClaim.holds_of_wide 20 Try.f20 rfl rfl rfl rfl rfl rfl rfl ⟨rfl, rfl, rfl, rfl, rfl⟩ rfl rfl rfl rfl rfl (by kernel_rfl) Try.func20 callBack_closed
    (of_decide_eq_true (by kernel_rfl)) (by unfold Func.isWrapper; rw [if_neg (by decide +kernel)]; exact ⟨rfl, rfl⟩)
    (fun os started H enc _ => callBack_lifted os started H enc)
end Go.Proofs.Ytpldfoclogkppaa
