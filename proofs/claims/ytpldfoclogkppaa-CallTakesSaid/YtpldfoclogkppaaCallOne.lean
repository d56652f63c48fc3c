/- 'CallOne': whatever bytes: what is taken of them is put as those: the law hands back true. Conditions: none. -/
import Derived.Test.YtpldfoclogkppaaOpen
import Derived.Test.YtpldfoclogkppaaCallB
import Derived.Test.YtpldfoclogkppaaCallD
import Derived.Test.YtpldfoclogkppaaReadP
namespace Go.Proofs.Ytpldfoclogkppaa
open Go Go.RowKit Go.ChangeShapes Go.WideShapes Go.ChangeAt
open Go.ChangeMaps (open_string shut_string)

theorem list_all (b : ByteArray) {l : List UInt8} (h : b.data.toList.drop 0 = l) : S l = b := by rw [← h, List.drop_zero, S_of]
theorem drop_end (b : ByteArray) {a : Nat} (h : b.size ≤ a) : b.data.toList.drop a = [] := List.drop_eq_nil_of_le (by simpa using h)
theorem tup3 {A : Type} {x : A × Nat × Int} (h : x.2.2 = 0) : x = (x.1, x.2.1, 0) := by rw [← h]
theorem numL_of (n : Nat) : numL (n : Int) = putL n := by unfold numL; rw [Int.toNat_natCast]

theorem call_form (b : ByteArray) (hb : b.size ≤ 140737488351232) : ∃ (id wait num : Nat) (args : ByteArray) (e : Int), callA b = .agg #[.int .u64 id, .int .i64 wait, .int .i64 num, .string args] ∧ okE (callOk b) = e ∧
    id < 18446744073709551616 ∧ wait ≤ 1048576 ∧ num ≤ 1048576 ∧ args.size ≤ 140737488351232 ∧ ((e = 0 ∧ S (callL id wait num args) = b) ∨ e = 1) := by
  have h1 := numS_bd (b := b) (a := 0) (e := 0) (Nat.zero_le _) (by omega) (by omega)
  have h2 := intS_bd (b := b) (a := (c1 b).2.1) (e := (c1 b).2.2) 1048576 h1.1 h1.2.1 h1.2.2.1
  have h3 := intS_bd (b := b) (a := (c2 b).2.1) (e := (c2 b).2.2) 1048576 h2.1 h2.2.1 h2.2.2.1
  have h4 := restS_bd (b := b) (a := (c3 b).2.1) (e := (c3 b).2.2) h3.1 h3.2.1 h3.2.2.1
  by_cases hok : callOk b = 0
  · refine ⟨(c1 b).1, (c2 b).1, (c3 b).1, (c4 b).1, 0, by unfold callA; rw [if_pos hok], by rw [hok]; rfl, h1.2.2.2, ?_, ?_, by have := h4.2.2.2; change (c4 b).1.size ≤ _ at this; omega, Or.inl ⟨rfl, ?_⟩⟩
    · have := h2.2.2.2; change ((c2 b).1 : Int) ≤ _ at this; omega
    · have := h3.2.2.2; change ((c3 b).1 : Int) ≤ _ at this; omega
    · obtain ⟨e4, s4⟩ := done_ok hok
      obtain ⟨e3, p4⟩ := rest_ok (s := (c4 b).1) (a2 := (c4 b).2.1) (tup3 (x := c4 b) e4)
      obtain ⟨e2, p3, _⟩ := int_ok (n := (c3 b).1) (a2 := (c3 b).2.1) (tup3 (x := c3 b) e3) h2.1
      obtain ⟨e1, p2, _⟩ := int_ok (n := (c2 b).1) (a2 := (c2 b).2.1) (tup3 (x := c2 b) e2) h1.1
      obtain ⟨_, p1, _⟩ := num_ok (n := (c1 b).1) (a2 := (c1 b).2.1) (tup3 (x := c1 b) e1) (Nat.zero_le _)
      refine list_all b ?_
      rw [p1, p2, p3, p4, callL, numL_of, numL_of, Int.toNat_natCast]
      simp only [List.append_assoc]
  · exact ⟨0, 0, 0, ⟨#[]⟩, 1, by unfold callA; rw [if_neg hok]; rfl, by unfold okE; rw [if_neg hok], by omega, by omega, by omega, by show 0 ≤ 140737488351232; omega, Or.inr rfl⟩
theorem bind_form (b : ByteArray) : ∃ (id num : Nat) (sv me : ByteArray) (op : Nat) (e : Int), bindA b = .agg #[.int .u64 id, .int .i64 num, .string sv, .string me, .int .i64 op] ∧ okE (bindOk b) = e ∧
    id < 18446744073709551616 ∧ num ≤ 1048576 ∧ sv.size ≤ 16 ∧ me.size ≤ 16 ∧ op ≤ 1048576 ∧ ((e = 0 ∧ S (bindL id num sv me op) = b) ∨ e = 1) := by
  have h1 := numS_bd (b := b) (a := 0) (e := 0) (Nat.zero_le _) (by omega) (by omega)
  have h2 := intS_bd (b := b) (a := (c1 b).2.1) (e := (c1 b).2.2) 1048576 h1.1 h1.2.1 h1.2.2.1
  have h3 := textS_bd (b := b) (a := (b2 b).2.1) (e := (b2 b).2.2) 16 h2.1 h2.2.1 h2.2.2.1
  have h4 := textS_bd (b := b) (a := (b3 b).2.1) (e := (b3 b).2.2) 16 h3.1 h3.2.1 h3.2.2.1
  have h5 := intS_bd (b := b) (a := (b4 b).2.1) (e := (b4 b).2.2) 1048576 h4.1 h4.2.1 h4.2.2.1
  by_cases hok : bindOk b = 0
  · obtain ⟨e5, s5⟩ := done_ok hok
    obtain ⟨e4, p5, q5, _⟩ := int_ok (n := (b5 b).1) (a2 := (b5 b).2.1) (tup3 (x := b5 b) e5) h4.1
    obtain ⟨e3, p4, q4, _⟩ := text_ok (s := (b4 b).1) (a2 := (b4 b).2.1) (tup3 (x := b4 b) e4) h3.1
    obtain ⟨e2, p3, q3, _⟩ := text_ok (s := (b3 b).1) (a2 := (b3 b).2.1) (tup3 (x := b3 b) e3) h2.1
    obtain ⟨e1, p2, q2, _⟩ := int_ok (n := (b2 b).1) (a2 := (b2 b).2.1) (tup3 (x := b2 b) e2) h1.1
    obtain ⟨_, p1, _⟩ := num_ok (n := (c1 b).1) (a2 := (c1 b).2.1) (tup3 (x := c1 b) e1) (Nat.zero_le _)
    refine ⟨(c1 b).1, (b2 b).1, (b3 b).1, (b4 b).1, (b5 b).1, 0, by unfold bindA; rw [if_pos hok], by rw [hok]; rfl, h1.2.2.2, by omega, by omega, by omega, by omega, Or.inl ⟨rfl, ?_⟩⟩
    refine list_all b ?_
    rw [p1, p2, p3, p4, p5, drop_end b s5, bindL, numL_of, numL_of, Int.toNat_natCast]
    simp only [List.append_assoc, List.append_nil]
  · exact ⟨0, 0, ⟨#[]⟩, ⟨#[]⟩, 0, 1, by unfold bindA; rw [if_neg hok]; rfl, by unfold okE; rw [if_neg hok], by omega, by omega, by show 0 ≤ 16; omega, by show 0 ≤ 16; omega, by omega, Or.inr rfl⟩
theorem schema_form (b : ByteArray) (hb : b.size ≤ 140737488351232) : ∃ (id : Nat) (s : ByteArray) (e : Int), schemaV b = .tuple #[.int .u64 id, .string s, .int .i64 e] ∧ id < 18446744073709551616 ∧ s.size ≤ 140737488351232 ∧ ((e = 0 ∧ S (putL id) ++ s = b) ∨ e = 1) := by
  have h1 := numS_bd (b := b) (a := 0) (e := 0) (Nat.zero_le _) (by omega) (by omega)
  have h4 := restS_bd (b := b) (a := (c1 b).2.1) (e := (c1 b).2.2) h1.1 h1.2.1 h1.2.2.1
  by_cases hok : schemaOk b = 0
  · obtain ⟨e2, s2'⟩ := done_ok hok
    obtain ⟨e1, p2⟩ := rest_ok (s := (s2 b).1) (a2 := (s2 b).2.1) (tup3 (x := s2 b) e2)
    obtain ⟨_, p1, _⟩ := num_ok (n := (c1 b).1) (a2 := (c1 b).2.1) (tup3 (x := c1 b) e1) (Nat.zero_le _)
    refine ⟨(c1 b).1, (s2 b).1, 0, by unfold schemaV; rw [if_pos hok], h1.2.2.2, by have := h4.2.2.2; change (s2 b).1.size ≤ _ at this; omega, Or.inl ⟨rfl, ?_⟩⟩
    rw [S_cat]
    refine list_all b ?_
    rw [p1, p2]
  · exact ⟨0, ⟨#[]⟩, 1, by unfold schemaV; rw [if_neg hok]; rfl, by omega, by show 0 ≤ _; omega, Or.inr rfl⟩
theorem cancel_form (b : ByteArray) : ∃ (id : Nat) (e : Int), cancelV b = .tuple #[.int .u64 id, .int .i64 e] ∧ id < 18446744073709551616 ∧ ((e = 0 ∧ S (putL id) = b) ∨ e = 1) := by
  have h1 := numS_bd (b := b) (a := 0) (e := 0) (Nat.zero_le _) (by omega) (by omega)
  by_cases hok : cancelOk b = 0
  · obtain ⟨e1, s1⟩ := done_ok hok
    obtain ⟨_, p1, _⟩ := num_ok (n := (c1 b).1) (a2 := (c1 b).2.1) (tup3 (x := c1 b) e1) (Nat.zero_le _)
    refine ⟨(c1 b).1, 0, by unfold cancelV; rw [if_pos hok], h1.2.2.2, Or.inl ⟨rfl, ?_⟩⟩
    refine list_all b ?_
    rw [p1, drop_end b s1, List.append_nil]
  · exact ⟨0, 1, by unfold cancelV; rw [if_neg hok]; rfl, by omega, Or.inr rfl⟩

theorem beq_list {s b : ByteArray} (h : s = b) : (s.toList == b.toList) = true := by rw [h]; exact beq_self_eq_true _

set_option maxHeartbeats 6400000 in
set_option maxRecDepth 100000 in
theorem callOne_walk (b : ByteArray) (hb : b.size ≤ 140737488351232) (w : World) : Calls Try.prog 21 #[.string b] w (Gives w (.bool true)) := by
  have hm : b.size ≤ maxLen := by unfold maxLen; omega
  obtain ⟨id, wait, num, args, e1, A1, E1, B1, B2, B3, B4, O1⟩ := call_form b hb
  obtain ⟨bid, bnum, sv, me, op, e2, A2, E2, B5, B6, B7, B8, B9, O2⟩ := bind_form b
  obtain ⟨sid, st, e3, A3, B10, B11, O3⟩ := schema_form b hb
  obtain ⟨nid, e4, A4, B12, O4⟩ := cancel_form b
  have C1 : ∀ w, Calls Try.prog 76 #[.string b] w (Gives w (.tuple #[.agg #[.int .u64 id, .int .i64 wait, .int .i64 num, .string args], .int .i64 e1])) := fun w => by rw [← A1, ← E1]; exact takecall_any b w hm
  have C2 : ∀ w, Calls Try.prog 78 #[.string b] w (Gives w (.tuple #[.agg #[.int .u64 bid, .int .i64 bnum, .string sv, .string me, .int .i64 op], .int .i64 e2])) := fun w => by rw [← A2, ← E2]; exact takebind_any b w hm
  have C3 : ∀ w, Calls Try.prog 80 #[.string b] w (Gives w (.tuple #[.int .u64 sid, .string st, .int .i64 e3])) := fun w => by rw [← A3]; exact takeschema_any b w hm
  have C4 : ∀ w, Calls Try.prog 82 #[.string b] w (Gives w (.tuple #[.int .u64 nid, .int .i64 e4])) := fun w => by rw [← A4]; exact takecancel_any b w hm
  have D1 : (e1 != 0) = true ∨ (e1 != 0) = false ∧ ((S (callL id wait num args)).toList == b.toList) = true := by
    rcases O1 with ⟨h, k⟩ | h
    · subst h; exact Or.inr ⟨rfl, beq_list k⟩
    · subst h; exact Or.inl rfl
  have D2 : (e2 != 0) = true ∨ (e2 != 0) = false ∧ ((S (bindL bid bnum sv me op)).toList == b.toList) = true := by
    rcases O2 with ⟨h, k⟩ | h
    · subst h; exact Or.inr ⟨rfl, beq_list k⟩
    · subst h; exact Or.inl rfl
  have D3 : (e3 != 0) = true ∨ (e3 != 0) = false ∧ ((S (putL (sid : Int).toNat) ++ st).toList == b.toList) = true := by
    rcases O3 with ⟨h, k⟩ | h
    · subst h; exact Or.inr ⟨rfl, beq_list k⟩
    · subst h; exact Or.inl rfl
  have D4 : (e4 != 0) = true ∨ (e4 != 0) = false ∧ ((S (putL (nid : Int).toNat)).toList == b.toList) = true := by
    rcases O4 with ⟨h, k⟩ | h
    · subst h; exact Or.inr ⟨rfl, beq_list k⟩
    · subst h; exact Or.inl rfl
  clear A1 A2 A3 A4 E1 E2 O1 O2 O3 O4
  go_enter Try.func21, Try.ntmps21
  go_wp2_with fail
  refine (C1 _).mono ?_
  rintro e w1 ⟨rfl, hu1⟩
  go_wp2_with fail
  refine (C2 _).mono ?_
  rintro e w2 ⟨rfl, hu2⟩
  go_wp2_with fail
  refine (C3 _).mono ?_
  rintro e w3 ⟨rfl, hu3⟩
  go_wp2_with fail
  refine (C4 _).mono ?_
  rintro e w4 ⟨rfl, hu4⟩
  have y0 := blk_new w1 (.cells #[.int .u64 id, .int .i64 wait, .int .i64 num, .string args] 28)
  have y4 := hu4.keep (hu3.keep (blk_alloc (hu2.keep y0)))
  have x0 := blk_new w2 (.cells #[.int .u64 bid, .int .i64 bnum, .string sv, .string me, .int .i64 op] 32)
  have x4 := hu4.keep (hu3.keep x0)
  have ly := blk_lt y4
  have lx := blk_lt x4
  have hup : Up w w4 := ((((hu1.alloc _).trans hu2).alloc _).trans hu3).trans hu4
  have q0 : w4.cell? ⟨w1.heap.size, 0, none⟩ = some (.int .u64 id) := blk_cell y4 0
  have q1 : w4.cell? ⟨w1.heap.size, 1, none⟩ = some (.int .i64 wait) := blk_cell y4 1
  have q2 : w4.cell? ⟨w1.heap.size, 2, none⟩ = some (.int .i64 num) := blk_cell y4 2
  have q3 : w4.cell? ⟨w1.heap.size, 3, none⟩ = some (.string args) := blk_cell y4 3
  have r0 : w4.cell? ⟨w2.heap.size, 0, none⟩ = some (.int .u64 bid) := blk_cell x4 0
  have r1 : w4.cell? ⟨w2.heap.size, 1, none⟩ = some (.int .i64 bnum) := blk_cell x4 1
  have r2 : w4.cell? ⟨w2.heap.size, 2, none⟩ = some (.string sv) := blk_cell x4 2
  have r3 : w4.cell? ⟨w2.heap.size, 3, none⟩ = some (.string me) := blk_cell x4 3
  have r4 : w4.cell? ⟨w2.heap.size, 4, none⟩ = some (.int .i64 op) := blk_cell x4 4
  clear y0 x0 y4 x4 C1 C2 C3 C4
  have K1 : ∀ w, Calls Try.prog 22 #[.agg #[.int .u64 id, .int .i64 wait, .int .i64 num, .string args]] w (Gives w (.string (S (callL id wait num args)))) := fun w => putcall_any _ _ _ _ w (by omega) (by omega) (by omega) (by omega) (by omega) (by omega) B4
  have K2 : ∀ w, Calls Try.prog 25 #[.agg #[.int .u64 bid, .int .i64 bnum, .string sv, .string me, .int .i64 op]] w (Gives w (.string (S (bindL bid bnum sv me op)))) := fun w => putbind_any _ _ _ _ _ w (by omega) (by omega) (by omega) (by omega) (by omega) (by omega) (by omega) (by omega)
  have K3 : ∀ w, Calls Try.prog 28 #[.int .u64 sid, .string st] w (Gives w (.string (S (putL (sid : Int).toNat) ++ st))) := fun w => putschema_any _ _ w (by omega) (by omega) B11
  have K4 : ∀ w, Calls Try.prog 30 #[.int .u64 nid] w (Gives w (.string (S (putL (nid : Int).toNat)))) := fun w => putcancel_any _ w (by omega) (by omega)
  generalize S (callL id wait num args) = T1 at *
  generalize S (bindL bid bnum sv me op) = T2 at *
  generalize S (putL (sid : Int).toNat) ++ st = T3 at *
  generalize S (putL (nid : Int).toNat) = T4 at *
  rcases D1 with D1 | ⟨D1, F1⟩ <;> rcases D2 with D2 | ⟨D2, F2⟩ <;> rcases D3 with D3 | ⟨D3, F3⟩ <;> rcases D4 with D4 | ⟨D4, F4⟩
  all_goals
    go_wp2_with fail
    try
      refine (K1 _).mono ?_
      rintro e w5 ⟨rfl, hu5⟩
      replace hup := hup.trans hu5
      have R0 : w5.cell? ⟨w2.heap.size, 0, none⟩ = some (.int .u64 bid) := by rw [hu5.cell lx]; exact r0
      have R1 : w5.cell? ⟨w2.heap.size, 1, none⟩ = some (.int .i64 bnum) := by rw [hu5.cell lx]; exact r1
      have R2 : w5.cell? ⟨w2.heap.size, 2, none⟩ = some (.string sv) := by rw [hu5.cell lx]; exact r2
      have R3 : w5.cell? ⟨w2.heap.size, 3, none⟩ = some (.string me) := by rw [hu5.cell lx]; exact r3
      have R4 : w5.cell? ⟨w2.heap.size, 4, none⟩ = some (.int .i64 op) := by rw [hu5.cell lx]; exact r4
      go_wp2_with fail
    try
      refine (K2 _).mono ?_
      rintro e w6 ⟨rfl, hu6⟩
      replace hup := hup.trans hu6
      go_wp2_with fail
    try
      refine (K3 _).mono ?_
      rintro e w7 ⟨rfl, hu7⟩
      replace hup := hup.trans hu7
      go_wp2_with fail
    try
      refine (K4 _).mono ?_
      rintro e w8 ⟨rfl, hu8⟩
      replace hup := hup.trans hu8
      go_wp2_with fail
    refine (awake34_any _).mono ?_
    rintro e w9 ⟨rfl, hu9⟩
    go_wp2_with fail
    go_ret
    exact Gives.mk rfl (hup.trans hu9)

set_option linter.unusedVariables false in
set_option maxRecDepth 100000 in
theorem callOne_contract (H : Type) (enc : TypeId × Value → H) (W : World) (base : Nat) (args : Array Value) (ds gs : List (DataW H)) (before : List MemPlace)
    (hval : ∀ (j : Nat) t v, Try.f21.params[j]? = some t → args[j]? = some v → Value.okWide Try.prog W .any base t v)
    (hW : DataW.Whole enc Try.prog Try.f21.params.toList Rows.callOneSpec.vars false W args.toList ds gs before)
    (hsz : (DataW.weightsEach Try.prog (Try.f21.params.toList ++ (Rows.callOneSpec).plain.varTypes Try.prog) (ds ++ gs)).all (· ≤ reachBytes) = true) :
    Calls Try.prog 21 args W fun e W' => ∃ v, e = .returned v ∧ Rows.callOneSpec.post enc Try.prog Try.f21 false true false false W args v W' := by
  have hW' := hW
  obtain ⟨p, q, hA0, hV, rfl, hfz, hnd⟩ := hW
  have hA : DataW.TrodAll enc Try.prog W 0 (fun _ => true) true Try.f21.params.toList args.toList ds p := hA0
  rw [Try.params21] at hA hval hsz
  obtain ⟨v0, vs0, d0, ds0, p0, q0, hargs, rfl, rfl, h0, r0⟩ := trodAll_cons hA
  obtain ⟨rfl, rfl, rfl⟩ := trodAll_nil r0
  obtain rfl : args = #[v0] := by cases args; simp_all
  obtain ⟨rfl, rfl⟩ := trodVars_none hV
  clear hA0
  obtain ⟨a0, rfl, rfl, rfl, w0⟩ := open_string Try.underlying9 (hval 0 9 v0 rfl rfl) h0
  have z0 : a0.size ≤ 140737488351232 := by have := sized_string hsz (j := 0) (t := 9) rfl rfl; simpa [reachBytes] using this
  refine (callOne_walk a0 z0 W).mono fun e W' ⟨he, hu⟩ => ?_
  subst he
  exact ⟨_, rfl, post_true laidOut (by kernel_rfl) Try.underlying4 rfl rfl hW' rfl hu⟩

theorem callOne_closed : joinedFacts Try.prog 21 Try.f21 Rows.callOneSpec Rows.callOneRow = true := by
  unfold joinedFacts
  rw [fact_mayEnter, fact_lifted, fact_make]
  kernel_rfl

set_option maxRecDepth 100000 in
theorem callOne_lifted (os : Os) (started : os.Started) (H : Type) (enc : TypeId × Value → H) :
    ReturnsInHanded {} Try.checked os 21 .any (Rows.callOneSpec.pre6 enc Try.prog Try.f21 Rows.callOneRow.domain false) (Rows.callOneSpec.post enc Try.prog Try.f21 false true false false) := by
  refine returnsInHanded_of_change_sized (C := Try.checked) own started (by kernel_rfl) Try.func21
    (ChangeSpec.witness6 (enc := enc) (C := Try.checked) false ⟨#[], #[.string ⟨#[]⟩], []⟩ 8 (by kernel_rfl) (by kernel_rfl) (by kernel_rfl) (by kernel_rfl)) ?_
  intro W base args ds gs before hval hW _ hsz _
  exact callOne_contract H enc W base args ds gs before hval hW hsz

theorem callOne_holds : Rows.CallOneSaid :=
  OpenClaim.holds_of_wide 21 Try.f21 rfl rfl rfl rfl rfl rfl rfl ⟨rfl, rfl, rfl, rfl, rfl⟩ rfl rfl rfl rfl rfl (by kernel_rfl) Try.func21 callOne_closed
    (of_decide_eq_true (by kernel_rfl)) (by unfold Func.isWrapper; rw [if_neg (by decide +kernel)]; exact ⟨rfl, rfl⟩)
    (fun os started H enc _ => callOne_lifted os started H enc)
end Go.Proofs.Ytpldfoclogkppaa
