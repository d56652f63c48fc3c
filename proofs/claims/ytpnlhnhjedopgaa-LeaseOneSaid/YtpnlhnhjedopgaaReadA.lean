/- The walks of span.Reader: Read, Num, Int, Text, Rest, Done, At: what each hands back, and what the reader keeps. -/
import Derived.Test.YtpnlhnhjedopgaaSpanA
namespace Go.Proofs.Ytpnlhnhjedopgaa
open Go Go.RowKit

/-- block g is a reader of b, 'at' bytes taken, e wrong first -/
def Rd (w : World) (g : Nat) (b : ByteArray) (at_ : Nat) (e : Int) : Prop := w.heap[g]? = some (.cells #[.string b, .int .i64 at_, .int .i64 e] 206 (0, 0))
def rptr (g : Nat) : Value := .pointer (some ⟨g, 0, none⟩)
theorem Rd.up {w w' : World} {g : Nat} {b : ByteArray} {a : Nat} {e : Int} (h : Rd w g b a e) (hu : Up w w') : Rd w' g b a e := by unfold Rd at *; rw [hu.block (blk_lt h)]; exact h
theorem Rd.c0 {w : World} {g : Nat} {b : ByteArray} {a : Nat} {e : Int} (h : Rd w g b a e) : w.cell? ⟨g, 0, none⟩ = some (.string b) := blk_cell h 0
theorem Rd.c1 {w : World} {g : Nat} {b : ByteArray} {a : Nat} {e : Int} (h : Rd w g b a e) : w.cell? ⟨g, 1, none⟩ = some (.int .i64 a) := blk_cell h 1
theorem Rd.c2 {w : World} {g : Nat} {b : ByteArray} {a : Nat} {e : Int} (h : Rd w g b a e) : w.cell? ⟨g, 2, none⟩ = some (.int .i64 e) := blk_cell h 2
theorem Rd.fz {w : World} {g : Nat} {b : ByteArray} {a : Nat} {e : Int} (h : Rd w g b a e) (o : Nat) : w.frozen? ⟨g, o, none⟩ = false := blk_free h o
theorem Rd.setAt {w : World} {g : Nat} {b : ByteArray} {a : Nat} {e : Int} (h : Rd w g b a e) (n : Nat) : Rd (w.setCell ⟨g, 1, none⟩ (.int .i64 n)) g b n e := blk_set h 1 _
theorem Rd.setE {w : World} {g : Nat} {b : ByteArray} {a : Nat} {e : Int} (h : Rd w g b a e) (n : Int) : Rd (w.setCell ⟨g, 2, none⟩ (.int .i64 n)) g b a n := blk_set h 2 _

theorem read_any (b : ByteArray) (w : World) : Calls Try.prog 97 #[.string b] w (fun e w' => ∃ g, e = .returned (rptr g) ∧ w.heap.size ≤ g ∧ Rd w' g b 0 0 ∧ Up w w') := by
  go_enter Try.func97, Try.ntmps97
  go_wp2_with fail
  go_ret
  exact ⟨w.heap.size, rfl, Nat.le_refl _, blk_new _ _, (Up.refl _).alloc _⟩
/-- what was wrong first, or that something is left -/
def doneE (b : ByteArray) (a : Nat) (e : Int) : Int := if e ≠ 0 then e else if a < b.size then 1 else 0
theorem done_nil (w : World) : Calls Try.prog 101 #[.pointer none] w (fun x w' => x = .returned (.int .i64 0) ∧ w' = w) := by
  go_enter Try.func101, Try.ntmps101
  go_wp2_with fail
  go_ret
  exact ⟨rfl, rfl⟩
theorem done_any (w : World) (g : Nat) (b : ByteArray) (a : Nat) (e : Int) (h : Rd w g b a e) : Calls Try.prog 101 #[rptr g] w (Gives w (.int .i64 (doneE b a e))) := by
  have h0 := h.c0
  have h1 := h.c1
  have h2 := h.c2
  have hg := blk_lt h
  unfold rptr
  by_cases he : e = 0
  · subst he
    by_cases hl : a < b.size
    · have H := Lib.hid (show (1 : Int) = doneE b a 0 by unfold doneE; rw [if_neg (by simp), if_pos hl])
      have d1 : decide (a < b.size) = true := decide_eq_true hl
      have d2 : decide ((a : Int) < b.size) = true := decide_eq_true (by omega)
      go_enter Try.func101, Try.ntmps101
      go_wp2_with fail
      refine wp_region_up (by kernel_rfl) (by kernel_rfl) (Up.refl _) ?_
      repeat (go_big_quiet_step (fail))
      refine wpQuiet_nil ?_
      intro w2 hu2
      go_wp2_with fail
      go_ret
      exact Gives.mk (congrArg (Value.int .i64) H.out) hu2
    · have H := Lib.hid (show (0 : Int) = doneE b a 0 by unfold doneE; rw [if_neg (by simp), if_neg hl])
      have d1 : decide (a < b.size) = false := decide_eq_false hl
      have d2 : decide ((a : Int) < b.size) = false := decide_eq_false (by omega)
      go_enter Try.func101, Try.ntmps101
      go_wp2_with fail
      refine wp_region_up (by kernel_rfl) (by kernel_rfl) (Up.refl _) ?_
      repeat (go_big_quiet_step (fail))
      refine wpQuiet_nil ?_
      intro w2 hu2
      go_wp2_with fail
      go_ret
      exact Gives.mk (congrArg (Value.int .i64) H.out) hu2
  · have H := Lib.hid (show e = doneE b a e by unfold doneE; rw [if_pos he])
    have d1 : (e != 0) = true := by rw [bne_iff_ne]; exact he
    clear he
    go_enter Try.func101, Try.ntmps101
    go_wp2_with fail
    go_ret
    exact Gives.mk (congrArg (Value.int .i64) H.out) (Up.refl _)

theorem rest1_any (s : ByteArray) (w : World) :
    Calls Try.prog 132 #[.string s] w (Gives w (.tuple #[.string s, .int .i64 s.size, .int .i64 0])) := by
  go_enter Try.func132, Try.ntmps132
  go_wp2_with fail
  go_ret3
  exact Gives.mk rfl (Up.refl _)
/-- what the closure of Int hands back: the number as it is, with a bound's error -/
def int1V (n k : Nat) (e most : Int) : Value := .tuple #[.int .i64 (wrap64 n), .int .i64 k, .int .i64 (if e = 0 ∧ max most 0 < n then 3 else e)]
set_option maxHeartbeats 800000 in
set_option maxRecDepth 100000 in
theorem int1_any (s : ByteArray) (c : Nat) (most : Int) (w : World) (hs : s.size ≤ maxLen) (m0 : -9223372036854775808 ≤ most) (m1 : most ≤ 9223372036854775807) (hc : w.cell? ⟨c, 0, none⟩ = some (.int .i64 most)) (hcl : c < w.heap.size)
    (n k : Nat) (e : Int) (hr : takeL s.data.toList = (n, k, e)) :
    Calls Try.prog 130 #[.string s, .pointer (some ⟨c, 0, none⟩)] w (Gives w (int1V n k e most)) := by
  have hs2 := takeL_small s.data.toList
  rw [hr] at hs2
  simp only at hs2
  have HR := Lib.hid hr; clear hr
  by_cases he : e = 0
  · subst he
    by_cases hm : max most 0 < (n : Int)
    · have H := Lib.hid (show Value.tuple #[.int .i64 (wrap64 n), .int .i64 k, .int .i64 3] = int1V n k 0 most by unfold int1V; rw [if_pos ⟨rfl, hm⟩])
      go_enter Try.func130, Try.ntmps130
      go_wp2_with fail
      refine (vartake_any s _ hs).mono ?_
      rintro e w1 ⟨rfl, hu1⟩
      have hc1 : w1.cell? ⟨c, 0, none⟩ = some (.int .i64 most) := by rw [hu1.cell hcl]; exact hc
      rw [HR.out]
      unfold takeV
      go_wp2_with fail
      all_goals first
        | (go_ret3; exact Gives.mk H.out hu1)
        | (exfalso; omega)
    · have hm2 : (n : Int) ≤ max most 0 := by omega
      have hw : wrap64 (n : Int) = n := IntWalk.wrap64_in _ (by omega)
      have H := Lib.hid (show Value.tuple #[.int .i64 n, .int .i64 k, .int .i64 0] = int1V n k 0 most by unfold int1V; rw [if_neg (fun h => hm h.2), hw])
      clear hw
      go_enter Try.func130, Try.ntmps130
      go_wp2_with fail
      refine (vartake_any s _ hs).mono ?_
      rintro e w1 ⟨rfl, hu1⟩
      have hc1 : w1.cell? ⟨c, 0, none⟩ = some (.int .i64 most) := by rw [hu1.cell hcl]; exact hc
      rw [HR.out]
      unfold takeV
      go_wp2_with fail
      all_goals first
        | (go_ret3; exact Gives.mk H.out hu1)
        | (exfalso; omega)
  · have d1 : (e == 0) = false := by rw [beq_eq_false_iff_ne]; exact he
    have H := Lib.hid (show Value.tuple #[.int .i64 (wrap64 n), .int .i64 k, .int .i64 e] = int1V n k e most by unfold int1V; rw [if_neg (fun h => he h.1)])
    clear he
    go_enter Try.func130, Try.ntmps130
    go_wp2_with fail
    refine (vartake_any s _ hs).mono ?_
    rintro e w1 ⟨rfl, hu1⟩
    rw [HR.out]
    unfold takeV
    go_wp2_with fail
    go_ret3
    exact Gives.mk H.out hu1

theorem take_str_nil (w : World) (F : Value) : Calls Try.prog 131 #[.pointer none, F] w (fun x w' => x = .returned (.string ⟨#[]⟩) ∧ w' = w) := by
  go_enter Try.func131, Try.ntmps131
  go_wp2_with fail
  go_ret
  exact ⟨rfl, rfl⟩
theorem take_str_wrong (w : World) (g : Nat) (b : ByteArray) (a : Nat) (e : Int) (h : Rd w g b a e) (he : e ≠ 0) (F : Value) : Calls Try.prog 131 #[rptr g, F] w (fun x w' => x = .returned (.string ⟨#[]⟩) ∧ w' = w) := by
  have h2 := h.c2
  have d1 : (e != 0) = true := by rw [bne_iff_ne]; exact he
  clear he
  unfold rptr
  go_enter Try.func131, Try.ntmps131
  go_wp2_with fail
  go_ret
  exact ⟨rfl, rfl⟩

theorem take_num_nil (w : World) (F : Value) : Calls Try.prog 127 #[.pointer none, F] w (fun x w' => x = .returned (.int .u64 0) ∧ w' = w) := by
  go_enter Try.func127, Try.ntmps127
  go_wp2_with fail
  go_ret
  exact ⟨rfl, rfl⟩
theorem take_num_wrong (w : World) (g : Nat) (b : ByteArray) (a : Nat) (e : Int) (h : Rd w g b a e) (he : e ≠ 0) (F : Value) : Calls Try.prog 127 #[rptr g, F] w (fun x w' => x = .returned (.int .u64 0) ∧ w' = w) := by
  have h2 := h.c2
  have d1 : (e != 0) = true := by rw [bne_iff_ne]; exact he
  clear he
  unfold rptr
  go_enter Try.func127, Try.ntmps127
  go_wp2_with fail
  go_ret
  exact ⟨rfl, rfl⟩

theorem take_int_nil (w : World) (F : Value) : Calls Try.prog 129 #[.pointer none, F] w (fun x w' => x = .returned (.int .i64 0) ∧ w' = w) := by
  go_enter Try.func129, Try.ntmps129
  go_wp2_with fail
  go_ret
  exact ⟨rfl, rfl⟩
theorem take_int_wrong (w : World) (g : Nat) (b : ByteArray) (a : Nat) (e : Int) (h : Rd w g b a e) (he : e ≠ 0) (F : Value) : Calls Try.prog 129 #[rptr g, F] w (fun x w' => x = .returned (.int .i64 0) ∧ w' = w) := by
  have h2 := h.c2
  have d1 : (e != 0) = true := by rw [bne_iff_ne]; exact he
  clear he
  unfold rptr
  go_enter Try.func129, Try.ntmps129
  go_wp2_with fail
  go_ret
  exact ⟨rfl, rfl⟩

set_option maxHeartbeats 800000 in
set_option maxRecDepth 100000 in
theorem take_num (w : World) (g : Nat) (b : ByteArray) (a : Nat) (h : Rd w g b a 0) (hb : b.size ≤ maxLen) (ha : a ≤ b.size)  (x : Nat) (k : Nat) (e : Int) (hr : takeL (b.extract a b.size).data.toList = (x, k, e)) (hz : e ≠ 0 → x = 0 ∧ k = 0) (hk : a + k ≤ b.size)  :
    Calls Try.prog 127 #[rptr g, .func (.func 128) #[] #[]] w (fun y w' => y = .returned (.int .u64 x) ∧ Rd w' g b (a + k) e ∧ Only g w w') := by
  have h0 := h.c0
  have h1 := h.c1
  have h2 := h.c2
  have hg := blk_lt h
  have hs : (b.extract a b.size).size ≤ maxLen := by rw [ByteArray.size_extract]; unfold maxLen at *; omega
  have HS := Lib.hid hs; clear hs
  have hb' : b.size ≤ 9223372036854775807 := hb
  have hak : (a : Int) + k ≤ 9223372036854775807 := by omega
  have HR := Lib.hid hr; clear hr
  have hcall : ∀ u : Grow w, Calls Try.prog 128 #[.string (b.extract a b.size)] (gro u) (Gives (gro u) (.tuple #[.int .u64 x, .int .i64 k, .int .i64 e])) := fun u => by
    have hq := vartake_any (b.extract a b.size) (gro u) HS.out
    rw [HR.out] at hq; unfold takeV at hq
    exact hq
  have HC := Lib.hid hcall; clear hcall
  by_cases he : e = 0
  · subst he
    clear hz
    unfold rptr
    go_enter Try.func127, Try.ntmps127
    go_wp2_with fail
    refine wp_region_up (by kernel_rfl) (by kernel_rfl) (Up.refl _) ?_
    repeat (go_big_quiet_step ((exact quiet_up (HC.out _))))
    refine wpQuiet_nil ?_
    intro w2 hu2
    have h' := h.up hu2
    clear h0 h1 h2
    have h1 := h'.c1
    have h3 := h'.fz
    go_wp2_with fail
    go_ret
    exact ⟨rfl, h'.setAt (a + k), (Only.up hu2).set _ _⟩
  · obtain ⟨rfl, rfl⟩ := hz he
    have d1 : (e != 0) = true := by rw [bne_iff_ne]; exact he
    have HE := Lib.hid he
    clear he hz
    unfold rptr
    go_enter Try.func127, Try.ntmps127
    go_wp2_with fail
    refine wp_region_up (by kernel_rfl) (by kernel_rfl) (Up.refl _) ?_
    repeat (go_big_quiet_step ((exact quiet_up (HC.out _))))
    refine wpQuiet_nil ?_
    intro w2 hu2
    have h' := h.up hu2
    clear h0 h1 h2
    have h2 := h'.c2
    have h3 := h'.fz
    go_wp2_with fail
    go_ret
    exact ⟨rfl, h'.setE _, (Only.up hu2).set _ _⟩

set_option maxHeartbeats 800000 in
set_option maxRecDepth 100000 in
theorem take_rest (w : World) (g : Nat) (b : ByteArray) (a : Nat) (h : Rd w g b a 0) (hb : b.size ≤ maxLen) (ha : a ≤ b.size)  (x : ByteArray) (k : Nat) (e : Int) (hr : (b.extract a b.size, (b.extract a b.size).size, (0 : Int)) = (x, k, e)) (hz : e ≠ 0 → x = ⟨#[]⟩ ∧ k = 0) (hk : a + k ≤ b.size)  :
    Calls Try.prog 131 #[rptr g, .func (.func 132) #[] #[]] w (fun y w' => y = .returned (.string x) ∧ Rd w' g b (a + k) e ∧ Only g w w') := by
  have h0 := h.c0
  have h1 := h.c1
  have h2 := h.c2
  have hg := blk_lt h
  have hs : (b.extract a b.size).size ≤ maxLen := by rw [ByteArray.size_extract]; unfold maxLen at *; omega
  have HS := Lib.hid hs; clear hs
  have hb' : b.size ≤ 9223372036854775807 := hb
  have hak : (a : Int) + k ≤ 9223372036854775807 := by omega
  have HR := Lib.hid hr; clear hr
  have hcall : ∀ u : Grow w, Calls Try.prog 132 #[.string (b.extract a b.size)] (gro u) (Gives (gro u) (.tuple #[.string x, .int .i64 k, .int .i64 e])) := fun u => by
    have hq := rest1_any (b.extract a b.size) (gro u)
    have h5 := HR.out; simp only [Prod.mk.injEq] at h5; obtain ⟨rfl, rfl, rfl⟩ := h5
    exact hq
  have HC := Lib.hid hcall; clear hcall
  by_cases he : e = 0
  · subst he
    clear hz
    unfold rptr
    go_enter Try.func131, Try.ntmps131
    go_wp2_with fail
    refine wp_region_up (by kernel_rfl) (by kernel_rfl) (Up.refl _) ?_
    repeat (go_big_quiet_step ((exact quiet_up (HC.out _))))
    refine wpQuiet_nil ?_
    intro w2 hu2
    have h' := h.up hu2
    clear h0 h1 h2
    have h1 := h'.c1
    have h3 := h'.fz
    go_wp2_with fail
    go_ret
    exact ⟨rfl, h'.setAt (a + k), (Only.up hu2).set _ _⟩
  · obtain ⟨rfl, rfl⟩ := hz he
    have d1 : (e != 0) = true := by rw [bne_iff_ne]; exact he
    have HE := Lib.hid he
    clear he hz
    unfold rptr
    go_enter Try.func131, Try.ntmps131
    go_wp2_with fail
    refine wp_region_up (by kernel_rfl) (by kernel_rfl) (Up.refl _) ?_
    repeat (go_big_quiet_step ((exact quiet_up (HC.out _))))
    refine wpQuiet_nil ?_
    intro w2 hu2
    have h' := h.up hu2
    clear h0 h1 h2
    have h2 := h'.c2
    have h3 := h'.fz
    go_wp2_with fail
    go_ret
    exact ⟨rfl, h'.setE _, (Only.up hu2).set _ _⟩

set_option maxHeartbeats 800000 in
set_option maxRecDepth 100000 in
theorem take_int_ok (w : World) (g : Nat) (b : ByteArray) (a : Nat) (h : Rd w g b a 0) (hb : b.size ≤ maxLen) (ha : a ≤ b.size) (c : Nat) (most : Int) (m0 : -9223372036854775808 ≤ most) (m1 : most ≤ 9223372036854775807) (hc : w.cell? ⟨c, 0, none⟩ = some (.int .i64 most)) (hcl : c < w.heap.size) (n k : Nat) (e : Int) (hr : takeL (b.extract a b.size).data.toList = (n, k, e)) (hk : a + k ≤ b.size)
    (e2 : Int) (he2 : e2 = if e = 0 ∧ max most 0 < (n : Int) then 3 else e) (x : Int) (hx : x = if e2 = 0 then (n : Int) else 0) (k2 : Nat) (hk2 : k2 = if e2 = 0 then k else 0) :
    Calls Try.prog 129 #[rptr g, .func (.func 130) #[] #[.pointer (some ⟨c, 0, none⟩)]] w (fun y w' => y = .returned (.int .i64 x) ∧ Rd w' g b (a + k2) e2 ∧ Only g w w') := by
  have h0 := h.c0
  have h1 := h.c1
  have h2 := h.c2
  have hg := blk_lt h
  have hs : (b.extract a b.size).size ≤ maxLen := by rw [ByteArray.size_extract]; unfold maxLen at *; omega
  have HS := Lib.hid hs; clear hs
  have hb' : b.size ≤ 9223372036854775807 := hb
  have hak : (a : Int) + k ≤ 9223372036854775807 := by omega
  have hcall : ∀ u : Grow w, Calls Try.prog 130 #[.string (b.extract a b.size), .pointer (some ⟨c, 0, none⟩)] (gro u) (Gives (gro u) (.tuple #[.int .i64 (wrap64 n), .int .i64 k, .int .i64 e2])) := fun u => by
    have hq := int1_any (b.extract a b.size) c most (gro u) HS.out m0 m1 (by rw [gro_cell _ _ _ _ hcl]; exact hc) (Nat.lt_of_lt_of_le hcl (gro_up u).size) n k e hr
    unfold int1V at hq
    rw [← he2] at hq
    exact hq
  have HC := Lib.hid hcall; clear hcall
  have hn : e2 = 0 → wrap64 (n : Int) = n := fun h0 => by
    rw [h0] at he2
    refine IntWalk.wrap64_in _ ?_
    split at he2
    · omega
    · rename_i hh
      have : ¬ max most 0 < (n : Int) := fun h => hh ⟨he2.symm, h⟩
      omega
  have HN := Lib.hid hn
  clear hr he2 hn
  by_cases he : e2 = 0
  · rw [if_pos he] at hx hk2
    subst hk2
    subst hx
    have HW := Lib.hid (HN.out he)
    subst he
    unfold rptr
    go_enter Try.func129, Try.ntmps129
    go_wp2_with fail
    refine wp_region_up (by kernel_rfl) (by kernel_rfl) (Up.refl _) ?_
    repeat (go_big_quiet_step ((exact quiet_up (HC.out _))))
    refine wpQuiet_nil ?_
    intro w2 hu2
    have h' := h.up hu2
    clear h0 h1 h2
    have h1 := h'.c1
    have h3 := h'.fz
    go_wp2_with fail
    go_ret
    exact ⟨congrArg (fun z => Ending.returned (Value.int .i64 z)) HW.out, h'.setAt (a + k2), (Only.up hu2).set _ _⟩
  · rw [if_neg he] at hx hk2
    subst hk2
    subst hx
    have d1 : (e2 != 0) = true := by rw [bne_iff_ne]; exact he
    clear he
    unfold rptr
    go_enter Try.func129, Try.ntmps129
    go_wp2_with fail
    refine wp_region_up (by kernel_rfl) (by kernel_rfl) (Up.refl _) ?_
    repeat (go_big_quiet_step ((exact quiet_up (HC.out _))))
    refine wpQuiet_nil ?_
    intro w2 hu2
    have h' := h.up hu2
    clear h0 h1 h2
    have h2 := h'.c2
    have h3 := h'.fz
    go_wp2_with fail
    go_ret
    exact ⟨rfl, h'.setE _, (Only.up hu2).set _ _⟩
end Go.Proofs.Ytpnlhnhjedopgaa
