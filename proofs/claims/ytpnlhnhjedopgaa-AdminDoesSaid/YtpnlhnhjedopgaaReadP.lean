/- The steps of a reader in plain words: what was taken was put, and what was put is taken. -/
import Derived.Test.YtpnlhnhjedopgaaGd
import Derived.Test.YtpnlhnhjedopgaaPlainW
namespace Go.Proofs.Ytpnlhnhjedopgaa

theorem rest_data (b : ByteArray) (a : Nat) : (rest b a).data.toList = b.data.toList.drop a := by
  unfold rest
  conv => lhs; rw [← S_of b]
  rw [S_extract, S_list, S_of, List.take_of_length_le (by simp)]
theorem drop_from {l p r : List UInt8} {a : Nat} (h : l.drop a = p ++ r) : r = l.drop (a + p.length) := by
  rw [← List.drop_drop, h, List.drop_left]
theorem take_split {l : List UInt8} {a k : Nat} : l.drop a = (l.drop a).take k ++ l.drop (a + k) := by
  rw [← List.drop_drop, List.take_append_drop]

theorem num_ok {b : ByteArray} {a : Nat} {e : Int} {n a2 : Nat} (h : numS b a e = (n, a2, 0)) (ha : a ≤ b.size) : e = 0 ∧ b.data.toList.drop a = putL n ++ b.data.toList.drop a2 ∧ n < 18446744073709551616 ∧ a2 ≤ b.size := by
  unfold numS at h
  split at h
  · rename_i he; simp only [Prod.mk.injEq] at h; exact (he h.2.2).elim
  · rename_i he
    have h2 := takeL_small (rest b a).data.toList
    have h3 := takeL_bd (rest b a).data.toList
    rw [rest_list] at h3
    obtain ⟨⟨x, k, f⟩, hr⟩ : ∃ r, takeL (rest b a).data.toList = r := ⟨_, rfl⟩
    rw [hr] at h h2 h3
    simp only [Prod.mk.injEq] at h h2 h3
    obtain ⟨rfl, rfl, rfl⟩ := h
    obtain ⟨p1, p2, p3, p4⟩ := takeL_one hr
    rw [rest_data] at p1
    exact ⟨by simpa using he, by rw [p1]; exact take_split, h2, by omega⟩
theorem int_ok {b : ByteArray} {a : Nat} {e most : Int} {n a2 : Nat} (h : intS b a e most = (n, a2, 0)) (ha : a ≤ b.size) : e = 0 ∧ b.data.toList.drop a = putL n ++ b.data.toList.drop a2 ∧ (n : Int) ≤ max most 0 ∧ a2 ≤ b.size := by
  unfold intS at h
  split at h
  · rename_i he; simp only [Prod.mk.injEq] at h; exact (he h.2.2).elim
  · rename_i he
    have hT : intT (rest b a) most = takeL (rest b a).data.toList ∧ (takeL (rest b a).data.toList).2.2 = 0 ∧ ¬ max most 0 < ((takeL (rest b a).data.toList).1 : Int) := by
      simp only [Prod.mk.injEq] at h
      have h3 := h.2.2
      unfold intT at h3 ⊢
      split at h3
      · rename_i h4; exact (h4 h3).elim
      · rename_i h4
        split at h3
        · exact absurd h3 (by decide)
        · rename_i h5; rw [if_neg h4, if_neg h5]; exact ⟨rfl, by simpa using h4, h5⟩
    obtain ⟨t1, t2, t3⟩ := hT
    rw [t1] at h
    have h3 := takeL_bd (rest b a).data.toList
    rw [rest_list] at h3
    obtain ⟨⟨x, k, f⟩, hr⟩ : ∃ r, takeL (rest b a).data.toList = r := ⟨_, rfl⟩
    rw [hr] at h t2 t3 h3
    simp only [Prod.mk.injEq] at h t2 t3 h3
    obtain ⟨rfl, rfl, rfl⟩ := h
    obtain ⟨p1, p2, p3, p4⟩ := takeL_one hr
    rw [rest_data] at p1
    exact ⟨by simpa using he, by rw [p1]; exact take_split, by omega, by omega⟩
theorem spanT_one {b : ByteArray} {most : Int} {s : ByteArray} {k : Nat} (h : spanT b most = (s, k, 0)) : b.data.toList = spanL s ++ b.data.toList.drop k ∧ (s.size : Int) ≤ max most 0 ∧ k = (spanL s).length := by
  have hb := intT_bd b most
  unfold spanT at h
  split at h
  · rename_i he; simp only [Prod.mk.injEq] at h; exact (he h.2.2).elim
  · rename_i he
    split at h
    · simp only [Prod.mk.injEq] at h; exact absurd h.2.2 (by decide)
    · rename_i hn
      simp only [Prod.mk.injEq] at h
      obtain ⟨hs, hk, _⟩ := h
      have hT : intT b most = takeL b.data.toList ∧ (takeL b.data.toList).2.2 = 0 := by
        have h3 : (intT b most).2.2 = 0 := by simpa using he
        unfold intT at h3 ⊢
        split at h3
        · rename_i h4; exact (h4 h3).elim
        · rename_i h4
          split at h3
          · exact absurd h3 (by decide)
          · rename_i h5; rw [if_neg h4, if_neg h5]; exact ⟨rfl, by simpa using h4⟩
      obtain ⟨⟨n, j, f⟩, hr⟩ : ∃ r, takeL b.data.toList = r := ⟨_, rfl⟩
      rw [hT.1, hr] at hs hk hn hb
      rw [hr] at hT
      simp only at hs hk hn hb hT
      obtain ⟨_, rfl⟩ := hT
      obtain ⟨p1, p2, p3, p4⟩ := takeL_one hr
      have hl : b.data.toList.length = b.size := by simp
      have hsz : s.size = n := by rw [← hs, ByteArray.size_extract]; omega
      have hsd : s.data.toList = (b.data.toList.drop j).take n := by
        rw [← hs]
        conv => lhs; rw [← S_of b]
        rw [S_extract, S_list, Nat.add_sub_cancel_left]
      have hsp : spanL s = b.data.toList.take j ++ (b.data.toList.drop j).take n := by unfold spanL; rw [hsz, p1, hsd]
      refine ⟨?_, by omega, ?_⟩
      · rw [hsp, List.append_assoc, ← hk, ← take_split (l := b.data.toList) (a := j) (k := n), List.take_append_drop]
      · rw [hsp, List.length_append, List.length_take, List.length_take, List.length_drop]; omega
theorem text_ok {b : ByteArray} {a : Nat} {e most : Int} {s : ByteArray} {a2 : Nat} (h : textS b a e most = (s, a2, 0)) (ha : a ≤ b.size) : e = 0 ∧ b.data.toList.drop a = spanL s ++ b.data.toList.drop a2 ∧ (s.size : Int) ≤ max most 0 ∧ a2 ≤ b.size := by
  unfold textS at h
  split at h
  · rename_i he; simp only [Prod.mk.injEq] at h; exact (he h.2.2).elim
  · rename_i he
    have h3 := spanT_bd' (rest b a) most
    rw [rest_size] at h3
    obtain ⟨⟨x, k, f⟩, hr⟩ : ∃ r, spanT (rest b a) most = r := ⟨_, rfl⟩
    rw [hr] at h h3
    simp only [Prod.mk.injEq] at h h3
    obtain ⟨rfl, rfl, rfl⟩ := h
    obtain ⟨p1, p2, p3⟩ := spanT_one hr
    rw [rest_data] at p1
    exact ⟨by simpa using he, by rw [← List.drop_drop]; exact p1, p2, by omega⟩
theorem rest_ok {b : ByteArray} {a : Nat} {e : Int} {s : ByteArray} {a2 : Nat} (h : restS b a e = (s, a2, 0)) : e = 0 ∧ b.data.toList.drop a = s.data.toList := by
  unfold restS at h
  split at h
  · rename_i he; simp only [Prod.mk.injEq] at h; exact (he h.2.2).elim
  · rename_i he
    simp only [Prod.mk.injEq] at h
    exact ⟨by simpa using he, by rw [← h.1, rest_data]⟩
theorem done_ok {b : ByteArray} {a : Nat} {e : Int} (h : doneE b a e = 0) : e = 0 ∧ b.size ≤ a := by
  unfold doneE at h
  split at h
  · rename_i he; exact (he h).elim
  · rename_i he
    split at h
    · omega
    · exact ⟨by simpa using he, by omega⟩

/-- what was put is taken -/
theorem num_put {b : ByteArray} {a n : Nat} {r : List UInt8} (h : b.data.toList.drop a = putL n ++ r) (hn : n < 18446744073709551616) : numS b a 0 = (n, a + (putL n).length, 0) := by
  unfold numS
  rw [if_neg (by simp), rest_data, h, takeL_put hn]
theorem int_put {b : ByteArray} {a n : Nat} {most : Int} {r : List UInt8} (h : b.data.toList.drop a = putL n ++ r) (hn : n < 18446744073709551616) (hm : (n : Int) ≤ max most 0) : intS b a 0 most = (n, a + (putL n).length, 0) := by
  unfold intS
  rw [if_neg (by simp), intT_ok' (by rw [rest_data, h, takeL_put hn]) (by omega)]
theorem int_long {b : ByteArray} {a n : Nat} {most : Int} {r : List UInt8} (h : b.data.toList.drop a = putL n ++ r) (hn : n < 18446744073709551616) (hm : max most 0 < (n : Int)) : (intS b a 0 most).2.2 = 3 := by
  unfold intS intT
  rw [if_neg (by simp), rest_data, h, takeL_put hn]
  simp [hm]
theorem text_put {b : ByteArray} {a : Nat} {s : ByteArray} {most : Int} {r : List UInt8} (h : b.data.toList.drop a = spanL s ++ r) (hs : s.size ≤ 140737488351232) (hm : (s.size : Int) ≤ max most 0) : textS b a 0 most = (s, a + (spanL s).length, 0) := by
  have hr : rest b a = S (spanL s ++ r) := by rw [← S_of (rest b a), rest_data, h]
  have ht : takeL (S (spanL s ++ r)).data.toList = (s.size, (putL s.size).length, 0) := by
    rw [S_list, spanL, List.append_assoc, takeL_put (by omega)]
  have hi := intT_ok' (most := most) ht (by omega)
  have hl : s.data.toList.length = s.size := by simp
  have hT : spanT (S (spanL s ++ r)) most = (s, (spanL s).length, 0) := by
    unfold spanT
    rw [hi, if_neg (by simp), if_neg (by rw [S_size]; simp only [spanL, List.length_append]; omega)]
    refine Prod.ext ?_ (Prod.ext ?_ rfl)
    · show (S (spanL s ++ r)).extract (putL s.size).length ((putL s.size).length + s.size) = s
      rw [S_extract, spanL, List.append_assoc, List.drop_left, Nat.add_sub_cancel_left, List.take_append_of_le_length (by omega), List.take_of_length_le (by omega), S_of]
    · show (putL s.size).length + s.size = (spanL s).length
      rw [spanL, List.length_append, hl]
  unfold textS
  rw [if_neg (by simp), hr, hT]
theorem text_long {b : ByteArray} {a : Nat} {s : ByteArray} {most : Int} {r : List UInt8} (h : b.data.toList.drop a = spanL s ++ r) (hs : s.size ≤ 140737488351232) (hm : max most 0 < (s.size : Int)) : (textS b a 0 most).2.2 = 3 := by
  have ht : takeL (rest b a).data.toList = (s.size, (putL s.size).length, 0) := by
    rw [rest_data, h, spanL, List.append_assoc, takeL_put (by omega)]
  have hi : intT (rest b a) most = (0, 0, 3) := by unfold intT; rw [ht, if_neg (by simp), if_pos hm]
  unfold textS spanT
  rw [if_neg (by simp), hi]
  simp
theorem num_sticks {b : ByteArray} {a : Nat} {e : Int} (he : e ≠ 0) : numS b a e = (0, a, e) := by unfold numS; rw [if_pos he]
theorem int_sticks {b : ByteArray} {a : Nat} {e most : Int} (he : e ≠ 0) : intS b a e most = (0, a, e) := by unfold intS; rw [if_pos he]
theorem text_sticks {b : ByteArray} {a : Nat} {e most : Int} (he : e ≠ 0) : textS b a e most = (⟨#[]⟩, a, e) := by unfold textS; rw [if_pos he]
theorem rest_sticks {b : ByteArray} {a : Nat} {e : Int} (he : e ≠ 0) : restS b a e = (⟨#[]⟩, a, e) := by unfold restS; rw [if_pos he]
theorem rest_put {b : ByteArray} {a : Nat} {s : ByteArray} (h : b.data.toList.drop a = s.data.toList) : restS b a 0 = (s, a + s.size, 0) := by
  have hr : rest b a = s := by rw [← S_of (rest b a), rest_data, h, S_of]
  unfold restS; rw [if_neg (by simp), hr]
theorem done_put {b : ByteArray} {a : Nat} (h : b.size ≤ a) : doneE b a 0 = 0 := by unfold doneE; rw [if_neg (by simp), if_neg (by omega)]
theorem done_wrong {b : ByteArray} {a : Nat} {e : Int} (h : e ≠ 0) : doneE b a e ≠ 0 := by unfold doneE; rw [if_pos h]; exact h
end Go.Proofs.Ytpnlhnhjedopgaa
