/- The document's layer 28, Pop, in the model. -/
import Derived.Test.YtpnlhnhjedopgaaPopA
import Derived.Test.YtpnlhnhjedopgaaKvB
import Derived.Test.YtpnlhnhjedopgaaFrame
set_option maxRecDepth 100000
set_option linter.unusedSimpArgs false
namespace Go.Proofs.Ytpnlhnhjedopgaa
open Go Go.RowKit Go.Proofs

theorem row28 : Row1 Try.prog 85 87 (.agg #[.string ⟨#[]⟩, .string ⟨#[]⟩]) 2 32 := ⟨by kernel_rfl, by kernel_rfl, rfl, by decide⟩
def kvV (x : ByteArray × ByteArray) : List Value := [.string x.1, .string x.2]
set_option maxHeartbeats 4000000 in
theorem pop28_any (v : Value) (l : KvL) (z : ByteArray) (w : World) (hr : Row w v l 2 kvV) (hl : l.length ≤ 1048576) :
    Calls Try.prog 57 #[v, .string z] w (fun e w' => (∃ i x u, l[i]? = some x ∧ x.1 = z ∧ (∀ y ∈ l.take i, y.1 ≠ z) ∧ e = .returned (.tuple #[u, .string x.2, .bool true]) ∧ w'.ownsRow w.heap.size 87 2 u ((l.take i).length + (l.drop (i + 1)).length) ((l.take i).flatMap kvV ++ (l.drop (i + 1)).flatMap kvV) ∧ Up w w') ∨
      ((∀ y ∈ l, y.1 ≠ z) ∧ e = .returned (.tuple #[v, .string ⟨#[]⟩, .bool false]) ∧ Up w w')) := by
  obtain ⟨p, cap, rfl, hlc, hm, hrow⟩ := id hr
  unfold maxLen at hm
  have HR := Lib.hid hr
  clear hr
  go_enter Try.func57, Try.ntmps57
  go_wp2_with fail
  go_loopw [7] (fun i wr => ∃ k : Nat, k ≤ l.length ∧ i = .int .i64 k ∧ Hid (∀ y ∈ l.take k, y.1 ≠ z) ∧ Up w wr) (fun i _ => l.length - (intOf i).toNat)
  case atStart => exact ⟨0, Nat.zero_le _, rfl, Lib.hid (fun y h => (by cases h)), Up.refl _⟩
  case round =>
    obtain ⟨k, hk, rfl, hs, hup⟩ := hrel
    by_cases hlt : k < l.length
    · obtain ⟨b, o, rfl, hb, hc⟩ := hrow (by omega)
      have hx : l[k]? = some l[k] := List.getElem?_eq_getElem hlt
      have ht : l.take (k + 1) = l.take k ++ [l[k]] := by rw [List.take_add_one, hx]; rfl
      generalize l[k] = x at *
      obtain ⟨xa, xb⟩ := x
      have c1 : wr.cell? ⟨b, o + k * 2, none⟩ = some (.string xa) := by
        rw [hup.cell hb]; have := hc k _ hx 0 _ rfl; simpa using this
      have c2 : wr.cell? ⟨b, o + (k * 2 + 1), none⟩ = some (.string xb) := by
        rw [hup.cell hb]; have := hc k _ hx 1 _ rfl; simpa using this
      have hw1 : b < wr.heap.size := Nat.lt_of_lt_of_le hb hup.size
      clear hc hrow
      by_cases heq : xa = z
      · have d1 : (xa.toList == z.toList) = true := by simp [heq]
        have HX := Lib.hid hx
        have HE := Lib.hid heq
        clear hx heq ht
        go_wp2_with fail
        have hmade := Lib.hid (World.ownsRow_made (base := wr.heap.size) (e := 87) (size := 2) wr.drew #[] 0 (Nat.le_refl _) (by decide) (by decide))
        have hA := Lib.hid ((row_take HR.out k hk).up hup)
        obtain ⟨q, hB, hq8⟩ : ∃ q, Row wr (.slice q (l.length - (k + 1)) (cap - (k + 1))) (l.drop (k + 1)) 2 kvV ∧ ((cap = k + 1 ∧ q = some ⟨b, o, none⟩) ∨ (¬ cap = k + 1 ∧ q = some ⟨b, o + (k + 1) * 2, none⟩)) := by
          by_cases hcap : cap = k + 1
          · refine ⟨_, ⟨_, _, by rw [List.length_drop], by rw [List.length_drop]; omega, by unfold maxLen; omega, fun h => ?_⟩, .inl ⟨hcap, rfl⟩⟩
            rw [List.length_drop] at h
            omega
          · exact ⟨_, (row_drop HR.out (k + 1) hlt).up hup, .inr ⟨hcap, rfl⟩⟩
        have i1 : IntKind.i64.wrap ((k : Int) + 1) = (k : Int) + 1 := by rw [IntWalk.i64_in _ (by omega)]
        have t1 : (l.take k).length = k := by rw [List.length_take]; omega
        have t2 : (l.drop (k + 1)).length = l.length - (k + 1) := by rw [List.length_drop]
        have i2 : (0 : Int) ≤ (k : Int) := by omega
        have i3 : (k : Int) ≤ (cap : Int) := by omega
        have i4 : (k : Int) ≤ (l.length : Int) := by omega
        have i5 : (0 : Int) ≤ (k : Int) + 1 := by omega
        have i6 : (k : Int) + 1 ≤ (l.length : Int) := by omega
        have i7 : (k : Int) + 1 ≤ (cap : Int) := by omega
        have i8 : (l.length : Int) ≤ (cap : Int) := by omega
        have hKS : ∀ w', Up wr w' → Up wr w' ∧ w'.cell? ⟨b, o + k * 2 + 1, none⟩ = some (.string xb) := fun w' hu => ⟨hu, by rw [hu.cell hw1]; exact c2⟩
        clear c1
        refine wp_region_held_drew (S := fun w' => Up wr w' ∧ w'.cell? ⟨b, o + k * 2 + 1, none⟩ = some (.string xb)) (by kernel_rfl) (hKS _ ((Up.refl _).drew)) fun hS0 => ?_
        refine wpAnyH_take (i := 1) (v := .slice (some ⟨b, o, none⟩) l.length cap) rfl (by kernel_rfl) (by kernel_rfl) (by kernel_rfl) (fun _ _ _ h => h) (.inl ⟨rfl, fun w' hw' => ?_⟩) (by assumption) ?_
        · go_simp
        simp only [Act.put, List.setIfInBounds_toArray, List.set_cons_zero, List.set_cons_succ]
        refine wpAnyH_take (i := 2) (v := .int .i64 k) rfl (by kernel_rfl) (by kernel_rfl) (by kernel_rfl) (fun _ _ _ h => h) (.inl ⟨rfl, fun w' hw' => ?_⟩) (by assumption) ?_
        · go_simp
        simp only [Act.put, List.setIfInBounds_toArray, List.set_cons_zero, List.set_cons_succ]
        refine wpAnyH_take (i := 3) (v := .slice (some ⟨b, o, none⟩) k cap) rfl (by kernel_rfl) (by kernel_rfl) (by kernel_rfl) (fun _ _ _ h => h) (.inl ⟨rfl, fun w' hw' => ?_⟩) (by assumption) ?_
        · go_simp
        simp only [Act.put, List.setIfInBounds_toArray, List.set_cons_zero, List.set_cons_succ]
        refine wpAnyH_take (i := 5) (v := .slice (some ⟨b, o, none⟩) l.length cap) rfl (by kernel_rfl) (by kernel_rfl) (by kernel_rfl) (fun _ _ _ h => h) (.inl ⟨rfl, fun w' hw' => ?_⟩) (by assumption) ?_
        · go_simp
        simp only [Act.put, List.setIfInBounds_toArray, List.set_cons_zero, List.set_cons_succ]
        refine wpAnyH_take (i := 6) (v := .int .i64 k) rfl (by kernel_rfl) (by kernel_rfl) (by kernel_rfl) (fun _ _ _ h => h) (.inl ⟨rfl, fun w' hw' => ?_⟩) (by assumption) ?_
        · go_simp
        simp only [Act.put, List.setIfInBounds_toArray, List.set_cons_zero, List.set_cons_succ]
        refine wpAnyH_take (i := 7) (v := .int .i64 ((k : Int) + 1)) rfl (by kernel_rfl) (by kernel_rfl) (by kernel_rfl) (fun _ _ _ h => h) (.inl ⟨rfl, fun w' hw' => ?_⟩) (by assumption) ?_
        · go_simp
        simp only [Act.put, List.setIfInBounds_toArray, List.set_cons_zero, List.set_cons_succ]
        refine wpAnyH_take (i := 8) (v := .slice q (l.length - (k + 1)) (cap - (k + 1))) rfl (by kernel_rfl) (by kernel_rfl) (by kernel_rfl) (fun _ _ _ h => h) (.inl ⟨rfl, fun w' hw' => ?_⟩) (by assumption) ?_
        · (rcases hq8 with ⟨hc8, rfl⟩ | ⟨hc8, rfl⟩ <;> go_simp)
        simp only [Act.put, List.setIfInBounds_toArray, List.set_cons_zero, List.set_cons_succ]
        refine wpAnyH_take (i := 10) (v := .slice (some ⟨b, o, none⟩) l.length cap) rfl (by kernel_rfl) (by kernel_rfl) (by kernel_rfl) (fun _ _ _ h => h) (.inl ⟨rfl, fun w' hw' => ?_⟩) (by assumption) ?_
        · go_simp
        simp only [Act.put, List.setIfInBounds_toArray, List.set_cons_zero, List.set_cons_succ]
        refine wpAnyH_take (i := 11) (v := .int .i64 k) rfl (by kernel_rfl) (by kernel_rfl) (by kernel_rfl) (fun _ _ _ h => h) (.inl ⟨rfl, fun w' hw' => ?_⟩) (by assumption) ?_
        · go_simp
        simp only [Act.put, List.setIfInBounds_toArray, List.set_cons_zero, List.set_cons_succ]
        refine wpAnyH_take (i := 12) (v := .pointer (some ⟨b, o + k * 2, none⟩)) rfl (by kernel_rfl) (by kernel_rfl) (by kernel_rfl) (fun _ _ _ h => h) (.inl ⟨rfl, fun w' hw' => ?_⟩) (by assumption) ?_
        · go_simp
        simp only [Act.put, List.setIfInBounds_toArray, List.set_cons_zero, List.set_cons_succ]
        refine wpAnyH_take (i := 13) (v := .pointer (some ⟨b, o + k * 2 + 1, none⟩)) rfl (by kernel_rfl) (by kernel_rfl) (by kernel_rfl) (fun _ _ _ h => h) (.inl ⟨rfl, fun w' hw' => ?_⟩) (by assumption) ?_
        · go_simp
        simp only [Act.put, List.setIfInBounds_toArray, List.set_cons_zero, List.set_cons_succ]
        refine wpAnyH_take (i := 14) (v := .string xb) rfl (by kernel_rfl) (by kernel_rfl) (by kernel_rfl) (fun _ _ _ h => h) (.inl ⟨rfl, fun w' hw' => ?_⟩) (by assumption) ?_
        · have hc := hw'.2; go_simp
        simp only [Act.put, List.setIfInBounds_toArray, List.set_cons_zero, List.set_cons_succ]
        refine wpAnyH_ready (rs := [0]) (by kernel_rfl) (by simp) (.cons rfl (fun K' hK => ?_) .nil)
        refine step_go rfl ?_
        go_simp
        refine hK.out _ _ (hKS _ (by repeat (first | with_reducible exact Up.refl _ | with_reducible exact hS0.1 | with_reducible exact And.left (by assumption) | assumption | with_reducible refine Up.drew ?_ | with_reducible refine Up.alloc ?_ _))) fun hS1 => ?_
        refine wpAnyH_ready (rs := [4]) (by kernel_rfl) (by simp) (.cons rfl (fun K' hK => ?_) .nil)
        refine step_apps rfl (.tmp 21) (.tmp 24) 85 87 rfl row28 (base := wr.heap.size) (by simp) (v := .slice (some ⟨wr.heap.size, 0, none⟩) 0 0) (n := 0) (xs := []) (by rfl) hmade.out (l := l.take k) (cells := kvV) (vx := .slice (some ⟨b, o, none⟩) k cap) (by rfl) (hA.out.up hS1.1) (fun x hx => rfl) (fun x hx u hu => by simp [kvV] at hu; rcases hu with rfl | rfl <;> rfl) (by unfold maxLen; omega) (by omega) fun v1 wA hoA => ?_
        have hU1 : Up wr wA := hoA.up wr (Nat.le_refl _) hS1.1
        refine hK.out _ _ (hKS _ hU1) fun hS2 => ?_
        simp only [Act.put, List.setIfInBounds_toArray, List.set_cons_zero, List.set_cons_succ]
        refine wpAnyH_ready (rs := [9]) (by kernel_rfl) (by simp) (.cons rfl (fun K' hK => ?_) .nil)
        refine step_apps rfl (.tmp 25) (.tmp 29) 85 87 rfl row28 (base := wr.heap.size) hU1.size (v := v1) (n := _) (xs := _) (by rfl) hoA.own (l := l.drop (k + 1)) (cells := kvV) (vx := .slice q (l.length - (k + 1)) (cap - (k + 1))) (by rfl) (hB.up hU1) (fun x hx => rfl) (fun x hx u hu => by simp [kvV] at hu; rcases hu with rfl | rfl <;> rfl) (by unfold maxLen; omega) (by omega) fun v2 wB hoB => ?_
        have hU2 : Up wr wB := hoB.up wr (Nat.le_refl _) hU1
        refine hK.out _ _ (hKS _ hU2) fun hS3 => ?_
        simp only [Act.put, List.setIfInBounds_toArray, List.set_cons_zero, List.set_cons_succ]
        refine wpAnyH_take (i := 15) (oi := { dst := some 4, op := _, type := _, pos := _, after := _, guard := _ }) (v := v2) rfl (by kernel_rfl) (by kernel_rfl) (by kernel_rfl) (fun _ _ _ h => h) (.inl ⟨rfl, fun w' hw' => ?_⟩) (by assumption) ?_
        · go_simp
        simp only [Act.put, List.setIfInBounds_toArray, List.set_cons_zero, List.set_cons_succ]
        refine wpAnyH_take (i := 16) (oi := { dst := some 5, op := _, type := _, pos := _, after := _, guard := _ }) (v := .string xb) rfl (by kernel_rfl) (by kernel_rfl) (by kernel_rfl) (fun _ _ _ h => h) (.inl ⟨rfl, fun w' hw' => ?_⟩) (by assumption) ?_
        · go_simp
        simp only [Act.put, List.setIfInBounds_toArray, List.set_cons_zero, List.set_cons_succ]
        refine wpAnyH_take (i := 17) (oi := { dst := some 6, op := _, type := _, pos := _, after := _, guard := _ }) (v := .bool true) rfl (by kernel_rfl) (by kernel_rfl) (by kernel_rfl) (fun _ _ _ h => h) (.inl ⟨rfl, fun w' hw' => ?_⟩) (by assumption) ?_
        · go_simp
        simp only [Act.put, List.setIfInBounds_toArray, List.set_cons_zero, List.set_cons_succ]
        refine wpAnyH_done (by kernel_rfl) ?_ _
        go_wp2_with fail
        refine bodyPost_ret (v := .tuple #[v2, .string xb, .bool true]) (by simp [results, Try.results57, go_sem]) rfl ?_
        refine .inl ⟨k, xa, xb, HX.out, HE.out, fun a b h => hs.out (a, b) h, v2, rfl, ?_, hup.trans hU2⟩
        have h1 := hoB.own
        rw [Nat.zero_add, List.nil_append] at h1
        have h2 := own_lower hup.size h1
        rw [List.length_take, List.length_drop] at h2
        exact h2
      · have d1 : (xa.toList == z.toList) = false := by rw [bl_eq]; simpa using heq
        have HS := Lib.hid (show ∀ y ∈ l.take (k + 1), y.1 ≠ z from fun y hy => by
          rw [ht] at hy
          rcases List.mem_append.1 hy with h | h
          · exact hs.out y h
          · simp at h; subst h; exact heq)
        clear hx heq ht hs
        go_wp2_with fail
        go_roundw
        case rel => exact ⟨k + 1, by omega, by go_num, HS, hup⟩
        case measure => simp [intOf]; omega
    · have HA := Lib.hid (show ∀ y ∈ l, y.1 ≠ z from fun y hy => hs.out y (by rw [List.take_of_length_le (by omega)]; exact hy))
      clear hs hrow
      go_wp2_with fail
      refine bodyPost_ret (v := .tuple #[.slice p l.length cap, .string ⟨#[]⟩, .bool false]) (by simp [results, Try.results57, go_sem]) rfl ?_
      exact .inr ⟨HA.out, rfl, hup⟩
end Go.Proofs.Ytpnlhnhjedopgaa
