/- The walk of key.Split: of which fields bytes are made. -/
import Derived.Test.YtpldfoclogkppaaKeyP
import Derived.Test.YtpldfoclogkppaaTwo
import Derived.IntWalk
import Derived.Deep.RegionHeld3
import Derived.Deep.AppendLies
import Derived.Outline
namespace Go.Proofs.Ytpldfoclogkppaa
open Go Go.RowKit

def fieldsL (b : ByteArray) : List Fld := if (splitT b).1 = 0 then (splitT b).2 else []
def tagsV (l : List Fld) : List Value := l.map fun f => .int .i64 (f.tag : Nat)
def wiresV (l : List Fld) : List Value := l.map fun f => .int .i64 (f.wire : Nat)
def textsV (l : List Fld) : List Value := l.map fun f => .string f.text
theorem tagsV_snoc (l : List Fld) (f : Fld) : tagsV l ++ [.int .i64 (f.tag : Nat)] = tagsV (l ++ [f]) := by simp [tagsV]
theorem wiresV_snoc (l : List Fld) (f : Fld) : wiresV l ++ [.int .i64 (f.wire : Nat)] = wiresV (l ++ [f]) := by simp [wiresV]
theorem textsV_snoc (l : List Fld) (f : Fld) : textsV l ++ [.string f.text] = textsV (l ++ [f]) := by simp [textsV]
theorem rowInt : Row1 Try.prog 68 3 (.int .i64 0) 1 8 := ⟨by kernel_rfl, by kernel_rfl, rfl, by decide⟩
theorem rowStr : Row1 Try.prog 69 9 (.string ⟨#[]⟩) 1 16 := ⟨by kernel_rfl, by kernel_rfl, rfl, by decide⟩
/-- what a split hands back -/
def SplitOut (w : World) (b : ByteArray) (e : Ending) (w' : World) : Prop :=
  ∃ v1 v2, e = .returned (.tuple #[v1, v2, .int .i64 (splitT b).1]) ∧ w'.ownsRow w.heap.size 3 1 v1 (fieldsL b).length (tagsV (fieldsL b)) ∧ w'.ownsRow w.heap.size 9 1 v2 (fieldsL b).length (textsV (fieldsL b)) ∧ Up w w'
theorem splitOut_bad {w : World} {b : ByteArray} {e : Int} (h : (splitT b).1 = e) (he : e ≠ 0) : ∀ w', Up w w' → SplitOut w b (.returned (.tuple #[.slice none 0 0, .slice none 0 0, .int .i64 e])) w' := by
  intro w' hu
  have hf : fieldsL b = [] := by unfold fieldsL; rw [h, if_neg he]
  refine ⟨_, _, by rw [h], ?_, ?_, hu⟩
  · rw [hf]; exact World.ownsRow_nil _ _ _ _
  · rw [hf]; exact World.ownsRow_nil _ _ _ _
theorem splitOut_ok {w w' : World} {b cur : ByteArray} {last : Nat} {acc : List Fld} {v1 v2 : Value} (h : SplitAt b cur last acc) (h0 : cur.size = 0) (h1 : w'.ownsRow w.heap.size 3 1 v1 acc.length (tagsV acc))
    (h2 : w'.ownsRow w.heap.size 9 1 v2 acc.length (textsV acc)) (hu : Up w w') : SplitOut w b (.returned (.tuple #[v1, v2, .int .i64 0])) w' := by
  have h3 := splitAt_end h h0
  have hf : fieldsL b = acc := by unfold fieldsL; rw [h3, if_pos rfl]
  exact ⟨_, _, by rw [h3], by rw [hf]; exact h1, by rw [hf]; exact h2, hu⟩
theorem run_strfrom' {P : Program} {t : TypeId} (ht : P.underlying t = some .string) (b : ByteArray) (lo : Int) (h0 : 0 ≤ lo) (h1 : lo ≤ b.size) (w : World) :
    (Instr.slice t (.string b) (some (.int .i64 lo)) none none).run P w = .ok (.string (tailB b lo.toNat)) w := by
  have e1 : lo.toNat ≤ b.size := by omega
  simp [Instr.slice, Instr.sliceBounds, Instr.sliceBound, run_underlying ht, asIntOf, h0, Sem.run_bind, Sem.run_pure, tailB]
  omega
theorem not_empty {b : ByteArray} (h : b.size ≠ 0) : b.toList.isEmpty = false ∧ ((!b.toList.isEmpty) = true) := by
  have : b.toList ≠ [] := by
    intro h2
    have h3 := S_toList b.data.toList
    rw [S_of] at h3
    rw [h2] at h3
    have : b.data.toList.length = 0 := by rw [← h3]; rfl
    exact h (by simpa using this)
  have h4 : b.toList.isEmpty = false := by simpa using this
  exact ⟨h4, by rw [h4]; rfl⟩

set_option maxHeartbeats 1600000 in
set_option maxRecDepth 100000 in
theorem keysplit_any (b : ByteArray) (w : World) (hb : b.size ≤ maxLen) : Calls Try.prog 72 #[.string b] w (SplitOut w b) := by
  have hb' : b.size ≤ 9223372036854775807 := hb
  go_enter Try.func72, Try.ntmps72
  go_wp2_with fail
  go_loopw [0, 5, 6, 7] (fun s o1 o2 la wr => ∃ (cur : ByteArray) (last : Nat) (acc : List Fld), s = .string cur ∧ la = .int .i64 last ∧ SplitAt b cur last acc ∧
      wr.ownsRow w.heap.size 3 1 o1 acc.length (tagsV acc) ∧ wr.ownsRow w.heap.size 9 1 o2 acc.length (textsV acc) ∧ Up w wr) (fun s _ _ _ _ => match s with | .string x => x.size | _ => 0)
  case atStart => exact ⟨b, 0, [], rfl, rfl, splitAt_start b, World.ownsRow_nil _ _ _ _, World.ownsRow_nil _ _ _ _, Up.refl _⟩
  case round =>
    obtain ⟨cur, last, acc, rfl, rfl, hA, hown1, hown2, hup⟩ := hrel
    have hlen := hA.len
    have hlast := hA.tag
    have hfew := hA.few
    by_cases h0 : cur.size = 0
    · have hz : cur.toList = [] := by
        have h3 := S_toList cur.data.toList
        rw [S_of] at h3
        rw [h3]; exact List.eq_nil_of_length_eq_zero (by simpa using h0)
      have HO := Lib.hid (splitOut_ok hA h0 hown1 hown2 hup)
      clear hown1 hown2 hA
      go_wp2_with fail
      go_ret3
      exact HO.out
    · obtain ⟨z1, z2⟩ := not_empty h0
      have hcs : cur.size ≤ maxLen := by unfold maxLen; omega
      have hd := kTakeT_lim cur
      obtain ⟨⟨tag, wire, k, e⟩, hr⟩ : ∃ r, kTakeT cur = r := ⟨_, rfl⟩
      rw [hr] at hd
      obtain ⟨q0, q1, q2, q3, q4, q5⟩ := hd
      simp only at q0 q1 q2 q3 q4 q5
      have HR := Lib.hid hr
      by_cases he : e = 0
      · subst he
        obtain ⟨q6, q7⟩ := q5 rfl
        by_cases ht : tag ≤ last
        · have HO := Lib.hid (splitOut_bad (w := w) (splitAt_bad hA h0 (fieldT_tag hr ht) (by decide)) (by decide))
          clear hown1 hown2 hA hr
          go_wp2_with fail
          refine (keytake_any _ _ hcs).mono ?_
          rintro x w1 ⟨rfl, hu1⟩
          rw [HR.out]
          unfold keyV
          go_wp2_with fail
          go_ret3
          exact HO.out _ (hup.trans hu1)
        · have hd2 := kSkipT_bd (tailB cur k) wire
          obtain ⟨⟨n, e⟩, hs⟩ : ∃ r, kSkipT (tailB cur k) wire = r := ⟨_, rfl⟩
          rw [hs, tailB_size] at hd2
          obtain ⟨p0, p1, p2⟩ := hd2
          simp only at p0 p1 p2
          have HS := Lib.hid hs
          have hts : (tailB cur k).size ≤ maxLen := by rw [tailB_size]; unfold maxLen; omega
          have hsl := fun w => run_strfrom' (P := Try.prog) Try.underlying9 cur k (by omega) (by omega) w
          simp only [Int.toNat_natCast] at hsl
          by_cases he : e = 0
          · subst he
            have HN := Lib.hid (splitAt_next hA hr ht hs)
            have hsl2 := fun w => run_strslice (P := Try.prog) Try.underlying9 cur k (k + n) (by omega) (by omega) (by omega) w
            have hsl3 := fun w => run_strfrom' (P := Try.prog) Try.underlying9 cur (k + n) (by omega) (by omega) w
            rw [show ((k : Int) + n).toNat = k + n from by omega] at hsl2 hsl3
            simp only [Int.toNat_natCast] at hsl2
            clear hA hr hs
            go_wp2_with fail
            refine (keytake_any _ _ hcs).mono ?_
            rintro x w1 ⟨rfl, hu1⟩
            rw [HR.out]
            unfold keyV
            go_wp2_with fail
            refine (skip_any _ _ _ hts).mono ?_
            rintro x w2 ⟨rfl, hu2⟩
            rw [HS.out]
            unfold skipV
            go_wp2_with fail
            have hz : w.heap.size ≤ w2.heap.size := ((hup.trans hu1).trans hu2).size
            have H1 := Lib.hid (own_up (own_up hown1 hu1) hu2)
            have H2 := Lib.hid (own_up (own_up hown2 hu1) hu2)
            have hwr : IntKind.i64.wrap ((k : Int) + n) = (k : Int) + n := IntWalk.i64_in _ (by omega)
            have k0 : (0 : Int) ≤ (k : Int) := by omega
            have k1 : (k : Int) ≤ (k : Int) + n := by omega
            have k2 : (k : Int) + n ≤ cur.size := by omega
            have HU := Lib.hid ((hup.trans hu1).trans hu2)
            have HB1 := Lib.hid (fun (g : Nat) h => (H1.out.lt g h).2)
            have HB2 := Lib.hid (fun (g : Nat) h => (H2.out.lt g h).2)
            clear hown1 hown2 hup hu1 hu2
            go_region_held3 (fun w' => True) (trivial) (first | (refine step_app rfl (.tmp 39) (.tmp 41) 68 3 rfl rowInt (base := w.heap.size) ?_ (v := u5) (n := acc.length) (xs := tagsV acc) (by rfl) ?_ _ #[.int .i64 (tag : Nat)] (by rfl) rfl (T := 3) ?_ ?_ ?_ ?_ ?_; (focus first | (simp; omega) | (have q := AppOut.size (by assumption); (try simp at q); (try simp); omega)); (focus repeat (first | with_reducible exact H1.out | with_reducible refine own_drew ?_ | with_reducible refine World.ownsRow.alloc ?_ _ | ((with_reducible refine AppOut.rows (by assumption) _ _ _ _ _ _ ?_ ?_); (focus decide)))); (focus repeat (first | ((with_reducible refine blk_new' ?_); (simp)) | with_reducible refine blk_new' rfl | with_reducible refine blk_drew ?_ | with_reducible refine blk_alloc ?_ | ((with_reducible refine AppOut.blocks (by assumption) _ _ ?_ ?_); rotate_left; (focus (intro h; have := HB2.out _ h.symm; first | omega | (simp at this; omega)))))); (focus first | (simp [Value.oneCell']; done) | (trace_state; fail)); (focus unfold maxLen; omega); (focus omega); intro v1 wA hoA) | (refine step_app rfl (.tmp 43) (.tmp 50) 69 9 rfl rowStr (base := w.heap.size) ?_ (v := u6) (n := acc.length) (xs := textsV acc) (by rfl) ?_ _ #[.string (cur.extract k (k + n))] (by rfl) rfl (T := 9) ?_ ?_ ?_ ?_ ?_; (focus first | (simp; omega) | (have q := AppOut.size (by assumption); (try simp at q); (try simp); omega)); (focus repeat (first | with_reducible exact H2.out | with_reducible refine own_drew ?_ | with_reducible refine World.ownsRow.alloc ?_ _ | ((with_reducible refine AppOut.rows (by assumption) _ _ _ _ _ _ ?_ ?_); (focus decide)))); (focus repeat (first | ((with_reducible refine blk_new' ?_); (simp)) | with_reducible refine blk_new' rfl | with_reducible refine blk_drew ?_ | with_reducible refine blk_alloc ?_ | ((with_reducible refine AppOut.blocks (by assumption) _ _ ?_ ?_); rotate_left; (focus (intro h; have := HB1.out _ h.symm; first | omega | (simp at this; omega)))))); (focus first | (simp [Value.oneCell']; done) | (trace_state; fail)); (focus unfold maxLen; omega); (focus omega); intro v2 wB hoB))
            all_goals
              have hl1 : (acc ++ [(⟨tag, wire, cur.extract k (k + n)⟩ : Fld)]).length = acc.length + 1 := by simp
              have HO1 : Hid (wB.ownsRow w.heap.size 3 1 v1 (acc ++ [(⟨tag, wire, cur.extract k (k + n)⟩ : Fld)]).length (tagsV (acc ++ [⟨tag, wire, cur.extract k (k + n)⟩]))) := by
                unfold Hid
                rw [hl1, ← tagsV_snoc]
                exact hoB.rows w.heap.size 3 1 v1 (acc.length + 1) _ (by decide) (by repeat (first | with_reducible exact hoA.own | with_reducible refine own_drew ?_ | with_reducible refine World.ownsRow.alloc ?_ _))
              have HO2 : Hid (wB.ownsRow w.heap.size 9 1 v2 (acc ++ [(⟨tag, wire, cur.extract k (k + n)⟩ : Fld)]).length (textsV (acc ++ [⟨tag, wire, cur.extract k (k + n)⟩]))) := by
                unfold Hid
                rw [hl1, ← textsV_snoc]
                exact hoB.own
              have hupB : Up w wB := hoB.up w (Nat.le_refl _) (by repeat (first | with_reducible exact HU.out | with_reducible refine Up.drew ?_ | with_reducible refine Up.alloc ?_ _ | with_reducible refine hoA.up w (Nat.le_refl _) ?_))
              clear hoA hoB hl1
              go_wp2_with fail
              go_roundw
              case rel => exact ⟨_, tag, _, rfl, rfl, HN.out, HO1.out, HO2.out, hupB⟩
              case measure =>
                show (tailB cur (k + n)).size < cur.size
                rw [tailB_size]; omega
          · have HO := Lib.hid (splitOut_bad (w := w) (splitAt_bad hA h0 (fieldT_skip hr ht hs he) he) he)
            have d1 : (e != 0) = true := by rw [bne_iff_ne]; exact he
            clear hown1 hown2 hA hr he hs
            go_wp2_with fail
            refine (keytake_any _ _ hcs).mono ?_
            rintro x w1 ⟨rfl, hu1⟩
            rw [HR.out]
            unfold keyV
            go_wp2_with fail
            refine (skip_any _ _ _ hts).mono ?_
            rintro x w2 ⟨rfl, hu2⟩
            rw [HS.out]
            unfold skipV
            go_wp2_with fail
            go_ret3
            exact HO.out _ ((hup.trans hu1).trans hu2)
      · have HO := Lib.hid (splitOut_bad (w := w) (splitAt_bad hA h0 (fieldT_take hr he) he) he)
        have d1 : (e != 0) = true := by rw [bne_iff_ne]; exact he
        clear hown1 hown2 hA hr he q5
        go_wp2_with fail
        refine (keytake_any _ _ hcs).mono ?_
        rintro x w1 ⟨rfl, hu1⟩
        rw [HR.out]
        unfold keyV
        go_wp2_with fail
        go_ret3
        exact HO.out _ (hup.trans hu1)
end Go.Proofs.Ytpldfoclogkppaa
