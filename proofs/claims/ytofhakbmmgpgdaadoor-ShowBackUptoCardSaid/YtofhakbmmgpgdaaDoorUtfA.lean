/- utf.Name: which texts are names. -/
import Derived.Lib.OthersKept
import Derived.WalkKit
import Derived.Test.YtofhakbmmgpgdaaDoorGg
import Derived.Test.YtofhakbmmgpgdaaDoorLaw
import Derived.Test.YtofhakbmmgpgdaaDoorStr
set_option maxRecDepth 100000
set_option linter.unusedSimpArgs false
namespace Go.Proofs.YtofhakbmmgpgdaaDoor
open Go Go.RowKit Go.Proofs

def letR (c : Int) : Bool := (decide (c ≥ 97) && decide (c ≤ 122)) || (decide (c ≥ 65) && decide (c ≤ 90))
theorem uletter_ok (c : Int) (G : Glob) : CallOk Tryd.prog TT 125 [.int .i32 c] G (fun v G' => v = .bool (letR c) ∧ G' = G) := by
  unfold letR
  cases h1 : decide (c ≥ 97) <;> cases h2 : decide (c ≤ 122) <;> cases h3 : decide (c ≥ 65) <;> cases h4 : decide (c ≤ 90)
  all_goals
    refine call_sem tt_ok Tryd.func125 rfl (by kernel_rfl) Tryd.ntmps125 Tryd.results125 ?_; conv => whnf
    repeat' (first | ((first | refine Sem.reg tt_ok ?_ | refine Sem.condS ?_ | refine Sem.regL tt_ok ?_ | refine Sem.skip tt_ok ?_ | refine Sem.exit tt_ok ?_ | refine Sem.ret tt_ok ?_ | refine BS_t (by assumption) ?_ | refine BS_f (by assumption) ?_ | refine atG (by repeat (first | assumption | exact setG_same _ _ _ | refine Eq.trans (setG_ne _ _ (by first | assumption | exact Ne.symm (by assumption))) ?_)) ?_ | refine (nthK_iff _ _).2 ⟨_, (by assumption), ?_⟩ | refine ⟨_, ⟨(by omega), (by assumption)⟩, ?_⟩ | refine And.intro (by first | decide | omega) ?_ | fail); conv => whnf) | refine Sem.seqS ?_ | refine Sem.block ?_ | fail)
    exact ⟨_, fun _ _ h => h, congrArg AV.bool (by first | rfl | (rw [h4]; rfl)), rfl⟩
theorem gives_of {P : Program} {T : TypeId → TR} {f : FuncId} {args : List AV} {b : Bool} (h : CallOk P T f args (fun _ => none) fun v G' => v = .bool b ∧ G' = fun _ => none) {us : Array Value} {w : World} (hl : us.size = args.length)
    (hd : ∀ (i : Nat) (a : AV) (u : Value), args[i]? = some a → us[i]? = some u → Dz T gh0 w a u) : Calls P f us w (Gives w (.bool b)) := by
  refine (h.calls gh0 us w (fun b bx hb => by cases hb) hl hd).mono fun e w' he => ?_
  obtain ⟨u, g', G', v, rfl, ⟨rfl, _⟩, _, hx, hz⟩ := he
  cases hz
  exact ⟨rfl, hx.up fun _ => trivial⟩
theorem uletter_any (c : Int) (w : World) : Calls Tryd.prog 125 #[.int .i32 c] w (Gives w (.bool (letR c))) :=
  gives_of (uletter_ok c _) rfl fun i a u ha hu => by
    match i with
    | 0 => simp at ha hu; subst ha hu; exact .int _ _
    | i + 1 => simp at ha
/-- a name -/
def nmB (s : List UInt8) : Bool := decide (s ≠ []) && decide (s.length ≤ 16) && (s.take 1).all isLet && s.all isIn
/-- what stands there may stand in a name -/
def inI (pos : Nat) (c : Int) : Bool := letR c || (!decide (pos = 0) && ((c == 95) || (decide (c ≥ 48) && decide (c ≤ 57))))
theorem u8_at (s : ByteArray) (pos : Nat) (h : pos < s.size) : s.data.toList[pos]? = some (s[pos]'h) := by
  have : pos < s.data.size := h
  simp only [Array.getElem?_toList]
  exact Array.getElem?_eq_getElem this
/-- names as far as a place -/
def Upto (s : ByteArray) (pos : Nat) : Prop := ∀ j c, j < pos → s.data.toList[j]? = some c → isIn c = true ∧ (j = 0 → isLet c = true)
theorem upto_no {s : ByteArray} {pos : Nat} {c : UInt8} (hc : s.data.toList[pos]? = some c) (h : ¬ (isIn c = true ∧ (pos = 0 → isLet c = true))) : nmB s.data.toList = false := by
  cases hb : nmB s.data.toList with
  | false => rfl
  | true =>
    exfalso
    simp only [nmB, Bool.and_eq_true, decide_eq_true_eq, List.all_eq_true] at hb
    obtain ⟨⟨⟨h1, h2⟩, h3⟩, h4⟩ := hb
    refine h ⟨h4 c (List.mem_of_getElem? hc), fun h0 => h3 c ?_⟩
    subst h0
    cases hl : s.data.toList with
    | nil => rw [hl] at hc; cases hc
    | cons x r => rw [hl] at hc; cases hc; simp
theorem upto_end {s : ByteArray} (h : Upto s s.size) : nmB s.data.toList = (decide (s ≠ .empty) && decide (s.size ≤ 16)) := by
  have hl : s.data.toList.length = s.size := by simp
  have h4 : s.data.toList.all isIn = true := List.all_eq_true.2 fun c hc => by
    obtain ⟨i, hi⟩ := List.getElem?_of_mem hc
    exact (h i c (by rw [← hl]; exact (List.getElem?_eq_some_iff.1 hi).1) hi).1
  have h3 : (s.data.toList.take 1).all isLet = true := List.all_eq_true.2 fun c hc => by
    cases hl2 : s.data.toList with
    | nil => rw [hl2] at hc; simp at hc
    | cons x r =>
      rw [hl2] at hc
      simp at hc
      subst hc
      exact (h 0 c (by rw [← hl, hl2]; simp) (by rw [hl2]; rfl)).2 rfl
  unfold nmB
  rw [h3, h4, hl]
  have : (s.data.toList ≠ []) ↔ (s ≠ .empty) := by
    constructor
    · rintro h1 rfl; exact h1 rfl
    · intro h1 h2; exact h1 (ByteArray.ext (Array.toList_eq_nil_iff.1 h2))
  simp [this]
set_option maxHeartbeats 4000000 in
theorem uname_any (s : ByteArray) (w : World) (hs : s.size ≤ 140737488355328) : Calls Tryd.prog 106 #[.string s] w (Gives w (.bool (nmB s.data.toList))) := by
  go_enter Tryd.func106, Tryd.ntmps106
  go_wp2
  go_loopw [] (fun wr => ∃ pos : Nat, pos ≤ s.size ∧ Upto s pos ∧ wr.heap[w.heap.size]? = some (.stringIter s pos) ∧ Below w.heap.size w wr) (fun wr => s.size - wr.iterPos w.heap.size)
  case atStart =>
    refine ⟨0, Nat.zero_le _, fun j c h => by omega, ?_, (Below.refl _ w).alloc (Nat.le_refl _) _⟩
    have := World.iter_heap w s 0
    simpa using this
  case round =>
    obtain ⟨pos, hpos, hup, hit, hbw⟩ := hrel
    have hsz : w.heap.size < wr.heap.size := (Array.getElem?_eq_some_iff.1 hit).1
    by_cases hp : pos < s.size
    · have hnx : ∀ ty, (Instr.next (.pointer (some ⟨w.heap.size, 0, none⟩)) true ty).run Tryd.prog wr = _ := fun ty => Lib.run_next_any_at wr w.heap.size s pos ty hit hp
      have hbw2 := Lib.below_iterAt hbw (k := w.heap.size) (Nat.le_refl _) s (pos + (Utf8.decode s pos).2)
      have hit2 := Lib.iterAt_heap wr w.heap.size s pos (pos + (Utf8.decode s pos).2) hit
      have hsz2 : (wr.iterAt w.heap.size s (pos + (Utf8.decode s pos).2)).heap.size = wr.heap.size := Lib.iterAt_size _ _ _ _
      have hc := u8_at s pos hp
      have hasc : (s[pos]'hp).toNat < 128 → Utf8.decode s pos = ((s[pos]'hp).toNat, 1) := fun ha => decode_ascii s pos hp ha
      have hhi : ¬ (s[pos]'hp).toNat < 128 → 128 ≤ (Utf8.decode s pos).1 := fun ha => (decode_high s pos hp (by omega)).1
      generalize s[pos]'hp = c at hc hasc hhi
      generalize Utf8.decode s pos = d at *
      obtain ⟨r, n⟩ := d
      simp only at *
      -- where it goes on
      have next_ : isIn c = true ∧ (pos = 0 → isLet c = true) → n = 1 → pos + n ≤ s.size ∧ Upto s (pos + n) := fun h hn => by
        subst hn
        refine ⟨by omega, fun j c' hj hc' => ?_⟩
        by_cases hjp : j = pos
        · subst hjp; rw [hc] at hc'; cases hc'; exact h
        · exact hup j c' (by omega) hc'
      have stop_ : ¬ (isIn c = true ∧ (pos = 0 → isLet c = true)) → nmB s.data.toList = false := upto_no hc
      have keep : ∀ w1, Up (wr.iterAt w.heap.size s (pos + n)) w1 → w1.heap[w.heap.size]? = some (.stringIter s (pos + n)) ∧ Below w.heap.size w w1 := fun w1 hu => ⟨by rw [hu.block (by omega)]; exact hit2, hbw2.trans (hu.below.mono (by omega))⟩
      by_cases hl : letR (r : Int) = true
      · have hr : (97 ≤ r ∧ r ≤ 122) ∨ (65 ≤ r ∧ r ≤ 90) := by unfold letR at hl; simp at hl; omega
        have ha : c.toNat < 128 := Classical.byContradiction fun h => by have := hhi h; omega
        have hd := hasc ha
        simp only [Prod.mk.injEq] at hd
        obtain ⟨rfl, rfl⟩ := hd
        have hlc : isLet c = true := by unfold isLet; simp only [decide_eq_true_eq]; omega
        obtain ⟨n1, n2⟩ := next_ ⟨isLet_in hlc, fun _ => hlc⟩ rfl
        have hH := Lib.hid keep
        clear keep stop_ next_ hasc hhi hc hup hbw2 hbw
        go_wp2_with (go_at_call 125; refine (uletter_any _ _).mono ?_; rintro e w1 ⟨rfl, hu⟩; rw [hl])
        go_roundw
        case rel => exact ⟨pos + 1, n1, n2, (hH w1 hu).1, (hH w1 hu).2⟩
        case measure =>
          simp only [World.iterPos, (hH w1 hu).1, hit]
          omega
      have hl' : letR (r : Int) = false := by simpa using hl
      have hnl : ¬ ((97 ≤ r ∧ r ≤ 122) ∨ (65 ≤ r ∧ r ≤ 90)) := fun h => hl (by unfold letR; simp; omega)
      have hcr : c.toNat < 128 → r = c.toNat := fun ha => (Prod.mk.inj (hasc ha)).1
      have hnlc : isLet c = false := by
        unfold isLet
        rw [decide_eq_false_iff_not]
        intro h
        have := hcr (by omega)
        omega
      have hge : c.toNat < 128 ∨ 128 ≤ r := by
        by_cases h : c.toNat < 128
        · exact .inl h
        · exact .inr (hhi h)
      by_cases hp0 : pos = 0
      · have c0 : (((pos : Nat) : Int) == 0) = true := by simp [hp0]
        have hf := stop_ (fun h => by rw [hnlc] at h; exact absurd (h.2 hp0) (by decide))
        have hH := Lib.hid keep
        clear hp0 keep stop_ next_ hasc hhi hc hup hbw2 hbw
        go_wp2_with (go_at_call 125; refine (uletter_any _ _).mono ?_; rintro e w1 ⟨rfl, hu⟩; rw [hl'])
        go_ret
        rw [hf]
        exact ⟨rfl, (hH w1 hu).2⟩
      have c0 : (((pos : Nat) : Int) == 0) = false := by simp; omega
      by_cases h95 : r = 95
      · have c1 : (((r : Nat) : Int) == 95) = true := by simp; omega
        have c1' : (((r : Nat) : Int) != 95) = false := by simp; omega
        have ha : c.toNat < 128 := by omega
        have hd := hasc ha
        simp only [Prod.mk.injEq] at hd
        obtain ⟨rfl, rfl⟩ := hd
        obtain ⟨n1, n2⟩ := next_ ⟨by unfold isIn; simp only [decide_eq_true_eq]; omega, fun h => absurd h hp0⟩ rfl
        have hH := Lib.hid keep
        clear h95 keep stop_ next_ hasc hhi hc hup hbw2 hbw
        go_wp2_with (go_at_call 125; refine (uletter_any _ _).mono ?_; rintro e w1 ⟨rfl, hu⟩; rw [hl'])
        go_roundw
        case rel => exact ⟨pos + 1, n1, n2, (hH w1 hu).1, (hH w1 hu).2⟩
        case measure =>
          simp only [World.iterPos, (hH w1 hu).1, hit]
          omega
      have c1 : (((r : Nat) : Int) == 95) = false := by simp; omega
      have c1' : (((r : Nat) : Int) != 95) = true := by simp; omega
      by_cases h48 : r < 48
      · have c2 : decide (((r : Nat) : Int) < 48) = true := by simp; omega
        have hf := stop_ (fun h => by have h1 := h.1; unfold isIn at h1; simp only [decide_eq_true_eq] at h1; have := hcr (by omega); omega)
        have hH := Lib.hid keep
        clear keep stop_ next_ hasc hhi hc hup hbw2 hbw
        go_wp2_with (go_at_call 125; refine (uletter_any _ _).mono ?_; rintro e w1 ⟨rfl, hu⟩; rw [hl'])
        go_ret
        rw [hf]
        exact ⟨rfl, (hH w1 hu).2⟩
      have c2 : decide (((r : Nat) : Int) < 48) = false := by simp; omega
      by_cases h57 : 57 < r
      · have c3 : decide (((r : Nat) : Int) > 57) = true := by simp; omega
        have hf := stop_ (fun h => by have h1 := h.1; unfold isIn at h1; simp only [decide_eq_true_eq] at h1; have := hcr (by omega); omega)
        have hH := Lib.hid keep
        clear keep stop_ next_ hasc hhi hc hup hbw2 hbw
        go_wp2_with (go_at_call 125; refine (uletter_any _ _).mono ?_; rintro e w1 ⟨rfl, hu⟩; rw [hl'])
        go_ret
        rw [hf]
        exact ⟨rfl, (hH w1 hu).2⟩
      · have c3 : decide (((r : Nat) : Int) > 57) = false := by simp; omega
        have ha : c.toNat < 128 := by omega
        have hd := hasc ha
        simp only [Prod.mk.injEq] at hd
        obtain ⟨rfl, rfl⟩ := hd
        obtain ⟨n1, n2⟩ := next_ ⟨by unfold isIn; simp only [decide_eq_true_eq]; omega, fun h => absurd h hp0⟩ rfl
        have hH := Lib.hid keep
        clear keep stop_ next_ hasc hhi hc hup hbw2 hbw
        go_wp2_with (go_at_call 125; refine (uletter_any _ _).mono ?_; rintro e w1 ⟨rfl, hu⟩; rw [hl'])
        go_roundw
        case rel => exact ⟨pos + 1, n1, n2, (hH w1 hu).1, (hH w1 hu).2⟩
        case measure =>
          simp only [World.iterPos, (hH w1 hu).1, hit]
          omega
    · have hnx : ∀ ty, (Instr.next (.pointer (some ⟨w.heap.size, 0, none⟩)) true ty).run Tryd.prog wr = _ := fun ty => Lib.run_next_end_at wr w.heap.size s pos ty hit hp
      have hpe : pos = s.size := by omega
      subst hpe
      have hfin := Lib.hid (upto_end hup)
      clear hup
      by_cases he : s = .empty
      · subst he
        go_wp2
        go_ret
        exact ⟨rfl, hbw⟩
      · have e0 : (decide (s ≠ .empty)) = true := by simp [he]
        have e2 : (s.toList == (ByteArray.mk #[]).toList) = false := str_ne he
        have e3 : (s.toList == ([] : List UInt8)) = false := by rw [← e2, toList_empty (x := ⟨#[]⟩) rfl]
        have e4 : s.toList ≠ [] := by simpa using e3
        by_cases h16 : s.size ≤ 16
        · have e1 : decide (((s.size : Nat) : Int) ≤ 16) = true := by simp; omega
          go_wp2
          go_ret
          have hfin := hfin
          rw [hfin, e0, decide_eq_true h16]
          exact ⟨rfl, hbw⟩
        · have e1 : decide (((s.size : Nat) : Int) ≤ 16) = false := by simp; omega
          go_wp2
          go_ret
          have hfin := hfin
          rw [hfin, e0, decide_eq_false h16]
          exact ⟨rfl, hbw⟩
end Go.Proofs.YtofhakbmmgpgdaaDoor
