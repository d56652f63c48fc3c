/- The document's layer 29, Find and Free. -/
import Derived.Test.YtpnlhnhjedopgaaGf
import Derived.Test.YtpnlhnhjedopgaaLeaP
import Derived.Test.YtpnlhnhjedopgaaFrame
set_option maxRecDepth 100000
set_option linter.unusedSimpArgs false
namespace Go.Proofs.Ytpnlhnhjedopgaa
open Go Go.RowKit Go.Proofs

def leR (x : ByteArray × (ByteArray × Int)) : List AV := [.str x.1, .str x.2.1, .int .i64 x.2.2]
def leV (x : ByteArray × (ByteArray × Int)) : List Value := [.string x.1, .string x.2.1, .int .i64 x.2.2]
/-- the place of a name -/
def findN : LeL → ByteArray → Option Nat
  | [], _ => none
  | x :: r, z => if x.1 = z then some 0 else (findN r z).map (· + 1)
def findI (r : LeL) (z : ByteArray) : Int := match findN r z with | some k => (k : Int) | none => -1
theorem findN_none : ∀ {l : LeL} {z : ByteArray}, (∀ y ∈ l, y.1 ≠ z) → findN l z = none
  | [], _, _ => rfl
  | x :: r, z, h => by
    have h1 := h x (by simp)
    have h2 := findN_none (l := r) (z := z) fun y hy => h y (List.mem_cons_of_mem _ hy)
    simp [findN, h1, h2]
theorem findN_some : ∀ {l : LeL} {z : ByteArray} {i : Nat} {x : ByteArray × (ByteArray × Int)}, l[i]? = some x → x.1 = z → (∀ y ∈ l.take i, y.1 ≠ z) → findN l z = some i
  | [], _, _, _, h, _, _ => by simp at h
  | y :: r, z, 0, x, h, hz, _ => by
    simp only [List.getElem?_cons_zero, Option.some.injEq] at h
    subst h
    simp [findN, hz]
  | y :: r, z, i + 1, x, h, hz, hn => by
    have h1 := hn y (by simp)
    have h2 := findN_some (l := r) (i := i) (x := x) (by simpa using h) hz fun u hu => hn u (by simp [hu])
    simp [findN, h1, h2]
theorem findN_is : ∀ {l : LeL} {z : ByteArray} {i : Nat}, findN l z = some i → ∃ v, l[i]? = some (z, v) ∧ lget l z = some v ∧ ∀ y ∈ l.take i, y.1 ≠ z
  | [], _, _, h => by cases h
  | (a, v) :: r, z, i, h => by
    unfold findN at h
    by_cases hz : a = z
    · subst hz
      simp only [if_true, Option.some.injEq] at h
      subst h
      exact ⟨v, rfl, by simp [lget], by simp⟩
    · rw [if_neg hz] at h
      obtain ⟨j, hj, rfl⟩ := Option.map_eq_some_iff.1 h
      obtain ⟨w, h1, h2, h3⟩ := findN_is hj
      have hz' : ¬ z = a := fun e => hz e.symm
      refine ⟨w, by simpa using h1, by rw [← h2]; simp only [lget, hz', decide_false], fun y hy => ?_⟩
      simp only [List.take_succ_cons, List.mem_cons] at hy
      rcases hy with rfl | hy
      · exact hz
      · exact h3 y hy
theorem findN_not : ∀ {l : LeL} {z : ByteArray}, findN l z = none → lget l z = none
  | [], _, _ => rfl
  | (a, v) :: r, z, h => by
    unfold findN at h
    by_cases hz : a = z
    · subst hz; simp at h
    · rw [if_neg hz] at h
      have := findN_not (Option.map_eq_none_iff.1 h)
      have hz' : ¬ z = a := fun e => hz e.symm
      simp only [lget, hz', decide_false, this]
theorem findI_neg (r : LeL) (z : ByteArray) : (findI r z < 0) ↔ lget r z = none := by
  unfold findI
  cases h : findN r z with
  | none => exact ⟨fun _ => findN_not h, fun _ => by decide⟩
  | some k =>
    obtain ⟨v, _, h2, _⟩ := findN_is h
    simp only [h2]
    exact ⟨fun hh => by omega, fun hh => by cases hh⟩
theorem find29_ok (r : LeL) (z : ByteArray) (G : Glob) (hl : r.length ≤ 1048576) : CallOk Try.prog TT 66 [.slc 114 (r.map leR), .str z] G (fun v G' => v = .int .i64 (findI r z) ∧ G' = G) := by
  refine call_sem tt_ok Try.func66 rfl (by kernel_rfl) Try.ntmps66 Try.results66 ?_; conv => whnf
  repeat' (first | ((first | refine Sem.reg tt_ok ?_ | refine Sem.condS ?_ | refine Sem.regL tt_ok ?_ | refine Sem.skip tt_ok ?_ | refine Sem.exit tt_ok ?_ | refine Sem.ret tt_ok ?_ | refine BS_t (by assumption) ?_ | refine BS_f (by assumption) ?_ | refine atG (by repeat (first | assumption | exact setG_same _ _ _ | refine Eq.trans (setG_ne _ _ (by first | assumption | exact Ne.symm (by assumption))) ?_)) ?_ | refine (nthK_iff _ _).2 ⟨_, (by assumption), ?_⟩ | refine ⟨_, ⟨(by omega), (by assumption)⟩, ?_⟩ | refine And.intro (by first | decide | omega) ?_ | fail); conv => whnf) | refine Sem.seqS ?_ | refine Sem.block ?_ | fail)
  refine Sem.loop (ι := {k : Nat // k ≤ r.length ∧ ∀ y ∈ r.take k, y.1 ≠ z}) (fun x => ⟨(.slc 114 (r.map leR) :: .str z :: .top :: .top :: .top :: .int .i64 (x.1 : Nat) :: .top :: .top :: .top :: .top :: .top :: .top :: .top :: .top :: .top :: .top :: .top :: .top :: .top :: .top :: []), [], 0, 0, G⟩) (fun x => r.length - x.1) ⟨0, Nat.zero_le _, by simp⟩ ?_ (fun x => ?_)
  · refine weak_by [] ?_; (conv => whnf); repeat (first | (refine And.intro rfl ?_; conv => whnf) | fail)
    exact ⟨fun i x hx => hx, rfl, Nat.zero_le _, rfl, rfl⟩
  obtain ⟨k, hk0, hg⟩ := x
  repeat' (first | ((first | refine Sem.reg tt_ok ?_ | refine Sem.condS ?_ | refine Sem.regL tt_ok ?_ | refine Sem.skip tt_ok ?_ | refine Sem.exit tt_ok ?_ | refine Sem.ret tt_ok ?_ | refine BS_t (by assumption) ?_ | refine BS_f (by assumption) ?_ | refine atG (by repeat (first | assumption | exact setG_same _ _ _ | refine Eq.trans (setG_ne _ _ (by first | assumption | exact Ne.symm (by assumption))) ?_)) ?_ | refine (nthK_iff _ _).2 ⟨_, (by assumption), ?_⟩ | refine ⟨_, ⟨(by omega), (by assumption)⟩, ?_⟩ | refine And.intro (by first | decide | omega) ?_ | fail); conv => whnf) | refine Sem.seqS ?_ | refine Sem.block ?_ | fail)
  refine BS_intro (fun hk => ?_) (fun hk => ?_) <;> conv => whnf
  · have hks : k < r.length := by simp at hk; omega
    clear hk
    obtain ⟨v, hv⟩ : ∃ v, r[k]? = some v := ⟨_, List.getElem?_eq_getElem hks⟩
    have hsm : (r.map leR)[((k : Nat) : Int).toNat]? = some (leR v) := by rw [Int.toNat_natCast, List.getElem?_map, hv]; rfl
    have ht : r.take (k + 1) = r.take k ++ [v] := by rw [List.take_add_one, hv]; rfl
    obtain ⟨a, b⟩ := v
    repeat' (first | ((first | refine Sem.reg tt_ok ?_ | refine Sem.condS ?_ | refine Sem.regL tt_ok ?_ | refine Sem.skip tt_ok ?_ | refine Sem.exit tt_ok ?_ | refine Sem.ret tt_ok ?_ | refine BS_t (by assumption) ?_ | refine BS_f (by assumption) ?_ | refine atG (by repeat (first | assumption | exact setG_same _ _ _ | refine Eq.trans (setG_ne _ _ (by first | assumption | exact Ne.symm (by assumption))) ?_)) ?_ | refine (nthK_iff _ _).2 ⟨_, (by assumption), ?_⟩ | refine ⟨_, ⟨(by omega), (by assumption)⟩, ?_⟩ | refine And.intro (by first | decide | omega) ?_ | fail); conv => whnf) | refine Sem.seqS ?_ | refine Sem.block ?_ | fail)
    refine BS_intro (fun he => ?_) (fun he => ?_) <;> conv => whnf
    · have hz : a = z := by simpa [bl_eq] using he
      repeat' (first | ((first | refine Sem.reg tt_ok ?_ | refine Sem.condS ?_ | refine Sem.regL tt_ok ?_ | refine Sem.skip tt_ok ?_ | refine Sem.exit tt_ok ?_ | refine Sem.ret tt_ok ?_ | refine BS_t (by assumption) ?_ | refine BS_f (by assumption) ?_ | refine atG (by repeat (first | assumption | exact setG_same _ _ _ | refine Eq.trans (setG_ne _ _ (by first | assumption | exact Ne.symm (by assumption))) ?_)) ?_ | refine (nthK_iff _ _).2 ⟨_, (by assumption), ?_⟩ | refine ⟨_, ⟨(by omega), (by assumption)⟩, ?_⟩ | refine And.intro (by first | decide | omega) ?_ | fail); conv => whnf) | refine Sem.seqS ?_ | refine Sem.block ?_ | fail)
      refine ⟨_, fun _ _ h => h, ?_, rfl⟩
      unfold findI
      rw [findN_some hv hz hg]
    · have hne : a ≠ z := by rintro rfl; simp at he
      repeat' (first | ((first | refine Sem.reg tt_ok ?_ | refine Sem.condS ?_ | refine Sem.regL tt_ok ?_ | refine Sem.skip tt_ok ?_ | refine Sem.exit tt_ok ?_ | refine Sem.ret tt_ok ?_ | refine BS_t (by assumption) ?_ | refine BS_f (by assumption) ?_ | refine atG (by repeat (first | assumption | exact setG_same _ _ _ | refine Eq.trans (setG_ne _ _ (by first | assumption | exact Ne.symm (by assumption))) ?_)) ?_ | refine (nthK_iff _ _).2 ⟨_, (by assumption), ?_⟩ | refine ⟨_, ⟨(by omega), (by assumption)⟩, ?_⟩ | refine And.intro (by first | decide | omega) ?_ | fail); conv => whnf) | refine Sem.seqS ?_ | refine Sem.block ?_ | fail)
      refine ⟨⟨k + 1, by omega, fun y hy => ?_⟩, by show r.length - (k + 1) < r.length - k; omega, ?_⟩
      · rw [ht] at hy
        rcases List.mem_append.1 hy with h | h
        · exact hg y h
        · simp at h; subst h; exact hne
      refine weak_by [] ?_; (conv => whnf); repeat (first | (refine And.intro rfl ?_; conv => whnf) | fail)
      have hw : IntKind.i64.wrap ((k : Int) + 1) = ((k + 1 : Nat) : Int) := by rw [IntWalk.i64_in _ (by omega)]; omega
      refine And.intro hw ?_
      (conv => whnf); repeat (first | (refine And.intro rfl ?_; conv => whnf) | fail)
      exact ⟨fun i y hy => hy, rfl, Nat.zero_le _, rfl, rfl⟩
  · have hk' : k = r.length := by simp at hk; omega
    subst hk'
    repeat' (first | ((first | refine Sem.reg tt_ok ?_ | refine Sem.condS ?_ | refine Sem.regL tt_ok ?_ | refine Sem.skip tt_ok ?_ | refine Sem.exit tt_ok ?_ | refine Sem.ret tt_ok ?_ | refine BS_t (by assumption) ?_ | refine BS_f (by assumption) ?_ | refine atG (by repeat (first | assumption | exact setG_same _ _ _ | refine Eq.trans (setG_ne _ _ (by first | assumption | exact Ne.symm (by assumption))) ?_)) ?_ | refine (nthK_iff _ _).2 ⟨_, (by assumption), ?_⟩ | refine ⟨_, ⟨(by omega), (by assumption)⟩, ?_⟩ | refine And.intro (by first | decide | omega) ?_ | fail); conv => whnf) | refine Sem.seqS ?_ | refine Sem.block ?_ | fail)
    refine ⟨_, fun _ _ h => h, ?_, rfl⟩
    unfold findI
    rw [findN_none (fun y hy => hg y (by rw [List.take_length]; exact hy))]
theorem row29le : Row1 Try.prog 101 114 (.agg #[.string ⟨#[]⟩, .string ⟨#[]⟩, .int .i64 0]) 3 40 := ⟨by kernel_rfl, by kernel_rfl, rfl, by decide⟩
theorem lerow_dz {w : World} {v : Value} {l : LeL} (hr : Row w v l 3 leV) : Dz TT gh0 w (.slc 114 (l.map leR)) v := by
  refine row_dz hr leR rfl fun x hx => ⟨rfl, rfl, fun j c u hc hu => ?_⟩
  match j with
  | 0 => simp [leR] at hc; simp [leV] at hu; subst hc hu; exact ⟨rfl, .str _⟩
  | 1 => simp [leR] at hc; simp [leV] at hu; subst hc hu; exact ⟨rfl, .str _⟩
  | 2 => simp [leR] at hc; simp [leV] at hu; subst hc hu; exact ⟨rfl, .int _ _⟩
  | j + 3 => simp [leR] at hc
theorem find29_any (v : Value) (l : LeL) (z : ByteArray) (w : World) (hr : Row w v l 3 leV) (hl : l.length ≤ 1048576) : Calls Try.prog 66 #[v, .string z] w (Gives w (.int .i64 (findI l z))) := by
  refine ((find29_ok l z (fun _ => none) hl).calls gh0 #[v, .string z] w (fun b bx hb => by cases hb) rfl fun i a u ha hu => ?_).mono fun e w' he => ?_
  · match i with
    | 0 => simp at ha hu; subst ha hu; exact lerow_dz hr
    | 1 => simp at ha hu; subst ha hu; exact .str _
    | i + 2 => simp at ha
  · obtain ⟨u, g', G', v', rfl, ⟨rfl, _⟩, _, hx, hz⟩ := he
    cases hz
    exact ⟨rfl, hx.up fun _ => trivial⟩
set_option maxHeartbeats 4000000 in
theorem free29_yes (v : Value) (l : LeL) (z h : ByteArray) (w : World) (hr : Row w v l 3 leV) (hl : l.length ≤ 1048576) (k : Nat) (t : Int) (hx : l[k]? = some (z, h, t)) (hf : findI l z = (k : Int)) :
    Calls Try.prog 70 #[v, .string z, .string h] w (fun e w' => ∃ u, e = .returned (.tuple #[u, .bool true]) ∧ w'.ownsRow w.heap.size 114 3 u ((l.take k).length + (l.drop (k + 1)).length) ((l.take k).flatMap leV ++ (l.drop (k + 1)).flatMap leV) ∧ Up w w') := by
  have hF := find29_any v l z w hr hl
  rw [hf] at hF
  have hlt : k < l.length := (List.getElem?_eq_some_iff.1 hx).1
  obtain ⟨p, cap, rfl, hlc, hm, hrow⟩ := id hr
  unfold maxLen at hm
  obtain ⟨b, o, rfl, hb, hc⟩ := hrow (by omega)
  have HR := Lib.hid hr
  clear hr hf hrow
  have c2' := hc k _ hx 1 _ rfl
  clear hc
  have d0 : ((k : Int) < 0) = False := by simp
  have d1 : (h.toList == h.toList) = true := beq_self_eq_true _
  go_enter Try.func70, Try.ntmps70
  clear hx
  go_wp2_with (go_at_call 66; refine hF.mono ?_; rintro e wr ⟨rfl, hup⟩; have c2 : wr.cell? ⟨b, o + (k * 3 + 1), none⟩ = some (.string h) := by { rw [hup.cell hb]; exact c2' }; have hw1 : b < wr.heap.size := Nat.lt_of_lt_of_le hb hup.size; have c1 := c2; have c3 : wr.cell? ⟨b, o + k * 3 + 1, none⟩ = some (.string h) := by { rw [Nat.add_assoc]; exact c2 }; have hk : k ≤ l.length := Nat.le_of_lt hlt)
  have hmade := Lib.hid (World.ownsRow_made (base := wr.heap.size) (e := 114) (size := 3) wr.drew #[] 0 (Nat.le_refl _) (by decide) (by decide))
  have hA := Lib.hid ((row_take HR.out k hk).up hup)
  obtain ⟨q, hB, hq8⟩ : ∃ q, Row wr (.slice q (l.length - (k + 1)) (cap - (k + 1))) (l.drop (k + 1)) 3 leV ∧ ((cap = k + 1 ∧ q = some ⟨b, o, none⟩) ∨ (¬ cap = k + 1 ∧ q = some ⟨b, o + (k + 1) * 3, none⟩)) := by
    by_cases hcap : cap = k + 1
    · refine ⟨_, ⟨_, _, by rw [List.length_drop], by rw [List.length_drop]; omega, by unfold maxLen; omega, fun h => ?_⟩, .inl ⟨hcap, rfl⟩⟩
      rw [List.length_drop] at h
      omega
    · exact ⟨_, (row_drop HR.out (k + 1) hlt).up hup, .inr ⟨hcap, rfl⟩⟩
  have i1 : IntKind.i64.wrap ((k : Int) + 1) = (k : Int) + 1 := by rw [IntWalk.i64_in _ (by omega)]
  have t1 : (l.take k).length = k := by rw [List.length_take]; omega
  have t2 : (l.drop (k + 1)).length = l.length - (k + 1) := by rw [List.length_drop]
  have i2 : (0 : Int) ≤ (k : Int) := by omega
  have i3 : (k : Int) ≤ (cap : Int) := by omega
  have i4 : (k : Int) ≤ (l.length : Int) := by omega
  have i5 : (0 : Int) ≤ (k : Int) + 1 := by omega
  have i6 : (k : Int) + 1 ≤ (l.length : Int) := by omega
  have i7 : (k : Int) + 1 ≤ (cap : Int) := by omega
  have i8 : (l.length : Int) ≤ (cap : Int) := by omega
  clear c1
  refine wp_region_held_drew (S := fun w' => Up wr w') (by kernel_rfl) ((Up.refl _).drew) fun hS0 => ?_
  refine wpAnyH_take (i := 1) (v := .slice (some ⟨b, o, none⟩) l.length cap) rfl (by kernel_rfl) (by kernel_rfl) (by kernel_rfl) (fun _ _ _ h => h) (.inl ⟨rfl, fun w' hw' => ?_⟩) (by assumption) ?_
  · go_simp
  simp only [Act.put, List.setIfInBounds_toArray, List.set_cons_zero, List.set_cons_succ]
  refine wpAnyH_take (i := 2) (v := .int .i64 k) rfl (by kernel_rfl) (by kernel_rfl) (by kernel_rfl) (fun _ _ _ h => h) (.inl ⟨rfl, fun w' hw' => ?_⟩) (by assumption) ?_
  · go_simp
  simp only [Act.put, List.setIfInBounds_toArray, List.set_cons_zero, List.set_cons_succ]
  refine wpAnyH_take (i := 3) (v := .slice (some ⟨b, o, none⟩) k cap) rfl (by kernel_rfl) (by kernel_rfl) (by kernel_rfl) (fun _ _ _ h => h) (.inl ⟨rfl, fun w' hw' => ?_⟩) (by assumption) ?_
  · go_simp
  simp only [Act.put, List.setIfInBounds_toArray, List.set_cons_zero, List.set_cons_succ]
  refine wpAnyH_take (i := 5) (v := .slice (some ⟨b, o, none⟩) l.length cap) rfl (by kernel_rfl) (by kernel_rfl) (by kernel_rfl) (fun _ _ _ h => h) (.inl ⟨rfl, fun w' hw' => ?_⟩) (by assumption) ?_
  · go_simp
  simp only [Act.put, List.setIfInBounds_toArray, List.set_cons_zero, List.set_cons_succ]
  refine wpAnyH_take (i := 6) (v := .int .i64 k) rfl (by kernel_rfl) (by kernel_rfl) (by kernel_rfl) (fun _ _ _ h => h) (.inl ⟨rfl, fun w' hw' => ?_⟩) (by assumption) ?_
  · go_simp
  simp only [Act.put, List.setIfInBounds_toArray, List.set_cons_zero, List.set_cons_succ]
  refine wpAnyH_take (i := 7) (v := .int .i64 ((k : Int) + 1)) rfl (by kernel_rfl) (by kernel_rfl) (by kernel_rfl) (fun _ _ _ h => h) (.inl ⟨rfl, fun w' hw' => ?_⟩) (by assumption) ?_
  · go_simp
  simp only [Act.put, List.setIfInBounds_toArray, List.set_cons_zero, List.set_cons_succ]
  refine wpAnyH_take (i := 8) (v := .slice q (l.length - (k + 1)) (cap - (k + 1))) rfl (by kernel_rfl) (by kernel_rfl) (by kernel_rfl) (fun _ _ _ h => h) (.inl ⟨rfl, fun w' hw' => ?_⟩) (by assumption) ?_
  · (rcases hq8 with ⟨hc8, rfl⟩ | ⟨hc8, rfl⟩ <;> go_simp)
  simp only [Act.put, List.setIfInBounds_toArray, List.set_cons_zero, List.set_cons_succ]
  refine wpAnyH_ready (rs := [0]) (by kernel_rfl) (by simp) (.cons rfl (fun K' hK => ?_) .nil)
  refine step_go rfl ?_
  go_simp
  refine hK.out _ _ (by repeat (first | with_reducible exact Up.refl _ | with_reducible exact hS0 | assumption | with_reducible refine Up.drew ?_ | with_reducible refine Up.alloc ?_ _)) fun hS1 => ?_
  refine wpAnyH_ready (rs := [4]) (by kernel_rfl) (by simp) (.cons rfl (fun K' hK => ?_) .nil)
  refine step_apps rfl (.tmp 24) (.tmp 27) 101 114 rfl row29le (base := wr.heap.size) (by simp) (v := .slice (some ⟨wr.heap.size, 0, none⟩) 0 0) (n := 0) (xs := []) (by rfl) hmade.out (l := l.take k) (cells := leV) (vx := .slice (some ⟨b, o, none⟩) k cap) (by rfl) (hA.out.up hS1) (fun x hx => rfl) (fun x hx u hu => by simp [leV] at hu; rcases hu with rfl | rfl | rfl <;> rfl) (by unfold maxLen; omega) (by omega) fun v1 wA hoA => ?_
  have hU1 : Up wr wA := hoA.up wr (Nat.le_refl _) hS1
  refine hK.out _ _ hU1 fun hS2 => ?_
  simp only [Act.put, List.setIfInBounds_toArray, List.set_cons_zero, List.set_cons_succ]
  refine wpAnyH_ready (rs := [9]) (by kernel_rfl) (by simp) (.cons rfl (fun K' hK => ?_) .nil)
  refine step_apps rfl (.tmp 28) (.tmp 32) 101 114 rfl row29le (base := wr.heap.size) hU1.size (v := v1) (n := _) (xs := _) (by rfl) hoA.own (l := l.drop (k + 1)) (cells := leV) (vx := .slice q (l.length - (k + 1)) (cap - (k + 1))) (by rfl) (hB.up hU1) (fun x hx => rfl) (fun x hx u hu => by simp [leV] at hu; rcases hu with rfl | rfl | rfl <;> rfl) (by unfold maxLen; omega) (by omega) fun v2 wB hoB => ?_
  have hU2 : Up wr wB := hoB.up wr (Nat.le_refl _) hU1
  refine hK.out _ _ hU2 fun hS3 => ?_
  simp only [Act.put, List.setIfInBounds_toArray, List.set_cons_zero, List.set_cons_succ]
  refine wpAnyH_take (i := 10) (oi := { dst := some 6, op := _, type := _, pos := _, after := _, guard := _ }) (v := v2) rfl (by kernel_rfl) (by kernel_rfl) (by kernel_rfl) (fun _ _ _ h => h) (.inl ⟨rfl, fun w' hw' => ?_⟩) (by assumption) ?_
  · go_simp
  simp only [Act.put, List.setIfInBounds_toArray, List.set_cons_zero, List.set_cons_succ]
  refine wpAnyH_take (i := 11) (oi := { dst := some 7, op := _, type := _, pos := _, after := _, guard := _ }) (v := .bool true) rfl (by kernel_rfl) (by kernel_rfl) (by kernel_rfl) (fun _ _ _ h => h) (.inl ⟨rfl, fun w' hw' => ?_⟩) (by assumption) ?_
  · go_simp
  simp only [Act.put, List.setIfInBounds_toArray, List.set_cons_zero, List.set_cons_succ]
  refine wpAnyH_done (by kernel_rfl) ?_ _
  go_wp2_with fail
  refine bodyPost_ret (v := .tuple #[v2, .bool true]) (by simp [results, Try.results70, go_sem]) rfl ?_
  refine ⟨v2, rfl, ?_, hup.trans hU2⟩
  have h1 := hoB.own
  rw [Nat.zero_add, List.nil_append] at h1
  have h2 := own_lower hup.size h1
  rw [t1, t2] at h2
  exact h2
end Go.Proofs.Ytpnlhnhjedopgaa
