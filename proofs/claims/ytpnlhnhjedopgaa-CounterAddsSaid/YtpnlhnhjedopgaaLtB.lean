/- Texts in order; the names of a list, each once, rising. -/
import Derived.Test.YtpnlhnhjedopgaaNamB
import Derived.Sort.Walk0
set_option maxRecDepth 100000
set_option linter.unusedSimpArgs false
namespace Go.Proofs.Ytpnlhnhjedopgaa
open Go Go.RowKit Go.Proofs

def ltB (a b : ByteArray) : Prop := a.data.toList < b.data.toList
instance (a b : ByteArray) : Decidable (ltB a b) := inferInstanceAs (Decidable (a.data.toList < b.data.toList))
theorem ltB_less (a b : ByteArray) : Op.bytesLess a.toList b.toList = decide (ltB a b) := by
  unfold ltB
  rw [ByteArray.toList_eq, ByteArray.toList_eq, bytesLess_eq]
  exact decide_eq_decide.2 Iff.rfl
theorem ltB_irr (a : ByteArray) : ¬ ltB a a := List.lt_irrefl _
theorem ltB_trans {a b c : ByteArray} (h : ltB a b) (h' : ltB b c) : ltB a c := List.lt_trans h h'
theorem ltB_tri {a b : ByteArray} (h : ¬ ltB a b) (h' : ¬ ltB b a) : a = b := by
  have := List.le_antisymm (List.not_lt.1 h') (List.not_lt.1 h)
  exact ByteArray.ext (Array.ext' this)
theorem ltB_gtr (a b : ByteArray) : (!(Op.bytesLess a.toList b.toList || a.toList == b.toList)) = decide (ltB b a) := by
  rw [ltB_less, bl_eq]
  by_cases h : ltB a b
  · have : ¬ ltB b a := fun h' => ltB_irr _ (ltB_trans h h')
    simp [h, this]
  · by_cases e : a = b
    · subst e; simp [ltB_irr]
    · have : ltB b a := Classical.byContradiction fun hh => e (ltB_tri h hh)
      simp [h, e, this]
def insN (x : ByteArray) : List ByteArray → List ByteArray
  | [] => [x]
  | y :: r => if ltB x y then x :: y :: r else if x = y then y :: r else y :: insN x r
def namesN : List ByteArray → List ByteArray
  | [] => []
  | x :: r => insN x (namesN r)
theorem mem_insN {z x : ByteArray} : ∀ {l : List ByteArray}, z ∈ insN x l ↔ z = x ∨ z ∈ l
  | [] => by simp [insN]
  | y :: r => by
    by_cases h1 : ltB x y
    · simp [insN, h1]
    · by_cases h2 : x = y
      · subst h2
        simp only [insN, h1, if_false, if_true, List.mem_cons]
        constructor
        · exact fun h => .inr h
        · rintro (h | h)
          · exact .inl h
          · exact h
      · simp only [insN, h1, h2, if_false, List.mem_cons, mem_insN (l := r)]
        constructor
        · rintro (h | h | h)
          · exact .inr (.inl h)
          · exact .inl h
          · exact .inr (.inr h)
        · rintro (h | h | h)
          · exact .inr (.inl h)
          · exact .inl h
          · exact .inr (.inr h)
theorem mem_namesN {z : ByteArray} : ∀ {l : List ByteArray}, z ∈ namesN l ↔ z ∈ l
  | [] => by simp [namesN]
  | x :: r => by rw [namesN, mem_insN, mem_namesN (l := r), List.mem_cons]
theorem insN_rise {x : ByteArray} : ∀ {l : List ByteArray}, l.Pairwise ltB → (insN x l).Pairwise ltB
  | [], _ => by simp [insN]
  | y :: r, h => by
    obtain ⟨h1, h2⟩ := List.pairwise_cons.1 h
    by_cases hx : ltB x y
    · simp only [insN, hx, if_true]
      refine List.pairwise_cons.2 ⟨fun z hz => ?_, h⟩
      rcases List.mem_cons.1 hz with rfl | hz
      · exact hx
      · exact ltB_trans hx (h1 z hz)
    · by_cases he : x = y
      · simp only [insN, hx, he, if_false, if_true]
        subst he
        simp only [ltB_irr, if_false]
        exact h
      · simp only [insN, hx, he, if_false]
        refine List.pairwise_cons.2 ⟨fun z hz => ?_, insN_rise h2⟩
        rcases mem_insN.1 hz with rfl | hz
        · exact Classical.byContradiction fun hh => he (ltB_tri hx hh)
        · exact h1 z hz
theorem namesN_rise : ∀ l : List ByteArray, (namesN l).Pairwise ltB
  | [] => by simp [namesN]
  | _ :: r => insN_rise (namesN_rise r)
theorem len_insN (x : ByteArray) : ∀ l : List ByteArray, (insN x l).length ≤ l.length + 1
  | [] => by simp [insN]
  | y :: r => by
    have := len_insN x r
    unfold insN
    split
    · simp
    · split
      · simp
      · simp only [List.length_cons]; omega
theorem len_namesN : ∀ l : List ByteArray, (namesN l).length ≤ l.length
  | [] => by simp [namesN]
  | x :: r => by
    have := len_insN x (namesN r)
    have := len_namesN r
    simp only [namesN, List.length_cons]
    omega
theorem rising_nodup {l : List ByteArray} (h : l.Pairwise ltB) : l.Nodup := h.imp fun hl e => by rw [e] at hl; exact ltB_irr _ hl
theorem namesN_perm {l m : List ByteArray} (hm : m.Nodup) (h : ∀ z, z ∈ m ↔ z ∈ l) : m.Perm (namesN l) :=
  (List.perm_ext_iff_of_nodup hm (rising_nodup (namesN_rise l))).2 fun z => (h z).trans mem_namesN.symm
theorem keysE_names {α : Type} {m : List (ByteArray × α)} {l : List ByteArray} (hm : (m.map (·.1)).Nodup) (h : ∀ z, z ∈ m.map (·.1) ↔ z ∈ l) : keysE m = (namesN l).map fun s => [AV.str s] := by
  have hp := (namesN_perm hm h).map fun s => s.data.toList
  rw [List.map_map] at hp
  have e1 : keyL m = (namesN l).map fun s => s.data.toList := by
    unfold keyL
    have e0 : (m.map fun x => x.1.data.toList) = m.map ((fun s : ByteArray => s.data.toList) ∘ fun x => x.1) := rfl
    rw [e0, Go.mergeSort_of_perm hp]
    refine List.mergeSort_of_pairwise ?_
    refine List.pairwise_map.2 ((namesN_rise l).imp fun {x y} hl => ?_)
    simp only [leB, decide_eq_true_eq]
    exact List.le_of_lt hl
  rw [keysE, e1, List.map_map]
  refine List.map_congr_left fun x _ => ?_
  show [AV.str (S x.data.toList)] = _
  rw [S_of]
/-- greater than the last one, or the first one -/
def GtO (out : List ByteArray) (x : ByteArray) : Prop := ∀ y, out.getLast? = some y → ltB y x
theorem gtO_rest {out rest : List ByteArray} {x : ByteArray} (h : (out ++ rest).Pairwise ltB) (hx : x ∈ rest) : GtO out x := fun _ hy => (List.pairwise_append.1 h).2.2 _ (List.mem_of_getLast? hy) _ hx
theorem gtO_out {out : List ByteArray} {x : ByteArray} (h : out.Pairwise ltB) (hx : x ∈ out) : ¬ GtO out x := by
  intro hg
  rcases List.eq_nil_or_concat out with rfl | ⟨pre, y, rfl⟩
  · cases hx
  · rw [List.concat_eq_append] at *
    have h1 := hg y (by simp)
    rcases List.mem_append.1 hx with hp | hp
    · exact ltB_irr _ (ltB_trans h1 ((List.pairwise_append.1 h).2.2 _ hp y (by simp)))
    · simp at hp
      subst hp
      exact ltB_irr _ h1
theorem names_none {l out rest : List ByteArray} (h : namesN l = out ++ rest) (hn : ∀ x ∈ l, ¬ GtO out x) : rest = [] := by
  cases rest with
  | nil => rfl
  | cons r0 rest =>
    have hr := namesN_rise l
    rw [h] at hr
    exact absurd (gtO_rest hr (by simp)) (hn r0 (mem_namesN.1 (by rw [h]; simp)))
theorem names_some {l out rest : List ByteArray} {x : ByteArray} (h : namesN l = out ++ rest) (hx : x ∈ l) (hg : GtO out x) (hm : ∀ y ∈ l, GtO out y → ¬ ltB y x) : ∃ rest', rest = x :: rest' := by
  have hr := namesN_rise l
  rw [h] at hr
  have hx' : x ∈ out ++ rest := by rw [← h]; exact mem_namesN.2 hx
  rcases List.mem_append.1 hx' with ho | ho
  · exact absurd hg (gtO_out (List.pairwise_append.1 hr).1 ho)
  · cases rest with
    | nil => cases ho
    | cons r0 rest =>
      have h0 := gtO_rest hr (List.mem_cons_self (a := r0) (l := rest))
      have hlt := hm r0 (mem_namesN.1 (by rw [h]; simp)) h0
      rcases List.mem_cons.1 ho with rfl | ho
      · exact ⟨_, rfl⟩
      · exact absurd ((List.pairwise_cons.1 (List.pairwise_append.1 hr).2.1).1 x ho) hlt
/-- what one round of the search keeps: the least one ahead that is greater than the last one -/
def Best (L out : List ByteArray) (i : Nat) : Option Nat → Prop
  | none => ∀ x ∈ L.take i, ¬ GtO out x
  | some n => ∃ x, L[n]? = some x ∧ GtO out x ∧ ∀ y ∈ L.take i, GtO out y → ¬ ltB y x
def nxI : Option Nat → Int
  | none => -1
  | some n => (n : Int)
theorem best_new {L out : List ByteArray} {i : Nat} {x : ByteArray} {nx : Option Nat} (h : Best L out i nx) (hx : L[i]? = some x) (hg : GtO out x) (hl : ∀ n z, nx = some n → L[n]? = some z → ltB x z) : Best L out (i + 1) (some i) := by
  refine ⟨x, hx, hg, fun y hy hy' => ?_⟩
  rw [List.take_add_one, hx] at hy
  rcases List.mem_append.1 hy with hy | hy
  · cases nx with
    | none => exact absurd hy' (h y hy)
    | some n =>
      obtain ⟨z, h1, -, h3⟩ := h
      exact fun hh => h3 y hy hy' (ltB_trans hh (hl n z rfl h1))
  · simp at hy
    subst hy
    exact ltB_irr _
theorem best_not {L out : List ByteArray} {i : Nat} {x : ByteArray} {nx : Option Nat} (h : Best L out i nx) (hx : L[i]? = some x) (hg : ¬ GtO out x) : Best L out (i + 1) nx := by
  cases nx with
  | none =>
    intro y hy
    rw [List.take_add_one, hx] at hy
    rcases List.mem_append.1 hy with hy | hy
    · exact h y hy
    · simp at hy
      subst hy
      exact hg
  | some n =>
    obtain ⟨z, h1, h2, h3⟩ := h
    refine ⟨z, h1, h2, fun y hy hy' => ?_⟩
    rw [List.take_add_one, hx] at hy
    rcases List.mem_append.1 hy with hy | hy
    · exact h3 y hy hy'
    · simp at hy
      subst hy
      exact absurd hy' hg
theorem best_old {L out : List ByteArray} {i n : Nat} {x z : ByteArray} (h : Best L out i (some n)) (hx : L[i]? = some x) (hz : L[n]? = some z) (hl : ¬ ltB x z) : Best L out (i + 1) (some n) := by
  obtain ⟨z', h1, h2, h3⟩ := h
  rw [hz] at h1
  cases h1
  refine ⟨z, hz, h2, fun y hy hy' => ?_⟩
  rw [List.take_add_one, hx] at hy
  rcases List.mem_append.1 hy with hy | hy
  · exact h3 y hy hy'
  · simp at hy
    subst hy
    exact hl
theorem gtO_nil (x : ByteArray) : GtO [] x := fun y hy => by cases hy
theorem gtO_snoc {pre : List ByteArray} {y x : ByteArray} : GtO (pre ++ [y]) x ↔ ltB y x :=
  ⟨fun h => h y (by simp), fun h z hz => by simp at hz; subst hz; exact h⟩
end Go.Proofs.Ytpnlhnhjedopgaa
