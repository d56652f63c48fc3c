/- One text out of several: FifA, NamF, FifB, PtnF. -/
import Derived.Test.YtpihanlillbhkaaGreatDoorMapA
import Derived.Test.YtpihanlillbhkaaGreatDoorGl

section
/- fifo in the abstract run. -/
set_option maxRecDepth 100000
set_option linter.unusedSimpArgs false
namespace Go.Proofs.YtpihanlillbhkaaGreatDoor
open Go Go.RowKit Go.Proofs

/-- a queue: its box, its links, each with its text -/
abbrev Qu := Nat × List (Nat × ByteArray)
def fav (x : Qu) : AV := .gptr x.1 0
abbrev FiL := List (ByteArray × Qu)
theorem fbk_nil {l : FiL} (h : bk fav l = []) : l = [] := by simpa [bk] using h
def nextP : List (Nat × ByteArray) → AV
  | [] => .nilp
  | (i, _) :: _ => .gptr i 0
def SegG (G : Glob) : List (Nat × ByteArray) → Prop
  | [] => True
  | (i, s) :: r => G i = some (.cells [.str s, nextP r]) ∧ SegG G r
def QueG (G : Glob) (x : Qu) : Prop := (∃ lp, G x.1 = some (.cells [nextP x.2, lp, .int .i64 x.2.length]) ∧ ∀ y, x.2.getLast? = some y → lp = .gptr y.1 0) ∧ SegG G x.2
def ffind (l : FiL) (k : ByteArray) : AV := match lget l k with | some x => fav x | none => .nilp
def fgrow (l : FiL) (k v : ByteArray) : Int := match lget l k with | some _ => 16 + v.size | none => 16 + v.size + (16 + k.size)
theorem fpushq_nil (G : Glob) (q : Nat) (lp : AV) (s : ByteArray) (h : G q = some (.cells [.nilp, lp, .int .i64 (0 : Nat)])) :
    CallOk Tryz.prog TT 104 [.gptr q 0, .str s] G (fun x G' => x = .tup [] ∧ ∃ j, G j = none ∧ QueG G' (q, [(j, s)]) ∧ ∀ i y, G i = some y → i ≠ q → G' i = some y) := by
  refine call_sem tt_ok Tryz.func104 rfl (by kernel_rfl) Tryz.ntmps104 Tryz.results104 ?_; conv => whnf
  repeat' (first | ((first | refine Sem.st tt_ok rfl ?_ | refine BS_t (by assumption) ?_ | refine BS_f (by assumption) ?_ | refine atG (by repeat (first | assumption | exact setG_same _ _ _ | refine atNe (by first | assumption | exact Ne.symm (by assumption)) ?_)) ?_ | refine nthKi (by assumption) ?_ | refine ⟨_, ⟨(by omega), (by assumption)⟩, ?_⟩ | refine And.intro (by first | decide | omega) ?_); conv => whnf) | refine Sem.seqS ?_ | refine Sem.block ?_)
  intro j hj
  conv => whnf
  have hne : j ≠ q := by rintro rfl; simp [h] at hj
  repeat' (first | ((first | refine Sem.st tt_ok rfl ?_ | refine BS_t (by assumption) ?_ | refine BS_f (by assumption) ?_ | refine atG (by repeat (first | assumption | exact setG_same _ _ _ | refine atNe (by first | assumption | exact Ne.symm (by assumption)) ?_)) ?_ | refine nthKi (by assumption) ?_ | refine ⟨_, ⟨(by omega), (by assumption)⟩, ?_⟩ | refine And.intro (by first | decide | omega) ?_); conv => whnf) | refine Sem.seqS ?_ | refine Sem.block ?_)
  refine ⟨_, fun _ _ h => h, rfl, j, hj, ⟨⟨.gptr j 0, ?_, fun y hy => ?_⟩, ?_, trivial⟩, fun i y hi hq => ?_⟩
  · repeat (first | assumption | exact setG_same _ _ _ | refine atNe (by first | assumption | exact Ne.symm (by assumption)) ?_)
  · cases hy; rfl
  · repeat (first | assumption | exact setG_same _ _ _ | refine atNe (by first | assumption | exact Ne.symm (by assumption)) ?_)
  · have : i ≠ j := by rintro rfl; simp [hj] at hi
    simpa [setG, hq, this] using hi
theorem fpushq_ok (G : Glob) (q k i : Nat) (x : AV) (s t : ByteArray) (n : Int) (n0 : 0 ≤ n) (n1 : n ≤ 4611686018427387904) (h : G q = some (.cells [.gptr k 0, .gptr i 0, .int .i64 n])) (hi : G i = some (.cells [.str t, x])) :
    CallOk Tryz.prog TT 104 [.gptr q 0, .str s] G (fun x G' => x = .tup [] ∧ ∃ j, G j = none ∧ G' q = some (.cells [.gptr k 0, .gptr j 0, .int .i64 (n + 1)]) ∧ G' i = some (.cells [.str t, .gptr j 0]) ∧ G' j = some (.cells [.str s, .nilp]) ∧ ∀ z y, G z = some y → z ≠ q → z ≠ i → G' z = some y) := by
  have hqi : q ≠ i := by rintro rfl; simp [h] at hi
  refine call_sem tt_ok Tryz.func104 rfl (by kernel_rfl) Tryz.ntmps104 Tryz.results104 ?_; conv => whnf
  repeat' (first | ((first | refine Sem.st tt_ok rfl ?_ | refine BS_t (by assumption) ?_ | refine BS_f (by assumption) ?_ | refine atG (by repeat (first | assumption | exact setG_same _ _ _ | refine atNe (by first | assumption | exact Ne.symm (by assumption)) ?_)) ?_ | refine nthKi (by assumption) ?_ | refine ⟨_, ⟨(by omega), (by assumption)⟩, ?_⟩ | refine And.intro (by first | decide | omega) ?_); conv => whnf) | refine Sem.seqS ?_ | refine Sem.block ?_)
  intro j hj
  conv => whnf
  have hne : j ≠ q := by rintro rfl; simp [h] at hj
  have hni : j ≠ i := by rintro rfl; simp [hi] at hj
  repeat' (first | ((first | refine Sem.st tt_ok rfl ?_ | refine BS_t (by assumption) ?_ | refine BS_f (by assumption) ?_ | refine atG (by repeat (first | assumption | exact setG_same _ _ _ | refine atNe (by first | assumption | exact Ne.symm (by assumption)) ?_)) ?_ | refine nthKi (by assumption) ?_ | refine ⟨_, ⟨(by omega), (by assumption)⟩, ?_⟩ | refine And.intro (by first | decide | omega) ?_); conv => whnf) | refine Sem.seqS ?_ | refine Sem.block ?_)
  rw [IntWalk.i64_in (n + 1) (by omega)]
  refine ⟨_, fun _ _ h => h, rfl, j, hj, ?_, ?_, ?_, fun z y hz hq hi => ?_⟩
  · repeat (first | assumption | exact setG_same _ _ _ | refine atNe (by first | assumption | exact Ne.symm (by assumption)) ?_)
  · repeat (first | assumption | exact setG_same _ _ _ | refine atNe (by first | assumption | exact Ne.symm (by assumption)) ?_)
  · repeat (first | assumption | exact setG_same _ _ _ | refine atNe (by first | assumption | exact Ne.symm (by assumption)) ?_)
  · have : z ≠ j := by rintro rfl; simp [hj] at hz
    simpa [setG, hq, hi, this] using hz
theorem fpopq_ok (G : Glob) (q i : Nat) (r : List (Nat × ByteArray)) (lp : AV) (t : ByteArray) (n : Int) (n0 : 1 ≤ n) (n1 : n ≤ 4611686018427387904) (h : G q = some (.cells [.gptr i 0, lp, .int .i64 n])) (hi : G i = some (.cells [.str t, nextP r])) :
    CallOk Tryz.prog TT 105 [.gptr q 0] G (fun v G' => v = .str t ∧ G' = setG G q (.cells [nextP r, lp, .int .i64 (n - 1)])) := by
  have hqi : q ≠ i := by rintro rfl; simp [h] at hi
  cases r with
  | nil =>
    simp only [nextP] at hi ⊢
    refine call_sem tt_ok Tryz.func105 rfl (by kernel_rfl) Tryz.ntmps105 Tryz.results105 ?_; conv => whnf
    repeat' (first | ((first | refine Sem.st tt_ok rfl ?_ | refine BS_t (by assumption) ?_ | refine BS_f (by assumption) ?_ | refine atG (by repeat (first | assumption | exact setG_same _ _ _ | refine atNe (by first | assumption | exact Ne.symm (by assumption)) ?_)) ?_ | refine nthKi (by assumption) ?_ | refine ⟨_, ⟨(by omega), (by assumption)⟩, ?_⟩ | refine And.intro (by first | decide | omega) ?_); conv => whnf) | refine Sem.seqS ?_ | refine Sem.block ?_)
    rw [IntWalk.i64_in (n - 1) (by omega), setG_twice]
    exact ⟨_, fun _ _ h => h, rfl, rfl⟩
  | cons a r =>
    obtain ⟨j, u⟩ := a
    simp only [nextP] at hi ⊢
    refine call_sem tt_ok Tryz.func105 rfl (by kernel_rfl) Tryz.ntmps105 Tryz.results105 ?_; conv => whnf
    repeat' (first | ((first | refine Sem.st tt_ok rfl ?_ | refine BS_t (by assumption) ?_ | refine BS_f (by assumption) ?_ | refine atG (by repeat (first | assumption | exact setG_same _ _ _ | refine atNe (by first | assumption | exact Ne.symm (by assumption)) ?_)) ?_ | refine nthKi (by assumption) ?_ | refine ⟨_, ⟨(by omega), (by assumption)⟩, ?_⟩ | refine And.intro (by first | decide | omega) ?_); conv => whnf) | refine Sem.seqS ?_ | refine Sem.block ?_)
    rw [IntWalk.i64_in (n - 1) (by omega), setG_twice]
    exact ⟨_, fun _ _ h => h, rfl, rfl⟩
theorem seg_mono {G G' : Glob} : ∀ {l : List (Nat × ByteArray)}, SegG G l → (∀ i y, i ∈ l.map (·.1) → G i = some y → G' i = some y) → SegG G' l
  | [], _, _ => trivial
  | (i, s) :: r, h, hk => ⟨hk i _ (by simp) h.1, seg_mono h.2 fun z y hz => hk z y (by simp only [List.map_cons, List.mem_cons]; exact .inr hz)⟩
theorem que_mono {G G' : Glob} {x : Qu} (h : QueG G x) (hk : ∀ i y, (i = x.1 ∨ i ∈ x.2.map (·.1)) → G i = some y → G' i = some y) : QueG G' x := by
  obtain ⟨⟨lp, h1, h2⟩, h3⟩ := h
  exact ⟨⟨lp, hk _ _ (.inl rfl) h1, h2⟩, seg_mono h3 fun i y hi => hk i y (.inr hi)⟩
theorem seg_push {G G' : Glob} {i j : Nat} {s t : ByteArray} : ∀ {pre : List (Nat × ByteArray)}, SegG G (pre ++ [(i, t)]) → G' i = some (.cells [.str t, .gptr j 0]) → G' j = some (.cells [.str s, .nilp]) → (∀ z y, z ∈ pre.map (·.1) → G z = some y → G' z = some y) → SegG G' (pre ++ [(i, t), (j, s)])
  | [], _, hi, hj, _ => ⟨hi, hj, trivial⟩
  | [(k, u)], h, hi, hj, hk => ⟨hk k _ (by simp) h.1, hi, hj, trivial⟩
  | (k, u) :: (k', u') :: r, h, hi, hj, hk => ⟨hk k _ (by simp) h.1, seg_push (pre := (k', u') :: r) h.2 hi hj fun z y hz => hk z y (by simp only [List.map_cons, List.mem_cons] at hz ⊢; exact .inr hz)⟩
theorem seg_at {G : Glob} : ∀ {pre : List (Nat × ByteArray)} {i : Nat} {t : ByteArray} {r : List (Nat × ByteArray)}, SegG G (pre ++ (i, t) :: r) → G i = some (.cells [.str t, nextP r])
  | [], _, _, _, h => h.1
  | (_, _) :: _, _, _, _, h => seg_at h.2
theorem seg_two {G : Glob} {l : List (Nat × ByteArray)} (h : SegG G l) {i : Nat} (hi : i ∈ l.map (·.1)) : ∃ t x, G i = some (.cells [.str t, x]) := by
  induction l with
  | nil => cases hi
  | cons a r ih =>
    obtain ⟨k, u⟩ := a
    rcases List.mem_cons.1 hi with rfl | hi
    · exact ⟨_, _, h.1⟩
    · exact ih h.2 hi
/-- a queue's push -/
theorem fpushQ (G : Glob) (q : Nat) (ls : List (Nat × ByteArray)) (s : ByteArray) (hn : ls.length ≤ 4611686018427387904) (hd : (ls.map (·.1)).Nodup) (h : QueG G (q, ls)) :
    CallOk Tryz.prog TT 104 [.gptr q 0, .str s] G (fun x G' => x = .tup [] ∧ ∃ j, G j = none ∧ QueG G' (q, ls ++ [(j, s)]) ∧ ∀ z y, G z = some y → z ≠ q → z ∉ ls.map (·.1) → G' z = some y) := by
  obtain ⟨⟨lp, h1, h2⟩, h3⟩ := h
  rcases List.eq_nil_or_concat ls with rfl | ⟨pre, ⟨i, t⟩, rfl⟩
  · refine (fpushq_nil G q lp s h1).mono fun v G' hv => ?_
    obtain ⟨rfl, j, hj, hq, hk⟩ := hv
    exact ⟨rfl, j, hj, hq, fun z y hz hzq _ => hk z y hz hzq⟩
  · rw [List.concat_eq_append] at *
    have hl := h2 (i, t) (by simp)
    have hi := seg_at (r := []) h3
    have hne : ∃ k, nextP (pre ++ [(i, t)]) = .gptr k 0 ∧ ∀ j, nextP (pre ++ [(i, t)] ++ [(j, s)]) = .gptr k 0 := by
      cases pre with
      | nil => exact ⟨i, rfl, fun _ => rfl⟩
      | cons a r => exact ⟨a.1, rfl, fun _ => rfl⟩
    obtain ⟨k, hk, hk'⟩ := hne
    simp only [hk, hl] at h1
    refine (fpushq_ok G q k i _ s t _ (by omega) (by omega) h1 hi).mono fun v G' hv => ?_
    obtain ⟨rfl, j, hj, g1, g2, g3, g4⟩ := hv
    refine ⟨rfl, j, hj, ⟨⟨.gptr j 0, ?_, fun y hy => ?_⟩, ?_⟩, fun z y hz hzq hzl => g4 z y hz hzq ?_⟩
    · simp only [hk' j]
      rw [g1]
      simp
      omega
    · simp at hy
      subst hy
      rfl
    · simp only [List.append_assoc, List.cons_append, List.nil_append]
      refine seg_push h3 g2 g3 fun z y hz hy => g4 z y hy ?_ ?_
      · rintro rfl
        have : z ∈ (pre ++ [(i, t)]).map (·.1) := by simp only [List.map_append, List.mem_append]; exact .inl hz
        obtain ⟨u, x, hx⟩ := seg_two h3 this
        simp [h1] at hx
      · rintro rfl
        simp only [List.map_append, List.map_cons, List.map_nil] at hd
        exact (List.nodup_append.1 hd).2.2 z hz z (by simp) rfl
    · rintro rfl
      exact hzl (by simp)
def HallG (G : Glob) (b : Nat) (mv : AV) (n : Int) (l : FiL) : Prop :=
  StG G b mv n (bk fav l) ∧ (l.map (·.1)).Nodup ∧ (∀ e ∈ l, e.2.2 ≠ [] ∧ QueG G e.2 ∧ (e.2.2.map (·.1)).Nodup ∧ e.2.2.length ≤ 4611686018427387904) ∧ ∀ e ∈ l, ∀ e' ∈ l, e.1 ≠ e'.1 → e.2.1 ≠ e'.2.1 ∧ ∀ z ∈ e.2.2.map (·.1), z ∉ e'.2.2.map (·.1)
theorem que_box {G : Glob} {x : Qu} {i : Nat} (h : QueG G x) (hi : i = x.1 ∨ i ∈ x.2.map (·.1)) : (∃ a b c, G i = some (.cells [a, b, c])) ∨ ∃ t y, G i = some (.cells [.str t, y]) := by
  rcases hi with rfl | hi
  · obtain ⟨⟨lp, h1, -⟩, -⟩ := h
    exact .inl ⟨_, _, _, h1⟩
  · exact .inr (seg_two h.2 hi)
theorem que_some {G : Glob} {x : Qu} {i : Nat} (h : QueG G x) (hi : i = x.1 ∨ i ∈ x.2.map (·.1)) : ∃ y, G i = some y := by
  rcases que_box h hi with ⟨a, b, c, h⟩ | ⟨t, y, h⟩ <;> exact ⟨_, h⟩
theorem que_off {G : Glob} {x y : Qu} (h : QueG G x) (h' : QueG G y) : x.1 ∉ y.2.map (·.1) := by
  intro hm
  obtain ⟨⟨lp, h1, -⟩, -⟩ := h
  obtain ⟨t, u, h2⟩ := seg_two h'.2 hm
  simp [h1] at h2
theorem bk_put_fav (l : FiL) (k : ByteArray) (x : Qu) (r : List (Nat × ByteArray)) (h : lget l k = some x) : bk fav l = bk fav (lput l k (x.1, r)) := by
  induction l with
  | nil => cases h
  | cons a l ih =>
    obtain ⟨z, y⟩ := a
    by_cases hz : k = z
    · subst hz
      simp only [lget, decide_true, Option.some.injEq] at h
      subst h
      simp [lput, bk, fav]
    · simp only [lget, hz, decide_false] at h
      have := ih h
      simp only [lput, hz, decide_false]
      simp only [bk, List.map_cons] at this ⊢
      rw [this]
theorem lget_del {α : Type} {k : ByteArray} : ∀ {l : List (ByteArray × α)}, (l.map (·.1)).Nodup → lget (ldel l k) k = none
  | [], _ => rfl
  | (z, y) :: r, hn => by
    simp only [List.map_cons, List.nodup_cons] at hn
    by_cases hz : k = z
    · subst hz
      simp only [ldel, decide_true]
      cases h : lget r k with
      | none => rfl
      | some x => exact absurd (List.mem_map.2 ⟨_, lget_mem h, rfl⟩) hn.1
    · simp only [ldel, hz, decide_false, lget]
      exact lget_del hn.2
end Go.Proofs.YtpihanlillbhkaaGreatDoor
end

section
/- fifo.Names in the model and in the abstract run. -/
set_option maxRecDepth 100000
namespace Go.Proofs.YtpihanlillbhkaaGreatDoor
open Go Go.RowKit Go.Proofs Go.Maps Go.Sort

end Go.Proofs.YtpihanlillbhkaaGreatDoor
end

section
/- A hall by its queues' texts. -/
set_option maxRecDepth 100000
set_option linter.unusedSimpArgs false
namespace Go.Proofs.YtpihanlillbhkaaGreatDoor
open Go Go.RowKit Go.Proofs

def fT (l : FiL) (k : ByteArray) : List ByteArray := match lget l k with | some x => x.2.map (·.2) | none => []
def qT (e : ByteArray × Qu) : Nat := 16 + e.1.size + (e.2.2.map fun x => 16 + x.2.size).sum
def totF (l : FiL) : Nat := (l.map qT).sum
theorem lget_del_ne {α : Type} {k z : ByteArray} (hz : z ≠ k) : ∀ (l : List (ByteArray × α)), lget (ldel l k) z = lget l z
  | [] => rfl
  | (y, x) :: r => by
    by_cases h : k = y
    · subst h
      simp [ldel, lget, hz]
    · simp only [ldel, h, decide_false, lget, lget_del_ne hz r]
theorem fT_put (l : FiL) (k : ByteArray) (x : Qu) : fT (lput l k x) k = x.2.map (·.2) := by unfold fT; rw [lget_put_same]
theorem fT_put_ne (l : FiL) {k z : ByteArray} (x : Qu) (hz : z ≠ k) : fT (lput l k x) z = fT l z := by unfold fT; rw [lget_put_ne hz]
theorem totF_put (l : FiL) (k : ByteArray) (x : Qu) : (totF (lput l k x) : Nat) + (match lget l k with | some y => qT (k, y) | none => 0) = totF l + qT (k, x) := by
  induction l with
  | nil => simp [totF, lput, lget]
  | cons a r ih =>
    obtain ⟨z, y⟩ := a
    by_cases h : k = z
    · subst h
      simp [totF, lput, lget]; omega
    · simp only [totF, lput, h, decide_false, List.map_cons, List.sum_cons, lget] at ih ⊢
      omega
theorem totF_del (l : FiL) (k : ByteArray) (y : Qu) (h : lget l k = some y) : totF (ldel l k) + qT (k, y) = totF l := by
  induction l with
  | nil => cases h
  | cons a r ih =>
    obtain ⟨z, x⟩ := a
    by_cases hz : k = z
    · subst hz
      simp only [lget, decide_true, Option.some.injEq] at h
      subst h
      simp [totF, ldel]; omega
    · simp only [lget, hz, decide_false] at h
      have := ih h
      simp only [totF, ldel, hz, decide_false, List.map_cons, List.sum_cons] at this ⊢
      omega
theorem len_lput {α : Type} (k : ByteArray) (v : α) : ∀ (m : List (ByteArray × α)), (lput m k v).length ≤ m.length + 1
  | [] => by simp [lput]
  | (z, y) :: r => by
    by_cases hz : k = z
    · simp [lput, hz]
    · have := len_lput k v r
      simp only [lput, hz, decide_false, List.length_cons]
      omega
end Go.Proofs.YtpihanlillbhkaaGreatDoor
end

section
/- fifo, at its place within a partition. Printed by genpart2.py. -/
set_option maxRecDepth 100000
set_option linter.unusedSimpArgs false
set_option linter.unusedVariables false
namespace Go.Proofs.YtpihanlillbhkaaGreatDoor
open Go Go.RowKit Go.Proofs

def HallP (s : Oth) (G : Glob) (b : Nat) (mv : AV) (n : Int) (l : FiL) : Prop :=
  StQ s G b mv n (bk fav l) ∧ (l.map (·.1)).Nodup ∧ (∀ e ∈ l, e.2.2 ≠ [] ∧ QueG G e.2 ∧ (e.2.2.map (·.1)).Nodup ∧ e.2.2.length ≤ 4611686018427387904) ∧ ∀ e ∈ l, ∀ e' ∈ l, e.1 ≠ e'.1 → e.2.1 ≠ e'.2.1 ∧ ∀ z ∈ e.2.2.map (·.1), z ∉ e'.2.2.map (·.1)
/-- nothing has turned but the box, its map and one queue -/
def Kq (G G' : Glob) (b : Nat) (mv : AV) (l : FiL) (k : ByteArray) : Prop := ∀ i y, G i = some y → i ≠ b → mv ≠ .mp i → (∀ x, lget l k = some x → i ≠ x.1 ∧ i ∉ x.2.map (·.1)) → G' i = some y

theorem Pffind_ok {s : Oth} (G : Glob) (b : Nat) (mv : AV) (n : Int) (l : FiL) (k : ByteArray) (h : StQ s G b mv n (bk fav l)) : CallOk Tryz.prog TT 74 [.gptr b 4, .str k] G (fun v G' => v = ffind l k ∧ G' = G) := by
  obtain ⟨h1, ⟨rfl, hl⟩ | ⟨mb, rfl, h2⟩⟩ := h
  · cases fbk_nil hl
    refine call_body tt_ok Tryz.func74 rfl (by kernel_rfl) Tryz.ntmps74 Tryz.results74 ?_; conv => whnf
    repeat' (first | ((first | refine BS_t (by assumption) ?_ | refine BS_f (by assumption) ?_ | refine atG (by repeat (first | assumption | exact setG_same _ _ _ | refine atNe (by first | assumption | exact Ne.symm (by assumption)) ?_)) ?_ | refine nthKi (by assumption) ?_ | refine ⟨_, ⟨(by omega), (by assumption)⟩, ?_⟩ | refine And.intro (by first | decide | omega) ?_); conv => whnf) | fail)
    exact ⟨_, fun _ _ h => h, rfl, rfl⟩
  · refine call_body tt_ok Tryz.func74 rfl (by kernel_rfl) Tryz.ntmps74 Tryz.results74 ?_; conv => whnf
    repeat' (first | ((first | refine BS_t (by assumption) ?_ | refine BS_f (by assumption) ?_ | refine atG (by repeat (first | assumption | exact setG_same _ _ _ | refine atNe (by first | assumption | exact Ne.symm (by assumption)) ?_)) ?_ | refine nthKi (by assumption) ?_ | refine ⟨_, ⟨(by omega), (by assumption)⟩, ?_⟩ | refine And.intro (by first | decide | omega) ?_); conv => whnf) | fail)
    refine ⟨_, h2, _, bk_get fav k l, ?_⟩
    unfold ffind
    cases lget l k with
    | some v =>
      repeat' (first | ((first | refine BS_t (by assumption) ?_ | refine BS_f (by assumption) ?_ | refine atG (by repeat (first | assumption | exact setG_same _ _ _ | refine atNe (by first | assumption | exact Ne.symm (by assumption)) ?_)) ?_ | refine nthKi (by assumption) ?_ | refine ⟨_, ⟨(by omega), (by assumption)⟩, ?_⟩ | refine And.intro (by first | decide | omega) ?_); conv => whnf) | fail)
      exact ⟨_, fun _ _ h => h, rfl, rfl⟩
    | none =>
      repeat' (first | ((first | refine BS_t (by assumption) ?_ | refine BS_f (by assumption) ?_ | refine atG (by repeat (first | assumption | exact setG_same _ _ _ | refine atNe (by first | assumption | exact Ne.symm (by assumption)) ?_)) ?_ | refine nthKi (by assumption) ?_ | refine ⟨_, ⟨(by omega), (by assumption)⟩, ?_⟩ | refine And.intro (by first | decide | omega) ?_); conv => whnf) | fail)
      exact ⟨_, fun _ _ h => h, rfl, rfl⟩
theorem Pfgrows_ok {s : Oth} (G : Glob) (b : Nat) (mv : AV) (n : Int) (l : FiL) (k v : ByteArray) (hk : k.size ≤ 140737488351232) (hv : v.size ≤ 140737488351232) (h : StQ s G b mv n (bk fav l)) : CallOk Tryz.prog TT 87 [.gptr b 4, .str k, .str v] G (fun x G' => x = .int .i64 (fgrow l k v) ∧ G' = G) := by
  have hg := Pffind_ok G b mv n l k h
  unfold ffind at hg
  unfold fgrow
  cases hq : lget l k with
  | some w =>
    simp only [hq] at hg
    refine call_body tt_ok Tryz.func87 rfl (by kernel_rfl) Tryz.ntmps87 Tryz.results87 ?_; conv => whnf
    refine hg.on ?_; conv => whnf
    repeat' (first | ((first | refine BS_t (by assumption) ?_ | refine BS_f (by assumption) ?_ | refine atG (by repeat (first | assumption | exact setG_same _ _ _ | refine atNe (by first | assumption | exact Ne.symm (by assumption)) ?_)) ?_ | refine nthKi (by assumption) ?_ | refine ⟨_, ⟨(by omega), (by assumption)⟩, ?_⟩ | refine And.intro (by first | decide | omega) ?_); conv => whnf) | fail)
    refine ⟨_, fun _ _ h => h, ?_, rfl⟩
    rw [IntWalk.i64_in (16 + (v.size : Int)) (by omega)]
  | none =>
    simp only [hq] at hg
    refine call_body tt_ok Tryz.func87 rfl (by kernel_rfl) Tryz.ntmps87 Tryz.results87 ?_; conv => whnf
    refine hg.on ?_; conv => whnf
    repeat' (first | ((first | refine BS_t (by assumption) ?_ | refine BS_f (by assumption) ?_ | refine atG (by repeat (first | assumption | exact setG_same _ _ _ | refine atNe (by first | assumption | exact Ne.symm (by assumption)) ?_)) ?_ | refine nthKi (by assumption) ?_ | refine ⟨_, ⟨(by omega), (by assumption)⟩, ?_⟩ | refine And.intro (by first | decide | omega) ?_); conv => whnf) | fail)
    refine ⟨_, fun _ _ h => h, ?_, rfl⟩
    rw [IntWalk.i64_in (16 + (v.size : Int)) (by omega), IntWalk.i64_in (16 + (k.size : Int)) (by omega), IntWalk.i64_in _ (by omega)]
theorem Pfwaits_ok {s : Oth} (G : Glob) (b : Nat) (mv : AV) (n : Int) (l : FiL) (k : ByteArray) (h : StQ s G b mv n (bk fav l)) (hl : ∀ x, lget l k = some x → QueG G x) : CallOk Tryz.prog TT 39 [.gptr b 4, .str k] G (fun x G' => x = .int .i64 (match lget l k with | some x => (x.2.length : Int) | none => 0) ∧ G' = G) := by
  have hg := Pffind_ok G b mv n l k h
  unfold ffind at hg
  cases hq : lget l k with
  | some w =>
    obtain ⟨⟨lp, h1, -⟩, -⟩ := hl w hq
    simp only [hq] at hg
    refine call_body tt_ok Tryz.func39 rfl (by kernel_rfl) Tryz.ntmps39 Tryz.results39 ?_; conv => whnf
    refine hg.on ?_; conv => whnf
    repeat' (first | ((first | refine BS_t (by assumption) ?_ | refine BS_f (by assumption) ?_ | refine atG (by repeat (first | assumption | exact setG_same _ _ _ | refine atNe (by first | assumption | exact Ne.symm (by assumption)) ?_)) ?_ | refine nthKi (by assumption) ?_ | refine ⟨_, ⟨(by omega), (by assumption)⟩, ?_⟩ | refine And.intro (by first | decide | omega) ?_); conv => whnf) | fail)
    exact ⟨_, fun _ _ h => h, rfl, rfl⟩
  | none =>
    simp only [hq] at hg
    refine call_body tt_ok Tryz.func39 rfl (by kernel_rfl) Tryz.ntmps39 Tryz.results39 ?_; conv => whnf
    refine hg.on ?_; conv => whnf
    repeat' (first | ((first | refine BS_t (by assumption) ?_ | refine BS_f (by assumption) ?_ | refine atG (by repeat (first | assumption | exact setG_same _ _ _ | refine atNe (by first | assumption | exact Ne.symm (by assumption)) ?_)) ?_ | refine nthKi (by assumption) ?_ | refine ⟨_, ⟨(by omega), (by assumption)⟩, ?_⟩ | refine And.intro (by first | decide | omega) ?_); conv => whnf) | fail)
    exact ⟨_, fun _ _ h => h, rfl, rfl⟩
theorem Phall_put {s : Oth} {G G' : Glob} {b : Nat} {mv mv' : AV} {n n' : Int} {l : FiL} {k : ByteArray} {x : Qu} (h : HallP s G b mv n l) (h1 : StQ s G' b mv' n' (bk fav (lput l k x))) (h2 : x.2 ≠ [] ∧ QueG G' x ∧ (x.2.map (·.1)).Nodup ∧ x.2.length ≤ 4611686018427387904)
    (h3 : ∀ e ∈ l, e.1 ≠ k → QueG G' e.2) (h4 : ∀ e ∈ l, e.1 ≠ k → e.2.1 ≠ x.1 ∧ ∀ z ∈ e.2.2.map (·.1), z ∉ x.2.map (·.1)) : HallP s G' b mv' n' (lput l k x) := by
  obtain ⟨-, a2, a3, a4⟩ := h
  refine ⟨h1, nodup_lput k x l a2, fun e he => ?_, fun e he e' he' hne => ?_⟩
  · rcases mem_lput l a2 he with rfl | ⟨he, hk⟩
    · exact h2
    · obtain ⟨b1, -, b3⟩ := a3 e he
      exact ⟨b1, h3 e he hk, b3⟩
  · rcases mem_lput l a2 he with rfl | ⟨he, hk⟩ <;> rcases mem_lput l a2 he' with rfl | ⟨he', hk'⟩
    · exact absurd rfl hne
    · obtain ⟨c1, c2⟩ := h4 e' he' hk'
      exact ⟨fun q => c1 q.symm, fun z hz hz' => c2 z hz' hz⟩
    · exact h4 e he hk
    · exact a4 e he e' he' hne
theorem Phall_keep {s : Oth} {G G' : Glob} {b : Nat} {mv : AV} {n : Int} {l : FiL} {k : ByteArray} (h : HallP s G b mv n l)
    (hf : ∀ i y, G i = some y → i ≠ b → mv ≠ .mp i → (∀ x, lget l k = some x → i ≠ x.1 ∧ i ∉ x.2.map (·.1)) → G' i = some y) : ∀ e ∈ l, e.1 ≠ k → QueG G' e.2 := by
  obtain ⟨⟨b1, b2⟩, a2, a3, a4⟩ := id h
  refine fun e he hk => que_mono (a3 e he).2.1 fun i y hi hy => hf i y hy ?_ ?_ fun z hz => ?_
  · rintro rfl
    rcases que_box (a3 e he).2.1 hi with ⟨_, _, _, hq⟩ | ⟨_, _, hq⟩ <;> simp [b1] at hq
  · rintro rfl
    rcases b2 with ⟨h, -⟩ | ⟨mb, h, b2⟩
    · cases h
    · cases h
      rcases que_box (a3 e he).2.1 hi with ⟨_, _, _, hq⟩ | ⟨_, _, hq⟩ <;> simp [b2] at hq
  · have hm := lget_mem hz
    have c := a4 e he _ hm hk
    rcases hi with rfl | hi
    · exact ⟨c.1, que_off (a3 e he).2.1 (a3 _ hm).2.1⟩
    · refine ⟨?_, c.2 i hi⟩
      rintro rfl
      exact que_off (a3 _ hm).2.1 (a3 e he).2.1 hi
theorem Phall_del {s : Oth} {G G' : Glob} {b : Nat} {mv mv' : AV} {n n' : Int} {l : FiL} {k : ByteArray} (h : HallP s G b mv n l) (h1 : StQ s G' b mv' n' (bk fav (ldel l k)))
    (hf : ∀ i y, G i = some y → i ≠ b → mv ≠ .mp i → (∀ x, lget l k = some x → i ≠ x.1 ∧ i ∉ x.2.map (·.1)) → G' i = some y) : HallP s G' b mv' n' (ldel l k) := by
  obtain ⟨-, a2, a3, a4⟩ := id h
  refine ⟨h1, nodup_ldel k l a2, fun e he => ?_, fun e he e' he' hne => ?_⟩
  · obtain ⟨he, hk⟩ := mem_ldel l a2 he
    obtain ⟨c1, -, c3⟩ := a3 e he
    exact ⟨c1, Phall_keep h hf e he hk, c3⟩
  · exact a4 e (mem_ldel l a2 he).1 e' (mem_ldel l a2 he').1 hne
theorem Phall_turn {s : Oth} {G G' : Glob} {b : Nat} {mv mv' : AV} {n n' : Int} {l : FiL} {k : ByteArray} {x : Qu} (h : HallP s G b mv n l) (h1 : StQ s G' b mv' n' (bk fav (lput l k x))) (h2 : x.2 ≠ [] ∧ QueG G' x ∧ (x.2.map (·.1)).Nodup ∧ x.2.length ≤ 4611686018427387904)
    (hf : ∀ i y, G i = some y → i ≠ b → mv ≠ .mp i → (∀ x, lget l k = some x → i ≠ x.1 ∧ i ∉ x.2.map (·.1)) → G' i = some y)
    (h3 : G x.1 = none ∨ ∃ y, lget l k = some y ∧ x.1 = y.1) (h4 : ∀ z ∈ x.2.map (·.1), G z = none ∨ ∃ y, lget l k = some y ∧ z ∈ y.2.map (·.1)) : HallP s G' b mv' n' (lput l k x) := by
  obtain ⟨⟨b1, b2⟩, a2, a3, a4⟩ := id h
  refine Phall_put h h1 h2 (Phall_keep h hf) fun e he hk => ⟨?_, fun z hz hz' => ?_⟩
  · intro hq
    rcases h3 with h3 | ⟨y, hy, h3⟩
    · obtain ⟨u, hu⟩ := que_some (a3 e he).2.1 (.inl rfl)
      rw [hq, h3] at hu
      cases hu
    · exact (a4 e he _ (lget_mem hy) hk).1 (hq.trans h3)
  · rcases h4 z hz' with h4 | ⟨y, hy, h4⟩
    · obtain ⟨u, hu⟩ := que_some (a3 e he).2.1 (.inr hz)
      rw [h4] at hu
      cases hu
    · exact (a4 e he _ (lget_mem hy) hk).2 z hz h4
theorem Phall_turn2 {s : Oth} {G G' : Glob} {b : Nat} {mv mv' : AV} {n n' : Int} {l : FiL} {k : ByteArray} {x : Qu} (h : HallP s G b mv n l) (h1 : StQ s G' b mv' n' (bk fav (lput l k x))) (h2 : x.2 ≠ [] ∧ QueG G' x ∧ (x.2.map (·.1)).Nodup ∧ x.2.length ≤ 4611686018427387904)
    (hf : Kq G G' b mv l k)
    (h3 : G x.1 = none ∨ ∃ y, lget l k = some y ∧ x.1 = y.1) (h4 : ∀ z ∈ x.2.map (·.1), G z = none ∨ ∃ y, lget l k = some y ∧ z ∈ y.2.map (·.1)) : HallP s G' b mv' n' (lput l k x) ∧ Kq G G' b mv l k := ⟨Phall_turn h h1 h2 hf h3 h4, hf⟩
theorem Phall_del2 {s : Oth} {G G' : Glob} {b : Nat} {mv mv' : AV} {n n' : Int} {l : FiL} {k : ByteArray} (h : HallP s G b mv n l) (h1 : StQ s G' b mv' n' (bk fav (ldel l k)))
    (hf : Kq G G' b mv l k) : HallP s G' b mv' n' (ldel l k) ∧ Kq G G' b mv l k := ⟨Phall_del h h1 hf, hf⟩
theorem Pfpush_ok {s : Oth} (G : Glob) (b : Nat) (mv : AV) (n : Int) (l : FiL) (k v : ByteArray) (hk : k.size ≤ 140737488351232) (hv : v.size ≤ 140737488351232) (n0 : 0 ≤ n) (n1 : n ≤ 4611686018427387904) (h : HallP s G b mv n l) (hc : ∀ x, lget l k = some x → x.2.length < 4611686018427387904) :
    CallOk Tryz.prog TT 89 [.gptr b 4, .str k, .str v] G (fun x G' => x = .tup [] ∧ ∃ mv' j q, (mv' = mv ∨ mv = .nilm ∧ ∃ mb, G mb = none ∧ mv' = .mp mb) ∧ HallP s G' b mv' (n + fgrow l k v) (lput l k (match lget l k with | some x => (x.1, x.2 ++ [(j, v)]) | none => (q, [(j, v)]))) ∧ Kq G G' b mv l k) := by
  have hg := Pfgrows_ok G b mv n l k v hk hv h.1
  have hw : IntKind.i64.wrap (n + fgrow l k v) = n + fgrow l k v := IntWalk.i64_in _ (by
    unfold fgrow
    split <;> omega)
  obtain ⟨⟨h1, h2⟩, a2, a3, a4⟩ := id h
  rcases h2 with ⟨rfl, hl⟩ | ⟨mb, rfl, h2⟩
  · cases fbk_nil hl
    refine call_sem tt_ok Tryz.func89 rfl (by kernel_rfl) Tryz.ntmps89 Tryz.results89 ?_; conv => whnf
    repeat' (first | ((first | refine Sem.st tt_ok rfl ?_ | refine BS_t (by assumption) ?_ | refine BS_f (by assumption) ?_ | refine atG (by repeat (first | assumption | exact setG_same _ _ _ | refine atNe (by first | assumption | exact Ne.symm (by assumption)) ?_)) ?_ | refine nthKi (by assumption) ?_ | refine ⟨_, ⟨(by omega), (by assumption)⟩, ?_⟩ | refine And.intro (by first | decide | omega) ?_); conv => whnf) | refine Sem.seqS ?_ | refine Sem.block ?_)
    refine draw_sound (eff := []) tt_ok (by kernel_rfl) (by kernel_rfl) ?_; conv => whnf
    repeat' (first | ((first | refine BS_t (by assumption) ?_ | refine BS_f (by assumption) ?_ | refine atG (by repeat (first | assumption | exact setG_same _ _ _ | refine atNe (by first | assumption | exact Ne.symm (by assumption)) ?_)) ?_ | refine nthKi (by assumption) ?_ | refine ⟨_, ⟨(by omega), (by assumption)⟩, ?_⟩ | refine And.intro (by first | decide | omega) ?_); conv => whnf) | fail)
    refine ⟨_, _, hg, ?_⟩; (conv => whnf); refine And.intro rfl ?_; conv => whnf
    repeat' (first | ((first | refine BS_t (by assumption) ?_ | refine BS_f (by assumption) ?_ | refine atG (by repeat (first | assumption | exact setG_same _ _ _ | refine atNe (by first | assumption | exact Ne.symm (by assumption)) ?_)) ?_ | refine nthKi (by assumption) ?_ | refine ⟨_, ⟨(by omega), (by assumption)⟩, ?_⟩ | refine And.intro (by first | decide | omega) ?_); conv => whnf) | fail)
    rw [hw]
    repeat' (first | ((first | refine Sem.st tt_ok rfl ?_ | refine BS_t (by assumption) ?_ | refine BS_f (by assumption) ?_ | refine atG (by repeat (first | assumption | exact setG_same _ _ _ | refine atNe (by first | assumption | exact Ne.symm (by assumption)) ?_)) ?_ | refine nthKi (by assumption) ?_ | refine ⟨_, ⟨(by omega), (by assumption)⟩, ?_⟩ | refine And.intro (by first | decide | omega) ?_); conv => whnf) | refine Sem.seqS ?_ | refine Sem.block ?_)
    intro mb hmb
    conv => whnf
    have hne : mb ≠ b := by rintro rfl; simp [setG_same] at hmb
    repeat' (first | ((first | refine Sem.st tt_ok rfl ?_ | refine BS_t (by assumption) ?_ | refine BS_f (by assumption) ?_ | refine atG (by repeat (first | assumption | exact setG_same _ _ _ | refine atNe (by first | assumption | exact Ne.symm (by assumption)) ?_)) ?_ | refine nthKi (by assumption) ?_ | refine ⟨_, ⟨(by omega), (by assumption)⟩, ?_⟩ | refine And.intro (by first | decide | omega) ?_); conv => whnf) | refine Sem.seqS ?_ | refine Sem.block ?_)
    refine Exists.intro _ (And.intro (by repeat (first | assumption | exact setG_same _ _ _ | refine atNe (by first | assumption | exact Ne.symm (by assumption)) ?_)) ?_); conv => whnf
    refine ⟨_, rfl, ?_⟩; conv => whnf
    repeat' (first | ((first | refine Sem.st tt_ok rfl ?_ | refine BS_t (by assumption) ?_ | refine BS_f (by assumption) ?_ | refine atG (by repeat (first | assumption | exact setG_same _ _ _ | refine atNe (by first | assumption | exact Ne.symm (by assumption)) ?_)) ?_ | refine nthKi (by assumption) ?_ | refine ⟨_, ⟨(by omega), (by assumption)⟩, ?_⟩ | refine And.intro (by first | decide | omega) ?_); conv => whnf) | refine Sem.seqS ?_ | refine Sem.block ?_)
    intro q hq
    conv => whnf
    have hqb : q ≠ b := by rintro rfl; simp [setG_same] at hq
    have hqm : q ≠ mb := by rintro rfl; simp [setG_ne _ _ hqb, setG_same] at hq
    refine Exists.intro _ (And.intro (by repeat (first | assumption | exact setG_same _ _ _ | refine atNe (by first | assumption | exact Ne.symm (by assumption)) ?_)) ?_); conv => whnf
    repeat' (first | ((first | refine Sem.st tt_ok rfl ?_ | refine BS_t (by assumption) ?_ | refine BS_f (by assumption) ?_ | refine atG (by repeat (first | assumption | exact setG_same _ _ _ | refine atNe (by first | assumption | exact Ne.symm (by assumption)) ?_)) ?_ | refine nthKi (by assumption) ?_ | refine ⟨_, ⟨(by omega), (by assumption)⟩, ?_⟩ | refine And.intro (by first | decide | omega) ?_); conv => whnf) | refine Sem.seqS ?_ | refine Sem.block ?_)
    refine Exists.intro _ (And.intro (by repeat (first | assumption | exact setG_same _ _ _ | refine atNe (by first | assumption | exact Ne.symm (by assumption)) ?_)) ?_); conv => whnf
    refine ⟨_, mget_put_same _ _ (keyB_str k) _, ?_⟩
    conv => whnf
    repeat' (first | ((first | refine Sem.st tt_ok rfl ?_ | refine BS_t (by assumption) ?_ | refine BS_f (by assumption) ?_ | refine atG (by repeat (first | assumption | exact setG_same _ _ _ | refine atNe (by first | assumption | exact Ne.symm (by assumption)) ?_)) ?_ | refine nthKi (by assumption) ?_ | refine ⟨_, ⟨(by omega), (by assumption)⟩, ?_⟩ | refine And.intro (by first | decide | omega) ?_); conv => whnf) | refine Sem.seqS ?_ | refine Sem.block ?_)
    refine (fpushQ _ q [] v (by decide) (by simp) ⟨⟨.nilp, by repeat (first | assumption | exact setG_same _ _ _ | refine atNe (by first | assumption | exact Ne.symm (by assumption)) ?_), fun y hy => by cases hy⟩, trivial⟩).mono fun v G1 hv => ?_
    obtain ⟨rfl, j, hj, hQ, hf⟩ := hv
    conv => whnf
    repeat' (first | ((first | refine Sem.st tt_ok rfl ?_ | refine BS_t (by assumption) ?_ | refine BS_f (by assumption) ?_ | refine atG (by repeat (first | assumption | exact setG_same _ _ _ | refine atNe (by first | assumption | exact Ne.symm (by assumption)) ?_)) ?_ | refine nthKi (by assumption) ?_ | refine ⟨_, ⟨(by omega), (by assumption)⟩, ?_⟩ | refine And.intro (by first | decide | omega) ?_); conv => whnf) | refine Sem.seqS ?_ | refine Sem.block ?_)
    have hmb' : G mb = none := by rwa [setG_ne _ _ hne] at hmb
    have hq' : G q = none := by rwa [setG_ne _ _ hqb, setG_ne _ _ hqm, setG_ne _ _ hqb] at hq
    have hj' : j ≠ b ∧ j ≠ mb ∧ j ≠ q ∧ G j = none := by
      have e1 : j ≠ b := by rintro rfl; simp [setG, hne.symm, hqb.symm] at hj
      have e2 : j ≠ mb := by rintro rfl; simp [setG] at hj
      have e3 : j ≠ q := by rintro rfl; simp [setG, hqm] at hj
      exact ⟨e1, e2, e3, by simpa [setG, e1, e2, e3] using hj⟩
    refine ⟨G1, fun _ _ h => h, rfl, .mp mb, j, q, .inr ⟨rfl, mb, hmb', rfl⟩, Phall_turn2 (x := (q, [(j, v)])) h ⟨hf b _ (by repeat (first | assumption | exact setG_same _ _ _ | refine atNe (by first | assumption | exact Ne.symm (by assumption)) ?_)) hqb.symm (by simp), .inr ⟨mb, rfl, hf mb _ (by repeat (first | assumption | exact setG_same _ _ _ | refine atNe (by first | assumption | exact Ne.symm (by assumption)) ?_)) hqm.symm (by simp)⟩⟩ ⟨by simp, hQ, by simp, by simp⟩ (fun i y hi hb hm _ => hf i y ?_ ?_ (by simp)) (.inl hq') fun z hz => .inl ?_⟩
    · have e2 : i ≠ mb := by rintro rfl; simp [hmb'] at hi
      have e3 : i ≠ q := by rintro rfl; simp [hq'] at hi
      simpa [setG, hb, e2, e3] using hi
    · rintro rfl; simp [hq'] at hi
    · simp at hz; subst hz; exact hj'.2.2.2
  · have hne : mb ≠ b := by rintro rfl; simp [h1] at h2
    refine call_sem tt_ok Tryz.func89 rfl (by kernel_rfl) Tryz.ntmps89 Tryz.results89 ?_; conv => whnf
    repeat' (first | ((first | refine Sem.st tt_ok rfl ?_ | refine BS_t (by assumption) ?_ | refine BS_f (by assumption) ?_ | refine atG (by repeat (first | assumption | exact setG_same _ _ _ | refine atNe (by first | assumption | exact Ne.symm (by assumption)) ?_)) ?_ | refine nthKi (by assumption) ?_ | refine ⟨_, ⟨(by omega), (by assumption)⟩, ?_⟩ | refine And.intro (by first | decide | omega) ?_); conv => whnf) | refine Sem.seqS ?_ | refine Sem.block ?_)
    refine draw_sound (eff := []) tt_ok (by kernel_rfl) (by kernel_rfl) ?_; conv => whnf
    repeat' (first | ((first | refine BS_t (by assumption) ?_ | refine BS_f (by assumption) ?_ | refine atG (by repeat (first | assumption | exact setG_same _ _ _ | refine atNe (by first | assumption | exact Ne.symm (by assumption)) ?_)) ?_ | refine nthKi (by assumption) ?_ | refine ⟨_, ⟨(by omega), (by assumption)⟩, ?_⟩ | refine And.intro (by first | decide | omega) ?_); conv => whnf) | fail)
    refine ⟨_, _, hg, ?_⟩; (conv => whnf); refine And.intro rfl ?_; conv => whnf
    repeat' (first | ((first | refine BS_t (by assumption) ?_ | refine BS_f (by assumption) ?_ | refine atG (by repeat (first | assumption | exact setG_same _ _ _ | refine atNe (by first | assumption | exact Ne.symm (by assumption)) ?_)) ?_ | refine nthKi (by assumption) ?_ | refine ⟨_, ⟨(by omega), (by assumption)⟩, ?_⟩ | refine And.intro (by first | decide | omega) ?_); conv => whnf) | fail)
    rw [hw]
    repeat' (first | ((first | refine Sem.st tt_ok rfl ?_ | refine BS_t (by assumption) ?_ | refine BS_f (by assumption) ?_ | refine atG (by repeat (first | assumption | exact setG_same _ _ _ | refine atNe (by first | assumption | exact Ne.symm (by assumption)) ?_)) ?_ | refine nthKi (by assumption) ?_ | refine ⟨_, ⟨(by omega), (by assumption)⟩, ?_⟩ | refine And.intro (by first | decide | omega) ?_); conv => whnf) | refine Sem.seqS ?_ | refine Sem.block ?_)
    refine ⟨_, (setG_ne _ _ hne).trans h2, _, bk_get fav k l, ?_⟩
    cases hq : lget l k with
    | some x =>
      repeat' (first | ((first | refine Sem.st tt_ok rfl ?_ | refine BS_t (by assumption) ?_ | refine BS_f (by assumption) ?_ | refine atG (by repeat (first | assumption | exact setG_same _ _ _ | refine atNe (by first | assumption | exact Ne.symm (by assumption)) ?_)) ?_ | refine nthKi (by assumption) ?_ | refine ⟨_, ⟨(by omega), (by assumption)⟩, ?_⟩ | refine And.intro (by first | decide | omega) ?_); conv => whnf) | refine Sem.seqS ?_ | refine Sem.block ?_)
      refine Exists.intro _ (And.intro (by repeat (first | assumption | exact setG_same _ _ _ | refine atNe (by first | assumption | exact Ne.symm (by assumption)) ?_)) ?_); conv => whnf
      refine ⟨_, (bk_get fav k l).trans (congrArg _ hq), ?_⟩
      conv => whnf
      repeat' (first | ((first | refine Sem.st tt_ok rfl ?_ | refine BS_t (by assumption) ?_ | refine BS_f (by assumption) ?_ | refine atG (by repeat (first | assumption | exact setG_same _ _ _ | refine atNe (by first | assumption | exact Ne.symm (by assumption)) ?_)) ?_ | refine nthKi (by assumption) ?_ | refine ⟨_, ⟨(by omega), (by assumption)⟩, ?_⟩ | refine And.intro (by first | decide | omega) ?_); conv => whnf) | refine Sem.seqS ?_ | refine Sem.block ?_)
      have hx := a3 _ (lget_mem hq)
      have hm := lget_mem hq
      have xb : ∀ i, (i = x.1 ∨ i ∈ x.2.map (·.1)) → i ≠ b ∧ i ≠ mb := fun i hi => by
        rcases que_box hx.2.1 hi with ⟨_, _, _, e⟩ | ⟨_, _, e⟩
        · exact ⟨fun z => by subst z; simp [h1] at e, fun z => by subst z; simp [h2] at e⟩
        · exact ⟨fun z => by subst z; simp [h1] at e, fun z => by subst z; simp [h2] at e⟩
      refine (fpushQ _ x.1 x.2 v (Nat.le_of_lt (hc x hq)) hx.2.2.1 (que_mono hx.2.1 fun i y hi hy => (setG_ne _ _ (xb i hi).1).trans hy)).mono fun v G1 hv => ?_; obtain ⟨rfl, j, hj, hQ, hf⟩ := hv; conv => whnf
      repeat' (first | ((first | refine Sem.st tt_ok rfl ?_ | refine BS_t (by assumption) ?_ | refine BS_f (by assumption) ?_ | refine atG (by repeat (first | assumption | exact setG_same _ _ _ | refine atNe (by first | assumption | exact Ne.symm (by assumption)) ?_)) ?_ | refine nthKi (by assumption) ?_ | refine ⟨_, ⟨(by omega), (by assumption)⟩, ?_⟩ | refine And.intro (by first | decide | omega) ?_); conv => whnf) | refine Sem.seqS ?_ | refine Sem.block ?_)
      have hjb : j ≠ b := by rintro rfl; simp [setG_same] at hj
      have hj' : G j = none := by rwa [setG_ne _ _ hjb] at hj
      have hxb : b ∉ x.2.map (·.1) := fun hi => (xb b (.inr hi)).1 rfl
      have hxm : mb ∉ x.2.map (·.1) := fun hi => (xb mb (.inr hi)).2 rfl
      refine ⟨G1, fun _ _ h => h, rfl, .mp mb, j, x.1, .inl rfl, Phall_turn2 (x := (x.1, x.2 ++ [(j, v)])) h ⟨hf b _ (by repeat (first | assumption | exact setG_same _ _ _ | refine atNe (by first | assumption | exact Ne.symm (by assumption)) ?_)) (xb _ (.inl rfl)).1.symm hxb, .inr ⟨mb, rfl, ?_⟩⟩ ⟨by simp, hQ, ?_, ?_⟩ (fun i y hi hb hm hx => ?_) (.inr ⟨x, hq, rfl⟩) fun z hz => ?_⟩
      · rw [hf mb _ ((setG_ne _ _ hne).trans h2) (xb _ (.inl rfl)).2.symm hxm]
        rw [bk_put_fav l k x _ hq]
      · rw [List.map_append, List.nodup_append]
        refine ⟨hx.2.2.1, by simp, fun a ha c hc' => ?_⟩
        simp at hc'
        subst hc'
        rintro rfl
        obtain ⟨t, y, hy⟩ := seg_two hx.2.1.2 ha
        simp [hj'] at hy
      · simp; have := hc x hq; omega
      · obtain ⟨c1, c2⟩ := hx x hq
        exact hf i y ((setG_ne _ _ hb).trans hi) c1 c2
      · simp only [List.map_append, List.mem_append] at hz
        rcases hz with hz | hz
        · exact .inr ⟨x, hq, hz⟩
        · simp at hz; subst hz; exact .inl hj'
    | none =>
      repeat' (first | ((first | refine Sem.st tt_ok rfl ?_ | refine BS_t (by assumption) ?_ | refine BS_f (by assumption) ?_ | refine atG (by repeat (first | assumption | exact setG_same _ _ _ | refine atNe (by first | assumption | exact Ne.symm (by assumption)) ?_)) ?_ | refine nthKi (by assumption) ?_ | refine ⟨_, ⟨(by omega), (by assumption)⟩, ?_⟩ | refine And.intro (by first | decide | omega) ?_); conv => whnf) | refine Sem.seqS ?_ | refine Sem.block ?_)
      intro q hq0
      conv => whnf
      have hqb : q ≠ b := by rintro rfl; simp [setG_same] at hq0
      have hqm : q ≠ mb := by rintro rfl; simp [setG_ne _ _ hqb, h2] at hq0
      repeat' (first | ((first | refine Sem.st tt_ok rfl ?_ | refine BS_t (by assumption) ?_ | refine BS_f (by assumption) ?_ | refine atG (by repeat (first | assumption | exact setG_same _ _ _ | refine atNe (by first | assumption | exact Ne.symm (by assumption)) ?_)) ?_ | refine nthKi (by assumption) ?_ | refine ⟨_, ⟨(by omega), (by assumption)⟩, ?_⟩ | refine And.intro (by first | decide | omega) ?_); conv => whnf) | refine Sem.seqS ?_ | refine Sem.block ?_)
      refine Exists.intro _ (And.intro (by repeat (first | assumption | exact setG_same _ _ _ | refine atNe (by first | assumption | exact Ne.symm (by assumption)) ?_)) ?_); conv => whnf
      repeat' (first | ((first | refine Sem.st tt_ok rfl ?_ | refine BS_t (by assumption) ?_ | refine BS_f (by assumption) ?_ | refine atG (by repeat (first | assumption | exact setG_same _ _ _ | refine atNe (by first | assumption | exact Ne.symm (by assumption)) ?_)) ?_ | refine nthKi (by assumption) ?_ | refine ⟨_, ⟨(by omega), (by assumption)⟩, ?_⟩ | refine And.intro (by first | decide | omega) ?_); conv => whnf) | refine Sem.seqS ?_ | refine Sem.block ?_)
      refine Exists.intro _ (And.intro (by repeat (first | assumption | exact setG_same _ _ _ | refine atNe (by first | assumption | exact Ne.symm (by assumption)) ?_)) ?_); conv => whnf
      refine ⟨_, mget_put_same _ _ (keyB_str k) _, ?_⟩
      conv => whnf
      repeat' (first | ((first | refine Sem.st tt_ok rfl ?_ | refine BS_t (by assumption) ?_ | refine BS_f (by assumption) ?_ | refine atG (by repeat (first | assumption | exact setG_same _ _ _ | refine atNe (by first | assumption | exact Ne.symm (by assumption)) ?_)) ?_ | refine nthKi (by assumption) ?_ | refine ⟨_, ⟨(by omega), (by assumption)⟩, ?_⟩ | refine And.intro (by first | decide | omega) ?_); conv => whnf) | refine Sem.seqS ?_ | refine Sem.block ?_)
      refine (fpushQ _ q [] v (by decide) (by simp) ⟨⟨.nilp, by repeat (first | assumption | exact setG_same _ _ _ | refine atNe (by first | assumption | exact Ne.symm (by assumption)) ?_), fun y hy => by cases hy⟩, trivial⟩).mono fun v G1 hv => ?_
      obtain ⟨rfl, j, hj, hQ, hf⟩ := hv
      conv => whnf
      repeat' (first | ((first | refine Sem.st tt_ok rfl ?_ | refine BS_t (by assumption) ?_ | refine BS_f (by assumption) ?_ | refine atG (by repeat (first | assumption | exact setG_same _ _ _ | refine atNe (by first | assumption | exact Ne.symm (by assumption)) ?_)) ?_ | refine nthKi (by assumption) ?_ | refine ⟨_, ⟨(by omega), (by assumption)⟩, ?_⟩ | refine And.intro (by first | decide | omega) ?_); conv => whnf) | refine Sem.seqS ?_ | refine Sem.block ?_)
      have hq' : G q = none := by rwa [setG_ne _ _ hqb] at hq0
      have hj' : j ≠ b ∧ j ≠ mb ∧ j ≠ q ∧ G j = none := by
        have e1 : j ≠ b := by rintro rfl; simp [setG, hne.symm, hqb.symm] at hj
        have e2 : j ≠ mb := by rintro rfl; simp [setG] at hj
        have e3 : j ≠ q := by rintro rfl; simp [setG, hqm] at hj
        exact ⟨e1, e2, e3, by simpa [setG, e1, e2, e3] using hj⟩
      refine ⟨G1, fun _ _ h => h, rfl, .mp mb, j, q, .inl rfl, Phall_turn2 (x := (q, [(j, v)])) h ⟨hf b _ (by repeat (first | assumption | exact setG_same _ _ _ | refine atNe (by first | assumption | exact Ne.symm (by assumption)) ?_)) hqb.symm (by simp), .inr ⟨mb, rfl, ?_⟩⟩ ⟨by simp, hQ, by simp, by simp⟩ (fun i y hi hb hm _ => hf i y ?_ ?_ (by simp)) (.inl hq') fun z hz => .inl ?_⟩
      · rw [hf mb _ (setG_same _ _ _) hqm.symm (by simp)]
        exact congrArg (fun z => some (GB.map none z)) (bk_put fav k (q, [(j, v)]) l)
      · have e2 : i ≠ mb := by rintro rfl; exact hm rfl
        have e3 : i ≠ q := by rintro rfl; simp [hq'] at hi
        simpa [setG, hb, e2, e3] using hi
      · rintro rfl; simp [hq'] at hi
      · simp at hz; subst hz; exact hj'.2.2.2
theorem Pfpop_none {s : Oth} (G : Glob) (b : Nat) (mv : AV) (n : Int) (l : FiL) (k : ByteArray) (h : StQ s G b mv n (bk fav l)) (hq : lget l k = none) : CallOk Tryz.prog TT 91 [.gptr b 4, .str k] G (fun x G' => x = .tup [.str ⟨#[]⟩, .bool false] ∧ G' = G) := by
  have hg := Pffind_ok G b mv n l k h
  unfold ffind at hg
  simp only [hq] at hg
  refine call_body tt_ok Tryz.func91 rfl (by kernel_rfl) Tryz.ntmps91 Tryz.results91 ?_; conv => whnf
  refine hg.on ?_; conv => whnf
  repeat' (first | ((first | refine BS_t (by assumption) ?_ | refine BS_f (by assumption) ?_ | refine atG (by repeat (first | assumption | exact setG_same _ _ _ | refine atNe (by first | assumption | exact Ne.symm (by assumption)) ?_)) ?_ | refine nthKi (by assumption) ?_ | refine ⟨_, ⟨(by omega), (by assumption)⟩, ?_⟩ | refine And.intro (by first | decide | omega) ?_); conv => whnf) | fail)
  exact ⟨_, fun _ _ h => h, rfl, rfl⟩
theorem Pfpush_T {s : Oth} (G : Glob) (b : Nat) (mv : AV) (l : FiL) (k v : ByteArray) (hk : k.size ≤ 140737488351232) (hv : v.size ≤ 140737488351232) (n1 : totF l ≤ 4611686018427387904) (h : HallP s G b mv (totF l) l) (hc : (fT l k).length < 4611686018427387904) :
    CallOk Tryz.prog TT 89 [.gptr b 4, .str k, .str v] G (fun x G' => x = .tup [] ∧ ∃ mv' l', (mv' = mv ∨ mv = .nilm ∧ ∃ mb, G mb = none ∧ mv' = .mp mb) ∧ Kq G G' b mv l k ∧ HallP s G' b mv' (totF l') l' ∧ fT l' k = fT l k ++ [v] ∧ (∀ z, z ≠ k → fT l' z = fT l z) ∧ totF l' ≤ totF l + (32 + v.size + k.size) ∧ l'.length ≤ l.length + 1 ∧ ∀ e ∈ l', e.1 = k ∨ e ∈ l) := by
  refine (Pfpush_ok G b mv (totF l) l k v hk hv (by omega) (by omega) h fun x hx => ?_).mono fun x G' hh => ?_
  · unfold fT at hc
    rw [hx] at hc
    simpa using hc
  obtain ⟨rfl, mv', j, q, hmv, hH, hkq⟩ := hh
  have hp := totF_put l k (match lget l k with | some x => (x.1, x.2 ++ [(j, v)]) | none => (q, [(j, v)]))
  have hn : ((totF l : Nat) : Int) + fgrow l k v = totF (lput l k (match lget l k with | some x => (x.1, x.2 ++ [(j, v)]) | none => (q, [(j, v)]))) := by
    unfold fgrow
    cases hq : lget l k with
    | some y => rw [hq] at hp; simp [qT] at hp ⊢; omega
    | none => rw [hq] at hp; simp [qT] at hp ⊢; omega
  rw [hn] at hH
  refine ⟨rfl, mv', _, hmv, hkq, hH, ?_, fun z hz => fT_put_ne _ _ hz, ?_, len_lput _ _ _, fun e he => ?_⟩
  · rw [fT_put]
    unfold fT
    cases lget l k <;> simp
  · cases hq : lget l k with
    | some y => rw [hq] at hp; simp [qT] at hp ⊢; omega
    | none => rw [hq] at hp; simp [qT] at hp ⊢; omega
  · rcases mem_lput l h.2.1 he with rfl | ⟨he, -⟩
    · exact .inl rfl
    · exact .inr he
theorem Pfpop_T0 {s : Oth} (G : Glob) (b : Nat) (mv : AV) (l : FiL) (k : ByteArray) (h : HallP s G b mv (totF l) l) (hq : fT l k = []) : CallOk Tryz.prog TT 91 [.gptr b 4, .str k] G (fun x G' => x = .tup [.str ⟨#[]⟩, .bool false] ∧ G' = G) := by
  refine Pfpop_none G b mv _ l k h.1 ?_
  cases hl : lget l k with
  | none => rfl
  | some x =>
    obtain ⟨h1, -⟩ := h.2.2.1 _ (lget_mem hl)
    unfold fT at hq
    rw [hl] at hq
    simp at hq
    exact absurd hq h1
theorem Pfpop_ex {s : Oth} (G : Glob) (b : Nat) (mv : AV) (n : Int) (l : FiL) (k t : ByteArray) (q i : Nat) (r : List (Nat × ByteArray)) (hk : k.size ≤ 140737488351232) (ht : t.size ≤ 140737488351232) (n0 : 0 ≤ n) (n1 : n ≤ 4611686018427387904) (h : HallP s G b mv n l) (hq : lget l k = some (q, (i, t) :: r)) :
    ∃ G1, CallOk Tryz.prog TT 91 [.gptr b 4, .str k] G (fun x G' => x = .tup [.str t, .bool true] ∧ G' = G1) ∧ ∃ l', l' = (match r with | [] => ldel l k | _ => lput l k (q, r)) ∧ HallP s G1 b mv (n - fgrow l' k t) l' ∧ Kq G G1 b mv l k := by
  have hg := Pffind_ok G b mv n l k h.1
  unfold ffind at hg
  simp only [hq] at hg
  have hm := lget_mem hq
  obtain ⟨⟨h1, h2⟩, a2, a3, a4⟩ := id h
  rcases h2 with ⟨rfl, hl⟩ | ⟨mb, rfl, h2⟩
  · cases fbk_nil hl
    cases hq
  obtain ⟨-, hQ, hnd, hlen⟩ := a3 _ hm
  have hQ' := id hQ
  obtain ⟨⟨lp, g1, g2⟩, g3, g4⟩ := hQ'
  simp only [nextP] at g1
  simp only [List.length_cons] at g1 hlen
  have hne : mb ≠ b := by rintro rfl; simp [h1] at h2
  have hqb : q ≠ b := by rintro rfl; simp [h1] at g1
  have hqm : q ≠ mb := by rintro rfl; simp [h2] at g1
  have hxb : ∀ z, z = q ∨ z = i ∨ z ∈ r.map (·.1) → z ≠ b ∧ z ≠ mb := fun z hz => by
    rcases que_box hQ (i := z) (by simpa using hz) with ⟨_, _, _, e⟩ | ⟨_, _, e⟩
    · exact ⟨fun y => by subst y; simp [h1] at e, fun y => by subst y; simp [h2] at e⟩
    · exact ⟨fun y => by subst y; simp [h1] at e, fun y => by subst y; simp [h2] at e⟩
  cases r with
  | nil =>
    refine ⟨setG (setG (setG G q (.cells [nextP [], lp, .int .i64 ((([] : List (Nat × ByteArray)).length + 1 : Nat) - 1)])) mb (.map none (mdel (bk fav l) (.str k)))) b (.cells [s.a, s.b, s.c, s.d, .mp mb, .int .i64 (n - fgrow (ldel l k) k t), s.e, s.f]), ?_, _, rfl, Phall_del2 h ⟨setG_same _ _ _, .inr ⟨mb, rfl, (setG_ne _ _ hne).trans ((setG_same _ _ _).trans (congrArg (fun z => some (GB.map none z)) (bk_del fav k l)))⟩⟩ fun z y hz hb hmz hx => ?_⟩
    · refine call_sem tt_ok Tryz.func91 rfl (by kernel_rfl) Tryz.ntmps91 Tryz.results91 ?_; conv => whnf
      repeat' (first | ((first | refine Sem.st tt_ok rfl ?_ | refine BS_t (by assumption) ?_ | refine BS_f (by assumption) ?_ | refine atG (by repeat (first | assumption | exact setG_same _ _ _ | refine atNe (by first | assumption | exact Ne.symm (by assumption)) ?_)) ?_ | refine nthKi (by assumption) ?_ | refine ⟨_, ⟨(by omega), (by assumption)⟩, ?_⟩ | refine And.intro (by first | decide | omega) ?_); conv => whnf) | refine Sem.seqS ?_ | refine Sem.block ?_)
      refine hg.on ?_; conv => whnf
      repeat' (first | ((first | refine Sem.st tt_ok rfl ?_ | refine BS_t (by assumption) ?_ | refine BS_f (by assumption) ?_ | refine atG (by repeat (first | assumption | exact setG_same _ _ _ | refine atNe (by first | assumption | exact Ne.symm (by assumption)) ?_)) ?_ | refine nthKi (by assumption) ?_ | refine ⟨_, ⟨(by omega), (by assumption)⟩, ?_⟩ | refine And.intro (by first | decide | omega) ?_); conv => whnf) | refine Sem.seqS ?_ | refine Sem.block ?_)
      refine (fpopq_ok G q i [] lp t _ (by omega) (by omega) g1 g3).mono fun v G1 hv => ?_; obtain ⟨rfl, rfl⟩ := hv; conv => whnf
      repeat' (first | ((first | refine Sem.st tt_ok rfl ?_ | refine BS_t (by assumption) ?_ | refine BS_f (by assumption) ?_ | refine atG (by repeat (first | assumption | exact setG_same _ _ _ | refine atNe (by first | assumption | exact Ne.symm (by assumption)) ?_)) ?_ | refine nthKi (by assumption) ?_ | refine ⟨_, ⟨(by omega), (by assumption)⟩, ?_⟩ | refine And.intro (by first | decide | omega) ?_); conv => whnf) | refine Sem.seqS ?_ | refine Sem.block ?_)
      have d : (((([] : List (Nat × ByteArray)).length + 1 : Nat) : Int) - 1 == 0) = true := rfl
      rw [d]
      conv => whnf
      repeat' (first | ((first | refine Sem.st tt_ok rfl ?_ | refine BS_t (by assumption) ?_ | refine BS_f (by assumption) ?_ | refine atG (by repeat (first | assumption | exact setG_same _ _ _ | refine atNe (by first | assumption | exact Ne.symm (by assumption)) ?_)) ?_ | refine nthKi (by assumption) ?_ | refine ⟨_, ⟨(by omega), (by assumption)⟩, ?_⟩ | refine And.intro (by first | decide | omega) ?_); conv => whnf) | refine Sem.seqS ?_ | refine Sem.block ?_)
      refine Exists.intro _ (And.intro (by repeat (first | assumption | exact setG_same _ _ _ | refine atNe (by first | assumption | exact Ne.symm (by assumption)) ?_)) ?_); conv => whnf
      repeat' (first | ((first | refine Sem.st tt_ok rfl ?_ | refine BS_t (by assumption) ?_ | refine BS_f (by assumption) ?_ | refine atG (by repeat (first | assumption | exact setG_same _ _ _ | refine atNe (by first | assumption | exact Ne.symm (by assumption)) ?_)) ?_ | refine nthKi (by assumption) ?_ | refine ⟨_, ⟨(by omega), (by assumption)⟩, ?_⟩ | refine And.intro (by first | decide | omega) ?_); conv => whnf) | refine Sem.seqS ?_ | refine Sem.block ?_)
      have s2 : StQ s (setG (setG G q (.cells [nextP [], lp, .int .i64 ((([] : List (Nat × ByteArray)).length + 1 : Nat) - 1)])) mb (.map none (mdel (bk fav l) (.str k)))) b (.mp mb) n (bk fav (ldel l k)) :=
        ⟨by repeat (first | assumption | exact setG_same _ _ _ | refine atNe (by first | assumption | exact Ne.symm (by assumption)) ?_), .inr ⟨mb, rfl, (setG_same _ _ _).trans (congrArg (fun z => some (GB.map none z)) (bk_del fav k l))⟩⟩
      have hg2 := Pfgrows_ok _ b (.mp mb) n (ldel l k) k t hk ht s2
      have hw : IntKind.i64.wrap (n - fgrow (ldel l k) k t) = n - fgrow (ldel l k) k t := IntWalk.i64_in _ (by unfold fgrow; split <;> omega)
      refine draw_sound (eff := []) tt_ok (by kernel_rfl) (by kernel_rfl) ?_; conv => whnf
      repeat' (first | ((first | refine BS_t (by assumption) ?_ | refine BS_f (by assumption) ?_ | refine atG (by repeat (first | assumption | exact setG_same _ _ _ | refine atNe (by first | assumption | exact Ne.symm (by assumption)) ?_)) ?_ | refine nthKi (by assumption) ?_ | refine ⟨_, ⟨(by omega), (by assumption)⟩, ?_⟩ | refine And.intro (by first | decide | omega) ?_); conv => whnf) | fail)
      refine ⟨_, _, hg2, ?_⟩; (conv => whnf); refine And.intro rfl ?_; conv => whnf
      repeat' (first | ((first | refine BS_t (by assumption) ?_ | refine BS_f (by assumption) ?_ | refine atG (by repeat (first | assumption | exact setG_same _ _ _ | refine atNe (by first | assumption | exact Ne.symm (by assumption)) ?_)) ?_ | refine nthKi (by assumption) ?_ | refine ⟨_, ⟨(by omega), (by assumption)⟩, ?_⟩ | refine And.intro (by first | decide | omega) ?_); conv => whnf) | fail)
      rw [hw]
      repeat' (first | ((first | refine Sem.st tt_ok rfl ?_ | refine BS_t (by assumption) ?_ | refine BS_f (by assumption) ?_ | refine atG (by repeat (first | assumption | exact setG_same _ _ _ | refine atNe (by first | assumption | exact Ne.symm (by assumption)) ?_)) ?_ | refine nthKi (by assumption) ?_ | refine ⟨_, ⟨(by omega), (by assumption)⟩, ?_⟩ | refine And.intro (by first | decide | omega) ?_); conv => whnf) | refine Sem.seqS ?_ | refine Sem.block ?_)
      exact ⟨_, fun _ _ h => h, rfl, rfl⟩
    · have c1 : z ≠ q := (hx _ hq).1
      have c2 : z ≠ mb := by rintro rfl; exact hmz rfl
      simpa [setG, hb, c1, c2] using hz
  | cons a r =>
    have hqi : q ∉ (a :: r).map (·.1) := fun hz => que_off hQ hQ (by simp only [List.map_cons, List.mem_cons] at hz ⊢; exact .inr hz)
    refine ⟨setG (setG G q (.cells [nextP (a :: r), lp, .int .i64 (((a :: r).length + 1 : Nat) - 1)])) b (.cells [s.a, s.b, s.c, s.d, .mp mb, .int .i64 (n - fgrow (lput l k (q, a :: r)) k t), s.e, s.f]), ?_, _, rfl, Phall_turn2 (x := (q, a :: r)) h ⟨setG_same _ _ _, .inr ⟨mb, rfl, ?_⟩⟩ ⟨by simp, ⟨⟨lp, ?_, fun y hy => g2 y ?_⟩, seg_mono g4 fun z y hz hy => ?_⟩, ?_, ?_⟩ (fun z y hz hb hmz hx => ?_) (.inr ⟨_, hq, rfl⟩) fun z hz => .inr ⟨_, hq, ?_⟩⟩
    · refine call_sem tt_ok Tryz.func91 rfl (by kernel_rfl) Tryz.ntmps91 Tryz.results91 ?_; conv => whnf
      repeat' (first | ((first | refine Sem.st tt_ok rfl ?_ | refine BS_t (by assumption) ?_ | refine BS_f (by assumption) ?_ | refine atG (by repeat (first | assumption | exact setG_same _ _ _ | refine atNe (by first | assumption | exact Ne.symm (by assumption)) ?_)) ?_ | refine nthKi (by assumption) ?_ | refine ⟨_, ⟨(by omega), (by assumption)⟩, ?_⟩ | refine And.intro (by first | decide | omega) ?_); conv => whnf) | refine Sem.seqS ?_ | refine Sem.block ?_)
      refine hg.on ?_; conv => whnf
      repeat' (first | ((first | refine Sem.st tt_ok rfl ?_ | refine BS_t (by assumption) ?_ | refine BS_f (by assumption) ?_ | refine atG (by repeat (first | assumption | exact setG_same _ _ _ | refine atNe (by first | assumption | exact Ne.symm (by assumption)) ?_)) ?_ | refine nthKi (by assumption) ?_ | refine ⟨_, ⟨(by omega), (by assumption)⟩, ?_⟩ | refine And.intro (by first | decide | omega) ?_); conv => whnf) | refine Sem.seqS ?_ | refine Sem.block ?_)
      refine (fpopq_ok G q i (a :: r) lp t _ (by omega) (by omega) g1 g3).mono fun v G1 hv => ?_; obtain ⟨rfl, rfl⟩ := hv; conv => whnf
      repeat' (first | ((first | refine Sem.st tt_ok rfl ?_ | refine BS_t (by assumption) ?_ | refine BS_f (by assumption) ?_ | refine atG (by repeat (first | assumption | exact setG_same _ _ _ | refine atNe (by first | assumption | exact Ne.symm (by assumption)) ?_)) ?_ | refine nthKi (by assumption) ?_ | refine ⟨_, ⟨(by omega), (by assumption)⟩, ?_⟩ | refine And.intro (by first | decide | omega) ?_); conv => whnf) | refine Sem.seqS ?_ | refine Sem.block ?_)
      have d : ((((a :: r).length + 1 : Nat) : Int) - 1 == 0) = false := by rw [beq_eq_false_iff_ne]; simp only [List.length_cons]; omega
      rw [d]
      conv => whnf
      repeat' (first | ((first | refine Sem.st tt_ok rfl ?_ | refine BS_t (by assumption) ?_ | refine BS_f (by assumption) ?_ | refine atG (by repeat (first | assumption | exact setG_same _ _ _ | refine atNe (by first | assumption | exact Ne.symm (by assumption)) ?_)) ?_ | refine nthKi (by assumption) ?_ | refine ⟨_, ⟨(by omega), (by assumption)⟩, ?_⟩ | refine And.intro (by first | decide | omega) ?_); conv => whnf) | refine Sem.seqS ?_ | refine Sem.block ?_)
      have s2 : StQ s (setG G q (.cells [nextP (a :: r), lp, .int .i64 (((a :: r).length + 1 : Nat) - 1)])) b (.mp mb) n (bk fav (lput l k (q, a :: r))) :=
        ⟨by repeat (first | assumption | exact setG_same _ _ _ | refine atNe (by first | assumption | exact Ne.symm (by assumption)) ?_), .inr ⟨mb, rfl, by rw [← bk_put_fav l k _ (a :: r) hq]; repeat (first | assumption | exact setG_same _ _ _ | refine atNe (by first | assumption | exact Ne.symm (by assumption)) ?_)⟩⟩
      have hg2 := Pfgrows_ok _ b (.mp mb) n (lput l k (q, a :: r)) k t hk ht s2
      have hw : IntKind.i64.wrap (n - fgrow (lput l k (q, a :: r)) k t) = n - fgrow (lput l k (q, a :: r)) k t := IntWalk.i64_in _ (by unfold fgrow; split <;> omega)
      refine draw_sound (eff := []) tt_ok (by kernel_rfl) (by kernel_rfl) ?_; conv => whnf
      repeat' (first | ((first | refine BS_t (by assumption) ?_ | refine BS_f (by assumption) ?_ | refine atG (by repeat (first | assumption | exact setG_same _ _ _ | refine atNe (by first | assumption | exact Ne.symm (by assumption)) ?_)) ?_ | refine nthKi (by assumption) ?_ | refine ⟨_, ⟨(by omega), (by assumption)⟩, ?_⟩ | refine And.intro (by first | decide | omega) ?_); conv => whnf) | fail)
      refine ⟨_, _, hg2, ?_⟩; (conv => whnf); refine And.intro rfl ?_; conv => whnf
      repeat' (first | ((first | refine BS_t (by assumption) ?_ | refine BS_f (by assumption) ?_ | refine atG (by repeat (first | assumption | exact setG_same _ _ _ | refine atNe (by first | assumption | exact Ne.symm (by assumption)) ?_)) ?_ | refine nthKi (by assumption) ?_ | refine ⟨_, ⟨(by omega), (by assumption)⟩, ?_⟩ | refine And.intro (by first | decide | omega) ?_); conv => whnf) | fail)
      rw [hw]
      repeat' (first | ((first | refine Sem.st tt_ok rfl ?_ | refine BS_t (by assumption) ?_ | refine BS_f (by assumption) ?_ | refine atG (by repeat (first | assumption | exact setG_same _ _ _ | refine atNe (by first | assumption | exact Ne.symm (by assumption)) ?_)) ?_ | refine nthKi (by assumption) ?_ | refine ⟨_, ⟨(by omega), (by assumption)⟩, ?_⟩ | refine And.intro (by first | decide | omega) ?_); conv => whnf) | refine Sem.seqS ?_ | refine Sem.block ?_)
      exact ⟨_, fun _ _ h => h, rfl, rfl⟩
    · try dsimp only
      rw [setG_ne _ _ hne, setG_ne _ _ hqm.symm, ← bk_put_fav l k _ (a :: r) hq]
      exact h2
    · try dsimp only
      rw [setG_ne _ _ hqb, setG_same]
      simp
    · simp only [List.getLast?_cons_cons]
      exact hy
    · have c := hxb z (.inr (.inr hz))
      have c1 : z ≠ q := by rintro rfl; exact hqi hz
      simpa [setG, c.1, c1] using hy
    · simp only [List.map_cons, List.nodup_cons] at hnd ⊢
      exact hnd.2
    · simp only [List.length_cons] at hlen ⊢; omega
    · have c1 : z ≠ q := (hx _ hq).1
      simpa [setG, hb, c1] using hz
    · simp only [List.map_cons, List.mem_cons] at hz ⊢; exact .inr hz
theorem Pfpop_X {s : Oth} (G : Glob) (b : Nat) (mv : AV) (l : FiL) (k t : ByteArray) (r : List ByteArray) (hk : k.size ≤ 140737488351232) (ht : t.size ≤ 140737488351232) (n1 : totF l ≤ 4611686018427387904) (h : HallP s G b mv (totF l) l) (hq : fT l k = t :: r) :
    ∃ G1, CallOk Tryz.prog TT 91 [.gptr b 4, .str k] G (fun x G' => x = .tup [.str t, .bool true] ∧ G' = G1) ∧ ∃ l', Kq G G1 b mv l k ∧ HallP s G1 b mv (totF l') l' ∧ fT l' k = r ∧ (∀ z, z ≠ k → fT l' z = fT l z) ∧ totF l' ≤ totF l ∧ l'.length ≤ l.length + 1 ∧ ∀ e ∈ l', e.1 = k ∨ e ∈ l := by
  obtain ⟨q, i, r', hl, rfl⟩ : ∃ q i r', lget l k = some (q, (i, t) :: r') ∧ r'.map (·.2) = r := by
    unfold fT at hq
    cases hl : lget l k with
    | none => rw [hl] at hq; cases hq
    | some x =>
      rw [hl] at hq
      obtain ⟨q, ls⟩ := x
      cases ls with
      | nil => cases hq
      | cons a r' =>
        obtain ⟨i, t'⟩ := a
        simp at hq
        obtain ⟨rfl, h2⟩ := hq
        exact ⟨q, i, r', rfl, h2⟩
  obtain ⟨G1, hcall, l', hl', hH, hkq⟩ := Pfpop_ex G b mv (totF l) l k t q i r' hk ht (by omega) (by omega) h hl
  refine ⟨G1, hcall, ?_⟩
  cases r' with
  | nil =>
    simp only at hl'
    subst hl'
    have hd := totF_del l k _ hl
    have hn : ((totF l : Nat) : Int) - fgrow (ldel l k) k t = totF (ldel l k) := by
      unfold fgrow
      rw [lget_del h.2.1]
      simp [qT] at hd ⊢
      omega
    rw [hn] at hH
    refine ⟨_, hkq, hH, ?_, fun z hz => ?_, by omega, ?_, fun e he => .inr (mem_ldel l h.2.1 he).1⟩
    · unfold fT; rw [lget_del h.2.1]; rfl
    · unfold fT; rw [lget_del_ne hz]
    · have := (ldel_sub k l).length_le
      omega
  | cons a r' =>
    simp only at hl'
    subst hl'
    have hp := totF_put l k (q, a :: r')
    rw [hl] at hp
    have hn : ((totF l : Nat) : Int) - fgrow (lput l k (q, a :: r')) k t = totF (lput l k (q, a :: r')) := by
      unfold fgrow
      rw [lget_put_same]
      simp [qT] at hp ⊢
      omega
    rw [hn] at hH
    refine ⟨_, hkq, hH, fT_put _ _ _, fun z hz => fT_put_ne _ _ hz, ?_, len_lput _ _ _, fun e he => ?_⟩
    · simp [qT] at hp; omega
    · rcases mem_lput l h.2.1 he with rfl | ⟨he, -⟩
      · exact .inl rfl
      · exact .inr he
end Go.Proofs.YtpihanlillbhkaaGreatDoor
end
