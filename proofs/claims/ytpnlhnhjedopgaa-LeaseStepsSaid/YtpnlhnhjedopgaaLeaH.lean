/- lease and the document's layer 29: Take, Free; the steps that are much. -/
import Derived.Test.YtpnlhnhjedopgaaLeaC
import Derived.Test.YtpnlhnhjedopgaaLeaG
set_option maxRecDepth 100000
set_option linter.unusedSimpArgs false
namespace Go.Proofs.Ytpnlhnhjedopgaa
open Go Go.RowKit Go.Proofs

theorem BS_dec {p : Prop} [Decidable p] {A B : Prop} (ha : p → A) (hb : ¬ p → B) : BS (decide p) A B := BS_intro (fun h => ha (of_decide_eq_true h)) (fun h => hb (of_decide_eq_false h))
/-- Take, in words of what all weigh -/
theorem ltakeS (G : Glob) (b : Nat) (mv : AV) (l : LeL) (k v : ByteArray) (t now : Int) (hk : k.size ≤ 140737488351232) (hv : v.size ≤ 140737488351232) (n1 : sizeL l ≤ 4611686018427387904) (h : StG G b mv (sizeL l) (bk lav l)) (ho : ∀ x u, lget l k = some (x, u) → 1 ≤ u ∧ x = v) :
    CallOk Try.prog TT 69 [.gptr b 0, .str k, .str v, .int .i64 t, .int .i64 now] G (fun x G' => x = .bool true ∧ ∃ mv', StG G' b mv' (sizeL (lput l k (v, tillOf t now))) (bk lav (lput l k (v, tillOf t now))) ∧ Kept G G' b mv mv') := by
  have h1 := ltake_ok G b mv _ l k v t now hk hv (by omega) (by omega) h ho
  rw [← sizeL_lput k v (tillOf t now) l (fun x u hx => (ho x u hx).2)] at h1
  exact h1
theorem lfreeS (G : Glob) (b : Nat) (mv : AV) (l : LeL) (k v : ByteArray) (u : Int) (hk : k.size ≤ 140737488351232) (hx : v.size ≤ 140737488351232) (n1 : sizeL l ≤ 4611686018427387904) (h : StG G b mv (sizeL l) (bk lav l)) (hq : lget l k = some (v, u)) :
    CallOk Try.prog TT 71 [.gptr b 0, .str k, .str v] G (fun x G' => x = .bool true ∧ StG G' b mv (sizeL (ldel l k)) (bk lav (ldel l k)) ∧ Kept G G' b mv mv) := by
  have h1 := lfree_ok G b mv _ l k v u hk hx (by omega) (by omega) h hq
  have h2 := sizeL_ldel k hq
  rw [show ((sizeL l : Nat) : Int) - (24 + k.size + v.size) = (sizeL (ldel l k) : Nat) by simp only at h2; omega] at h1
  exact h1
theorem lerow_in {g : Gh} {w : World} {u : Value} {l : LeL} (h : Dz TT g w (.slc 114 (l.map leR)) u) : Row w u l 3 leV := by
  refine dz_row h rfl (by decide) fun x _ => ⟨rfl, fun j c y z hc hy hz => ?_⟩
  match j with
  | 0 => simp only [leR, leV, List.getElem?_cons_zero, Option.some.injEq] at hc hy; subst hc hy; cases hz; rfl
  | 1 => simp only [leR, leV, List.getElem?_cons_zero, List.getElem?_cons_succ, Option.some.injEq] at hc hy; subst hc hy; cases hz; rfl
  | 2 => simp only [leR, leV, List.getElem?_cons_zero, List.getElem?_cons_succ, Option.some.injEq] at hc hy; subst hc hy; cases hz; rfl
  | j + 3 => simp [leR] at hc
theorem lerow_out {g : Gh} {w w' : World} {v : Value} {l : LeL} (h : w'.ownsRow w.heap.size 114 3 v l.length (l.flatMap leV)) : Dz TT (g.still w) w' (.slc 114 (l.map leR)) v := by
  refine own_dz h rfl (by simp) fun i cells hi => ?_
  rw [List.getElem?_map] at hi
  cases hx : l[i]? with
  | none => rw [hx] at hi; cases hi
  | some x =>
    rw [hx] at hi
    simp only [Option.map_some, Option.some.injEq] at hi
    subst hi
    refine ⟨rfl, fun j c hj => ?_⟩
    have key : ∀ j y, (leV x)[j]? = some y → (l.flatMap leV)[i * 3 + j]? = some y := fun j y hy => by
      exact flat_get l i x j y (fun _ _ => rfl) hx hy
    match j with
    | 0 => simp only [leR, List.getElem?_cons_zero, Option.some.injEq] at hj; subst hj; exact ⟨_, key 0 _ rfl, rfl, .str _⟩
    | 1 => simp only [leR, List.getElem?_cons_zero, List.getElem?_cons_succ, Option.some.injEq] at hj; subst hj; exact ⟨_, key 1 _ rfl, rfl, .str _⟩
    | 2 => simp only [leR, List.getElem?_cons_zero, List.getElem?_cons_succ, Option.some.injEq] at hj; subst hj; exact ⟨_, key 2 _ rfl, rfl, .int _ _⟩
    | j + 3 => simp [leR] at hj
theorem delA_split {α : Type} {l : List (ByteArray × α)} (hn : (l.map (·.1)).Nodup) {k : Nat} {z : ByteArray} {v : α} (hx : l[k]? = some (z, v)) : l.take k ++ l.drop (k + 1) = delA l z := by
  obtain ⟨hk, he⟩ := List.getElem?_eq_some_iff.1 hx
  have hs : l = l.take k ++ (z, v) :: l.drop (k + 1) := by
    rw [← he, ← List.drop_eq_getElem_cons hk, List.take_append_drop]
  have hn' := hn
  rw [hs, List.map_append, List.map_cons] at hn'
  have h1 : ∀ x ∈ l.take k, x.1 ≠ z := fun x hx e => by
    have := (List.nodup_append.1 hn').2.2 x.1 (List.mem_map.2 ⟨x, hx, rfl⟩) z (by simp)
    exact this e
  have h2 : ∀ x ∈ l.drop (k + 1), x.1 ≠ z := fun x hx e => by
    have := (List.nodup_cons.1 (List.nodup_append.1 hn').2.1).1
    exact this (List.mem_map.2 ⟨x, hx, e⟩)
  have e1 : (l.take k).filter (fun x => !decide (x.1 = z)) = l.take k := List.filter_eq_self.2 fun x hx => by simp [h1 x hx]
  have e2 : (l.drop (k + 1)).filter (fun x => !decide (x.1 = z)) = l.drop (k + 1) := List.filter_eq_self.2 fun x hx => by simp [h2 x hx]
  unfold delA
  rw [hs, List.filter_append, List.filter_cons_of_neg (by simp)]
  simp only [← hs]
  rw [e1, e2]
def freeV (r : LeL) (z h : ByteArray) : AV := match lget r z with
  | some (x, _) => if x = h then .tup [.slc 114 ((delA r z).map leR), .bool true] else .tup [.slc 114 (r.map leR), .bool false]
  | none => .tup [.slc 114 (r.map leR), .bool false]
theorem free29_ok (r : LeL) (z h : ByteArray) (G : Glob) (hl : r.length ≤ 1048576) (hn : (r.map (·.1)).Nodup) : CallOk Try.prog TT 70 [.slc 114 (r.map leR), .str z, .str h] G (fun v G' => v = freeV r z h ∧ G' = G) := by
  have hf := find29_ok r z G hl
  unfold freeV
  cases hk : findN r z with
  | none =>
    have hg := findN_not hk
    rw [hg]
    have hI : findI r z = -1 := by unfold findI; rw [hk]
    rw [hI] at hf
    refine call_sem tt_ok Try.func70 rfl (by kernel_rfl) Try.ntmps70 Try.results70 ?_; conv => whnf
    repeat' (first | ((first | refine Sem.reg tt_ok ?_ | refine Sem.condS ?_ | refine Sem.regL tt_ok ?_ | refine Sem.skip tt_ok ?_ | refine Sem.exit tt_ok ?_ | refine Sem.ret tt_ok ?_ | refine BS_t (by assumption) ?_ | refine BS_f (by assumption) ?_ | refine atG (by repeat (first | assumption | exact setG_same _ _ _ | refine Eq.trans (setG_ne _ _ (by first | assumption | exact Ne.symm (by assumption))) ?_)) ?_ | refine (nthK_iff _ _).2 ⟨_, (by assumption), ?_⟩ | refine ⟨_, ⟨(by omega), (by assumption)⟩, ?_⟩ | refine And.intro (by first | decide | omega) ?_ | fail); conv => whnf) | refine Sem.seqS ?_ | refine Sem.block ?_ | fail)
    refine hf.on ?_; conv => whnf
    repeat' (first | ((first | refine Sem.reg tt_ok ?_ | refine Sem.condS ?_ | refine Sem.regL tt_ok ?_ | refine Sem.skip tt_ok ?_ | refine Sem.exit tt_ok ?_ | refine Sem.ret tt_ok ?_ | refine BS_t (by assumption) ?_ | refine BS_f (by assumption) ?_ | refine atG (by repeat (first | assumption | exact setG_same _ _ _ | refine Eq.trans (setG_ne _ _ (by first | assumption | exact Ne.symm (by assumption))) ?_)) ?_ | refine (nthK_iff _ _).2 ⟨_, (by assumption), ?_⟩ | refine ⟨_, ⟨(by omega), (by assumption)⟩, ?_⟩ | refine And.intro (by first | decide | omega) ?_ | fail); conv => whnf) | refine Sem.seqS ?_ | refine Sem.block ?_ | fail)
    exact ⟨_, fun _ _ h => h, rfl, rfl⟩
  | some k =>
    obtain ⟨⟨x, u⟩, hx, hg, -⟩ := findN_is hk
    rw [hg]
    have hI : findI r z = (k : Int) := by unfold findI; rw [hk]
    by_cases he : x = h
    · subst he
      simp only [if_true]
      refine CallOk.of_up ⟨_, Try.func70, by decide, rfl⟩ fun g us w hu hd => ?_
      obtain ⟨us⟩ := us
      match us, hu with
      | [u0, u1, u2], _ =>
        have h0 := lerow_in (hd 0 _ _ rfl rfl)
        cases hd 1 _ _ rfl rfl
        cases hd 2 _ _ rfl rfl
        refine (free29_yes _ r z x w h0 hl k u hx hI).mono fun e w' he => ?_
        obtain ⟨u', rfl, h4, h5⟩ := he
        refine ⟨_, rfl, h5, ?_⟩
        rw [← List.length_append, ← List.flatMap_append, delA_split hn hx] at h4
        have h6 := lerow_out (g := g) h4
        refine .tup _ _ rfl fun i c u hc hu => ?_
        match i with
        | 0 => simp at hc hu; subst hc hu; simpa using h6
        | 1 => simp at hc hu; subst hc hu; exact .bool _
        | i + 2 => simp at hc
    · simp only [if_neg he]
      rw [hI] at hf
      have hsm : (r.map leR)[((k : Nat) : Int).toNat]? = some (leR (z, x, u)) := by rw [Int.toNat_natCast, List.getElem?_map, hx]; rfl
      have e0 : decide ((k : Int) < 0) = false := by simp
      have e1 : (!(x.toList == h.toList)) = true := by rw [bl_eq]; simp [he]
      refine call_sem tt_ok Try.func70 rfl (by kernel_rfl) Try.ntmps70 Try.results70 ?_; conv => whnf
      repeat' (first | ((first | refine Sem.reg tt_ok ?_ | refine Sem.condS ?_ | refine Sem.regL tt_ok ?_ | refine Sem.skip tt_ok ?_ | refine Sem.exit tt_ok ?_ | refine Sem.ret tt_ok ?_ | refine BS_t (by assumption) ?_ | refine BS_f (by assumption) ?_ | refine atG (by repeat (first | assumption | exact setG_same _ _ _ | refine Eq.trans (setG_ne _ _ (by first | assumption | exact Ne.symm (by assumption))) ?_)) ?_ | refine (nthK_iff _ _).2 ⟨_, (by assumption), ?_⟩ | refine ⟨_, ⟨(by omega), (by assumption)⟩, ?_⟩ | refine And.intro (by first | decide | omega) ?_ | fail); conv => whnf) | refine Sem.seqS ?_ | refine Sem.block ?_ | fail)
      refine hf.on ?_; conv => whnf
      repeat' (first | ((first | refine Sem.reg tt_ok ?_ | refine Sem.condS ?_ | refine Sem.regL tt_ok ?_ | refine Sem.skip tt_ok ?_ | refine Sem.exit tt_ok ?_ | refine Sem.ret tt_ok ?_ | refine BS_t (by assumption) ?_ | refine BS_f (by assumption) ?_ | refine atG (by repeat (first | assumption | exact setG_same _ _ _ | refine Eq.trans (setG_ne _ _ (by first | assumption | exact Ne.symm (by assumption))) ?_)) ?_ | refine (nthK_iff _ _).2 ⟨_, (by assumption), ?_⟩ | refine ⟨_, ⟨(by omega), (by assumption)⟩, ?_⟩ | refine And.intro (by first | decide | omega) ?_ | fail); conv => whnf) | refine Sem.seqS ?_ | refine Sem.block ?_ | fail)
      exact ⟨_, fun _ _ h => h, rfl, rfl⟩
def takeVL (r : LeL) (z h : ByteArray) (t now : Int) : AV := match lget r z with
  | some (x, _) => if x = h then .tup [.slc 114 ((putA z (h, tillOf t now) r false).map leR), .bool true] else .tup [.slc 114 (r.map leR), .bool false]
  | none => .tup [.slc 114 ((putA z (h, tillOf t now) r false).map leR), .bool true]
set_option maxHeartbeats 2000000 in
theorem take29_ok (r : LeL) (z h : ByteArray) (t now : Int) (G : Glob) (hl : r.length ≤ 1048576) : CallOk Try.prog TT 68 [.slc 114 (r.map leR), .str z, .str h, .int .i64 t, .int .i64 now] G (fun v G' => v = takeVL r z h t now ∧ G' = G) := by
  have hf := find29_ok r z G hl
  unfold takeVL
  cases hk : findN r z with
  | none =>
    have hg := findN_not hk
    rw [hg]
    have hI : findI r z = -1 := by unfold findI; rw [hk]
    rw [hI] at hf
    refine call_sem tt_ok Try.func68 rfl (by kernel_rfl) Try.ntmps68 Try.results68 ?_; conv => whnf
    repeat' (first | ((first | refine Sem.reg tt_ok ?_ | refine Sem.condS ?_ | refine Sem.regL tt_ok ?_ | refine Sem.skip tt_ok ?_ | refine Sem.exit tt_ok ?_ | refine Sem.ret tt_ok ?_ | refine BS_t (by assumption) ?_ | refine BS_f (by assumption) ?_ | refine (nthK_iff _ _).2 ⟨_, (by assumption), ?_⟩ | refine ⟨_, ⟨(by omega), (by assumption)⟩, ?_⟩ | refine And.intro (by first | decide | omega) ?_ | fail); conv => whnf) | refine Sem.seqS ?_ | refine Sem.block ?_ | fail)
    refine hf.on ?_; conv => whnf
    repeat' (first | ((first | refine Sem.reg tt_ok ?_ | refine Sem.condS ?_ | refine Sem.regL tt_ok ?_ | refine Sem.skip tt_ok ?_ | refine Sem.exit tt_ok ?_ | refine Sem.ret tt_ok ?_ | refine BS_t (by assumption) ?_ | refine BS_f (by assumption) ?_ | refine (nthK_iff _ _).2 ⟨_, (by assumption), ?_⟩ | refine ⟨_, ⟨(by omega), (by assumption)⟩, ?_⟩ | refine And.intro (by first | decide | omega) ?_ | fail); conv => whnf) | refine Sem.seqS ?_ | refine Sem.block ?_ | fail)
    iterate 4 (all_goals (try (refine BS_dec (fun _ => ?_) (fun _ => ?_) <;> conv => whnf)); all_goals repeat' (first | ((first | refine Sem.reg tt_ok ?_ | refine Sem.condS ?_ | refine Sem.regL tt_ok ?_ | refine Sem.skip tt_ok ?_ | refine Sem.exit tt_ok ?_ | refine Sem.ret tt_ok ?_ | refine BS_t (by assumption) ?_ | refine BS_f (by assumption) ?_ | refine (nthK_iff _ _).2 ⟨_, (by assumption), ?_⟩ | refine ⟨_, ⟨(by omega), (by assumption)⟩, ?_⟩ | refine And.intro (by first | decide | omega) ?_ | fail); conv => whnf) | refine Sem.seqS ?_ | refine Sem.block ?_ | fail))
    all_goals
      generalize hT : IntKind.i64.wrap _ = T
      have hT : T = tillOf t now := by
        rw [← hT, IntWalk.i64_in _ (by omega)]
        unfold tillOf
        (repeat' split) <;> omega
      subst hT
      refine (put29_ok r z (h, tillOf t now) G hl).on ?_
      conv => whnf
      repeat' (first | ((first | refine Sem.reg tt_ok ?_ | refine Sem.condS ?_ | refine Sem.regL tt_ok ?_ | refine Sem.skip tt_ok ?_ | refine Sem.exit tt_ok ?_ | refine Sem.ret tt_ok ?_ | refine BS_t (by assumption) ?_ | refine BS_f (by assumption) ?_ | refine (nthK_iff _ _).2 ⟨_, (by assumption), ?_⟩ | refine ⟨_, ⟨(by omega), (by assumption)⟩, ?_⟩ | refine And.intro (by first | decide | omega) ?_ | fail); conv => whnf) | refine Sem.seqS ?_ | refine Sem.block ?_ | fail)
      exact ⟨_, fun _ _ h => h, rfl, rfl⟩
  | some k =>
    obtain ⟨⟨x, u⟩, hx, hg, -⟩ := findN_is hk
    rw [hg]
    have hI : findI r z = (k : Int) := by unfold findI; rw [hk]
    rw [hI] at hf
    have hsm : (r.map leR)[((k : Nat) : Int).toNat]? = some (leR (z, x, u)) := by rw [Int.toNat_natCast, List.getElem?_map, hx]; rfl
    have e0 : decide ((k : Int) ≥ 0) = true := by simp
    by_cases he : x = h
    · subst he
      simp only [if_true]
      have e1 : (!(x.toList == x.toList)) = false := by simp
      refine call_sem tt_ok Try.func68 rfl (by kernel_rfl) Try.ntmps68 Try.results68 ?_; conv => whnf
      repeat' (first | ((first | refine Sem.reg tt_ok ?_ | refine Sem.condS ?_ | refine Sem.regL tt_ok ?_ | refine Sem.skip tt_ok ?_ | refine Sem.exit tt_ok ?_ | refine Sem.ret tt_ok ?_ | refine BS_t (by assumption) ?_ | refine BS_f (by assumption) ?_ | refine (nthK_iff _ _).2 ⟨_, (by assumption), ?_⟩ | refine ⟨_, ⟨(by omega), (by assumption)⟩, ?_⟩ | refine And.intro (by first | decide | omega) ?_ | fail); conv => whnf) | refine Sem.seqS ?_ | refine Sem.block ?_ | fail)
      refine hf.on ?_; conv => whnf
      repeat' (first | ((first | refine Sem.reg tt_ok ?_ | refine Sem.condS ?_ | refine Sem.regL tt_ok ?_ | refine Sem.skip tt_ok ?_ | refine Sem.exit tt_ok ?_ | refine Sem.ret tt_ok ?_ | refine BS_t (by assumption) ?_ | refine BS_f (by assumption) ?_ | refine (nthK_iff _ _).2 ⟨_, (by assumption), ?_⟩ | refine ⟨_, ⟨(by omega), (by assumption)⟩, ?_⟩ | refine And.intro (by first | decide | omega) ?_ | fail); conv => whnf) | refine Sem.seqS ?_ | refine Sem.block ?_ | fail)
      iterate 4 (all_goals (try (refine BS_dec (fun _ => ?_) (fun _ => ?_) <;> conv => whnf)); all_goals repeat' (first | ((first | refine Sem.reg tt_ok ?_ | refine Sem.condS ?_ | refine Sem.regL tt_ok ?_ | refine Sem.skip tt_ok ?_ | refine Sem.exit tt_ok ?_ | refine Sem.ret tt_ok ?_ | refine BS_t (by assumption) ?_ | refine BS_f (by assumption) ?_ | refine (nthK_iff _ _).2 ⟨_, (by assumption), ?_⟩ | refine ⟨_, ⟨(by omega), (by assumption)⟩, ?_⟩ | refine And.intro (by first | decide | omega) ?_ | fail); conv => whnf) | refine Sem.seqS ?_ | refine Sem.block ?_ | fail))
      all_goals
        generalize hT : IntKind.i64.wrap _ = T
        have hT : T = tillOf t now := by
          rw [← hT, IntWalk.i64_in _ (by omega)]
          unfold tillOf
          (repeat' split) <;> omega
        subst hT
        refine (put29_ok r z (x, tillOf t now) G hl).on ?_
        conv => whnf
        repeat' (first | ((first | refine Sem.reg tt_ok ?_ | refine Sem.condS ?_ | refine Sem.regL tt_ok ?_ | refine Sem.skip tt_ok ?_ | refine Sem.exit tt_ok ?_ | refine Sem.ret tt_ok ?_ | refine BS_t (by assumption) ?_ | refine BS_f (by assumption) ?_ | refine (nthK_iff _ _).2 ⟨_, (by assumption), ?_⟩ | refine ⟨_, ⟨(by omega), (by assumption)⟩, ?_⟩ | refine And.intro (by first | decide | omega) ?_ | fail); conv => whnf) | refine Sem.seqS ?_ | refine Sem.block ?_ | fail)
        exact ⟨_, fun _ _ h => h, rfl, rfl⟩
    · simp only [if_neg he]
      have e1 : (!(x.toList == h.toList)) = true := by rw [bl_eq]; simp [he]
      refine call_sem tt_ok Try.func68 rfl (by kernel_rfl) Try.ntmps68 Try.results68 ?_; conv => whnf
      repeat' (first | ((first | refine Sem.reg tt_ok ?_ | refine Sem.condS ?_ | refine Sem.regL tt_ok ?_ | refine Sem.skip tt_ok ?_ | refine Sem.exit tt_ok ?_ | refine Sem.ret tt_ok ?_ | refine BS_t (by assumption) ?_ | refine BS_f (by assumption) ?_ | refine (nthK_iff _ _).2 ⟨_, (by assumption), ?_⟩ | refine ⟨_, ⟨(by omega), (by assumption)⟩, ?_⟩ | refine And.intro (by first | decide | omega) ?_ | fail); conv => whnf) | refine Sem.seqS ?_ | refine Sem.block ?_ | fail)
      refine hf.on ?_; conv => whnf
      repeat' (first | ((first | refine Sem.reg tt_ok ?_ | refine Sem.condS ?_ | refine Sem.regL tt_ok ?_ | refine Sem.skip tt_ok ?_ | refine Sem.exit tt_ok ?_ | refine Sem.ret tt_ok ?_ | refine BS_t (by assumption) ?_ | refine BS_f (by assumption) ?_ | refine (nthK_iff _ _).2 ⟨_, (by assumption), ?_⟩ | refine ⟨_, ⟨(by omega), (by assumption)⟩, ?_⟩ | refine And.intro (by first | decide | omega) ?_ | fail); conv => whnf) | refine Sem.seqS ?_ | refine Sem.block ?_ | fail)
      exact ⟨_, fun _ _ h => h, rfl, rfl⟩
structure LStp where
  kind : Int
  k : ByteArray
  v : ByteArray
  ticks : Int
  now : Int
def LStp.av (x : LStp) : List AV := [.int .i64 x.kind, .str x.k, .str x.v, .int .i64 x.ticks, .int .i64 x.now]
def muchL : List LStp → Int → Int
  | [], n => n
  | x :: r, n => muchL r (if (1048576 : Int) < n + x.k.size + x.v.size then 1048576 else n + x.k.size + x.v.size)
theorem muchL_snoc : ∀ (l : List LStp) (x : LStp) (n : Int), muchL (l ++ [x]) n = (if (1048576 : Int) < muchL l n + x.k.size + x.v.size then 1048576 else muchL l n + x.k.size + x.v.size)
  | [], _, _ => rfl
  | _ :: r, x, _ => muchL_snoc r x _
theorem muchL_in : ∀ (l : List LStp) (n : Int), 0 ≤ n → n ≤ 1048576 → 0 ≤ muchL l n ∧ muchL l n ≤ 1048576
  | [], _, h0, h1 => ⟨h0, h1⟩
  | x :: r, n, h0, h1 => muchL_in r _ (by split <;> omega) (by split <;> omega)
theorem much29_ok (l : List LStp) (G : Glob) (hl : l.length ≤ 9223372036854775807) (hs : ∀ x ∈ l, x.k.size ≤ 140737488351232 ∧ x.v.size ≤ 140737488351232) : CallOk Try.prog TT 63 [.slc 103 (l.map LStp.av)] G (fun v G' => v = .bool (decide ((l.length : Int) > 150) || decide (muchL l 0 > 10000)) ∧ G' = G) := by
  refine call_sem tt_ok Try.func63 rfl (by kernel_rfl) Try.ntmps63 Try.results63 ?_; conv => whnf
  repeat' (first | ((first | refine Sem.reg tt_ok ?_ | refine Sem.condS ?_ | refine Sem.regL tt_ok ?_ | refine Sem.skip tt_ok ?_ | refine Sem.exit tt_ok ?_ | refine Sem.ret tt_ok ?_ | refine BS_t (by assumption) ?_ | refine BS_f (by assumption) ?_ | refine atG (by repeat (first | assumption | exact setG_same _ _ _ | refine Eq.trans (setG_ne _ _ (by first | assumption | exact Ne.symm (by assumption))) ?_)) ?_ | refine (nthK_iff _ _).2 ⟨_, (by assumption), ?_⟩ | refine ⟨_, ⟨(by omega), (by assumption)⟩, ?_⟩ | refine And.intro (by first | decide | omega) ?_ | fail); conv => whnf) | refine Sem.seqS ?_ | refine Sem.block ?_ | fail)
  refine Sem.loop (ι := {k : Nat // k ≤ l.length}) (fun x => ⟨(.slc 103 (l.map LStp.av) :: .top :: .top :: .int .i64 (muchL (l.take x.1) 0) :: .int .i64 (x.1 : Nat) :: .top :: .top :: .top :: .top :: .top :: .top :: .top :: .top :: .top :: .top :: .top :: .top :: .top :: .top :: .top :: .top :: .top :: .top :: .top :: .top :: .top :: .top :: .top :: .top :: .top :: .top :: .top :: .top :: .top :: []), [], 0, 0, G⟩) (fun x => l.length - x.1) ⟨0, Nat.zero_le _⟩ ?_ (fun x => ?_)
  · refine weak_by [] ?_; (conv => whnf); repeat (first | (refine And.intro rfl ?_; conv => whnf) | fail)
    exact ⟨fun i x hx => hx, rfl, Nat.zero_le _, rfl, rfl⟩
  obtain ⟨k, hk0⟩ := x
  repeat' (first | ((first | refine Sem.reg tt_ok ?_ | refine Sem.condS ?_ | refine Sem.regL tt_ok ?_ | refine Sem.skip tt_ok ?_ | refine Sem.exit tt_ok ?_ | refine Sem.ret tt_ok ?_ | refine BS_t (by assumption) ?_ | refine BS_f (by assumption) ?_ | refine atG (by repeat (first | assumption | exact setG_same _ _ _ | refine Eq.trans (setG_ne _ _ (by first | assumption | exact Ne.symm (by assumption))) ?_)) ?_ | refine (nthK_iff _ _).2 ⟨_, (by assumption), ?_⟩ | refine ⟨_, ⟨(by omega), (by assumption)⟩, ?_⟩ | refine And.intro (by first | decide | omega) ?_ | fail); conv => whnf) | refine Sem.seqS ?_ | refine Sem.block ?_ | fail)
  refine BS_intro (fun hk => ?_) (fun hk => ?_) <;> conv => whnf
  · have hks : k < l.length := by simp at hk; omega
    clear hk
    obtain ⟨v, hv⟩ : ∃ v, l[k]? = some v := ⟨_, List.getElem?_eq_getElem hks⟩
    have hsm : (l.map LStp.av)[((k : Nat) : Int).toNat]? = some v.av := by rw [Int.toNat_natCast, List.getElem?_map, hv]; rfl
    have hm := muchL_in (l.take k) 0 (by decide) (by decide)
    have hz := hs v (List.mem_of_getElem? hv)
    have ht : l.take (k + 1) = l.take k ++ [v] := by rw [List.take_add_one, hv]; rfl
    repeat' (first | ((first | refine Sem.reg tt_ok ?_ | refine Sem.condS ?_ | refine Sem.regL tt_ok ?_ | refine Sem.skip tt_ok ?_ | refine Sem.exit tt_ok ?_ | refine Sem.ret tt_ok ?_ | refine BS_t (by assumption) ?_ | refine BS_f (by assumption) ?_ | refine atG (by repeat (first | assumption | exact setG_same _ _ _ | refine Eq.trans (setG_ne _ _ (by first | assumption | exact Ne.symm (by assumption))) ?_)) ?_ | refine (nthK_iff _ _).2 ⟨_, (by assumption), ?_⟩ | refine ⟨_, ⟨(by omega), (by assumption)⟩, ?_⟩ | refine And.intro (by first | decide | omega) ?_ | fail); conv => whnf) | refine Sem.seqS ?_ | refine Sem.block ?_ | fail)
    refine draw_sound (eff := []) tt_ok (by kernel_rfl) (by kernel_rfl) ?_; conv => whnf
    repeat' (first | ((first | refine BS_t (by assumption) ?_ | refine BS_f (by assumption) ?_ | refine atG (by repeat (first | assumption | exact setG_same _ _ _ | refine Eq.trans (setG_ne _ _ (by first | assumption | exact Ne.symm (by assumption))) ?_)) ?_ | refine (nthK_iff _ _).2 ⟨_, (by assumption), ?_⟩ | refine ⟨_, ⟨(by omega), (by assumption)⟩, ?_⟩ | refine And.intro (by first | decide | omega) ?_ | fail); conv => whnf) | fail)
    repeat' (first | ((first | refine Sem.reg tt_ok ?_ | refine Sem.condS ?_ | refine Sem.regL tt_ok ?_ | refine Sem.skip tt_ok ?_ | refine Sem.exit tt_ok ?_ | refine Sem.ret tt_ok ?_ | refine BS_t (by assumption) ?_ | refine BS_f (by assumption) ?_ | refine atG (by repeat (first | assumption | exact setG_same _ _ _ | refine Eq.trans (setG_ne _ _ (by first | assumption | exact Ne.symm (by assumption))) ?_)) ?_ | refine (nthK_iff _ _).2 ⟨_, (by assumption), ?_⟩ | refine ⟨_, ⟨(by omega), (by assumption)⟩, ?_⟩ | refine And.intro (by first | decide | omega) ?_ | fail); conv => whnf) | refine Sem.seqS ?_ | refine Sem.block ?_ | fail)
    refine ⟨⟨k + 1, by omega⟩, by show l.length - (k + 1) < l.length - k; omega, ?_⟩
    refine weak_by [] ?_; (conv => whnf); repeat (first | (refine And.intro rfl ?_; conv => whnf) | fail)
    have hw : IntKind.i64.wrap ((k : Int) + 1) = ((k + 1 : Nat) : Int) := by rw [IntWalk.i64_in _ (by omega)]; omega
    refine And.intro (by
      show (if (1048576 : Int) < IntKind.i64.wrap (IntKind.i64.wrap (muchL (l.take k) 0 + v.k.size) + v.v.size) then (1048576 : Int) else IntKind.i64.wrap (IntKind.i64.wrap (muchL (l.take k) 0 + v.k.size) + v.v.size)) = muchL (l.take (k + 1)) 0
      rw [ht, muchL_snoc, IntWalk.i64_in (muchL (l.take k) 0 + v.k.size) (by omega), IntWalk.i64_in _ (by omega)]) ?_
    (conv => whnf); repeat (first | (refine And.intro rfl ?_; conv => whnf) | fail)
    refine And.intro hw ?_
    (conv => whnf); repeat (first | (refine And.intro rfl ?_; conv => whnf) | fail)
    exact ⟨fun i y hy => hy, rfl, Nat.zero_le _, rfl, rfl⟩
  · have hk' : k = l.length := by simp at hk; omega
    subst hk'
    rw [List.take_length]
    repeat' (first | ((first | refine Sem.reg tt_ok ?_ | refine Sem.condS ?_ | refine Sem.regL tt_ok ?_ | refine Sem.skip tt_ok ?_ | refine Sem.exit tt_ok ?_ | refine Sem.ret tt_ok ?_ | refine BS_t (by assumption) ?_ | refine BS_f (by assumption) ?_ | refine atG (by repeat (first | assumption | exact setG_same _ _ _ | refine Eq.trans (setG_ne _ _ (by first | assumption | exact Ne.symm (by assumption))) ?_)) ?_ | refine (nthK_iff _ _).2 ⟨_, (by assumption), ?_⟩ | refine ⟨_, ⟨(by omega), (by assumption)⟩, ?_⟩ | refine And.intro (by first | decide | omega) ?_ | fail); conv => whnf) | refine Sem.seqS ?_ | refine Sem.block ?_ | fail)
    have hL : (l.map LStp.av).length = l.length := by simp
    refine BS_intro (fun h8 => ?_) (fun h8 => ?_) <;> conv => whnf
    · repeat' (first | ((first | refine Sem.reg tt_ok ?_ | refine Sem.condS ?_ | refine Sem.regL tt_ok ?_ | refine Sem.skip tt_ok ?_ | refine Sem.exit tt_ok ?_ | refine Sem.ret tt_ok ?_ | refine BS_t (by assumption) ?_ | refine BS_f (by assumption) ?_ | refine atG (by repeat (first | assumption | exact setG_same _ _ _ | refine Eq.trans (setG_ne _ _ (by first | assumption | exact Ne.symm (by assumption))) ?_)) ?_ | refine (nthK_iff _ _).2 ⟨_, (by assumption), ?_⟩ | refine ⟨_, ⟨(by omega), (by assumption)⟩, ?_⟩ | refine And.intro (by first | decide | omega) ?_ | fail); conv => whnf) | refine Sem.seqS ?_ | refine Sem.block ?_ | fail)
      rw [hL] at h8
      refine ⟨_, fun _ _ h => h, ?_, rfl⟩
      rw [h8]
      rfl
    · repeat' (first | ((first | refine Sem.reg tt_ok ?_ | refine Sem.condS ?_ | refine Sem.regL tt_ok ?_ | refine Sem.skip tt_ok ?_ | refine Sem.exit tt_ok ?_ | refine Sem.ret tt_ok ?_ | refine BS_t (by assumption) ?_ | refine BS_f (by assumption) ?_ | refine atG (by repeat (first | assumption | exact setG_same _ _ _ | refine Eq.trans (setG_ne _ _ (by first | assumption | exact Ne.symm (by assumption))) ?_)) ?_ | refine (nthK_iff _ _).2 ⟨_, (by assumption), ?_⟩ | refine ⟨_, ⟨(by omega), (by assumption)⟩, ?_⟩ | refine And.intro (by first | decide | omega) ?_ | fail); conv => whnf) | refine Sem.seqS ?_ | refine Sem.block ?_ | fail)
      rw [hL] at h8
      refine ⟨_, fun _ _ h => h, ?_, rfl⟩
      rw [h8]
      rfl
end Go.Proofs.Ytpnlhnhjedopgaa
