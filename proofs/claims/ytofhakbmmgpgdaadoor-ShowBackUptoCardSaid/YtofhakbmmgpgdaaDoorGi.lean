/- One text out of several: LexA, LexB, LexC, LexD, LexE, LexF. -/
import Derived.Test.YtofhakbmmgpgdaaDoorLaw
import Derived.Test.YtofhakbmmgpgdaaDoorGe
import Derived.Test.YtofhakbmmgpgdaaDoorFrame
import Derived.Test.YtofhakbmmgpgdaaDoorGg
import Derived.Shelf.Strings.Prefix
import Derived.Shelf.Small.Strs

section
/- The lexer's put: a row that a shared box owns, appended to, in the model and in the abstract run. -/
set_option maxRecDepth 100000
namespace Go.Proofs.YtofhakbmmgpgdaaDoor
open Go Go.RowKit Go.Proofs

theorem rowTok : Row1 Tryd.prog 93 101 (.agg #[.int .i64 0, .string ⟨#[]⟩, .int .i64 0, .int .i64 0]) 4 40 := ⟨by kernel_rfl, by kernel_rfl, rfl, by decide⟩
theorem wpList_appW {P : Program} {T : TypeId → TR} (TO : TOk P T) {ops : Array Oper} {rest : List Oper} {o : Oper} {a : Act} {Q : Exit → Act → World → Prop} {w : World} (hgd : o.guard = none) (s x : Operand) (t e : TypeId)
    (ho : o.op = .call { callee := .builtin .append, args := #[s, x], argTypes := #[t, t] }) (ht : P.underlying t = some (.slice e)) (hk : kindD (T e).desc ≠ none) (hsz : 0 < (T e).cells)
    {v : Value} {n : Nat} {xs : List Value} (hs : a.eval s = v) (hown : w.ownsRow 0 e (T e).cells v n xs) (N : Nat) (us : Array Value) (hx : a.eval x = .slice (some ⟨N, 0, none⟩) 1 1) (hl : us.size = (T e).cells) {ty : TypeId} (hb : w.heap[N]? = some (.cells us ty (0, 0))) (h1 : ∀ u ∈ us.toList, u.oneCell' = true)
    (h63 : n + 1 ≤ maxLen) (hbytes : (n + 1) * (T e).bytes ≤ 140737488355328)
    (h : ∀ v' w', w'.ownsRow 0 e (T e).cells v' (n + 1) (xs ++ us.toList) → AppW w w' v v' → wpList P ops Q rest (a.put o.dst v') w') : wpList P ops Q (o :: rest) a w :=
  wpList_plain hgd fun K hK => by
    obtain ⟨v', w', hr, h2, h3⟩ := app_run TO ht hk hsz o.type hown (some ⟨N, 0, none⟩) 1 1 us.toList (by simp [hl]) (fun _ => ⟨_, rfl, fun j u hj => by
      have hadd : (⟨N, 0, none⟩ : Addr).add j = ⟨N, j, none⟩ := by unfold Addr.add; split <;> simp_all
      rw [hadd, blk_cell hb]; simpa using hj⟩) h1 h63 hbytes
    unfold Oper.wp execOp
    simp only [ho, resolve, invoke, builtin, Sem.run_bind, Sem.run_pure, Result.andThen_ok, List.map_toArray, List.map_cons, List.map_nil, hs, hx, hr]
    exact hK _ _ (h v' w' h2 h3)
theorem AppW.keep {w w' : World} {v v' : Value} (h : AppW w w' v v') {k : Nat} {o : Obj} (hk : w.heap[k]? = some o) (hne : some k ≠ v.ownBlock) : w'.heap[k]? = some o := by
  rcases h with ⟨rfl, _⟩ | ⟨j, arr, h1, _, rfl⟩ | ⟨o', rfl, _⟩
  · exact hk
  · have : j ≠ k := fun e => hne (by rw [h1, e])
    unfold World.setRow
    rw [Array.getElem?_modify, if_neg this]; exact hk
  · rw [drew_block _ _ (blk_lt hk)]; exact hk
set_option maxHeartbeats 2000000 in
theorem lexput_any (k : Nat) (s : ByteArray) (a : Int) (pv : Option Addr) (n cv : Nat) (xs : List Value) (w : World) (kind num at_ : Int) (text : ByteArray) (ty : TypeId)
    (hb : w.heap[k]? = some (.cells #[.string s, .int .i64 a, .slice pv n cv] ty (0, 0))) (ho : w.ownsRow 0 101 4 (.slice pv n cv) n xs) (hne : some k ≠ (Value.slice pv n cv).ownBlock) (hn : n ≤ 1048576) :
    Calls Tryd.prog 84 #[.pointer (some ⟨k, 0, none⟩), .int .i64 kind, .string text, .int .i64 num, .int .i64 at_] w (fun e w' => e = .returned (.tuple #[]) ∧ ∃ v' w2, w2.ownsRow 0 101 4 v' (n + 1) (xs ++ [.int .i64 kind, .string text, .int .i64 num, .int .i64 at_]) ∧
      AppW (w.alloc (.cells #[.int .i64 kind, .string text, .int .i64 num, .int .i64 at_] 101 (0, 0))) w2 (.slice pv n cv) v' ∧ w2.heap[k]? = some (.cells #[.string s, .int .i64 a, .slice pv n cv] ty (0, 0)) ∧ w' = w2.setCell ⟨k, 2, none⟩ v') := by
  have c2 : w.cell? ⟨k, 2, none⟩ = some (.slice pv n cv) := by rw [blk_cell hb]; rfl
  have hk := blk_lt hb
  have HB := Lib.hid hb
  have HO := Lib.hid ho
  have HN := Lib.hid hne
  clear hb ho hne
  go_enter Tryd.func84, Tryd.ntmps84
  go_wp2_with (at_builtin; (refine wpList_appW tt_ok rfl _ _ 93 101 rfl Tryd.underlying93 (by decide) (by decide) (v := .slice pv n cv) (n := n) (xs := xs) rfl (HO.out.alloc _) _ #[.int .i64 kind, .string text, .int .i64 num, .int .i64 at_] rfl rfl (ty := 101) (blk_new' (by simp)) (by simp [Value.oneCell']) (by unfold maxLen; omega) (by have : (TT 101).bytes = 40 := rfl; rw [this]; omega) ?_; intro v2 w4 hA hW; obtain ⟨ao, c, rfl, hc1, hc2⟩ := own_slice hA; have HB4 := Lib.hid (hW.keep (blk_alloc HB.out) HN.out); have HA := Lib.hid hA; have HW := Lib.hid hW; clear hA hW; have d1 : w4.cell? ⟨k, 2, none⟩ = some (.slice pv n cv) := (by rw [blk_cell HB4.out]; rfl); have d2 := blk_free HB4.out 2))
  go_end0
  exact ⟨rfl, _, _, HA.out, HW.out, HB4.out, rfl⟩
end Go.Proofs.YtofhakbmmgpgdaaDoor
end

section
/- The lexer's put in the abstract run: a row in a shared box. -/
set_option maxRecDepth 100000
namespace Go.Proofs.YtofhakbmmgpgdaaDoor
open Go Go.RowKit Go.Proofs

def tTok : TypeId := 101
def tokC (k : Int) (s : ByteArray) (n a : Int) : List AV := [.int .i64 k, .str s, .int .i64 n, .int .i64 a]
def lexB (s : ByteArray) (a : Int) (els : List (List AV)) : GB := .box [.str s, .int .i64 a, .slc 101 els] [(2, 101, els)]
theorem box3 {g : Gh} {w : World} {b : Nat} {s : ByteArray} {a : Int} {els : List (List AV)} (h : BoxAt TT g w b (lexB s a els)) : ∃ pv cv ty xs, w.heap[g.beta b]? = some (.cells #[.string s, .int .i64 a, .slice pv els.length cv] ty (0, 0)) ∧
    w.ownsRow 0 101 4 (.slice pv els.length cv) els.length xs ∧ (∀ k, (Value.slice pv els.length cv).ownBlock = some k → g.own k = .gtok b 2 (els.length * 4)) ∧ (∀ cells ∈ els, cells.length = 4) ∧
    ∀ (i : Nat) (cells : List AV), els[i]? = some cells → ∀ (j : Nat) (x : AV), cells[j]? = some x → ∃ y, xs[i * 4 + j]? = some y ∧ y.oneCell' = true ∧ Dz TT g w x y := by
  obtain ⟨us, ty, h1, h2, h3, h4, h5⟩ := h
  obtain ⟨us⟩ := us
  match us, h2 with
  | [u0, u1, u2], _ =>
    cases h4 0 _ u0 rfl rfl
    cases h4 1 _ u1 rfl rfl
    obtain ⟨u, e1, xs, o1, o2, o3, o4, o5⟩ := h5 _ (List.mem_singleton.2 rfl)
    have e1 : u2 = u := by simpa using e1
    subst e1
    obtain ⟨p, cap, hp⟩ := slc_shape (h4 2 _ u2 rfl rfl)
    subst hp
    exact ⟨p, cap, ty, xs, h1, o1, o3, o4, o5⟩
theorem setCell_drewBlock {w : World} {k j i : Nat} {v : Value} (h : j ≠ k) : (w.setCell ⟨k, i, none⟩ v).heap[j]? = w.heap[j]? := Below.heap_setCell _ _ _ _ (by simpa using h)
theorem AppW.old {w w' : World} {v v' : Value} (h : AppW w w' v v') {k : Nat} (hk : k < w.heap.size) (hne : some k ≠ v'.ownBlock) : w'.heap[k]? = w.heap[k]? := by
  rcases h with ⟨rfl, _⟩ | ⟨j, arr, h1, h2, rfl⟩ | ⟨o', rfl, _⟩
  · rfl
  · have : j ≠ k := fun e => hne (by rw [h2, e])
    unfold World.setRow
    rw [Array.getElem?_modify, if_neg this]
  · rw [drew_block _ _ hk]
theorem AppW.at_ {w w' : World} {v v' : Value} (h : AppW w w' v v') : v'.ownBlock = v.ownBlock ∨ v'.ownBlock = some w.heap.size := by
  rcases h with ⟨_, rfl⟩ | ⟨j, arr, h1, h2, _⟩ | ⟨o', _, h⟩
  · exact .inl rfl
  · exact .inl (h2.trans h1.symm)
  · exact .inr h
theorem AppW.rest {w w' : World} {v v' : Value} (h : AppW w w' v v') : w.heap.size ≤ w'.heap.size ∧ w'.os = w.os ∧ w'.tape = w.tape ∧ w'.output = w.output := by
  rcases h with ⟨rfl, _⟩ | ⟨j, arr, h1, h2, rfl⟩ | ⟨o', rfl, _⟩
  · exact ⟨Nat.le_refl _, rfl, rfl, rfl⟩
  · exact ⟨by simp [World.setRow], rfl, rfl, rfl⟩
  · exact ⟨by simp, rfl, rfl, rfl⟩
def Gh.regrown (g : Gh) (b : Nat) (old new : Option Nat) (n size : Nat) : Gh := { g with own := fun i => if some i = new then .gtok b 2 n else if some i = old then .frz else if size ≤ i then .frz else g.own i }
theorem lexput_ok (G : Glob) (b : Nat) (s : ByteArray) (a : Int) (els : List (List AV)) (kind num at_ : Int) (text : ByteArray) (hG : G b = some (lexB s a els)) (hn : els.length ≤ 1048576) :
    CallOk Tryd.prog TT 84 [.gptr b 0, .int .i64 kind, .str text, .int .i64 num, .int .i64 at_] G (fun v G' => v = .tup [] ∧ G' = setG G b (lexB s a (els ++ [tokC kind text num at_]))) := by
  refine ⟨⟨_, Tryd.func84, by decide, rfl⟩, fun g us w hr hl hd => ?_⟩
  obtain ⟨us⟩ := us
  match us, hl with
  | [u0, u1, u2, u3, u4], _ =>
    obtain ⟨b1, b2, b3⟩ := hr b _ hG
    cases hd 1 _ u1 rfl rfl
    cases hd 2 _ u2 rfl rfl
    cases hd 3 _ u3 rfl rfl
    cases hd 4 _ u4 rfl rfl
    have e0 := hd 0 _ u0 rfl rfl
    cases e0 with
    | gptr _ _ hb =>
    obtain ⟨pv, cv, ty, xs, h1, h2, h3, h4, h5⟩ := box3 b3
    have hkne : some (g.beta b) ≠ (Value.slice pv els.length cv).ownBlock := fun e => by have := h3 _ e.symm; rw [b2] at this; cases this
    refine (lexput_any (g.beta b) s a pv els.length cv xs w kind num at_ text ty h1 h2 hkne hn).mono ?_
    rintro e w' ⟨rfl, v', w2, r1, r2, r3, rfl⟩
    have hklt := blk_lt h1
    have hsz : w.heap.size < (w.alloc (.cells #[.int .i64 kind, .string text, .int .i64 num, .int .i64 at_] 101 (0, 0))).heap.size := by simp
    have hal : ∀ k, k < w.heap.size → (w.alloc (.cells #[.int .i64 kind, .string text, .int .i64 num, .int .i64 at_] 101 (0, 0))).heap[k]? = w.heap[k]? := fun k hk => Below.heap_alloc _ _ _ hk
    obtain ⟨s1, s2, s3, s4⟩ := r2.rest
    have hat := r2.at_
    have hold := fun k hk hne => r2.old (k := k) hk hne
    have hlt2 : ∀ k, v'.ownBlock = some k → k < w2.heap.size := fun k hk => (r1.lt k hk).2
    generalize hwA : w.alloc (.cells #[.int .i64 kind, .string text, .int .i64 num, .int .i64 at_] 101 (0, 0)) = wA at *
    have hos : wA.os = w.os ∧ wA.tape = w.tape ∧ wA.output = w.output := by subst hwA; exact ⟨rfl, rfl, rfl⟩
    have hv'ne : some (g.beta b) ≠ v'.ownBlock := by
      rcases hat with h | h
      · rw [h]; exact hkne
      · rw [h]; intro e; simp only [Option.some.injEq] at e; omega
    have hw' : ∀ k, k ≠ g.beta b → (w2.setCell ⟨g.beta b, 2, none⟩ v').heap[k]? = w2.heap[k]? := fun k hk => setCell_drewBlock hk
    have hcell : ∀ k i, k ≠ g.beta b → (w2.setCell ⟨g.beta b, 2, none⟩ v').cell? ⟨k, i, none⟩ = w2.cell? ⟨k, i, none⟩ := fun k i hk => by simp [World.cell?, hw' k hk]
    -- the new ownership
    have own1 : ∀ k, k < w.heap.size → some k ≠ v'.ownBlock → some k ≠ (Value.slice pv els.length cv).ownBlock → (g.regrown b (Value.slice pv els.length cv).ownBlock v'.ownBlock ((els.length + 1) * 4) w.heap.size).own k = g.own k := fun k hk q1 q2 => by
      simp only [Gh.regrown, if_neg q1, if_neg q2, if_neg (show ¬ w.heap.size ≤ k by omega)]
    have dx : Dx g w (g.regrown b (Value.slice pv els.length cv).ownBlock v'.ownBlock ((els.length + 1) * 4) w.heap.size) (w2.setCell ⟨g.beta b, 2, none⟩ v') := by
      refine ⟨fun k i u f1 f2 => ?_, Nat.le_refl _, fun _ _ => rfl⟩
      have hk := cell_lt f2
      have hkb : k ≠ g.beta b := fun e => by unfold Gh.frz at f1; rw [e, b2] at f1; exact f1
      rw [hcell k i hkb]
      by_cases q1 : some k = v'.ownBlock
      · have q2 : (Value.slice pv els.length cv).ownBlock = some k := by
          rcases hat with h | h
          · rw [← h]; exact q1.symm
          · rw [h] at q1; simp only [Option.some.injEq] at q1; omega
        have q3 := h3 k q2
        unfold Gh.frz at f1 ⊢
        rw [q3] at f1
        have f1 : i < els.length * 4 := f1
        refine ⟨?_, ?_⟩
        · simp only [Gh.regrown, if_pos q1]
          show i < _
          omega
        · have l1 := h2.1
          have l2 : i < xs.length := by omega
          have c1 := h2.cells (g := k) q2 i xs[i] (List.getElem?_eq_getElem l2)
          have c2 := r1.cells (g := k) q1.symm i xs[i] (by rw [List.getElem?_append_left l2]; exact List.getElem?_eq_getElem l2)
          rw [addr_add, Nat.zero_add] at c1 c2
          rw [c2, ← c1, f2]
      · have hsame : w2.cell? ⟨k, i, none⟩ = w.cell? ⟨k, i, none⟩ := by simp only [World.cell?, hold k (by omega) q1, hal k hk]
        rw [hsame]
        refine ⟨?_, f2⟩
        unfold Gh.frz at f1 ⊢
        by_cases q2 : some k = (Value.slice pv els.length cv).ownBlock
        · simp only [Gh.regrown, if_neg q1, if_pos q2]; trivial
        · rw [own1 k hk q1 q2]; exact f1
    have hkeep : ∀ k, k < w.heap.size → k ≠ g.beta b → some k ≠ (Value.slice pv els.length cv).ownBlock → (g.regrown b (Value.slice pv els.length cv).ownBlock v'.ownBlock ((els.length + 1) * 4) w.heap.size).own k = g.own k ∧ (w2.setCell ⟨g.beta b, 2, none⟩ v').heap[k]? = w.heap[k]? := fun k hk q1 q2 => by
      have q3 : some k ≠ v'.ownBlock := by
        rcases hat with h | h
        · rw [h]; exact q2
        · rw [h]; intro e; simp only [Option.some.injEq] at e; omega
      exact ⟨own1 k hk q3 q2, by rw [hw' k q1, hold k (by omega) q3, hal k hk]⟩
    refine ⟨_, g.regrown b (Value.slice pv els.length cv).ownBlock v'.ownBlock ((els.length + 1) * 4) w.heap.size, setG G b (lexB s a (els ++ [tokC kind text num at_])), .tup [], rfl, ⟨rfl, rfl⟩, ?_, ?_, .tup _ _ rfl fun i c u hc => by simp at hc⟩
    · intro i bx hi
      by_cases hib : i = b
      · subst hib
        rw [setG_same, Option.some.injEq] at hi
        subst hi
        have hown : OwnAt TT (g.regrown i (Value.slice pv els.length cv).ownBlock v'.ownBlock ((els.length + 1) * 4) w.heap.size) (w2.setCell ⟨g.beta i, 2, none⟩ v') (.gtok i 2) v'.ownBlock 101 (els ++ [tokC kind text num at_]) v' := by
          obtain ⟨a1, a2⟩ := els_app (T := TT) (g := g.regrown i (Value.slice pv els.length cv).ownBlock v'.ownBlock ((els.length + 1) * 4) w.heap.size) (w := w2.setCell ⟨g.beta i, 2, none⟩ v') (e := 101) (els := els) (els' := [tokC kind text num at_]) (xs := xs) (news := [.int .i64 kind, .string text, .int .i64 num, .int .i64 at_]) h2.1 h4 (fun c hc => by rw [List.mem_singleton.1 hc]; rfl)
            (fun i cells hi j x hj => by obtain ⟨y, y1, y2, y3⟩ := h5 i cells hi j x hj; exact ⟨y, y1, y2, y3.mono dx⟩)
            (fun i cells hi j x hj => by
              match i with
              | 0 =>
                simp only [List.getElem?_cons_zero, Option.some.injEq] at hi
                subst hi
                match j with
                | 0 => simp [tokC] at hj; subst hj; exact ⟨_, rfl, rfl, .int _ _⟩
                | 1 => simp [tokC] at hj; subst hj; exact ⟨_, rfl, rfl, .str _⟩
                | 2 => simp [tokC] at hj; subst hj; exact ⟨_, rfl, rfl, .int _ _⟩
                | 3 => simp [tokC] at hj; subst hj; exact ⟨_, rfl, rfl, .int _ _⟩
                | j + 4 => simp [tokC] at hj
              | i + 1 => simp at hi)
          refine ⟨_, ?_, rfl, fun k hk => ?_, a1, a2⟩
          · rw [List.length_append]
            exact ownsRow_keep r1 fun k hk => hw' k (fun e => hv'ne (by rw [← e]; exact hk.symm))
          · rw [List.length_append]
            simp only [Gh.regrown, if_pos hk.symm]
            rfl
        refine ⟨b1, ?_, ?_⟩
        · show (g.regrown i _ _ _ _).own (g.beta i) = _
          rw [own1 _ hklt hv'ne hkne]; exact b2
        · refine ⟨#[.string s, .int .i64 a, v'], ty, ?_, rfl, fun u hu => ?_, fun j c u hc hu => ?_, fun x hx => ?_⟩
          · show (w2.setCell ⟨g.beta i, 2, none⟩ v').heap[g.beta i]? = _
            rw [blk_set r3 2]; rfl
          · simp at hu
            rcases hu with rfl | rfl | rfl
            · rfl
            · rfl
            · obtain ⟨p, cap, hp⟩ := slc_shape (hown.slc (fun n i h => h)); rw [hp]; rfl
          · match j with
            | 0 => simp at hc hu; subst hc hu; exact .str _
            | 1 => simp at hc hu; subst hc hu; exact .int _ _
            | 2 => simp at hc hu; subst hc hu; exact hown.slc (fun n i h => h)
            | j + 3 => simp at hc
          · rw [List.mem_singleton.1 hx]
            exact ⟨v', rfl, hown⟩
      · rw [setG_ne _ _ hib] at hi
        obtain ⟨i1, i2, i3⟩ := hr i bx hi
        have hi3 := i3.lt
        have kne : ∀ k, (g.own k).ofBox i → k ≠ g.beta b ∧ some k ≠ (Value.slice pv els.length cv).ownBlock := fun k hk => ⟨fun e => by rw [e, b2] at hk; exact hib hk.symm, fun e => by rw [h3 k e.symm] at hk; exact hib hk.symm⟩
        have hbi := kne (g.beta i) (by rw [i2]; exact rfl)
        exact ⟨i1, by rw [show (g.regrown b (Value.slice pv els.length cv).ownBlock v'.ownBlock ((els.length + 1) * 4) w.heap.size).beta i = g.beta i from rfl, (hkeep _ hi3 hbi.1 hbi.2).1]; exact i2, i3.keep i1 i2 dx fun k hk hlt => hkeep k hlt (kne k hk).1 (kne k hk).2⟩
    · refine ⟨dx.cell, Nat.le_refl _, fun _ _ => rfl, fun k hk hkept => ?_, ?_, ?_, ?_, ?_⟩
      · exact hkeep k hk (fun e => by rw [e, b2] at hkept; exact hkept) (fun e => by rw [h3 k e.symm] at hkept; exact hkept)
      · simp only [World.size_setCell]; omega
      · show w2.os = _; rw [s2]; exact hos.1
      · show w2.tape = _; rw [s3]; exact hos.2.1
      · show w2.output = _; rw [s4]; exact hos.2.2
/-- a box whose cell is no row yet -/
theorem box_row {g : Gh} {w : World} {b : Nat} {s : ByteArray} {a : Int} (h : BoxAt TT g w b (.cells [.str s, .int .i64 a, .nils])) : BoxAt TT g w b (lexB s a []) := by
  obtain ⟨us, ty, h1, h2, h3, h4⟩ := h
  obtain ⟨us⟩ := us
  match us, h2 with
  | [u0, u1, u2], _ =>
    cases h4 0 _ u0 rfl rfl
    cases h4 1 _ u1 rfl rfl
    cases h4 2 _ u2 rfl rfl
    have hown : OwnAt TT g w (.gtok b 2) none 101 [] (.slice none 0 0) := by
      refine ⟨[], ⟨rfl, .inl ⟨rfl, rfl⟩⟩, rfl, ?_, ?_, ?_⟩
      · intro k hk; cases hk
      · intro c hc; cases hc
      · intro i c hc; simp at hc
    refine ⟨_, ty, h1, rfl, h3, fun j c u hc hu => ?_, fun x hx => ?_⟩
    · match j with
      | 0 => simp at hc hu; subst hc hu; exact .str _
      | 1 => simp at hc hu; subst hc hu; exact .int _ _
      | 2 => simp at hc hu; subst hc hu; exact hown.slc (fun n i h => h)
      | j + 3 => simp at hc
    · rw [List.mem_singleton.1 hx]
      exact ⟨_, rfl, hown⟩
theorem Sem.rowbox {code : Code} {env : List AV} {L : List LB} {nl nt : Nat} {G : Glob} {Q : Ex → Cf → Prop} (b : Nat) {s : ByteArray} {a : Int} (hG : G b = some (.cells [.str s, .int .i64 a, .nils])) (h : Sem Tryd.prog TT code ⟨env, L, nl, nt, setG G b (lexB s a [])⟩ Q) : Sem Tryd.prog TT code ⟨env, L, nl, nt, G⟩ Q :=
  Sem.weak (c' := ⟨env, L, nl, nt, setG G b (lexB s a [])⟩) ⟨fun g a' w hs => ⟨g, ⟨⟨fun i bx hi => by
    have hi : setG G b (lexB s a []) i = some bx := hi
    by_cases hib : i = b
    · subst hib
      rw [setG_same, Option.some.injEq] at hi
      subst hi
      obtain ⟨b1, b2, b3⟩ := hs.rel.glob i _ hG
      exact ⟨b1, b2, box_row b3⟩
    · rw [setG_ne _ _ hib] at hi
      exact hs.rel.glob i bx hi, hs.rel.loc, hs.rel.hL, hs.rel.hl, hs.rel.ht⟩, hs.size, hs.vals, hs.defers⟩, ⟨fun _ _ _ h1 h2 => ⟨h1, h2⟩, Nat.le_refl _, fun _ _ => rfl, fun _ _ _ => ⟨rfl, rfl⟩, Nat.le_refl _, rfl, rfl, rfl⟩⟩⟩ h
end Go.Proofs.YtofhakbmmgpgdaaDoor
end

section
/- The lexer's small functions, and its run over bytes; the document's classes. -/
set_option maxRecDepth 100000
set_option linter.unusedSimpArgs false
namespace Go.Proofs.YtofhakbmmgpgdaaDoor
open Go Go.RowKit Go.Proofs

theorem byteAt_S {s : List UInt8} {i : Nat} {j : Int} {c : UInt8} (h : s[i]? = some c) (hj : j = (i : Int)) : byteAt (S s) j.toNat = (c.toNat : Int) := by
  subst hj
  unfold byteAt
  rw [S_list, Int.toNat_natCast, List.getD_eq_getElem?_getD, h]; rfl
theorem letter_ok (c : UInt8) {n : Int} (hn : n = (c.toNat : Int)) (G : Glob) : CallOk Tryd.prog TT 110 [.int .u8 n] G (fun v G' => v = .bool (isLet c) ∧ G' = G) := by
  refine call_body tt_ok Tryd.func110 rfl (by kernel_rfl) Tryd.ntmps110 Tryd.results110 ?_; conv => whnf
  repeat' (first | (refine BS_t (by assumption) ?_; conv => whnf) | (refine BS_f (by assumption) ?_; conv => whnf) | (refine BS_intro (fun _ => ?_) (fun _ => ?_) <;> conv => whnf))
  all_goals (refine ⟨_, fun _ _ h => h, congrArg AV.bool ?_, rfl⟩; subst hn; unfold isLet; rw [Bool.eq_iff_iff]; simp only [decide_eq_true_eq, decide_eq_false_iff_not, Bool.true_eq_false, Bool.false_eq_true, false_iff, true_iff] at *; omega)
theorem digit_ok (c : UInt8) {n : Int} (hn : n = (c.toNat : Int)) (G : Glob) : CallOk Tryd.prog TT 112 [.int .u8 n] G (fun v G' => v = .bool (isDig c) ∧ G' = G) := by
  refine call_body tt_ok Tryd.func112 rfl (by kernel_rfl) Tryd.ntmps112 Tryd.results112 ?_; conv => whnf
  repeat' (first | (refine BS_t (by assumption) ?_; conv => whnf) | (refine BS_f (by assumption) ?_; conv => whnf) | (refine BS_intro (fun _ => ?_) (fun _ => ?_) <;> conv => whnf))
  all_goals (refine ⟨_, fun _ _ h => h, congrArg AV.bool ?_, rfl⟩; subst hn; unfold isDig; rw [Bool.eq_iff_iff]; simp only [decide_eq_true_eq, decide_eq_false_iff_not, Bool.true_eq_false, Bool.false_eq_true, false_iff, true_iff] at *; omega)
theorem isIn_of (c : UInt8) : isIn c = (isLet c || (isDig c || ((c.toNat : Int) == 95))) := by
  unfold isIn isLet isDig
  rw [Bool.eq_iff_iff]
  simp only [decide_eq_true_eq, Bool.or_eq_true, beq_iff_eq]
  omega
theorem inner_ok (c : UInt8) {n : Int} (hn : n = (c.toNat : Int)) (G : Glob) : CallOk Tryd.prog TT 130 [.int .u8 n] G (fun v G' => v = .bool (isIn c) ∧ G' = G) := by
  have e := isIn_of c
  refine call_body tt_ok Tryd.func130 rfl (by kernel_rfl) Tryd.ntmps130 Tryd.results130 ?_; conv => whnf
  refine (letter_ok c hn G).on ?_; conv => whnf
  cases h1 : isLet c with
  | true =>
    rw [h1] at e
    conv => whnf
    repeat' (first | ((first | refine BS_t (by assumption) ?_ | refine BS_f (by assumption) ?_ | refine atG (by repeat (first | assumption | exact setG_same _ _ _ | refine Eq.trans (setG_ne _ _ (by first | assumption | exact Ne.symm (by assumption))) ?_)) ?_ | refine (nthK_iff _ _).2 ⟨_, (by assumption), ?_⟩ | refine ⟨_, ⟨(by omega), (by assumption)⟩, ?_⟩ | refine And.intro (by first | decide | omega) ?_ | fail); conv => whnf) | fail)
    exact ⟨_, fun _ _ h => h, by rw [e]; rfl, rfl⟩
  | false =>
    rw [h1] at e
    conv => whnf
    refine (digit_ok c hn G).on ?_; conv => whnf
    cases h2 : isDig c with
    | true =>
      rw [h2] at e
      conv => whnf
      repeat' (first | ((first | refine BS_t (by assumption) ?_ | refine BS_f (by assumption) ?_ | refine atG (by repeat (first | assumption | exact setG_same _ _ _ | refine Eq.trans (setG_ne _ _ (by first | assumption | exact Ne.symm (by assumption))) ?_)) ?_ | refine (nthK_iff _ _).2 ⟨_, (by assumption), ?_⟩ | refine ⟨_, ⟨(by omega), (by assumption)⟩, ?_⟩ | refine And.intro (by first | decide | omega) ?_ | fail); conv => whnf) | fail)
      exact ⟨_, fun _ _ h => h, by rw [e]; rfl, rfl⟩
    | false =>
      rw [h2] at e
      conv => whnf
      repeat' (first | ((first | refine BS_t (by assumption) ?_ | refine BS_f (by assumption) ?_ | refine atG (by repeat (first | assumption | exact setG_same _ _ _ | refine Eq.trans (setG_ne _ _ (by first | assumption | exact Ne.symm (by assumption))) ?_)) ?_ | refine (nthK_iff _ _).2 ⟨_, (by assumption), ?_⟩ | refine ⟨_, ⟨(by omega), (by assumption)⟩, ?_⟩ | refine And.intro (by first | decide | omega) ?_ | fail); conv => whnf) | fail)
      exact ⟨_, fun _ _ h => h, by rw [e, hn]; rfl, rfl⟩
theorem note1_ok (c : UInt8) {n : Int} (hn : n = (c.toNat : Int)) (G : Glob) : CallOk Tryd.prog TT 132 [.int .u8 n] G (fun v G' => v = .bool (noNl c) ∧ G' = G) := by
  refine call_body tt_ok Tryd.func132 rfl (by kernel_rfl) Tryd.ntmps132 Tryd.results132 ?_; conv => whnf
  repeat' (first | ((first | refine BS_t (by assumption) ?_ | refine BS_f (by assumption) ?_ | refine atG (by repeat (first | assumption | exact setG_same _ _ _ | refine Eq.trans (setG_ne _ _ (by first | assumption | exact Ne.symm (by assumption))) ?_)) ?_ | refine (nthK_iff _ _).2 ⟨_, (by assumption), ?_⟩ | refine ⟨_, ⟨(by omega), (by assumption)⟩, ?_⟩ | refine And.intro (by first | decide | omega) ?_ | fail); conv => whnf) | fail)
  refine ⟨_, fun _ _ h => h, congrArg AV.bool ?_, rfl⟩
  subst hn; unfold noNl; rw [Bool.eq_iff_iff]; simp only [decide_eq_true_eq, bne_iff_ne]; omega
/-- a test of bytes, as a function that is handed on -/
def TestOk (f : FuncId) (p : UInt8 → Bool) : Prop := ∀ (c : UInt8) (n : Int) (_ : n = (c.toNat : Int)) (G : Glob), CallOk Tryd.prog TT f [.int .u8 n] G (fun v G' => v = .bool (p c) ∧ G' = G)
theorem run_more {p : UInt8 → Bool} {s : List UInt8} {a k : Nat} {c : UInt8} (hk : k ≤ (runL p s a).length) (hc : s[a + k]? = some c) : (p c = true ↔ k < (runL p s a).length) := by
  unfold runL at *
  have hc' : (s.drop a)[k]? = some c := by rw [List.getElem?_drop]; exact hc
  generalize s.drop a = l at *
  clear hc
  induction l generalizing k with
  | nil => simp at hc'
  | cons x r ih =>
    rw [List.takeWhile_cons] at *
    cases k with
    | zero =>
      simp only [List.getElem?_cons_zero, Option.some.injEq] at hc'
      subst hc'
      split
      · rename_i h; simp [h]
      · rename_i h; simp [h]
    | succ k =>
      split at hk
      · rename_i h
        rw [if_pos h]
        simp only [List.length_cons, Nat.add_le_add_iff_right, Nat.add_lt_add_iff_right, List.getElem?_cons_succ] at *
        exact ih hk hc'
      · simp at hk
theorem run_end {p : UInt8 → Bool} {s : List UInt8} {a k : Nat} (hk : k ≤ (runL p s a).length) (h : ¬ a + k < s.length) (ha : a ≤ s.length) : k = (runL p s a).length := by
  have := runL_le p s ha
  omega
structure WI (p : UInt8 → Bool) (s : List UInt8) (a : Nat) where
  k : Nat
  hk : k ≤ (runL p s a).length
theorem lexB_at (s : ByteArray) (a : Int) (els : List (List AV)) : lexB s a els = .box [.str s, .int .i64 a, .slc 101 els] [(2, 101, els)] := rfl
theorem while_ok {f : FuncId} {p : UInt8 → Bool} (ht : TestOk f p) (s : List UInt8) (a : Nat) (els : List (List AV)) (b : Nat) (G : Glob) (hG : G b = some (lexB (S s) (a : Nat) els)) (ha : a ≤ s.length) (hs : s.length ≤ 1048576) :
    CallOk Tryd.prog TT 129 [.gptr b 0, .fn (.func f) [] []] G (fun v G' => v = .str (S (runL p s a)) ∧ G' = setG G b (lexB (S s) ((a + (runL p s a).length : Nat) : Int) els)) := by
  rw [lexB_at] at hG
  refine call_sem tt_ok Tryd.func129 rfl (by kernel_rfl) Tryd.ntmps129 Tryd.results129 ?_; conv => whnf
  repeat' (first | ((first | refine Sem.reg tt_ok ?_ | refine Sem.condS ?_ | refine Sem.regL tt_ok ?_ | refine Sem.skip tt_ok ?_ | refine Sem.exit tt_ok ?_ | refine Sem.ret tt_ok ?_ | refine BS_t (by assumption) ?_ | refine BS_f (by assumption) ?_ | refine atG (by repeat (first | assumption | exact setG_same _ _ _ | refine Eq.trans (setG_ne _ _ (by first | assumption | exact Ne.symm (by assumption))) ?_)) ?_ | refine (nthK_iff _ _).2 ⟨_, (by assumption), ?_⟩ | refine ⟨_, ⟨(by omega), (by assumption)⟩, ?_⟩ | refine And.intro (by first | decide | omega) ?_ | fail); conv => whnf) | refine Sem.seqS ?_ | refine Sem.block ?_ | fail)
  refine Sem.loop (ι := WI p s a) (fun x => ⟨(.gptr b 0 :: .fn (.func f) [] [] :: .top :: .top :: .str ⟨#[]⟩ :: .int .i64 (a : Nat) :: .top :: .top :: .top :: .top :: .top :: .top :: .top :: .top :: .top :: .top :: .top :: .top :: .top :: .top :: .top :: .top :: .top :: .top :: .top :: .top :: .top :: .top :: .top :: .top :: .top :: .top :: .top :: .top :: .top :: .top :: .top :: .top :: .top :: .top :: .top :: .top :: .top :: .top :: .top :: .top :: .top :: .top :: .top :: .top :: []), [], 0, 0, setG G b (lexB (S s) ((a + x.k : Nat) : Int) els)⟩) (fun x => (runL p s a).length - x.k) ⟨0, Nat.zero_le _⟩ ?_ (fun x => ?_)
  · refine weak_by [] ?_; (conv => whnf); repeat (first | (refine And.intro rfl ?_; conv => whnf) | fail)
    exact ⟨fun i y hy => by rw [show setG G b (lexB (S s) ((a + 0 : Nat) : Int) els) = G from setG_back hG] at hy; exact hy, rfl, Nat.le_refl _, rfl, rfl⟩
  have hk := x.hk
  generalize x.k = k at hk ⊢
  have hsz := S_size s
  have stop : k = (runL p s a).length → AV.str ((S s).extract ((a : Nat) : Int).toNat (((a + k : Nat) : Int)).toNat) = .str (S (runL p s a)) := fun e => by
    rw [S_extract, Int.toNat_natCast, Int.toNat_natCast, show a + k - a = k by omega, e, run_take]
  have hle := runL_le p s ha
  repeat' (first | ((first | refine Sem.reg tt_ok ?_ | refine Sem.condS ?_ | refine Sem.regL tt_ok ?_ | refine Sem.skip tt_ok ?_ | refine Sem.exit tt_ok ?_ | refine Sem.ret tt_ok ?_ | refine BS_t (by assumption) ?_ | refine BS_f (by assumption) ?_ | refine atG (by repeat (first | assumption | exact setG_same _ _ _ | refine Eq.trans (setG_ne _ _ (by first | assumption | exact Ne.symm (by assumption))) ?_)) ?_ | refine (nthK_iff _ _).2 ⟨_, (by assumption), ?_⟩ | refine ⟨_, ⟨(by omega), (by assumption)⟩, ?_⟩ | refine And.intro (by first | decide | omega) ?_ | fail); conv => whnf) | refine Sem.seqS ?_ | refine Sem.block ?_ | fail)
  refine draw_sound (eff := []) tt_ok (by kernel_rfl) (by kernel_rfl) ?_; conv => whnf
  repeat' (first | ((first | refine BS_t (by assumption) ?_ | refine BS_f (by assumption) ?_ | refine atG (by repeat (first | assumption | exact setG_same _ _ _ | refine Eq.trans (setG_ne _ _ (by first | assumption | exact Ne.symm (by assumption))) ?_)) ?_ | refine (nthK_iff _ _).2 ⟨_, (by assumption), ?_⟩ | refine ⟨_, ⟨(by omega), (by assumption)⟩, ?_⟩ | refine And.intro (by first | decide | omega) ?_ | fail); conv => whnf) | fail)
  by_cases hlt : a + k < s.length
  · have c0 : decide (((a + k : Nat) : Int) < ((S s).size : Nat)) = true := by simp; omega
    have hc : s[a + k]? = some s[a + k] := List.getElem?_eq_getElem hlt
    have hm := run_more hk hc
    generalize s[a + k] = c at hc hm
    repeat' (first | ((first | refine BS_t (by assumption) ?_ | refine BS_f (by assumption) ?_ | refine atG (by repeat (first | assumption | exact setG_same _ _ _ | refine Eq.trans (setG_ne _ _ (by first | assumption | exact Ne.symm (by assumption))) ?_)) ?_ | refine (nthK_iff _ _).2 ⟨_, (by assumption), ?_⟩ | refine ⟨_, ⟨(by omega), (by assumption)⟩, ?_⟩ | refine And.intro (by first | decide | omega) ?_ | fail); conv => whnf) | fail)
    refine ⟨_, _, ht c _ (byteAt_S hc rfl) _, ?_⟩; (conv => whnf); refine And.intro rfl ?_; conv => whnf
    cases hp : p c with
    | true =>
      have hk2 := hm.1 hp
      repeat' (first | ((first | refine BS_t (by assumption) ?_ | refine BS_f (by assumption) ?_ | refine atG (by repeat (first | assumption | exact setG_same _ _ _ | refine Eq.trans (setG_ne _ _ (by first | assumption | exact Ne.symm (by assumption))) ?_)) ?_ | refine (nthK_iff _ _).2 ⟨_, (by assumption), ?_⟩ | refine ⟨_, ⟨(by omega), (by assumption)⟩, ?_⟩ | refine And.intro (by first | decide | omega) ?_ | fail); conv => whnf) | fail)
      repeat' (first | ((first | refine Sem.reg tt_ok ?_ | refine Sem.condS ?_ | refine Sem.regL tt_ok ?_ | refine Sem.skip tt_ok ?_ | refine Sem.exit tt_ok ?_ | refine Sem.ret tt_ok ?_ | refine BS_t (by assumption) ?_ | refine BS_f (by assumption) ?_ | refine atG (by repeat (first | assumption | exact setG_same _ _ _ | refine Eq.trans (setG_ne _ _ (by first | assumption | exact Ne.symm (by assumption))) ?_)) ?_ | refine (nthK_iff _ _).2 ⟨_, (by assumption), ?_⟩ | refine ⟨_, ⟨(by omega), (by assumption)⟩, ?_⟩ | refine And.intro (by first | decide | omega) ?_ | fail); conv => whnf) | refine Sem.seqS ?_ | refine Sem.block ?_ | fail)
      have hw : IntKind.i64.wrap (((a + k : Nat) : Int) + 1) = ((a + (k + 1) : Nat) : Int) := by rw [IntWalk.i64_in _ (by omega)]; omega
      refine ⟨⟨k + 1, hk2⟩, by show (runL p s a).length - (k + 1) < (runL p s a).length - k; omega, ?_⟩
      refine weak_by [] ?_; (conv => whnf); repeat (first | (refine And.intro rfl ?_; conv => whnf) | fail)
      exact ⟨fun i y hy => by rw [setG_twice, hw]; exact hy, rfl, Nat.le_refl _, rfl, rfl⟩
    | false =>
      have hk2 : k = (runL p s a).length := by
        rcases Nat.lt_or_ge k (runL p s a).length with h | h
        · have := hm.2 h; rw [hp] at this; cases this
        · omega
      repeat' (first | ((first | refine BS_t (by assumption) ?_ | refine BS_f (by assumption) ?_ | refine atG (by repeat (first | assumption | exact setG_same _ _ _ | refine Eq.trans (setG_ne _ _ (by first | assumption | exact Ne.symm (by assumption))) ?_)) ?_ | refine (nthK_iff _ _).2 ⟨_, (by assumption), ?_⟩ | refine ⟨_, ⟨(by omega), (by assumption)⟩, ?_⟩ | refine And.intro (by first | decide | omega) ?_ | fail); conv => whnf) | fail)
      repeat' (first | ((first | refine Sem.reg tt_ok ?_ | refine Sem.condS ?_ | refine Sem.regL tt_ok ?_ | refine Sem.skip tt_ok ?_ | refine Sem.exit tt_ok ?_ | refine Sem.ret tt_ok ?_ | refine BS_t (by assumption) ?_ | refine BS_f (by assumption) ?_ | refine atG (by repeat (first | assumption | exact setG_same _ _ _ | refine Eq.trans (setG_ne _ _ (by first | assumption | exact Ne.symm (by assumption))) ?_)) ?_ | refine (nthK_iff _ _).2 ⟨_, (by assumption), ?_⟩ | refine ⟨_, ⟨(by omega), (by assumption)⟩, ?_⟩ | refine And.intro (by first | decide | omega) ?_ | fail); conv => whnf) | refine Sem.seqS ?_ | refine Sem.block ?_ | fail)
      refine draw_sound (eff := []) tt_ok (by kernel_rfl) (by kernel_rfl) ?_; conv => whnf
      repeat' (first | ((first | refine BS_t (by assumption) ?_ | refine BS_f (by assumption) ?_ | refine atG (by repeat (first | assumption | exact setG_same _ _ _ | refine Eq.trans (setG_ne _ _ (by first | assumption | exact Ne.symm (by assumption))) ?_)) ?_ | refine (nthK_iff _ _).2 ⟨_, (by assumption), ?_⟩ | refine ⟨_, ⟨(by omega), (by assumption)⟩, ?_⟩ | refine And.intro (by first | decide | omega) ?_ | fail); conv => whnf) | fail)
      repeat' (first | ((first | refine Sem.reg tt_ok ?_ | refine Sem.condS ?_ | refine Sem.regL tt_ok ?_ | refine Sem.skip tt_ok ?_ | refine Sem.exit tt_ok ?_ | refine Sem.ret tt_ok ?_ | refine BS_t (by assumption) ?_ | refine BS_f (by assumption) ?_ | refine atG (by repeat (first | assumption | exact setG_same _ _ _ | refine Eq.trans (setG_ne _ _ (by first | assumption | exact Ne.symm (by assumption))) ?_)) ?_ | refine (nthK_iff _ _).2 ⟨_, (by assumption), ?_⟩ | refine ⟨_, ⟨(by omega), (by assumption)⟩, ?_⟩ | refine And.intro (by first | decide | omega) ?_ | fail); conv => whnf) | refine Sem.seqS ?_ | refine Sem.block ?_ | fail)
      refine ⟨_, fun _ _ h => h, stop hk2, ?_⟩
      rw [← hk2]
  · have c0 : decide (((a + k : Nat) : Int) < ((S s).size : Nat)) = false := by simp; omega
    have hk2 := run_end hk hlt ha
    repeat' (first | ((first | refine BS_t (by assumption) ?_ | refine BS_f (by assumption) ?_ | refine atG (by repeat (first | assumption | exact setG_same _ _ _ | refine Eq.trans (setG_ne _ _ (by first | assumption | exact Ne.symm (by assumption))) ?_)) ?_ | refine (nthK_iff _ _).2 ⟨_, (by assumption), ?_⟩ | refine ⟨_, ⟨(by omega), (by assumption)⟩, ?_⟩ | refine And.intro (by first | decide | omega) ?_ | fail); conv => whnf) | fail)
    repeat' (first | ((first | refine Sem.reg tt_ok ?_ | refine Sem.condS ?_ | refine Sem.regL tt_ok ?_ | refine Sem.skip tt_ok ?_ | refine Sem.exit tt_ok ?_ | refine Sem.ret tt_ok ?_ | refine BS_t (by assumption) ?_ | refine BS_f (by assumption) ?_ | refine atG (by repeat (first | assumption | exact setG_same _ _ _ | refine Eq.trans (setG_ne _ _ (by first | assumption | exact Ne.symm (by assumption))) ?_)) ?_ | refine (nthK_iff _ _).2 ⟨_, (by assumption), ?_⟩ | refine ⟨_, ⟨(by omega), (by assumption)⟩, ?_⟩ | refine And.intro (by first | decide | omega) ?_ | fail); conv => whnf) | refine Sem.seqS ?_ | refine Sem.block ?_ | fail)
    refine draw_sound (eff := []) tt_ok (by kernel_rfl) (by kernel_rfl) ?_; conv => whnf
    repeat' (first | ((first | refine BS_t (by assumption) ?_ | refine BS_f (by assumption) ?_ | refine atG (by repeat (first | assumption | exact setG_same _ _ _ | refine Eq.trans (setG_ne _ _ (by first | assumption | exact Ne.symm (by assumption))) ?_)) ?_ | refine (nthK_iff _ _).2 ⟨_, (by assumption), ?_⟩ | refine ⟨_, ⟨(by omega), (by assumption)⟩, ?_⟩ | refine And.intro (by first | decide | omega) ?_ | fail); conv => whnf) | fail)
    repeat' (first | ((first | refine Sem.reg tt_ok ?_ | refine Sem.condS ?_ | refine Sem.regL tt_ok ?_ | refine Sem.skip tt_ok ?_ | refine Sem.exit tt_ok ?_ | refine Sem.ret tt_ok ?_ | refine BS_t (by assumption) ?_ | refine BS_f (by assumption) ?_ | refine atG (by repeat (first | assumption | exact setG_same _ _ _ | refine Eq.trans (setG_ne _ _ (by first | assumption | exact Ne.symm (by assumption))) ?_)) ?_ | refine (nthK_iff _ _).2 ⟨_, (by assumption), ?_⟩ | refine ⟨_, ⟨(by omega), (by assumption)⟩, ?_⟩ | refine And.intro (by first | decide | omega) ?_ | fail); conv => whnf) | refine Sem.seqS ?_ | refine Sem.block ?_ | fail)
    refine ⟨_, fun _ _ h => h, stop hk2, ?_⟩
    rw [← hk2]
end Go.Proofs.YtofhakbmmgpgdaaDoor
end

section
/- The lexer: a word, a number, a note. -/
set_option maxRecDepth 100000
set_option linter.unusedSimpArgs false
namespace Go.Proofs.YtofhakbmmgpgdaaDoor
open Go Go.RowKit Go.Proofs Go.Shelf

def lays99_ren : Go.Shelf.Ren := ⟨fun | 99 => 131 | 206 => 139 | n => n, fun | 3 => 3 | 4 => 4 | 5 => 5 | 9 => 9 | 72 => 88 | n => n, fun  | n => n⟩
theorem lays99 : Go.Proofs.Lays.n99 Tryd.prog lays99_ren := {
  mixed := by kernel_rfl
  f99 := Tryd.func131.trans (congrArg some (by kernel_rfl))
  f206 := Tryd.func139.trans (congrArg some (by kernel_rfl))
  t3 := Tryd.underlying3
  a3 := Tryd.isAgg3
  z3 := Tryd.sizeOf3
  v3 := Tryd.zeroValue3
  t4 := Tryd.underlying4
  a4 := Tryd.isAgg4
  z4 := Tryd.sizeOf4
  v4 := Tryd.zeroValue4
  t9 := Tryd.underlying9
  a9 := Tryd.isAgg9
  z9 := Tryd.sizeOf9
  v9 := Tryd.zeroValue9
}
def lays137_ren : Go.Shelf.Ren := ⟨fun | 137 => 115 | 217 => 133 | 266 => 140 | n => n, fun | 3 => 3 | 5 => 5 | 9 => 9 | 72 => 88 | n => n, fun  | n => n⟩
theorem lays137 : Go.Proofs.Lays.n137 Tryd.prog lays137_ren := {
  mixed := by kernel_rfl
  f137 := Tryd.func115.trans (congrArg some (by kernel_rfl))
  f217 := Tryd.func133.trans (congrArg some (by kernel_rfl))
  f266 := Tryd.func140.trans (congrArg some (by kernel_rfl))
  t3 := Tryd.underlying3
  a3 := Tryd.isAgg3
  z3 := Tryd.sizeOf3
  v3 := Tryd.zeroValue3
  t5 := Tryd.underlying5
  a5 := Tryd.isAgg5
  z5 := Tryd.sizeOf5
  v5 := Tryd.zeroValue5
  t9 := Tryd.underlying9
  a9 := Tryd.isAgg9
  z9 := Tryd.sizeOf9
  v9 := Tryd.zeroValue9
}
theorem CallOk.still {f : FuncId} {args : List AV} {G : Glob} {v : AV} (he : ∃ fn, (Tryd.prog).funcs[f]? = some fn ∧ (fn.name == "runtime.NumGoroutine") = false ∧ fn.body.isNone = false)
    (h : ∀ (g : Gh) (us : Array Value) (w : World), us.size = args.length → (∀ (i : Nat) (a : AV) (u : Value), args[i]? = some a → us[i]? = some u → Dz TT g w a u) → ∃ u, Dz TT g w v u ∧ Calls Tryd.prog f us w (fun e w' => e = .returned u ∧ w' = w)) :
    CallOk Tryd.prog TT f args G (fun x G' => x = v ∧ G' = G) :=
  .of_gives he fun g us w hl hd => by
    obtain ⟨u, h1, h2⟩ := h g us w hl hd
    exact ⟨u, h1, h2.mono fun e w' ⟨h3, h4⟩ => ⟨h3, by rw [h4]; exact Up.refl _⟩⟩
theorem hasprefix_ok (s p : ByteArray) (G : Glob) : CallOk Tryd.prog TT 131 [.str s, .str p] G (fun v G' => v = .bool (Lib.hasPrefix s.data.toList p.data.toList) ∧ G' = G) := by
  refine .still ⟨_, Tryd.func131, by decide, rfl⟩ fun g us w hl hd => ?_
  obtain ⟨us⟩ := us
  match us, hl with
  | [u0, u1], _ =>
    cases hd 0 _ u0 rfl rfl
    cases hd 1 _ u1 rfl rfl
    exact ⟨_, .bool _, Any.strings_HasPrefix lays99 s p w⟩
theorem indexbyte_ok (s : ByteArray) (c : Int) (G : Glob) : CallOk Tryd.prog TT 115 [.str s, .int .u8 c] G (fun v G' => v = .int .i64 (Lib.indexByte s.data.toList c.toNat.toUInt8) ∧ G' = G) := by
  refine .still ⟨_, Tryd.func115, by decide, rfl⟩ fun g us w hl hd => ?_
  obtain ⟨us⟩ := us
  match us, hl with
  | [u0, u1], _ =>
    cases hd 0 _ u0 rfl rfl
    cases hd 1 _ u1 rfl rfl
    exact ⟨_, .int _ _, Any.strings_IndexByte lays137 s c w⟩
/-- a token as cells -/
def Tok.av (t : Tok) : List AV := tokC t.kind (S t.text) t.num t.at_
/-- what a step of the lexer leaves -/
def stepQ (s : List UInt8) (r : Option Tok × Nat × Nat) (els : List (List AV)) (b : Nat) (G : Glob) (v : AV) (G' : Glob) : Prop :=
  v = .int .i64 (r.2.2 : Nat) ∧ ∃ a', G' = setG G b (lexB (S s) a' (els ++ r.1.toList.map Tok.av)) ∧ (r.2.2 = 0 → a' = (r.2.1 : Nat))
theorem word_ok (s : List UInt8) (a : Nat) (els : List (List AV)) (b : Nat) (G : Glob) (hG : G b = some (lexB (S s) (a : Nat) els)) (hs : s.length ≤ 1048576) (he : els.length ≤ 1048576) {c : UInt8} (hc : s[a]? = some c) (hp : isLet c = true) :
    CallOk Tryd.prog TT 111 [.gptr b 0] G (stepQ s (oneL s a) els b G) := by
  have ha : a ≤ s.length := Nat.le_of_lt (List.getElem?_eq_some_iff.1 hc).1
  have hw := while_ok (f := 130) inner_ok s a els b G hG ha hs
  have e1 := oneL_of hc
  unfold oneC at e1
  rw [if_pos hp] at e1
  have hsz := S_size (runL isIn s a)
  have hG' := hG
  rw [lexB_at] at hG'
  rw [e1]
  generalize runL isIn s a = r at *
  clear e1
  refine call_sem tt_ok Tryd.func111 rfl (by kernel_rfl) Tryd.ntmps111 Tryd.results111 ?_; conv => whnf
  repeat' (first | ((first | refine Sem.reg tt_ok ?_ | refine Sem.condS ?_ | refine Sem.regL tt_ok ?_ | refine Sem.skip tt_ok ?_ | refine Sem.exit tt_ok ?_ | refine Sem.ret tt_ok ?_ | refine BS_t (by assumption) ?_ | refine BS_f (by assumption) ?_ | refine atG (by repeat (first | assumption | exact setG_same _ _ _ | refine Eq.trans (setG_ne _ _ (by first | assumption | exact Ne.symm (by assumption))) ?_)) ?_ | refine (nthK_iff _ _).2 ⟨_, (by assumption), ?_⟩ | refine ⟨_, ⟨(by omega), (by assumption)⟩, ?_⟩ | refine And.intro (by first | decide | omega) ?_ | fail); conv => whnf) | refine Sem.seqS ?_ | refine Sem.block ?_ | fail)
  refine hw.on ?_; conv => whnf
  repeat' (first | ((first | refine Sem.reg tt_ok ?_ | refine Sem.condS ?_ | refine Sem.regL tt_ok ?_ | refine Sem.skip tt_ok ?_ | refine Sem.exit tt_ok ?_ | refine Sem.ret tt_ok ?_ | refine BS_t (by assumption) ?_ | refine BS_f (by assumption) ?_ | refine atG (by repeat (first | assumption | exact setG_same _ _ _ | refine Eq.trans (setG_ne _ _ (by first | assumption | exact Ne.symm (by assumption))) ?_)) ?_ | refine (nthK_iff _ _).2 ⟨_, (by assumption), ?_⟩ | refine ⟨_, ⟨(by omega), (by assumption)⟩, ?_⟩ | refine And.intro (by first | decide | omega) ?_ | fail); conv => whnf) | refine Sem.seqS ?_ | refine Sem.block ?_ | fail)
  refine BS_intro (fun h => ?_) (fun h => ?_) <;> conv => whnf
  · have h : 16 < r.length := by simp at h; omega
    rw [if_pos h]
    repeat' (first | ((first | refine Sem.reg tt_ok ?_ | refine Sem.condS ?_ | refine Sem.regL tt_ok ?_ | refine Sem.skip tt_ok ?_ | refine Sem.exit tt_ok ?_ | refine Sem.ret tt_ok ?_ | refine BS_t (by assumption) ?_ | refine BS_f (by assumption) ?_ | refine atG (by repeat (first | assumption | exact setG_same _ _ _ | refine Eq.trans (setG_ne _ _ (by first | assumption | exact Ne.symm (by assumption))) ?_)) ?_ | refine (nthK_iff _ _).2 ⟨_, (by assumption), ?_⟩ | refine ⟨_, ⟨(by omega), (by assumption)⟩, ?_⟩ | refine And.intro (by first | decide | omega) ?_ | fail); conv => whnf) | refine Sem.seqS ?_ | refine Sem.block ?_ | fail)
    exact ⟨_, fun _ _ h => h, rfl, _, by simp; rfl, fun h => by cases h⟩
  · have h : ¬ 16 < r.length := by simp at h; omega
    rw [if_neg h]
    repeat' (first | ((first | refine Sem.reg tt_ok ?_ | refine Sem.condS ?_ | refine Sem.regL tt_ok ?_ | refine Sem.skip tt_ok ?_ | refine Sem.exit tt_ok ?_ | refine Sem.ret tt_ok ?_ | refine BS_t (by assumption) ?_ | refine BS_f (by assumption) ?_ | refine atG (by repeat (first | assumption | exact setG_same _ _ _ | refine Eq.trans (setG_ne _ _ (by first | assumption | exact Ne.symm (by assumption))) ?_)) ?_ | refine (nthK_iff _ _).2 ⟨_, (by assumption), ?_⟩ | refine ⟨_, ⟨(by omega), (by assumption)⟩, ?_⟩ | refine And.intro (by first | decide | omega) ?_ | fail); conv => whnf) | refine Sem.seqS ?_ | refine Sem.block ?_ | fail)
    refine (lexput_ok _ b (S s) ((a + r.length : Nat) : Int) els 1 0 (a : Nat) (S r) (setG_same _ _ _) he).on ?_; conv => whnf
    repeat' (first | ((first | refine Sem.reg tt_ok ?_ | refine Sem.condS ?_ | refine Sem.regL tt_ok ?_ | refine Sem.skip tt_ok ?_ | refine Sem.exit tt_ok ?_ | refine Sem.ret tt_ok ?_ | refine BS_t (by assumption) ?_ | refine BS_f (by assumption) ?_ | refine atG (by repeat (first | assumption | exact setG_same _ _ _ | refine Eq.trans (setG_ne _ _ (by first | assumption | exact Ne.symm (by assumption))) ?_)) ?_ | refine (nthK_iff _ _).2 ⟨_, (by assumption), ?_⟩ | refine ⟨_, ⟨(by omega), (by assumption)⟩, ?_⟩ | refine And.intro (by first | decide | omega) ?_ | fail); conv => whnf) | refine Sem.seqS ?_ | refine Sem.block ?_ | fail)
    refine ⟨_, fun _ _ h => h, rfl, _, ?_, fun _ => rfl⟩
    rw [setG_twice]; rfl
structure NI (r : List UInt8) where
  k : Nat
  hk : k ≤ r.length
theorem digN_snoc : ∀ (l : List UInt8) (c : UInt8) (n : Nat), digN (l ++ [c]) n = 10 * digN l n + (c.toNat - 48)
  | [], _, _ => rfl
  | x :: l, c, n => by simp only [List.cons_append, digN]; exact digN_snoc l c _
theorem digN_lt : ∀ (l : List UInt8), (∀ c ∈ l, isDig c = true) → l.length ≤ 4 → digN l 0 ≤ 9999 := fun l h hl => by
  cases l with
  | nil => simp [digN]
  | cons c r =>
    by_cases hx : isLet c = true
    · have h2 := h c (by simp)
      unfold isLet at hx; unfold isDig at h2
      simp only [decide_eq_true_eq] at hx h2
      omega
    · by_cases hz : 1 < (c :: r).length ∧ c.toNat = 48
      · have := TokOk.num (t := ⟨2, r, digN r 0, 0⟩)
        cases r with
        | nil => simp at hz
        | cons d q =>
          have key : digN (c :: d :: q) 0 = digN (d :: q) 0 := by simp [digN, hz.2]
          rw [key]
          refine digN_lt (d :: q) (fun x hx => h x (by simp [hx])) (by simp at hl ⊢; omega)
      · exact TokOk.num (t := ⟨2, c :: r, digN (c :: r) 0, 0⟩) (.inr (.inl ⟨rfl, rfl, hl, h, c, r, rfl, h c (by simp), by simpa using hx, hz⟩))
termination_by l => l.length
theorem number_ok (s : List UInt8) (a : Nat) (els : List (List AV)) (b : Nat) (G : Glob) (hG : G b = some (lexB (S s) (a : Nat) els)) (hs : s.length ≤ 1048576) (he : els.length ≤ 1048576) {c : UInt8} (hc : s[a]? = some c) (hp : isLet c = false) (hd : isDig c = true) :
    CallOk Tryd.prog TT 113 [.gptr b 0] G (stepQ s (oneL s a) els b G) := by
  have ha : a ≤ s.length := Nat.le_of_lt (List.getElem?_eq_some_iff.1 hc).1
  have hw := while_ok (f := 112) digit_ok s a els b G hG ha hs
  have e1 := oneL_of hc
  unfold oneC at e1
  rw [if_neg (by simp [hp]), if_pos hd] at e1
  obtain ⟨r', hr'⟩ := run_cons hc hd
  have hall : ∀ c ∈ runL isDig s a, isDig c = true := mem_run
  have hsz := S_size (runL isDig s a)
  have hG' := hG
  rw [lexB_at] at hG'
  rw [e1]
  generalize runL isDig s a = r at *
  clear e1
  have h0 : r[0]? = some c := by rw [hr']; rfl
  have hb0 := byteAt_S (j := 0) h0 rfl
  refine call_sem tt_ok Tryd.func113 rfl (by kernel_rfl) Tryd.ntmps113 Tryd.results113 ?_; conv => whnf
  repeat' (first | ((first | refine Sem.reg tt_ok ?_ | refine Sem.condS ?_ | refine Sem.regL tt_ok ?_ | refine Sem.skip tt_ok ?_ | refine Sem.exit tt_ok ?_ | refine Sem.ret tt_ok ?_ | refine BS_t (by assumption) ?_ | refine BS_f (by assumption) ?_ | refine atG (by repeat (first | assumption | exact setG_same _ _ _ | refine Eq.trans (setG_ne _ _ (by first | assumption | exact Ne.symm (by assumption))) ?_)) ?_ | refine (nthK_iff _ _).2 ⟨_, (by assumption), ?_⟩ | refine ⟨_, ⟨(by omega), (by assumption)⟩, ?_⟩ | refine And.intro (by first | decide | omega) ?_ | fail); conv => whnf) | refine Sem.seqS ?_ | refine Sem.block ?_ | fail)
  refine hw.on ?_; conv => whnf
  repeat' (first | ((first | refine Sem.reg tt_ok ?_ | refine Sem.condS ?_ | refine Sem.regL tt_ok ?_ | refine Sem.skip tt_ok ?_ | refine Sem.exit tt_ok ?_ | refine Sem.ret tt_ok ?_ | refine BS_t (by assumption) ?_ | refine BS_f (by assumption) ?_ | refine atG (by repeat (first | assumption | exact setG_same _ _ _ | refine Eq.trans (setG_ne _ _ (by first | assumption | exact Ne.symm (by assumption))) ?_)) ?_ | refine (nthK_iff _ _).2 ⟨_, (by assumption), ?_⟩ | refine ⟨_, ⟨(by omega), (by assumption)⟩, ?_⟩ | refine And.intro (by first | decide | omega) ?_ | fail); conv => whnf) | refine Sem.seqS ?_ | refine Sem.block ?_ | fail)
  by_cases hz : 1 < r.length ∧ c.toNat = 48
  · have t1 : decide (((S r).size : Int) > 1) = true := by simp; omega
    have t2 : (byteAt (S r) (0 : Int).toNat == 48) = true := by rw [hb0]; simp; omega
    rw [if_pos hz]
    repeat' (first | ((first | refine Sem.reg tt_ok ?_ | refine Sem.condS ?_ | refine Sem.regL tt_ok ?_ | refine Sem.skip tt_ok ?_ | refine Sem.exit tt_ok ?_ | refine Sem.ret tt_ok ?_ | refine BS_t (by assumption) ?_ | refine BS_f (by assumption) ?_ | refine atG (by repeat (first | assumption | exact setG_same _ _ _ | refine Eq.trans (setG_ne _ _ (by first | assumption | exact Ne.symm (by assumption))) ?_)) ?_ | refine (nthK_iff _ _).2 ⟨_, (by assumption), ?_⟩ | refine ⟨_, ⟨(by omega), (by assumption)⟩, ?_⟩ | refine And.intro (by first | decide | omega) ?_ | fail); conv => whnf) | refine Sem.seqS ?_ | refine Sem.block ?_ | fail)
    exact ⟨_, fun _ _ h => h, rfl, _, by simp; rfl, fun h => by cases h⟩
  · rw [if_neg hz]
    by_cases h4 : 4 < r.length
    · have t1 : decide (((S r).size : Int) > 1) = true := by simp; omega
      have t2 : (byteAt (S r) (0 : Int).toNat == 48) = false := by rw [hb0, beq_eq_false_iff_ne]; omega
      have t3 : decide (((S r).size : Int) > 4) = true := by simp; omega
      rw [if_pos h4]
      repeat' (first | ((first | refine Sem.reg tt_ok ?_ | refine Sem.condS ?_ | refine Sem.regL tt_ok ?_ | refine Sem.skip tt_ok ?_ | refine Sem.exit tt_ok ?_ | refine Sem.ret tt_ok ?_ | refine BS_t (by assumption) ?_ | refine BS_f (by assumption) ?_ | refine atG (by repeat (first | assumption | exact setG_same _ _ _ | refine Eq.trans (setG_ne _ _ (by first | assumption | exact Ne.symm (by assumption))) ?_)) ?_ | refine (nthK_iff _ _).2 ⟨_, (by assumption), ?_⟩ | refine ⟨_, ⟨(by omega), (by assumption)⟩, ?_⟩ | refine And.intro (by first | decide | omega) ?_ | fail); conv => whnf) | refine Sem.seqS ?_ | refine Sem.block ?_ | fail)
      exact ⟨_, fun _ _ h => h, rfl, _, by simp; rfl, fun h => by cases h⟩
    rw [if_neg h4]
    have t3 : decide (((S r).size : Int) > 4) = false := by simp; omega
    by_cases h1 : 1 < r.length
    · have t1 : decide (((S r).size : Int) > 1) = true := by simp; omega
      have t2 : (byteAt (S r) (0 : Int).toNat == 48) = false := by rw [hb0, beq_eq_false_iff_ne]; omega
      repeat' (first | ((first | refine Sem.reg tt_ok ?_ | refine Sem.condS ?_ | refine Sem.regL tt_ok ?_ | refine Sem.skip tt_ok ?_ | refine Sem.exit tt_ok ?_ | refine Sem.ret tt_ok ?_ | refine BS_t (by assumption) ?_ | refine BS_f (by assumption) ?_ | refine atG (by repeat (first | assumption | exact setG_same _ _ _ | refine Eq.trans (setG_ne _ _ (by first | assumption | exact Ne.symm (by assumption))) ?_)) ?_ | refine (nthK_iff _ _).2 ⟨_, (by assumption), ?_⟩ | refine ⟨_, ⟨(by omega), (by assumption)⟩, ?_⟩ | refine And.intro (by first | decide | omega) ?_ | fail); conv => whnf) | refine Sem.seqS ?_ | refine Sem.block ?_ | fail)
      refine Sem.loop (ι := NI r) (fun x => ⟨(.gptr b 0 :: .top :: .int .i64 0 :: .int .i64 (a : Nat) :: .str (S r) :: .int .i64 (digN (r.take x.k) 0 : Nat) :: .top :: .top :: .top :: .top :: .top :: .top :: .top :: .top :: .top :: .top :: .top :: .top :: .top :: .top :: .top :: .top :: .top :: .top :: .top :: .top :: .top :: .int .i64 (r.length : Nat) :: .int .i64 (x.k : Nat) :: .top :: .top :: .top :: .top :: .top :: .top :: .top :: .top :: .top :: .top :: .top :: .top :: .top :: .top :: .top :: .top :: []), [], 0, 0, setG G b (lexB (S s) ((a + r.length : Nat) : Int) els)⟩) (fun x => r.length - x.k) ⟨0, Nat.zero_le _⟩ ?_ (fun x => ?_)
      · refine weak_by [] ?_; (conv => whnf); repeat (first | (refine And.intro rfl ?_; conv => whnf) | fail)
        exact ⟨fun i y hy => hy, rfl, Nat.le_refl _, rfl, rfl⟩
      have hk := x.hk
      generalize x.k = k at hk ⊢
      have hn := digN_lt (r.take k) (fun c hc => hall c (List.mem_of_mem_take hc)) (by rw [List.length_take]; omega)
      repeat' (first | ((first | refine Sem.reg tt_ok ?_ | refine Sem.condS ?_ | refine Sem.regL tt_ok ?_ | refine Sem.skip tt_ok ?_ | refine Sem.exit tt_ok ?_ | refine Sem.ret tt_ok ?_ | refine BS_t (by assumption) ?_ | refine BS_f (by assumption) ?_ | refine atG (by repeat (first | assumption | exact setG_same _ _ _ | refine Eq.trans (setG_ne _ _ (by first | assumption | exact Ne.symm (by assumption))) ?_)) ?_ | refine (nthK_iff _ _).2 ⟨_, (by assumption), ?_⟩ | refine ⟨_, ⟨(by omega), (by assumption)⟩, ?_⟩ | refine And.intro (by first | decide | omega) ?_ | fail); conv => whnf) | refine Sem.seqS ?_ | refine Sem.block ?_ | fail)
      refine BS_intro (fun hlt => ?_) (fun hlt => ?_) <;> conv => whnf
      · have hlt : k < r.length := by simp at hlt; omega
        have hck : r[k]? = some r[k] := List.getElem?_eq_getElem hlt
        have hbk := byteAt_S (j := (k : Int)) hck rfl
        have hdk := hall r[k] (List.getElem_mem hlt)
        have htk : r.take (k + 1) = r.take k ++ [r[k]] := by rw [List.take_add_one, hck]; rfl
        generalize r[k] = d at hck hbk hdk htk
        have hsn := digN_snoc (r.take k) d 0
        rw [← htk] at hsn
        unfold isDig at hdk
        simp only [decide_eq_true_eq] at hdk
        repeat' (first | ((first | refine Sem.reg tt_ok ?_ | refine Sem.condS ?_ | refine Sem.regL tt_ok ?_ | refine Sem.skip tt_ok ?_ | refine Sem.exit tt_ok ?_ | refine Sem.ret tt_ok ?_ | refine BS_t (by assumption) ?_ | refine BS_f (by assumption) ?_ | refine atG (by repeat (first | assumption | exact setG_same _ _ _ | refine Eq.trans (setG_ne _ _ (by first | assumption | exact Ne.symm (by assumption))) ?_)) ?_ | refine (nthK_iff _ _).2 ⟨_, (by assumption), ?_⟩ | refine ⟨_, ⟨(by omega), (by assumption)⟩, ?_⟩ | refine And.intro (by first | decide | omega) ?_ | fail); conv => whnf) | refine Sem.seqS ?_ | refine Sem.block ?_ | fail)
        refine ⟨⟨k + 1, hlt⟩, by show r.length - (k + 1) < r.length - k; omega, ?_⟩
        refine weak_by [] ?_; (conv => whnf); repeat (first | (refine And.intro rfl ?_; conv => whnf) | fail)
        refine And.intro (by rw [hbk, hsn, IntWalk.i64_in (10 * ((digN (r.take k) 0 : Nat) : Int)) (by omega), show IntKind.u8.wrap ((d.toNat : Int) - 48) = (d.toNat : Int) - 48 from by rw [IntKind.wrap_u8]; omega, IntWalk.i64_in ((d.toNat : Int) - 48) (by omega), IntWalk.i64_in _ (by omega)]; omega) ?_
        (conv => whnf); repeat (first | (refine And.intro rfl ?_; conv => whnf) | fail)
        refine And.intro (show _ = (((k + 1 : Nat)) : Int) from by rw [IntWalk.i64_in _ (by omega)]; omega) ?_
        (conv => whnf); repeat (first | (refine And.intro rfl ?_; conv => whnf) | fail)
        exact ⟨fun i y hy => hy, rfl, Nat.le_refl _, rfl, rfl⟩
      · have hlt : k = r.length := by simp at hlt; omega
        subst hlt
        rw [List.take_length]
        repeat' (first | ((first | refine Sem.reg tt_ok ?_ | refine Sem.condS ?_ | refine Sem.regL tt_ok ?_ | refine Sem.skip tt_ok ?_ | refine Sem.exit tt_ok ?_ | refine Sem.ret tt_ok ?_ | refine BS_t (by assumption) ?_ | refine BS_f (by assumption) ?_ | refine atG (by repeat (first | assumption | exact setG_same _ _ _ | refine Eq.trans (setG_ne _ _ (by first | assumption | exact Ne.symm (by assumption))) ?_)) ?_ | refine (nthK_iff _ _).2 ⟨_, (by assumption), ?_⟩ | refine ⟨_, ⟨(by omega), (by assumption)⟩, ?_⟩ | refine And.intro (by first | decide | omega) ?_ | fail); conv => whnf) | refine Sem.seqS ?_ | refine Sem.block ?_ | fail)
        refine (lexput_ok _ b (S s) ((a + r.length : Nat) : Int) els 2 (digN r 0 : Nat) (a : Nat) (S r) (setG_same _ _ _) he).on ?_; conv => whnf
        repeat' (first | ((first | refine Sem.reg tt_ok ?_ | refine Sem.condS ?_ | refine Sem.regL tt_ok ?_ | refine Sem.skip tt_ok ?_ | refine Sem.exit tt_ok ?_ | refine Sem.ret tt_ok ?_ | refine BS_t (by assumption) ?_ | refine BS_f (by assumption) ?_ | refine atG (by repeat (first | assumption | exact setG_same _ _ _ | refine Eq.trans (setG_ne _ _ (by first | assumption | exact Ne.symm (by assumption))) ?_)) ?_ | refine (nthK_iff _ _).2 ⟨_, (by assumption), ?_⟩ | refine ⟨_, ⟨(by omega), (by assumption)⟩, ?_⟩ | refine And.intro (by first | decide | omega) ?_ | fail); conv => whnf) | refine Sem.seqS ?_ | refine Sem.block ?_ | fail)
        refine ⟨_, fun _ _ h => h, rfl, _, ?_, fun _ => rfl⟩
        rw [setG_twice]; rfl
    · have t1 : decide (((S r).size : Int) > 1) = false := by simp; omega
      repeat' (first | ((first | refine Sem.reg tt_ok ?_ | refine Sem.condS ?_ | refine Sem.regL tt_ok ?_ | refine Sem.skip tt_ok ?_ | refine Sem.exit tt_ok ?_ | refine Sem.ret tt_ok ?_ | refine BS_t (by assumption) ?_ | refine BS_f (by assumption) ?_ | refine atG (by repeat (first | assumption | exact setG_same _ _ _ | refine Eq.trans (setG_ne _ _ (by first | assumption | exact Ne.symm (by assumption))) ?_)) ?_ | refine (nthK_iff _ _).2 ⟨_, (by assumption), ?_⟩ | refine ⟨_, ⟨(by omega), (by assumption)⟩, ?_⟩ | refine And.intro (by first | decide | omega) ?_ | fail); conv => whnf) | refine Sem.seqS ?_ | refine Sem.block ?_ | fail)
      refine Sem.loop (ι := NI r) (fun x => ⟨(.gptr b 0 :: .top :: .int .i64 0 :: .int .i64 (a : Nat) :: .str (S r) :: .int .i64 (digN (r.take x.k) 0 : Nat) :: .top :: .top :: .top :: .top :: .top :: .top :: .top :: .top :: .top :: .top :: .top :: .top :: .top :: .top :: .top :: .top :: .top :: .top :: .top :: .top :: .top :: .int .i64 (r.length : Nat) :: .int .i64 (x.k : Nat) :: .top :: .top :: .top :: .top :: .top :: .top :: .top :: .top :: .top :: .top :: .top :: .top :: .top :: .top :: .top :: .top :: []), [], 0, 0, setG G b (lexB (S s) ((a + r.length : Nat) : Int) els)⟩) (fun x => r.length - x.k) ⟨0, Nat.zero_le _⟩ ?_ (fun x => ?_)
      · refine weak_by [] ?_; (conv => whnf); repeat (first | (refine And.intro rfl ?_; conv => whnf) | fail)
        exact ⟨fun i y hy => hy, rfl, Nat.le_refl _, rfl, rfl⟩
      have hk := x.hk
      generalize x.k = k at hk ⊢
      have hn := digN_lt (r.take k) (fun c hc => hall c (List.mem_of_mem_take hc)) (by rw [List.length_take]; omega)
      repeat' (first | ((first | refine Sem.reg tt_ok ?_ | refine Sem.condS ?_ | refine Sem.regL tt_ok ?_ | refine Sem.skip tt_ok ?_ | refine Sem.exit tt_ok ?_ | refine Sem.ret tt_ok ?_ | refine BS_t (by assumption) ?_ | refine BS_f (by assumption) ?_ | refine atG (by repeat (first | assumption | exact setG_same _ _ _ | refine Eq.trans (setG_ne _ _ (by first | assumption | exact Ne.symm (by assumption))) ?_)) ?_ | refine (nthK_iff _ _).2 ⟨_, (by assumption), ?_⟩ | refine ⟨_, ⟨(by omega), (by assumption)⟩, ?_⟩ | refine And.intro (by first | decide | omega) ?_ | fail); conv => whnf) | refine Sem.seqS ?_ | refine Sem.block ?_ | fail)
      refine BS_intro (fun hlt => ?_) (fun hlt => ?_) <;> conv => whnf
      · have hlt : k < r.length := by simp at hlt; omega
        have hck : r[k]? = some r[k] := List.getElem?_eq_getElem hlt
        have hbk := byteAt_S (j := (k : Int)) hck rfl
        have hdk := hall r[k] (List.getElem_mem hlt)
        have htk : r.take (k + 1) = r.take k ++ [r[k]] := by rw [List.take_add_one, hck]; rfl
        generalize r[k] = d at hck hbk hdk htk
        have hsn := digN_snoc (r.take k) d 0
        rw [← htk] at hsn
        unfold isDig at hdk
        simp only [decide_eq_true_eq] at hdk
        repeat' (first | ((first | refine Sem.reg tt_ok ?_ | refine Sem.condS ?_ | refine Sem.regL tt_ok ?_ | refine Sem.skip tt_ok ?_ | refine Sem.exit tt_ok ?_ | refine Sem.ret tt_ok ?_ | refine BS_t (by assumption) ?_ | refine BS_f (by assumption) ?_ | refine atG (by repeat (first | assumption | exact setG_same _ _ _ | refine Eq.trans (setG_ne _ _ (by first | assumption | exact Ne.symm (by assumption))) ?_)) ?_ | refine (nthK_iff _ _).2 ⟨_, (by assumption), ?_⟩ | refine ⟨_, ⟨(by omega), (by assumption)⟩, ?_⟩ | refine And.intro (by first | decide | omega) ?_ | fail); conv => whnf) | refine Sem.seqS ?_ | refine Sem.block ?_ | fail)
        refine ⟨⟨k + 1, hlt⟩, by show r.length - (k + 1) < r.length - k; omega, ?_⟩
        refine weak_by [] ?_; (conv => whnf); repeat (first | (refine And.intro rfl ?_; conv => whnf) | fail)
        refine And.intro (by rw [hbk, hsn, IntWalk.i64_in (10 * ((digN (r.take k) 0 : Nat) : Int)) (by omega), show IntKind.u8.wrap ((d.toNat : Int) - 48) = (d.toNat : Int) - 48 from by rw [IntKind.wrap_u8]; omega, IntWalk.i64_in ((d.toNat : Int) - 48) (by omega), IntWalk.i64_in _ (by omega)]; omega) ?_
        (conv => whnf); repeat (first | (refine And.intro rfl ?_; conv => whnf) | fail)
        refine And.intro (show _ = (((k + 1 : Nat)) : Int) from by rw [IntWalk.i64_in _ (by omega)]; omega) ?_
        (conv => whnf); repeat (first | (refine And.intro rfl ?_; conv => whnf) | fail)
        exact ⟨fun i y hy => hy, rfl, Nat.le_refl _, rfl, rfl⟩
      · have hlt : k = r.length := by simp at hlt; omega
        subst hlt
        rw [List.take_length]
        repeat' (first | ((first | refine Sem.reg tt_ok ?_ | refine Sem.condS ?_ | refine Sem.regL tt_ok ?_ | refine Sem.skip tt_ok ?_ | refine Sem.exit tt_ok ?_ | refine Sem.ret tt_ok ?_ | refine BS_t (by assumption) ?_ | refine BS_f (by assumption) ?_ | refine atG (by repeat (first | assumption | exact setG_same _ _ _ | refine Eq.trans (setG_ne _ _ (by first | assumption | exact Ne.symm (by assumption))) ?_)) ?_ | refine (nthK_iff _ _).2 ⟨_, (by assumption), ?_⟩ | refine ⟨_, ⟨(by omega), (by assumption)⟩, ?_⟩ | refine And.intro (by first | decide | omega) ?_ | fail); conv => whnf) | refine Sem.seqS ?_ | refine Sem.block ?_ | fail)
        refine (lexput_ok _ b (S s) ((a + r.length : Nat) : Int) els 2 (digN r 0 : Nat) (a : Nat) (S r) (setG_same _ _ _) he).on ?_; conv => whnf
        repeat' (first | ((first | refine Sem.reg tt_ok ?_ | refine Sem.condS ?_ | refine Sem.regL tt_ok ?_ | refine Sem.skip tt_ok ?_ | refine Sem.exit tt_ok ?_ | refine Sem.ret tt_ok ?_ | refine BS_t (by assumption) ?_ | refine BS_f (by assumption) ?_ | refine atG (by repeat (first | assumption | exact setG_same _ _ _ | refine Eq.trans (setG_ne _ _ (by first | assumption | exact Ne.symm (by assumption))) ?_)) ?_ | refine (nthK_iff _ _).2 ⟨_, (by assumption), ?_⟩ | refine ⟨_, ⟨(by omega), (by assumption)⟩, ?_⟩ | refine And.intro (by first | decide | omega) ?_ | fail); conv => whnf) | refine Sem.seqS ?_ | refine Sem.block ?_ | fail)
        refine ⟨_, fun _ _ h => h, rfl, _, ?_, fun _ => rfl⟩
        rw [setG_twice]; rfl
end Go.Proofs.YtofhakbmmgpgdaaDoor
end

section
/- The lexer's step, and all tokens of a text. -/
set_option maxRecDepth 100000
set_option linter.unusedSimpArgs false
namespace Go.Proofs.YtofhakbmmgpgdaaDoor
open Go Go.RowKit Go.Proofs Go.Shelf

theorem rest_S (s : List UInt8) (a : Nat) : (S s).extract a (S s).size = S (s.drop a) := by rw [S_extract, S_size, List.take_of_length_le (by simp)]
theorem pre2 : ∀ (l : List UInt8), Lib.hasPrefix (47 :: l) (⟨#[47, 47]⟩ : ByteArray).data.toList = decide (l[0]? = some 47)
  | [] => rfl
  | d :: r => by
    show ((47 : UInt8) == 47 && ((47 : UInt8) == d && true)) = decide (some d = some 47)
    rw [Bool.eq_iff_iff]
    simp only [beq_self_eq_true, Bool.true_and, Bool.and_true, beq_iff_eq, Option.some.injEq, decide_eq_true_eq]
    exact eq_comm
theorem note_ok (s : List UInt8) (a : Nat) (els : List (List AV)) (b : Nat) (G : Glob) (hG : G b = some (lexB (S s) (a : Nat) els)) (hs : s.length ≤ 1048576) {c : UInt8} (hc : s[a]? = some c) (hp : c.toNat = 47) :
    CallOk Tryd.prog TT 114 [.gptr b 0] G (fun v G' => v = .bool (decide (s[a + 1]? = some 47)) ∧ G' = if s[a + 1]? = some 47 then setG G b (lexB (S s) ((a + (runL noNl s a).length : Nat) : Int) els) else G) := by
  have ha : a ≤ s.length := Nat.le_of_lt (List.getElem?_eq_some_iff.1 hc).1
  have hw := while_ok (f := 132) note1_ok s a els b G hG ha hs
  have hsz := S_size s
  have hG' := hG
  rw [lexB_at] at hG'
  have he : (S s).extract ((a : Nat) : Int).toNat ((((S s).size : Nat) : Int)).toNat = S (s.drop a) := by rw [Int.toNat_natCast, Int.toNat_natCast, rest_S]
  have hc47 : c = 47 := UInt8.toNat_inj.1 hp
  have hpre : Lib.hasPrefix (S (s.drop a)).data.toList (⟨#[47, 47]⟩ : ByteArray).data.toList = decide (s[a + 1]? = some 47) := by
    rw [S_list, drop_at hc, hc47]; rw [pre2 (s.drop (a + 1)), List.getElem?_drop, Nat.add_zero]
  refine call_sem tt_ok Tryd.func114 rfl (by kernel_rfl) Tryd.ntmps114 Tryd.results114 ?_; conv => whnf
  repeat' (first | ((first | refine Sem.reg tt_ok ?_ | refine Sem.condS ?_ | refine Sem.regL tt_ok ?_ | refine Sem.skip tt_ok ?_ | refine Sem.exit tt_ok ?_ | refine Sem.ret tt_ok ?_ | refine BS_t (by assumption) ?_ | refine BS_f (by assumption) ?_ | refine atG (by repeat (first | assumption | exact setG_same _ _ _ | refine Eq.trans (setG_ne _ _ (by first | assumption | exact Ne.symm (by assumption))) ?_)) ?_ | refine (nthK_iff _ _).2 ⟨_, (by assumption), ?_⟩ | refine ⟨_, ⟨(by omega), (by assumption)⟩, ?_⟩ | refine And.intro (by first | decide | omega) ?_ | fail); conv => whnf) | refine Sem.seqS ?_ | refine Sem.block ?_ | fail)
  refine draw_sound (eff := []) tt_ok (by kernel_rfl) (by kernel_rfl) ?_; conv => whnf
  repeat' (first | ((first | refine BS_t (by assumption) ?_ | refine BS_f (by assumption) ?_ | refine atG (by repeat (first | assumption | exact setG_same _ _ _ | refine Eq.trans (setG_ne _ _ (by first | assumption | exact Ne.symm (by assumption))) ?_)) ?_ | refine (nthK_iff _ _).2 ⟨_, (by assumption), ?_⟩ | refine ⟨_, ⟨(by omega), (by assumption)⟩, ?_⟩ | refine And.intro (by first | decide | omega) ?_ | fail); conv => whnf) | fail)
  rw [he]
  refine ⟨_, _, hasprefix_ok (S (s.drop a)) ⟨#[47, 47]⟩ _, ?_⟩; (conv => whnf); refine And.intro rfl ?_; conv => whnf
  rw [hpre]
  by_cases h1 : s[a + 1]? = some 47
  · simp only [decide_eq_true h1, if_pos h1]
    repeat' (first | ((first | refine BS_t (by assumption) ?_ | refine BS_f (by assumption) ?_ | refine atG (by repeat (first | assumption | exact setG_same _ _ _ | refine Eq.trans (setG_ne _ _ (by first | assumption | exact Ne.symm (by assumption))) ?_)) ?_ | refine (nthK_iff _ _).2 ⟨_, (by assumption), ?_⟩ | refine ⟨_, ⟨(by omega), (by assumption)⟩, ?_⟩ | refine And.intro (by first | decide | omega) ?_ | fail); conv => whnf) | fail)
    repeat' (first | ((first | refine Sem.reg tt_ok ?_ | refine Sem.condS ?_ | refine Sem.regL tt_ok ?_ | refine Sem.skip tt_ok ?_ | refine Sem.exit tt_ok ?_ | refine Sem.ret tt_ok ?_ | refine BS_t (by assumption) ?_ | refine BS_f (by assumption) ?_ | refine atG (by repeat (first | assumption | exact setG_same _ _ _ | refine Eq.trans (setG_ne _ _ (by first | assumption | exact Ne.symm (by assumption))) ?_)) ?_ | refine (nthK_iff _ _).2 ⟨_, (by assumption), ?_⟩ | refine ⟨_, ⟨(by omega), (by assumption)⟩, ?_⟩ | refine And.intro (by first | decide | omega) ?_ | fail); conv => whnf) | refine Sem.seqS ?_ | refine Sem.block ?_ | fail)
    refine hw.on ?_; conv => whnf
    repeat' (first | ((first | refine Sem.reg tt_ok ?_ | refine Sem.condS ?_ | refine Sem.regL tt_ok ?_ | refine Sem.skip tt_ok ?_ | refine Sem.exit tt_ok ?_ | refine Sem.ret tt_ok ?_ | refine BS_t (by assumption) ?_ | refine BS_f (by assumption) ?_ | refine atG (by repeat (first | assumption | exact setG_same _ _ _ | refine Eq.trans (setG_ne _ _ (by first | assumption | exact Ne.symm (by assumption))) ?_)) ?_ | refine (nthK_iff _ _).2 ⟨_, (by assumption), ?_⟩ | refine ⟨_, ⟨(by omega), (by assumption)⟩, ?_⟩ | refine And.intro (by first | decide | omega) ?_ | fail); conv => whnf) | refine Sem.seqS ?_ | refine Sem.block ?_ | fail)
    exact ⟨_, fun _ _ h => h, rfl, rfl⟩
  · simp only [decide_eq_false h1, if_neg h1]
    repeat' (first | ((first | refine BS_t (by assumption) ?_ | refine BS_f (by assumption) ?_ | refine atG (by repeat (first | assumption | exact setG_same _ _ _ | refine Eq.trans (setG_ne _ _ (by first | assumption | exact Ne.symm (by assumption))) ?_)) ?_ | refine (nthK_iff _ _).2 ⟨_, (by assumption), ?_⟩ | refine ⟨_, ⟨(by omega), (by assumption)⟩, ?_⟩ | refine And.intro (by first | decide | omega) ?_ | fail); conv => whnf) | fail)
    repeat' (first | ((first | refine Sem.reg tt_ok ?_ | refine Sem.condS ?_ | refine Sem.regL tt_ok ?_ | refine Sem.skip tt_ok ?_ | refine Sem.exit tt_ok ?_ | refine Sem.ret tt_ok ?_ | refine BS_t (by assumption) ?_ | refine BS_f (by assumption) ?_ | refine atG (by repeat (first | assumption | exact setG_same _ _ _ | refine Eq.trans (setG_ne _ _ (by first | assumption | exact Ne.symm (by assumption))) ?_)) ?_ | refine (nthK_iff _ _).2 ⟨_, (by assumption), ?_⟩ | refine ⟨_, ⟨(by omega), (by assumption)⟩, ?_⟩ | refine And.intro (by first | decide | omega) ?_ | fail); conv => whnf) | refine Sem.seqS ?_ | refine Sem.block ?_ | fail)
    exact ⟨_, fun _ _ h => h, rfl, rfl⟩
theorem sgn_test (c : UInt8) : decide (Lib.indexByte (⟨#[123, 125, 40, 41, 60, 62, 58, 59, 44, 63]⟩ : ByteArray).data.toList c < 0) = !(isSgn c) := by
  have : ∀ c : UInt8, decide (Lib.indexByte (⟨#[123, 125, 40, 41, 60, 62, 58, 59, 44, 63]⟩ : ByteArray).data.toList c < 0) = !(isSgn c) := by
    intro c
    have h : ∀ n : Fin 256, decide (Lib.indexByte (⟨#[123, 125, 40, 41, 60, 62, 58, 59, 44, 63]⟩ : ByteArray).data.toList (UInt8.ofFin n) < 0) = !(isSgn (UInt8.ofFin n)) := by decide +kernel
    exact h c.toFin
  exact this c
theorem one_ok (s : List UInt8) (a : Nat) (els : List (List AV)) (b : Nat) (G : Glob) (hG : G b = some (lexB (S s) (a : Nat) els)) (hs : s.length ≤ 1048576) (he : els.length ≤ 1048576) (ha : a < s.length) :
    CallOk Tryd.prog TT 83 [.gptr b 0] G (stepQ s (oneL s a) els b G) := by
  have hc : s[a]? = some s[a] := List.getElem?_eq_getElem ha
  generalize s[a] = c at hc
  have hb := byteAt_S (j := (a : Int)) hc rfl
  have hsz := S_size s
  have hG' := hG
  rw [lexB_at] at hG'
  have hword := word_ok s a els b G hG hs he hc
  have hnum := number_ok s a els b G hG hs he hc
  have hnote := note_ok s a els b G hG hs hc
  have e1 := oneL_of hc
  unfold oneC at e1
  generalize oneL s a = r at *
  have hall : stepQ s r els b G = stepQ s r els b G := rfl
  refine call_sem tt_ok Tryd.func83 rfl (by kernel_rfl) Tryd.ntmps83 Tryd.results83 ?_; conv => whnf
  repeat' (first | ((first | refine Sem.reg tt_ok ?_ | refine Sem.condS ?_ | refine Sem.regL tt_ok ?_ | refine Sem.skip tt_ok ?_ | refine Sem.exit tt_ok ?_ | refine Sem.ret tt_ok ?_ | refine BS_t (by assumption) ?_ | refine BS_f (by assumption) ?_ | refine atG (by repeat (first | assumption | exact setG_same _ _ _ | refine Eq.trans (setG_ne _ _ (by first | assumption | exact Ne.symm (by assumption))) ?_)) ?_ | refine (nthK_iff _ _).2 ⟨_, (by assumption), ?_⟩ | refine ⟨_, ⟨(by omega), (by assumption)⟩, ?_⟩ | refine And.intro (by first | decide | omega) ?_ | fail); conv => whnf) | refine Sem.seqS ?_ | refine Sem.block ?_ | fail)
  refine draw_sound (eff := []) tt_ok (by kernel_rfl) (by kernel_rfl) ?_; conv => whnf
  repeat' (first | ((first | refine BS_t (by assumption) ?_ | refine BS_f (by assumption) ?_ | refine atG (by repeat (first | assumption | exact setG_same _ _ _ | refine Eq.trans (setG_ne _ _ (by first | assumption | exact Ne.symm (by assumption))) ?_)) ?_ | refine (nthK_iff _ _).2 ⟨_, (by assumption), ?_⟩ | refine ⟨_, ⟨(by omega), (by assumption)⟩, ?_⟩ | refine And.intro (by first | decide | omega) ?_ | fail); conv => whnf) | fail)
  repeat' (first | ((first | refine Sem.reg tt_ok ?_ | refine Sem.condS ?_ | refine Sem.regL tt_ok ?_ | refine Sem.skip tt_ok ?_ | refine Sem.exit tt_ok ?_ | refine Sem.ret tt_ok ?_ | refine BS_t (by assumption) ?_ | refine BS_f (by assumption) ?_ | refine atG (by repeat (first | assumption | exact setG_same _ _ _ | refine Eq.trans (setG_ne _ _ (by first | assumption | exact Ne.symm (by assumption))) ?_)) ?_ | refine (nthK_iff _ _).2 ⟨_, (by assumption), ?_⟩ | refine ⟨_, ⟨(by omega), (by assumption)⟩, ?_⟩ | refine And.intro (by first | decide | omega) ?_ | fail); conv => whnf) | refine Sem.seqS ?_ | refine Sem.block ?_ | fail)
  refine (letter_ok c hb G).on ?_; conv => whnf
  cases hl : isLet c with
  | true =>
    conv => whnf
    repeat' (first | ((first | refine Sem.reg tt_ok ?_ | refine Sem.condS ?_ | refine Sem.regL tt_ok ?_ | refine Sem.skip tt_ok ?_ | refine Sem.exit tt_ok ?_ | refine Sem.ret tt_ok ?_ | refine BS_t (by assumption) ?_ | refine BS_f (by assumption) ?_ | refine atG (by repeat (first | assumption | exact setG_same _ _ _ | refine Eq.trans (setG_ne _ _ (by first | assumption | exact Ne.symm (by assumption))) ?_)) ?_ | refine (nthK_iff _ _).2 ⟨_, (by assumption), ?_⟩ | refine ⟨_, ⟨(by omega), (by assumption)⟩, ?_⟩ | refine And.intro (by first | decide | omega) ?_ | fail); conv => whnf) | refine Sem.seqS ?_ | refine Sem.block ?_ | fail)
    refine (hword hl).mono fun v G' hv => ?_
    obtain ⟨rfl, a', rfl, ha'⟩ := hv
    conv => whnf
    repeat' (first | ((first | refine Sem.reg tt_ok ?_ | refine Sem.condS ?_ | refine Sem.regL tt_ok ?_ | refine Sem.skip tt_ok ?_ | refine Sem.exit tt_ok ?_ | refine Sem.ret tt_ok ?_ | refine BS_t (by assumption) ?_ | refine BS_f (by assumption) ?_ | refine atG (by repeat (first | assumption | exact setG_same _ _ _ | refine Eq.trans (setG_ne _ _ (by first | assumption | exact Ne.symm (by assumption))) ?_)) ?_ | refine (nthK_iff _ _).2 ⟨_, (by assumption), ?_⟩ | refine ⟨_, ⟨(by omega), (by assumption)⟩, ?_⟩ | refine And.intro (by first | decide | omega) ?_ | fail); conv => whnf) | refine Sem.seqS ?_ | refine Sem.block ?_ | fail)
    exact ⟨_, fun _ _ h => h, rfl, _, rfl, ha'⟩
  | false =>
    conv => whnf
    repeat' (first | ((first | refine Sem.reg tt_ok ?_ | refine Sem.condS ?_ | refine Sem.regL tt_ok ?_ | refine Sem.skip tt_ok ?_ | refine Sem.exit tt_ok ?_ | refine Sem.ret tt_ok ?_ | refine BS_t (by assumption) ?_ | refine BS_f (by assumption) ?_ | refine atG (by repeat (first | assumption | exact setG_same _ _ _ | refine Eq.trans (setG_ne _ _ (by first | assumption | exact Ne.symm (by assumption))) ?_)) ?_ | refine (nthK_iff _ _).2 ⟨_, (by assumption), ?_⟩ | refine ⟨_, ⟨(by omega), (by assumption)⟩, ?_⟩ | refine And.intro (by first | decide | omega) ?_ | fail); conv => whnf) | refine Sem.seqS ?_ | refine Sem.block ?_ | fail)
    refine (digit_ok c hb G).on ?_; conv => whnf
    cases hd : isDig c with
    | true =>
      conv => whnf
      repeat' (first | ((first | refine Sem.reg tt_ok ?_ | refine Sem.condS ?_ | refine Sem.regL tt_ok ?_ | refine Sem.skip tt_ok ?_ | refine Sem.exit tt_ok ?_ | refine Sem.ret tt_ok ?_ | refine BS_t (by assumption) ?_ | refine BS_f (by assumption) ?_ | refine atG (by repeat (first | assumption | exact setG_same _ _ _ | refine Eq.trans (setG_ne _ _ (by first | assumption | exact Ne.symm (by assumption))) ?_)) ?_ | refine (nthK_iff _ _).2 ⟨_, (by assumption), ?_⟩ | refine ⟨_, ⟨(by omega), (by assumption)⟩, ?_⟩ | refine And.intro (by first | decide | omega) ?_ | fail); conv => whnf) | refine Sem.seqS ?_ | refine Sem.block ?_ | fail)
      refine (hnum hl hd).mono fun v G' hv => ?_
      obtain ⟨rfl, a', rfl, ha'⟩ := hv
      conv => whnf
      repeat' (first | ((first | refine Sem.reg tt_ok ?_ | refine Sem.condS ?_ | refine Sem.regL tt_ok ?_ | refine Sem.skip tt_ok ?_ | refine Sem.exit tt_ok ?_ | refine Sem.ret tt_ok ?_ | refine BS_t (by assumption) ?_ | refine BS_f (by assumption) ?_ | refine atG (by repeat (first | assumption | exact setG_same _ _ _ | refine Eq.trans (setG_ne _ _ (by first | assumption | exact Ne.symm (by assumption))) ?_)) ?_ | refine (nthK_iff _ _).2 ⟨_, (by assumption), ?_⟩ | refine ⟨_, ⟨(by omega), (by assumption)⟩, ?_⟩ | refine And.intro (by first | decide | omega) ?_ | fail); conv => whnf) | refine Sem.seqS ?_ | refine Sem.block ?_ | fail)
      exact ⟨_, fun _ _ h => h, rfl, _, rfl, ha'⟩
    | false =>
      rw [if_neg (by simp [hl]), if_neg (by simp [hd])] at e1
      have hw : IntKind.i64.wrap ((a : Int) + 1) = ((a + 1 : Nat) : Int) := by rw [IntWalk.i64_in _ (by omega)]; omega
      have hw2 : IntKind.i64.wrap (((a + 1 : Nat) : Int) - 1) = (a : Int) := by rw [IntWalk.i64_in _ (by omega)]; omega
      have hex : (S s).extract ((a : Nat) : Int).toNat (((a + 1 : Nat) : Int)).toNat = S [c] := by
        rw [S_extract, Int.toNat_natCast, Int.toNat_natCast, drop_at hc, show a + 1 - a = 1 by omega]; rfl
      conv => whnf
      repeat' (first | ((first | refine Sem.reg tt_ok ?_ | refine Sem.condS ?_ | refine Sem.regL tt_ok ?_ | refine Sem.skip tt_ok ?_ | refine Sem.exit tt_ok ?_ | refine Sem.ret tt_ok ?_ | refine BS_t (by assumption) ?_ | refine BS_f (by assumption) ?_ | refine atG (by repeat (first | assumption | exact setG_same _ _ _ | refine Eq.trans (setG_ne _ _ (by first | assumption | exact Ne.symm (by assumption))) ?_)) ?_ | refine (nthK_iff _ _).2 ⟨_, (by assumption), ?_⟩ | refine ⟨_, ⟨(by omega), (by assumption)⟩, ?_⟩ | refine And.intro (by first | decide | omega) ?_ | fail); conv => whnf) | refine Sem.seqS ?_ | refine Sem.block ?_ | fail)
      by_cases h47 : c.toNat = 47
      · have t0 : (byteAt (S s) (a : Int).toNat == 47) = true := by rw [hb]; simp; omega
        have hn := hnote h47
        rw [if_pos h47] at e1
        repeat' (first | ((first | refine Sem.reg tt_ok ?_ | refine Sem.condS ?_ | refine Sem.regL tt_ok ?_ | refine Sem.skip tt_ok ?_ | refine Sem.exit tt_ok ?_ | refine Sem.ret tt_ok ?_ | refine BS_t (by assumption) ?_ | refine BS_f (by assumption) ?_ | refine atG (by repeat (first | assumption | exact setG_same _ _ _ | refine Eq.trans (setG_ne _ _ (by first | assumption | exact Ne.symm (by assumption))) ?_)) ?_ | refine (nthK_iff _ _).2 ⟨_, (by assumption), ?_⟩ | refine ⟨_, ⟨(by omega), (by assumption)⟩, ?_⟩ | refine And.intro (by first | decide | omega) ?_ | fail); conv => whnf) | refine Sem.seqS ?_ | refine Sem.block ?_ | fail)
        by_cases h1 : s[a + 1]? = some 47
        · rw [if_pos h1] at e1
          simp only [decide_eq_true h1, if_pos h1] at hn
          refine hn.on ?_; conv => whnf
          repeat' (first | ((first | refine Sem.reg tt_ok ?_ | refine Sem.condS ?_ | refine Sem.regL tt_ok ?_ | refine Sem.skip tt_ok ?_ | refine Sem.exit tt_ok ?_ | refine Sem.ret tt_ok ?_ | refine BS_t (by assumption) ?_ | refine BS_f (by assumption) ?_ | refine atG (by repeat (first | assumption | exact setG_same _ _ _ | refine Eq.trans (setG_ne _ _ (by first | assumption | exact Ne.symm (by assumption))) ?_)) ?_ | refine (nthK_iff _ _).2 ⟨_, (by assumption), ?_⟩ | refine ⟨_, ⟨(by omega), (by assumption)⟩, ?_⟩ | refine And.intro (by first | decide | omega) ?_ | fail); conv => whnf) | refine Sem.seqS ?_ | refine Sem.block ?_ | fail)
          exact ⟨_, fun _ _ h => h, by rw [e1]; rfl, _, by rw [e1]; simp; rfl, fun _ => by rw [e1]; simp⟩
        · rw [if_neg h1] at e1
          simp only [decide_eq_false h1, if_neg h1] at hn
          refine hn.on ?_; conv => whnf
          repeat' (first | ((first | refine Sem.reg tt_ok ?_ | refine Sem.condS ?_ | refine Sem.regL tt_ok ?_ | refine Sem.skip tt_ok ?_ | refine Sem.exit tt_ok ?_ | refine Sem.ret tt_ok ?_ | refine BS_t (by assumption) ?_ | refine BS_f (by assumption) ?_ | refine atG (by repeat (first | assumption | exact setG_same _ _ _ | refine Eq.trans (setG_ne _ _ (by first | assumption | exact Ne.symm (by assumption))) ?_)) ?_ | refine (nthK_iff _ _).2 ⟨_, (by assumption), ?_⟩ | refine ⟨_, ⟨(by omega), (by assumption)⟩, ?_⟩ | refine And.intro (by first | decide | omega) ?_ | fail); conv => whnf) | refine Sem.seqS ?_ | refine Sem.block ?_ | fail)
          exact ⟨_, fun _ _ h => h, by rw [e1]; rfl, (a : Nat), by rw [e1]; show G = setG G b (lexB (S s) _ (els ++ [])); rw [List.append_nil]; exact (setG_back hG).symm, fun _ => by rw [e1]⟩
      rw [if_neg h47] at e1
      have t0 : (byteAt (S s) (a : Int).toNat == 47) = false := by rw [hb, beq_eq_false_iff_ne]; omega
      cases hbl : isBl c with
      | true =>
        rw [if_pos hbl] at e1
        unfold isBl at hbl
        simp only [decide_eq_true_eq] at hbl
        rcases hbl with h | h | h | h
        · have t1 : (byteAt (S s) (a : Int).toNat == 32) = true := by rw [hb]; simp; omega
          repeat' (first | ((first | refine Sem.reg tt_ok ?_ | refine Sem.condS ?_ | refine Sem.regL tt_ok ?_ | refine Sem.skip tt_ok ?_ | refine Sem.exit tt_ok ?_ | refine Sem.ret tt_ok ?_ | refine BS_t (by assumption) ?_ | refine BS_f (by assumption) ?_ | refine atG (by repeat (first | assumption | exact setG_same _ _ _ | refine Eq.trans (setG_ne _ _ (by first | assumption | exact Ne.symm (by assumption))) ?_)) ?_ | refine (nthK_iff _ _).2 ⟨_, (by assumption), ?_⟩ | refine ⟨_, ⟨(by omega), (by assumption)⟩, ?_⟩ | refine And.intro (by first | decide | omega) ?_ | fail); conv => whnf) | refine Sem.seqS ?_ | refine Sem.block ?_ | fail)
          exact ⟨_, fun _ _ h => h, by rw [e1]; rfl, _, by rw [e1]; simp; rfl, fun _ => by rw [e1]; exact hw⟩
        · have t1 : (byteAt (S s) (a : Int).toNat == 32) = false := by rw [hb, beq_eq_false_iff_ne]; omega
          have t2 : (byteAt (S s) (a : Int).toNat == 9) = true := by rw [hb]; simp; omega
          repeat' (first | ((first | refine Sem.reg tt_ok ?_ | refine Sem.condS ?_ | refine Sem.regL tt_ok ?_ | refine Sem.skip tt_ok ?_ | refine Sem.exit tt_ok ?_ | refine Sem.ret tt_ok ?_ | refine BS_t (by assumption) ?_ | refine BS_f (by assumption) ?_ | refine atG (by repeat (first | assumption | exact setG_same _ _ _ | refine Eq.trans (setG_ne _ _ (by first | assumption | exact Ne.symm (by assumption))) ?_)) ?_ | refine (nthK_iff _ _).2 ⟨_, (by assumption), ?_⟩ | refine ⟨_, ⟨(by omega), (by assumption)⟩, ?_⟩ | refine And.intro (by first | decide | omega) ?_ | fail); conv => whnf) | refine Sem.seqS ?_ | refine Sem.block ?_ | fail)
          exact ⟨_, fun _ _ h => h, by rw [e1]; rfl, _, by rw [e1]; simp; rfl, fun _ => by rw [e1]; exact hw⟩
        · have t1 : (byteAt (S s) (a : Int).toNat == 32) = false := by rw [hb, beq_eq_false_iff_ne]; omega
          have t2 : (byteAt (S s) (a : Int).toNat == 9) = false := by rw [hb, beq_eq_false_iff_ne]; omega
          have t3 : (byteAt (S s) (a : Int).toNat == 10) = true := by rw [hb]; simp; omega
          repeat' (first | ((first | refine Sem.reg tt_ok ?_ | refine Sem.condS ?_ | refine Sem.regL tt_ok ?_ | refine Sem.skip tt_ok ?_ | refine Sem.exit tt_ok ?_ | refine Sem.ret tt_ok ?_ | refine BS_t (by assumption) ?_ | refine BS_f (by assumption) ?_ | refine atG (by repeat (first | assumption | exact setG_same _ _ _ | refine Eq.trans (setG_ne _ _ (by first | assumption | exact Ne.symm (by assumption))) ?_)) ?_ | refine (nthK_iff _ _).2 ⟨_, (by assumption), ?_⟩ | refine ⟨_, ⟨(by omega), (by assumption)⟩, ?_⟩ | refine And.intro (by first | decide | omega) ?_ | fail); conv => whnf) | refine Sem.seqS ?_ | refine Sem.block ?_ | fail)
          exact ⟨_, fun _ _ h => h, by rw [e1]; rfl, _, by rw [e1]; simp; rfl, fun _ => by rw [e1]; exact hw⟩
        · have t1 : (byteAt (S s) (a : Int).toNat == 32) = false := by rw [hb, beq_eq_false_iff_ne]; omega
          have t2 : (byteAt (S s) (a : Int).toNat == 9) = false := by rw [hb, beq_eq_false_iff_ne]; omega
          have t3 : (byteAt (S s) (a : Int).toNat == 10) = false := by rw [hb, beq_eq_false_iff_ne]; omega
          have t4 : (byteAt (S s) (a : Int).toNat == 13) = true := by rw [hb]; simp; omega
          repeat' (first | ((first | refine Sem.reg tt_ok ?_ | refine Sem.condS ?_ | refine Sem.regL tt_ok ?_ | refine Sem.skip tt_ok ?_ | refine Sem.exit tt_ok ?_ | refine Sem.ret tt_ok ?_ | refine BS_t (by assumption) ?_ | refine BS_f (by assumption) ?_ | refine atG (by repeat (first | assumption | exact setG_same _ _ _ | refine Eq.trans (setG_ne _ _ (by first | assumption | exact Ne.symm (by assumption))) ?_)) ?_ | refine (nthK_iff _ _).2 ⟨_, (by assumption), ?_⟩ | refine ⟨_, ⟨(by omega), (by assumption)⟩, ?_⟩ | refine And.intro (by first | decide | omega) ?_ | fail); conv => whnf) | refine Sem.seqS ?_ | refine Sem.block ?_ | fail)
          exact ⟨_, fun _ _ h => h, by rw [e1]; rfl, _, by rw [e1]; simp; rfl, fun _ => by rw [e1]; exact hw⟩
      | false =>
        rw [if_neg (by simp [hbl])] at e1
        unfold isBl at hbl
        simp only [decide_eq_false_iff_not] at hbl
        have t1 : (byteAt (S s) (a : Int).toNat == 32) = false := by rw [hb, beq_eq_false_iff_ne]; omega
        have t2 : (byteAt (S s) (a : Int).toNat == 9) = false := by rw [hb, beq_eq_false_iff_ne]; omega
        have t3 : (byteAt (S s) (a : Int).toNat == 10) = false := by rw [hb, beq_eq_false_iff_ne]; omega
        have t4 : (byteAt (S s) (a : Int).toNat == 13) = false := by rw [hb, beq_eq_false_iff_ne]; omega
        have hbc : (byteAt (S s) (a : Int).toNat).toNat.toUInt8 = c := by rw [hb, Int.toNat_natCast]; exact UInt8.ofNat_toNat
        have ht := sgn_test c
        rw [← hbc] at ht
        repeat' (first | ((first | refine Sem.reg tt_ok ?_ | refine Sem.condS ?_ | refine Sem.regL tt_ok ?_ | refine Sem.skip tt_ok ?_ | refine Sem.exit tt_ok ?_ | refine Sem.ret tt_ok ?_ | refine BS_t (by assumption) ?_ | refine BS_f (by assumption) ?_ | refine atG (by repeat (first | assumption | exact setG_same _ _ _ | refine Eq.trans (setG_ne _ _ (by first | assumption | exact Ne.symm (by assumption))) ?_)) ?_ | refine (nthK_iff _ _).2 ⟨_, (by assumption), ?_⟩ | refine ⟨_, ⟨(by omega), (by assumption)⟩, ?_⟩ | refine And.intro (by first | decide | omega) ?_ | fail); conv => whnf) | refine Sem.seqS ?_ | refine Sem.block ?_ | fail)
        refine (indexbyte_ok _ _ _).on ?_; conv => whnf
        rw [hbc] at ht
        cases hsg : isSgn c with
        | true =>
          rw [hsg] at ht
          rw [if_pos hsg] at e1
          rw [hbc]
          repeat' (first | ((first | refine Sem.reg tt_ok ?_ | refine Sem.condS ?_ | refine Sem.regL tt_ok ?_ | refine Sem.skip tt_ok ?_ | refine Sem.exit tt_ok ?_ | refine Sem.ret tt_ok ?_ | refine BS_t (by assumption) ?_ | refine BS_f (by assumption) ?_ | refine atG (by repeat (first | assumption | exact setG_same _ _ _ | refine Eq.trans (setG_ne _ _ (by first | assumption | exact Ne.symm (by assumption))) ?_)) ?_ | refine (nthK_iff _ _).2 ⟨_, (by assumption), ?_⟩ | refine ⟨_, ⟨(by omega), (by assumption)⟩, ?_⟩ | refine And.intro (by first | decide | omega) ?_ | fail); conv => whnf) | refine Sem.seqS ?_ | refine Sem.block ?_ | fail)
          rw [hw]
          refine draw_sound (eff := [20]) tt_ok (by kernel_rfl) (by kernel_rfl) ?_; conv => whnf
          repeat' (first | ((first | refine BS_t (by assumption) ?_ | refine BS_f (by assumption) ?_ | refine atG (by repeat (first | assumption | exact setG_same _ _ _ | refine Eq.trans (setG_ne _ _ (by first | assumption | exact Ne.symm (by assumption))) ?_)) ?_ | refine (nthK_iff _ _).2 ⟨_, (by assumption), ?_⟩ | refine ⟨_, ⟨(by omega), (by assumption)⟩, ?_⟩ | refine And.intro (by first | decide | omega) ?_ | fail); conv => whnf) | fail)
          rw [hw2, hex]
          refine ⟨_, _, lexput_ok _ b (S s) ((a + 1 : Nat) : Int) els 3 0 (a : Nat) (S [c]) (setG_same _ _ _) he, ?_⟩; conv => whnf
          repeat (refine And.intro (by (conv => whnf); refine atG (setG_same _ _ _) ?_; rfl) ?_; conv => whnf)
          repeat' (first | ((first | refine Sem.reg tt_ok ?_ | refine Sem.condS ?_ | refine Sem.regL tt_ok ?_ | refine Sem.skip tt_ok ?_ | refine Sem.exit tt_ok ?_ | refine Sem.ret tt_ok ?_ | refine BS_t (by assumption) ?_ | refine BS_f (by assumption) ?_ | refine atG (by repeat (first | assumption | exact setG_same _ _ _ | refine Eq.trans (setG_ne _ _ (by first | assumption | exact Ne.symm (by assumption))) ?_)) ?_ | refine (nthK_iff _ _).2 ⟨_, (by assumption), ?_⟩ | refine ⟨_, ⟨(by omega), (by assumption)⟩, ?_⟩ | refine And.intro (by first | decide | omega) ?_ | fail); conv => whnf) | refine Sem.seqS ?_ | refine Sem.block ?_ | fail)
          refine ⟨_, fun _ _ h => h, by rw [e1]; rfl, _, ?_, fun _ => by rw [e1]⟩
          rw [setG_twice, e1]; rfl
        | false =>
          rw [hsg] at ht
          rw [if_neg (by simp [hsg])] at e1
          rw [hbc]
          repeat' (first | ((first | refine Sem.reg tt_ok ?_ | refine Sem.condS ?_ | refine Sem.regL tt_ok ?_ | refine Sem.skip tt_ok ?_ | refine Sem.exit tt_ok ?_ | refine Sem.ret tt_ok ?_ | refine BS_t (by assumption) ?_ | refine BS_f (by assumption) ?_ | refine atG (by repeat (first | assumption | exact setG_same _ _ _ | refine Eq.trans (setG_ne _ _ (by first | assumption | exact Ne.symm (by assumption))) ?_)) ?_ | refine (nthK_iff _ _).2 ⟨_, (by assumption), ?_⟩ | refine ⟨_, ⟨(by omega), (by assumption)⟩, ?_⟩ | refine And.intro (by first | decide | omega) ?_ | fail); conv => whnf) | refine Sem.seqS ?_ | refine Sem.block ?_ | fail)
          exact ⟨_, fun _ _ h => h, by rw [e1]; rfl, (a : Nat), by rw [e1]; show G = setG G b (lexB (S s) _ (els ++ [])); rw [List.append_nil]; exact (setG_back hG).symm, fun _ => by rw [e1]⟩
end Go.Proofs.YtofhakbmmgpgdaaDoor
end

section
/- All tokens of a text, by the lexer. -/
set_option maxRecDepth 100000
set_option linter.unusedSimpArgs false
namespace Go.Proofs.YtofhakbmmgpgdaaDoor
open Go Go.RowKit Go.Proofs Go.Shelf

def toksV (r : List Tok × Nat × Nat) : AV := .tup [.slc 101 (r.1.map Tok.av), .agg [.int .i64 (r.2.1 : Nat), .int .i64 (r.2.2 : Nat)]]
theorem toks_weak {f : FuncId} {args : List AV} {G : Glob} {r : List Tok × Nat × Nat} (h : CallOk Tryd.prog TT f args G (fun v G' => (v = toksV r ∨ v = .tup [.nils, .agg [.int .i64 (r.2.1 : Nat), .int .i64 (r.2.2 : Nat)]] ∧ r.1 = []) ∧ G' = G)) : CallOk Tryd.prog TT f args G (fun v G' => v = toksV r ∧ G' = G) :=
  h.weak fun v G' hv => by
    obtain ⟨hv, rfl⟩ := hv
    rcases hv with rfl | ⟨rfl, hr⟩
    · exact ⟨_, ⟨rfl, rfl⟩, fun _ _ _ h => h⟩
    · refine ⟨_, ⟨rfl, rfl⟩, fun g w u h => ?_⟩
      unfold toksV
      rw [hr]
      exact tup2_to (fun x hx => nils_dz _ hx) h
structure TkI (s : List UInt8) where
  a : Nat
  out : List Tok
  ha : a ≤ s.length
  hl : out.length ≤ a
  h : lexN s 0 = comb out (lexN s a)
theorem comb_nil (s : List UInt8) (a : Nat) : comb [] (lexN s a) = lexN s a := by
  unfold comb
  by_cases h : (lexN s a).2.1 = 0
  · rw [if_pos h]; rfl
  · rw [if_neg h, ← (lex_fault s a h).1]
theorem tokens_ok (s : List UInt8) (G : Glob) : CallOk Tryd.prog TT 55 [.str (S s)] G (fun v G' => v = toksV (tokT s) ∧ G' = G) := by
  refine toks_weak ?_
  have hsz := S_size s
  refine call_sem tt_ok Tryd.func55 rfl (by kernel_rfl) Tryd.ntmps55 Tryd.results55 ?_; conv => whnf
  repeat' (first | ((first | refine Sem.reg tt_ok ?_ | refine Sem.condS ?_ | refine Sem.regL tt_ok ?_ | refine Sem.skip tt_ok ?_ | refine Sem.exit tt_ok ?_ | refine Sem.ret tt_ok ?_ | refine BS_t (by assumption) ?_ | refine BS_f (by assumption) ?_ | refine atG (by repeat (first | assumption | exact setG_same _ _ _ | refine Eq.trans (setG_ne _ _ (by first | assumption | exact Ne.symm (by assumption))) ?_)) ?_ | refine (nthK_iff _ _).2 ⟨_, (by assumption), ?_⟩ | refine ⟨_, ⟨(by omega), (by assumption)⟩, ?_⟩ | refine And.intro (by first | decide | omega) ?_ | fail); conv => whnf) | refine Sem.seqS ?_ | refine Sem.block ?_ | fail)
  by_cases hlong : 1024 < s.length
  · have t0 : decide (((S s).size : Int) > 1024) = true := by simp; omega
    have e : tokT s = ([], 3, 0) := if_pos hlong
    rw [e]
    repeat' (first | ((first | refine Sem.reg tt_ok ?_ | refine Sem.condS ?_ | refine Sem.regL tt_ok ?_ | refine Sem.skip tt_ok ?_ | refine Sem.exit tt_ok ?_ | refine Sem.ret tt_ok ?_ | refine BS_t (by assumption) ?_ | refine BS_f (by assumption) ?_ | refine atG (by repeat (first | assumption | exact setG_same _ _ _ | refine Eq.trans (setG_ne _ _ (by first | assumption | exact Ne.symm (by assumption))) ?_)) ?_ | refine (nthK_iff _ _).2 ⟨_, (by assumption), ?_⟩ | refine ⟨_, ⟨(by omega), (by assumption)⟩, ?_⟩ | refine And.intro (by first | decide | omega) ?_ | fail); conv => whnf) | refine Sem.seqS ?_ | refine Sem.block ?_ | fail)
    exact ⟨_, fun _ _ h => h, .inr ⟨rfl, rfl⟩, rfl⟩
  have t0 : decide (((S s).size : Int) > 1024) = false := by simp; omega
  have e : tokT s = lexN s 0 := if_neg hlong
  rw [e]
  repeat' (first | ((first | refine Sem.reg tt_ok ?_ | refine Sem.condS ?_ | refine Sem.regL tt_ok ?_ | refine Sem.skip tt_ok ?_ | refine Sem.exit tt_ok ?_ | refine Sem.ret tt_ok ?_ | refine BS_t (by assumption) ?_ | refine BS_f (by assumption) ?_ | refine atG (by repeat (first | assumption | exact setG_same _ _ _ | refine Eq.trans (setG_ne _ _ (by first | assumption | exact Ne.symm (by assumption))) ?_)) ?_ | refine (nthK_iff _ _).2 ⟨_, (by assumption), ?_⟩ | refine ⟨_, ⟨(by omega), (by assumption)⟩, ?_⟩ | refine And.intro (by first | decide | omega) ?_ | fail); conv => whnf) | refine Sem.seqS ?_ | refine Sem.block ?_ | fail)
  refine Sem.lend 1 ?_
  conv => whnf
  intro b hb
  conv => whnf
  refine Sem.rowbox b (setG_same _ _ _) ?_
  rw [setG_twice]
  refine Sem.loop (ι := TkI s) (fun x => ⟨(.str (S s) :: .top :: .nils :: .lptr 0 0 :: .lptr 1 0 :: .top :: .top :: .top :: .top :: .top :: .top :: .top :: .top :: .top :: .top :: .top :: .top :: .top :: .top :: .top :: .top :: .top :: .top :: .top :: .top :: .top :: .top :: .top :: .top :: .top :: .top :: .top :: .top :: .top :: .top :: .top :: .top :: .top :: .top :: .top :: .top :: []), [.live none [.int .i64 0, .int .i64 0], .away b], 2, 0, setG G b (lexB (S s) (x.a : Nat) (x.out.map Tok.av))⟩) (fun x => s.length - x.a) ⟨0, [], Nat.zero_le _, Nat.le_refl _, (comb_nil s 0).symm⟩ ?_ (fun x => ?_)
  · refine weak_by [] ?_; (conv => whnf); repeat (first | (refine And.intro rfl ?_; conv => whnf) | fail)
    exact ⟨fun i y hy => hy, rfl, Nat.le_refl _, rfl, rfl⟩
  have hx := x.h
  have hxl := x.hl
  have hxa := x.ha
  generalize x.a = a at hx hxl hxa ⊢
  generalize x.out = out at hx hxl ⊢
  have hG1 : setG G b (lexB (S s) (a : Nat) (out.map Tok.av)) b = some (.box [.str (S s), .int .i64 (a : Nat), .slc 101 (out.map Tok.av)] [(2, 101, out.map Tok.av)]) := setG_same _ _ _
  have sub : ∀ z i y, G i = some y → setG G b z i = some y := fun z i y hi => by rw [setG_ne _ _ (fun e => by rw [e, hb] at hi; cases hi)]; exact hi
  repeat' (first | ((first | refine Sem.reg tt_ok ?_ | refine Sem.condS ?_ | refine Sem.regL tt_ok ?_ | refine Sem.skip tt_ok ?_ | refine Sem.exit tt_ok ?_ | refine Sem.ret tt_ok ?_ | refine BS_t (by assumption) ?_ | refine BS_f (by assumption) ?_ | refine atG (by repeat (first | assumption | exact setG_same _ _ _ | refine Eq.trans (setG_ne _ _ (by first | assumption | exact Ne.symm (by assumption))) ?_)) ?_ | refine (nthK_iff _ _).2 ⟨_, (by assumption), ?_⟩ | refine ⟨_, ⟨(by omega), (by assumption)⟩, ?_⟩ | refine And.intro (by first | decide | omega) ?_ | fail); conv => whnf) | refine Sem.seqS ?_ | refine Sem.block ?_ | fail)
  by_cases hlt : a < s.length
  · have t1 : decide (((a : Nat) : Int) < ((S s).size : Nat)) = true := by simp; omega
    repeat' (first | ((first | refine Sem.reg tt_ok ?_ | refine Sem.condS ?_ | refine Sem.regL tt_ok ?_ | refine Sem.skip tt_ok ?_ | refine Sem.exit tt_ok ?_ | refine Sem.ret tt_ok ?_ | refine BS_t (by assumption) ?_ | refine BS_f (by assumption) ?_ | refine atG (by repeat (first | assumption | exact setG_same _ _ _ | refine Eq.trans (setG_ne _ _ (by first | assumption | exact Ne.symm (by assumption))) ?_)) ?_ | refine (nthK_iff _ _).2 ⟨_, (by assumption), ?_⟩ | refine ⟨_, ⟨(by omega), (by assumption)⟩, ?_⟩ | refine And.intro (by first | decide | omega) ?_ | fail); conv => whnf) | refine Sem.seqS ?_ | refine Sem.block ?_ | fail)
    refine (one_ok s a (out.map Tok.av) b _ (setG_same _ _ _) (by omega) (by simp; omega) hlt).mono fun v G1 hv => ?_
    obtain ⟨rfl, a', rfl, ha'⟩ := hv
    rw [setG_twice]
    conv => whnf
    by_cases he : (oneL s a).2.2 = 0
    · have t2 : ((((oneL s a).2.2 : Nat) : Int) != 0) = false := by simp [he]
      have hm := oneL_moves hlt he
      repeat' (first | ((first | refine Sem.reg tt_ok ?_ | refine Sem.condS ?_ | refine Sem.regL tt_ok ?_ | refine Sem.skip tt_ok ?_ | refine Sem.exit tt_ok ?_ | refine Sem.ret tt_ok ?_ | refine BS_t (by assumption) ?_ | refine BS_f (by assumption) ?_ | refine atG (by repeat (first | assumption | exact setG_same _ _ _ | refine Eq.trans (setG_ne _ _ (by first | assumption | exact Ne.symm (by assumption))) ?_)) ?_ | refine (nthK_iff _ _).2 ⟨_, (by assumption), ?_⟩ | refine ⟨_, ⟨(by omega), (by assumption)⟩, ?_⟩ | refine And.intro (by first | decide | omega) ?_ | fail); conv => whnf) | refine Sem.seqS ?_ | refine Sem.block ?_ | fail)
      refine ⟨⟨(oneL s a).2.1, out ++ (oneL s a).1.toList, hm.2, ?_, ?_⟩, by show s.length - (oneL s a).2.1 < s.length - a; omega, ?_⟩
      · have : (oneL s a).1.toList.length ≤ 1 := by cases (oneL s a).1 <;> simp
        rw [List.length_append]; omega
      · rw [hx, lex_next hlt he, comb_comb]
      refine weak_by [] ?_; (conv => whnf); repeat (first | (refine And.intro rfl ?_; conv => whnf) | fail)
      refine ⟨fun i y hy => ?_, rfl, Nat.le_refl _, rfl, rfl⟩
      rw [ha' he, ← List.map_append]; exact hy
    · have t2 : ((((oneL s a).2.2 : Nat) : Int) != 0) = true := by simpa using he
      rw [hx, lex_bad hlt he]
      repeat' (first | ((first | refine Sem.reg tt_ok ?_ | refine Sem.condS ?_ | refine Sem.regL tt_ok ?_ | refine Sem.skip tt_ok ?_ | refine Sem.exit tt_ok ?_ | refine Sem.ret tt_ok ?_ | refine BS_t (by assumption) ?_ | refine BS_f (by assumption) ?_ | refine atG (by repeat (first | assumption | exact setG_same _ _ _ | refine Eq.trans (setG_ne _ _ (by first | assumption | exact Ne.symm (by assumption))) ?_)) ?_ | refine (nthK_iff _ _).2 ⟨_, (by assumption), ?_⟩ | refine ⟨_, ⟨(by omega), (by assumption)⟩, ?_⟩ | refine And.intro (by first | decide | omega) ?_ | fail); conv => whnf) | refine Sem.seqS ?_ | refine Sem.block ?_ | fail)
      refine ⟨G, sub _, .inr ?_, rfl⟩
      rw [show comb out ([], (oneL s a).2.2, a) = ([], (oneL s a).2.2, a) from by unfold comb; exact if_neg he]
      exact ⟨rfl, rfl⟩
  · have t1 : decide (((a : Nat) : Int) < ((S s).size : Nat)) = false := by simp; omega
    have ha : a = s.length := by omega
    repeat' (first | ((first | refine Sem.reg tt_ok ?_ | refine Sem.condS ?_ | refine Sem.regL tt_ok ?_ | refine Sem.skip tt_ok ?_ | refine Sem.exit tt_ok ?_ | refine Sem.ret tt_ok ?_ | refine BS_t (by assumption) ?_ | refine BS_f (by assumption) ?_ | refine atG (by repeat (first | assumption | exact setG_same _ _ _ | refine Eq.trans (setG_ne _ _ (by first | assumption | exact Ne.symm (by assumption))) ?_)) ?_ | refine (nthK_iff _ _).2 ⟨_, (by assumption), ?_⟩ | refine ⟨_, ⟨(by omega), (by assumption)⟩, ?_⟩ | refine And.intro (by first | decide | omega) ?_ | fail); conv => whnf) | refine Sem.seqS ?_ | refine Sem.block ?_ | fail)
    refine (lexput_ok _ b (S s) (a : Nat) (out.map Tok.av) 4 0 ((S s).size : Nat) ⟨#[]⟩ (setG_same _ _ _) (by simp; omega)).on ?_; conv => whnf
    repeat' (first | ((first | refine Sem.reg tt_ok ?_ | refine Sem.condS ?_ | refine Sem.regL tt_ok ?_ | refine Sem.skip tt_ok ?_ | refine Sem.exit tt_ok ?_ | refine Sem.ret tt_ok ?_ | refine BS_t (by assumption) ?_ | refine BS_f (by assumption) ?_ | refine atG (by repeat (first | assumption | exact setG_same _ _ _ | refine Eq.trans (setG_ne _ _ (by first | assumption | exact Ne.symm (by assumption))) ?_)) ?_ | refine (nthK_iff _ _).2 ⟨_, (by assumption), ?_⟩ | refine ⟨_, ⟨(by omega), (by assumption)⟩, ?_⟩ | refine And.intro (by first | decide | omega) ?_ | fail); conv => whnf) | refine Sem.seqS ?_ | refine Sem.block ?_ | fail)
    refine ⟨G, fun i y hi => ?_, .inl ?_, rfl⟩
    · rw [setG_twice]; exact sub _ i y hi
    · rw [hx, lex_end hlt]
      unfold comb toksV
      simp only [if_true, List.map_append, List.map_cons, List.map_nil]
      rw [hsz]
      rfl
end Go.Proofs.YtofhakbmmgpgdaaDoor
end
