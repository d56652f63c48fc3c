/- The lexer's put in the abstract run: a row in a shared box. -/
import Derived.Test.YtofhakbmmgpgdaaLexA
set_option maxRecDepth 100000
namespace Go.Proofs.Ytofhakbmmgpgdaa
open Go Go.RowKit Go.Proofs

def tTok : TypeId := 50
def tokC (k : Int) (s : ByteArray) (n a : Int) : List AV := [.int .i64 k, .str s, .int .i64 n, .int .i64 a]
def lexB (s : ByteArray) (a : Int) (els : List (List AV)) : GB := .box [.str s, .int .i64 a, .slc 50 els] [(2, 50, els)]
theorem box3 {g : Gh} {w : World} {b : Nat} {s : ByteArray} {a : Int} {els : List (List AV)} (h : BoxAt TT g w b (lexB s a els)) : ∃ pv cv ty xs, w.heap[g.beta b]? = some (.cells #[.string s, .int .i64 a, .slice pv els.length cv] ty (0, 0)) ∧
    w.ownsRow 0 50 4 (.slice pv els.length cv) els.length xs ∧ (∀ k, (Value.slice pv els.length cv).ownBlock = some k → g.own k = .gtok b 2 (els.length * 4)) ∧ (∀ cells ∈ els, cells.length = 4) ∧
    ∀ (i : Nat) (cells : List AV), els[i]? = some cells → ∀ (j : Nat) (x : AV), cells[j]? = some x → ∃ y, xs[i * 4 + j]? = some y ∧ y.oneCell' = true ∧ Dz TT g w x y := by
  obtain ⟨us, ty, h1, h2, h3, h4, h5⟩ := h
  obtain ⟨us⟩ := us
  match us, h2 with
  | [u0, u1, u2], _ =>
    cases h4 0 _ u0 rfl rfl
    cases h4 1 _ u1 rfl rfl
    obtain ⟨u, e1, xs, o1, o2, o3, o4, o5⟩ := h5 _ (List.mem_singleton.2 rfl)
    have e1 : u2 = u := by simpa using e1
    subst e1
    obtain ⟨p, cap, hp⟩ := slc_shape (h4 2 _ u2 rfl rfl)
    subst hp
    exact ⟨p, cap, ty, xs, h1, o1, o3, o4, o5⟩
theorem setCell_drewBlock {w : World} {k j i : Nat} {v : Value} (h : j ≠ k) : (w.setCell ⟨k, i, none⟩ v).heap[j]? = w.heap[j]? := Below.heap_setCell _ _ _ _ (by simpa using h)
theorem AppW.old {w w' : World} {v v' : Value} (h : AppW w w' v v') {k : Nat} (hk : k < w.heap.size) (hne : some k ≠ v'.ownBlock) : w'.heap[k]? = w.heap[k]? := by
  rcases h with ⟨rfl, _⟩ | ⟨j, arr, h1, h2, rfl⟩ | ⟨o', rfl, _⟩
  · rfl
  · have : j ≠ k := fun e => hne (by rw [h2, e])
    unfold World.setRow
    rw [Array.getElem?_modify, if_neg this]
  · rw [drew_block _ _ hk]
theorem AppW.at_ {w w' : World} {v v' : Value} (h : AppW w w' v v') : v'.ownBlock = v.ownBlock ∨ v'.ownBlock = some w.heap.size := by
  rcases h with ⟨_, rfl⟩ | ⟨j, arr, h1, h2, _⟩ | ⟨o', _, h⟩
  · exact .inl rfl
  · exact .inl (h2.trans h1.symm)
  · exact .inr h
theorem AppW.rest {w w' : World} {v v' : Value} (h : AppW w w' v v') : w.heap.size ≤ w'.heap.size ∧ w'.os = w.os ∧ w'.tape = w.tape ∧ w'.output = w.output := by
  rcases h with ⟨rfl, _⟩ | ⟨j, arr, h1, h2, rfl⟩ | ⟨o', rfl, _⟩
  · exact ⟨Nat.le_refl _, rfl, rfl, rfl⟩
  · exact ⟨by simp [World.setRow], rfl, rfl, rfl⟩
  · exact ⟨by simp, rfl, rfl, rfl⟩
def Gh.regrown (g : Gh) (b : Nat) (old new : Option Nat) (n size : Nat) : Gh := { g with own := fun i => if some i = new then .gtok b 2 n else if some i = old then .frz else if size ≤ i then .frz else g.own i }
theorem lexput_ok (G : Glob) (b : Nat) (s : ByteArray) (a : Int) (els : List (List AV)) (kind num at_ : Int) (text : ByteArray) (hG : G b = some (lexB s a els)) (hn : els.length ≤ 1048576) :
    CallOk Try.prog TT 19 [.gptr b 0, .int .i64 kind, .str text, .int .i64 num, .int .i64 at_] G (fun v G' => v = .tup [] ∧ G' = setG G b (lexB s a (els ++ [tokC kind text num at_]))) := by
  refine ⟨⟨_, Try.func19, by decide, rfl⟩, fun g us w hr hl hd => ?_⟩
  obtain ⟨us⟩ := us
  match us, hl with
  | [u0, u1, u2, u3, u4], _ =>
    obtain ⟨b1, b2, b3⟩ := hr b _ hG
    cases hd 1 _ u1 rfl rfl
    cases hd 2 _ u2 rfl rfl
    cases hd 3 _ u3 rfl rfl
    cases hd 4 _ u4 rfl rfl
    have e0 := hd 0 _ u0 rfl rfl
    cases e0 with
    | gptr _ _ hb =>
    obtain ⟨pv, cv, ty, xs, h1, h2, h3, h4, h5⟩ := box3 b3
    have hkne : some (g.beta b) ≠ (Value.slice pv els.length cv).ownBlock := fun e => by have := h3 _ e.symm; rw [b2] at this; cases this
    refine (lexput_any (g.beta b) s a pv els.length cv xs w kind num at_ text ty h1 h2 hkne hn).mono ?_
    rintro e w' ⟨rfl, v', w2, r1, r2, r3, rfl⟩
    have hklt := blk_lt h1
    have hsz : w.heap.size < (w.alloc (.cells #[.int .i64 kind, .string text, .int .i64 num, .int .i64 at_] 50 (0, 0))).heap.size := by simp
    have hal : ∀ k, k < w.heap.size → (w.alloc (.cells #[.int .i64 kind, .string text, .int .i64 num, .int .i64 at_] 50 (0, 0))).heap[k]? = w.heap[k]? := fun k hk => Below.heap_alloc _ _ _ hk
    obtain ⟨s1, s2, s3, s4⟩ := r2.rest
    have hat := r2.at_
    have hold := fun k hk hne => r2.old (k := k) hk hne
    have hlt2 : ∀ k, v'.ownBlock = some k → k < w2.heap.size := fun k hk => (r1.lt k hk).2
    generalize hwA : w.alloc (.cells #[.int .i64 kind, .string text, .int .i64 num, .int .i64 at_] 50 (0, 0)) = wA at *
    have hos : wA.os = w.os ∧ wA.tape = w.tape ∧ wA.output = w.output := by subst hwA; exact ⟨rfl, rfl, rfl⟩
    have hv'ne : some (g.beta b) ≠ v'.ownBlock := by
      rcases hat with h | h
      · rw [h]; exact hkne
      · rw [h]; intro e; simp only [Option.some.injEq] at e; omega
    have hw' : ∀ k, k ≠ g.beta b → (w2.setCell ⟨g.beta b, 2, none⟩ v').heap[k]? = w2.heap[k]? := fun k hk => setCell_drewBlock hk
    have hcell : ∀ k i, k ≠ g.beta b → (w2.setCell ⟨g.beta b, 2, none⟩ v').cell? ⟨k, i, none⟩ = w2.cell? ⟨k, i, none⟩ := fun k i hk => by simp [World.cell?, hw' k hk]
    -- the new ownership
    have own1 : ∀ k, k < w.heap.size → some k ≠ v'.ownBlock → some k ≠ (Value.slice pv els.length cv).ownBlock → (g.regrown b (Value.slice pv els.length cv).ownBlock v'.ownBlock ((els.length + 1) * 4) w.heap.size).own k = g.own k := fun k hk q1 q2 => by
      simp only [Gh.regrown, if_neg q1, if_neg q2, if_neg (show ¬ w.heap.size ≤ k by omega)]
    have dx : Dx g w (g.regrown b (Value.slice pv els.length cv).ownBlock v'.ownBlock ((els.length + 1) * 4) w.heap.size) (w2.setCell ⟨g.beta b, 2, none⟩ v') := by
      refine ⟨fun k i u f1 f2 => ?_, Nat.le_refl _, fun _ _ => rfl⟩
      have hk := cell_lt f2
      have hkb : k ≠ g.beta b := fun e => by unfold Gh.frz at f1; rw [e, b2] at f1; exact f1
      rw [hcell k i hkb]
      by_cases q1 : some k = v'.ownBlock
      · have q2 : (Value.slice pv els.length cv).ownBlock = some k := by
          rcases hat with h | h
          · rw [← h]; exact q1.symm
          · rw [h] at q1; simp only [Option.some.injEq] at q1; omega
        have q3 := h3 k q2
        unfold Gh.frz at f1 ⊢
        rw [q3] at f1
        have f1 : i < els.length * 4 := f1
        refine ⟨?_, ?_⟩
        · simp only [Gh.regrown, if_pos q1]
          show i < _
          omega
        · have l1 := h2.1
          have l2 : i < xs.length := by omega
          have c1 := h2.cells (g := k) q2 i xs[i] (List.getElem?_eq_getElem l2)
          have c2 := r1.cells (g := k) q1.symm i xs[i] (by rw [List.getElem?_append_left l2]; exact List.getElem?_eq_getElem l2)
          rw [addr_add, Nat.zero_add] at c1 c2
          rw [c2, ← c1, f2]
      · have hsame : w2.cell? ⟨k, i, none⟩ = w.cell? ⟨k, i, none⟩ := by simp only [World.cell?, hold k (by omega) q1, hal k hk]
        rw [hsame]
        refine ⟨?_, f2⟩
        unfold Gh.frz at f1 ⊢
        by_cases q2 : some k = (Value.slice pv els.length cv).ownBlock
        · simp only [Gh.regrown, if_neg q1, if_pos q2]; trivial
        · rw [own1 k hk q1 q2]; exact f1
    have hkeep : ∀ k, k < w.heap.size → k ≠ g.beta b → some k ≠ (Value.slice pv els.length cv).ownBlock → (g.regrown b (Value.slice pv els.length cv).ownBlock v'.ownBlock ((els.length + 1) * 4) w.heap.size).own k = g.own k ∧ (w2.setCell ⟨g.beta b, 2, none⟩ v').heap[k]? = w.heap[k]? := fun k hk q1 q2 => by
      have q3 : some k ≠ v'.ownBlock := by
        rcases hat with h | h
        · rw [h]; exact q2
        · rw [h]; intro e; simp only [Option.some.injEq] at e; omega
      exact ⟨own1 k hk q3 q2, by rw [hw' k q1, hold k (by omega) q3, hal k hk]⟩
    refine ⟨_, g.regrown b (Value.slice pv els.length cv).ownBlock v'.ownBlock ((els.length + 1) * 4) w.heap.size, setG G b (lexB s a (els ++ [tokC kind text num at_])), .tup [], rfl, ⟨rfl, rfl⟩, ?_, ?_, .tup _ _ rfl fun i c u hc => by simp at hc⟩
    · intro i bx hi
      by_cases hib : i = b
      · subst hib
        rw [setG_same, Option.some.injEq] at hi
        subst hi
        have hown : OwnAt TT (g.regrown i (Value.slice pv els.length cv).ownBlock v'.ownBlock ((els.length + 1) * 4) w.heap.size) (w2.setCell ⟨g.beta i, 2, none⟩ v') (.gtok i 2) v'.ownBlock 50 (els ++ [tokC kind text num at_]) v' := by
          obtain ⟨a1, a2⟩ := els_app (T := TT) (g := g.regrown i (Value.slice pv els.length cv).ownBlock v'.ownBlock ((els.length + 1) * 4) w.heap.size) (w := w2.setCell ⟨g.beta i, 2, none⟩ v') (e := 50) (els := els) (els' := [tokC kind text num at_]) (xs := xs) (news := [.int .i64 kind, .string text, .int .i64 num, .int .i64 at_]) h2.1 h4 (fun c hc => by rw [List.mem_singleton.1 hc]; rfl)
            (fun i cells hi j x hj => by obtain ⟨y, y1, y2, y3⟩ := h5 i cells hi j x hj; exact ⟨y, y1, y2, y3.mono dx⟩)
            (fun i cells hi j x hj => by
              match i with
              | 0 =>
                simp only [List.getElem?_cons_zero, Option.some.injEq] at hi
                subst hi
                match j with
                | 0 => simp [tokC] at hj; subst hj; exact ⟨_, rfl, rfl, .int _ _⟩
                | 1 => simp [tokC] at hj; subst hj; exact ⟨_, rfl, rfl, .str _⟩
                | 2 => simp [tokC] at hj; subst hj; exact ⟨_, rfl, rfl, .int _ _⟩
                | 3 => simp [tokC] at hj; subst hj; exact ⟨_, rfl, rfl, .int _ _⟩
                | j + 4 => simp [tokC] at hj
              | i + 1 => simp at hi)
          refine ⟨_, ?_, rfl, fun k hk => ?_, a1, a2⟩
          · rw [List.length_append]
            exact ownsRow_keep r1 fun k hk => hw' k (fun e => hv'ne (by rw [← e]; exact hk.symm))
          · rw [List.length_append]
            simp only [Gh.regrown, if_pos hk.symm]
            rfl
        refine ⟨b1, ?_, ?_⟩
        · show (g.regrown i _ _ _ _).own (g.beta i) = _
          rw [own1 _ hklt hv'ne hkne]; exact b2
        · refine ⟨#[.string s, .int .i64 a, v'], ty, ?_, rfl, fun u hu => ?_, fun j c u hc hu => ?_, fun x hx => ?_⟩
          · show (w2.setCell ⟨g.beta i, 2, none⟩ v').heap[g.beta i]? = _
            rw [blk_set r3 2]; rfl
          · simp at hu
            rcases hu with rfl | rfl | rfl
            · rfl
            · rfl
            · obtain ⟨p, cap, hp⟩ := slc_shape (hown.slc (fun n i h => h)); rw [hp]; rfl
          · match j with
            | 0 => simp at hc hu; subst hc hu; exact .str _
            | 1 => simp at hc hu; subst hc hu; exact .int _ _
            | 2 => simp at hc hu; subst hc hu; exact hown.slc (fun n i h => h)
            | j + 3 => simp at hc
          · rw [List.mem_singleton.1 hx]
            exact ⟨v', rfl, hown⟩
      · rw [setG_ne _ _ hib] at hi
        obtain ⟨i1, i2, i3⟩ := hr i bx hi
        have hi3 := i3.lt
        have kne : ∀ k, (g.own k).ofBox i → k ≠ g.beta b ∧ some k ≠ (Value.slice pv els.length cv).ownBlock := fun k hk => ⟨fun e => by rw [e, b2] at hk; exact hib hk.symm, fun e => by rw [h3 k e.symm] at hk; exact hib hk.symm⟩
        have hbi := kne (g.beta i) (by rw [i2]; exact rfl)
        exact ⟨i1, by rw [show (g.regrown b (Value.slice pv els.length cv).ownBlock v'.ownBlock ((els.length + 1) * 4) w.heap.size).beta i = g.beta i from rfl, (hkeep _ hi3 hbi.1 hbi.2).1]; exact i2, i3.keep i1 i2 dx fun k hk hlt => hkeep k hlt (kne k hk).1 (kne k hk).2⟩
    · refine ⟨dx.cell, Nat.le_refl _, fun _ _ => rfl, fun k hk hkept => ?_, ?_, ?_, ?_, ?_⟩
      · exact hkeep k hk (fun e => by rw [e, b2] at hkept; exact hkept) (fun e => by rw [h3 k e.symm] at hkept; exact hkept)
      · simp only [World.size_setCell]; omega
      · show w2.os = _; rw [s2]; exact hos.1
      · show w2.tape = _; rw [s3]; exact hos.2.1
      · show w2.output = _; rw [s4]; exact hos.2.2
/-- a box whose cell is no row yet -/
theorem box_row {g : Gh} {w : World} {b : Nat} {s : ByteArray} {a : Int} (h : BoxAt TT g w b (.cells [.str s, .int .i64 a, .nils])) : BoxAt TT g w b (lexB s a []) := by
  obtain ⟨us, ty, h1, h2, h3, h4⟩ := h
  obtain ⟨us⟩ := us
  match us, h2 with
  | [u0, u1, u2], _ =>
    cases h4 0 _ u0 rfl rfl
    cases h4 1 _ u1 rfl rfl
    cases h4 2 _ u2 rfl rfl
    have hown : OwnAt TT g w (.gtok b 2) none 50 [] (.slice none 0 0) := by
      refine ⟨[], ⟨rfl, .inl ⟨rfl, rfl⟩⟩, rfl, ?_, ?_, ?_⟩
      · intro k hk; cases hk
      · intro c hc; cases hc
      · intro i c hc; simp at hc
    refine ⟨_, ty, h1, rfl, h3, fun j c u hc hu => ?_, fun x hx => ?_⟩
    · match j with
      | 0 => simp at hc hu; subst hc hu; exact .str _
      | 1 => simp at hc hu; subst hc hu; exact .int _ _
      | 2 => simp at hc hu; subst hc hu; exact hown.slc (fun n i h => h)
      | j + 3 => simp at hc
    · rw [List.mem_singleton.1 hx]
      exact ⟨_, rfl, hown⟩
theorem Sem.rowbox {code : Code} {env : List AV} {L : List LB} {nl nt : Nat} {G : Glob} {Q : Ex → Cf → Prop} (b : Nat) {s : ByteArray} {a : Int} (hG : G b = some (.cells [.str s, .int .i64 a, .nils])) (h : Sem Try.prog TT code ⟨env, L, nl, nt, setG G b (lexB s a [])⟩ Q) : Sem Try.prog TT code ⟨env, L, nl, nt, G⟩ Q :=
  Sem.weak (c' := ⟨env, L, nl, nt, setG G b (lexB s a [])⟩) ⟨fun g a' w hs => ⟨g, ⟨⟨fun i bx hi => by
    have hi : setG G b (lexB s a []) i = some bx := hi
    by_cases hib : i = b
    · subst hib
      rw [setG_same, Option.some.injEq] at hi
      subst hi
      obtain ⟨b1, b2, b3⟩ := hs.rel.glob i _ hG
      exact ⟨b1, b2, box_row b3⟩
    · rw [setG_ne _ _ hib] at hi
      exact hs.rel.glob i bx hi, hs.rel.loc, hs.rel.hL, hs.rel.hl, hs.rel.ht⟩, hs.size, hs.vals, hs.defers⟩, ⟨fun _ _ _ h1 h2 => ⟨h1, h2⟩, Nat.le_refl _, fun _ _ => rfl, fun _ _ _ => ⟨rfl, rfl⟩, Nat.le_refl _, rfl, rfl, rfl⟩⟩⟩ h
end Go.Proofs.Ytofhakbmmgpgdaa
