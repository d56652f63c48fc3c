/- Operations that make memory, or write it. -/
import Derived.Test.YtmmmaekaoanceaaAq
namespace Go.Proofs.Ytmmmaekaoanceaa
open Go Go.RowKit

section
variable {P : Program} {T : TypeId → TR} {g g' : Gh} {w w' : World} {a : Act} {L : List LB} {nl nt : Nat} {G : Glob} {env : List AV}

theorem CellsAt.mono {R R' : AV → Value → Prop} {k : Nat} {cells : List AV} (h : CellsAt w k R cells) (hR : ∀ c u, R c u → R' c u) (hk : w'.heap[k]? = w.heap[k]?) : CellsAt w' k R' cells := by
  obtain ⟨us, e, h1, h2, h3, h4⟩ := h
  exact ⟨us, e, by rw [hk]; exact h1, h2, h3, fun i c u hc hu => hR _ _ (h4 i c u hc hu)⟩
theorem GRel.keep (h : GRel T g G w) (dx : Dx g w g' w') (hk : ∀ b, (G b).isSome = true → b < g.nb → g.own (g.beta b) = .gbox b → g'.own (g.beta b) = .gbox b ∧ w'.heap[g.beta b]? = w.heap[g.beta b]?) : GRel T g' G w' := by
  intro b bx hb
  obtain ⟨h1, h2, h3⟩ := h b bx hb
  obtain ⟨h4, h5⟩ := hk b (by rw [hb]; rfl) h1 h2
  refine ⟨Nat.lt_of_lt_of_le h1 dx.nb, by rw [dx.beta b h1]; exact h4, ?_⟩
  rw [dx.beta b h1]
  cases bx with
  | cells cs => exact CellsAt.mono h3 (fun c u h => h.mono dx) h5
theorem LocAt.keep {j : Nat} {bx : LB} (h : LocAt T g w j bx) (hj : j < g.nl) (cx : Cx (fun _ => False) g w g' w') (hk : ∀ org cells, bx = .live org cells → g.own (g.lam j) = .lbox j → g'.own (g.lam j) = .lbox j ∧ w'.heap[g.lam j]? = w.heap[g.lam j]?) : LocAt T g' w' j bx := by
  cases bx with
  | live org cells =>
    obtain ⟨h1, h2, h3⟩ := h
    obtain ⟨h4, h5⟩ := hk _ _ rfl h1
    refine ⟨by rw [cx.lam j hj]; exact h4, ?_, fun b hb => ?_⟩
    · rw [cx.lam j hj]; exact CellsAt.mono h2 (fun c u h => h.mono cx) h5
    · obtain ⟨q1, q2⟩ := h3 b hb
      exact ⟨Nat.lt_of_lt_of_le q1 cx.dx.nb, by rw [cx.dx.beta b q1, cx.lam j hj]; exact q2⟩
  | away b =>
    obtain ⟨q1, q2⟩ := h
    exact ⟨Nat.lt_of_lt_of_le q1 cx.dx.nb, by rw [cx.dx.beta b q1, cx.lam j hj]; exact q2⟩
  | dead => trivial
theorem EnvR.keep (h : EnvR T g w env a) (cx : Cx (fun _ => False) g w g' w') : EnvR T g' w' env a := ⟨h.size, fun i v hv => (h.vals i v hv).mono cx, h.defers⟩

theorem cell_lt {k i : Nat} {u : Value} (h : w.cell? ⟨k, i, none⟩ = some u) : k < w.heap.size := by
  rcases Nat.lt_or_ge k w.heap.size with h1 | h1
  · exact h1
  · rw [show w.cell? ⟨k, i, none⟩ = none from by simp [World.cell?, Array.getElem?_eq_none h1]] at h
    cases h
/-- a new block: whose it is -/
def Gh.newBox (g : Gh) (k : Nat) : Gh := { g with own := fun i => if i = k then .lbox g.nl else g.own i, lam := fun j => if j = g.nl then k else g.lam j, nl := g.nl + 1 }
theorem newBox_cx (g : Gh) (w : World) (o : Obj) : Cx (fun _ => False) g w (g.newBox w.heap.size) (w.alloc o) := by
  refine ⟨⟨fun k i u h1 h2 => ?_, Nat.le_refl _, fun _ _ => rfl⟩, Nat.le_succ _, fun j hj => by simp [Gh.newBox, show j ≠ g.nl by omega], Nat.le_refl _, fun j _ _ => ⟨rfl, fun k n _ _ hk => ⟨by simp [Gh.newBox, show k ≠ w.heap.size by omega], Below.heap_alloc _ _ _ hk⟩⟩⟩
  have hlt := cell_lt h2
  refine ⟨?_, ?_⟩
  · unfold Gh.frz at *; simp only [Gh.newBox, show k ≠ w.heap.size by omega, if_false]; exact h1
  · rw [show (w.alloc o).cell? ⟨k, i, none⟩ = w.cell? ⟨k, i, none⟩ from by simp [World.cell?, Below.heap_alloc _ _ _ hlt]]; exact h2
theorem newBox_ext (g : Gh) (w : World) (o : Obj) : Ext g w (g.newBox w.heap.size) (w.alloc o) := by
  have := (newBox_cx g w o).dx
  refine ⟨this.cell, this.nb, this.beta, fun k hk _ => ⟨by simp [Gh.newBox, show k ≠ w.heap.size by omega], Below.heap_alloc _ _ _ hk⟩, by simp, rfl, rfl, rfl⟩
theorem live_lt (h : GRel T g G w) {b : Nat} {bx : GB} (hb : G b = some bx) : g.beta b < w.heap.size := by
  obtain ⟨_, _, h3⟩ := h b bx hb
  cases bx with
  | cells cs => obtain ⟨us, e, h4, _⟩ := h3; exact blk_lt h4
theorem loc_lt {j : Nat} {org : Option Nat} {cells : List AV} (h : LocAt T g w j (.live org cells)) : g.lam j < w.heap.size := by
  obtain ⟨_, ⟨us, e, h4, _⟩, _⟩ := h; exact blk_lt h4
theorem GRel.new (h : GRel T g G w) (dx : Dx g w g' w') (hk : ∀ k, k < w.heap.size → g'.own k = g.own k ∧ w'.heap[k]? = w.heap[k]?) : GRel T g' G w' :=
  h.keep dx (fun b hb _ h2 => by
    obtain ⟨bx, hb⟩ := Option.isSome_iff_exists.1 hb
    obtain ⟨q1, q2⟩ := hk _ (live_lt h hb)
    exact ⟨q1.trans h2, q2⟩)
theorem LocAt.new {j : Nat} {bx : LB} (h : LocAt T g w j bx) (hj : j < g.nl) (cx : Cx (fun _ => False) g w g' w') (hk : ∀ k, k < w.heap.size → g'.own k = g.own k ∧ w'.heap[k]? = w.heap[k]?) : LocAt T g' w' j bx := by
  refine h.keep hj cx (fun org cells hb h1 => ?_)
  subst hb
  obtain ⟨q1, q2⟩ := hk _ (loc_lt h)
  exact ⟨q1.trans h1, q2⟩
/-- a world with new blocks alone: all that was said of the old ones holds -/
theorem Rel.new {nt' : Nat} (h : Rel T g L nl nt G w) (cx : Cx (fun _ => False) g w g' w') (hk : ∀ k, k < w.heap.size → g'.own k = g.own k ∧ w'.heap[k]? = w.heap[k]?) (hl : g'.nl = g.nl) (ht : g'.nt = nt') : Rel T g' L nl nt' G w' :=
  ⟨h.glob.new cx.dx hk, fun j bx hj => (h.loc j bx hj).new (by rw [h.hl, ← h.hL]; exact (List.getElem?_eq_some_iff.1 hj).1) cx hk, h.hL, by rw [hl]; exact h.hl, ht⟩
/-- a new local box -/
theorem Rel.box (h : Rel T g L nl nt G w) (us : Array Value) (e : TypeId) (cells : List AV) (hs : us.size = cells.length) (h1 : ∀ u ∈ us, u.oneCell' = true) (hc : ∀ (i : Nat) (c : AV) (u : Value), cells[i]? = some c → us[i]? = some u → Cz T g w c u) :
    Rel T (g.newBox w.heap.size) (L ++ [.live none cells]) (nl + 1) nt G (w.alloc (.cells us e (0, 0))) := by
  have cx := newBox_cx g w (.cells us e (0, 0))
  have hk : ∀ k, k < w.heap.size → (g.newBox w.heap.size).own k = g.own k ∧ (w.alloc (.cells us e (0, 0))).heap[k]? = w.heap[k]? := fun k hk => ⟨by simp [Gh.newBox, show k ≠ w.heap.size by omega], Below.heap_alloc _ _ _ hk⟩
  refine ⟨h.glob.new cx.dx hk, fun j bx hj => ?_, by simp [h.hL], by simp [Gh.newBox, h.hl], h.ht⟩
  rcases Nat.lt_or_ge j L.length with hlt | hge
  · rw [List.getElem?_append_left hlt] at hj
    exact (h.loc j bx hj).new (by rw [h.hl, ← h.hL]; exact hlt) cx hk
  · obtain ⟨hl, _⟩ := List.getElem?_eq_some_iff.1 hj
    simp only [List.length_append, List.length_cons, List.length_nil] at hl
    obtain rfl : j = L.length := by omega
    simp at hj
    subst hj
    have hnl : g.nl = L.length := by rw [h.hl, h.hL]
    have hlam : (g.newBox w.heap.size).lam L.length = w.heap.size := by simp [Gh.newBox, hnl]
    refine ⟨?_, ?_, fun b hb => by cases hb⟩
    · rw [hlam]; simp [Gh.newBox, hnl]
    · rw [hlam]
      exact ⟨us, e, blk_new _ _, hs, h1, fun i c u hi hu => (hc i c u hi hu).mono cx⟩

/-- an operation in the run of the program -/
theorem wp_value {o : Oper} {next : Act → World → Prop} {Q : Exit → Act → World → Prop} {u : Value} (hr : (execOp a.eval o).run P w = .ok (.value u) w') (h : next (a.put o.dst u) w') : o.wp P a w next Q := by
  unfold Oper.wp; rw [hr]; exact h
theorem wp_skip' {o : Oper} {next : Act → World → Prop} {Q : Exit → Act → World → Prop} (hr : (execOp a.eval o).run P w = .ok .skip w') (h : next (a.put o.dst undef) w') : o.wp P a w next Q := by
  unfold Oper.wp; rw [hr]; exact h
/-- what is asked of what comes behind an operation -/
def NextOk (T : TypeId → TR) (a : Act) (dst : Option Tmp) (next : Act → World → Prop) (g : Gh) (w : World) (K : AV → Cf → Prop) : Prop :=
  ∀ v c' g' w' u, K v c' → Rel T g' c'.L c'.nl c'.nt c'.G w' → EnvR T g' w' c'.env a → Cz T g' w' v u → Ext g w g' w' → next (a.put dst u) w'
theorem e_alloc (TO : TOk P T) (hr : Rel T g L nl nt G w) (he : EnvR T g w env a) {o : Oper} (t : TypeId) (ho : o.op = .alloc t) {next : Act → World → Prop} {Q : Exit → Act → World → Prop} {K : AV → Cf → Prop} (hn : NextOk T a o.dst next g w K)
    (h : evOp P T (.alloc t) ⟨env, L, nl, nt, G⟩ K) : o.wp P a w next Q := by
  simp only [evOp, effK] at h
  cases hk : kindD (T t).desc with
  | none => simp only [hk] at h
  | some kb =>
    simp only [hk] at h
    obtain ⟨cs, h1, _, h3, h4, h5, h6⟩ := zero_sound (w := w) (g := g) TO (t := t) (by rw [hk]; simp) _ h
    rw [snocK_iff] at h1
    have hrun : (execOp a.eval o).run P w = .ok (.value (.pointer (some ⟨w.heap.size, 0, none⟩))) (w.alloc (.cells (T t).zero.cells t)) := by
      simp only [execOp, ho]
      simp [Instr.alloc, h3, newVar, newRow, newObj]
      rfl
    refine wp_value hrun (hn _ _ (g.newBox w.heap.size) _ _ h1 (hr.box _ _ cs h4.symm h5 (fun i c u hc hu => .dz _ _ (h6 i c u hc hu))) (he.keep (newBox_cx _ _ _)) ?_ (newBox_ext _ _ _))
    have := Cz.lptr (T := T) (g := g.newBox w.heap.size) (w := w.alloc (.cells (T t).zero.cells t)) nl 0 (by simp [Gh.newBox, hr.hl])
    simpa [Gh.newBox, hr.hl] using this
theorem e_box (hr : Rel T g L nl nt G w) (he : EnvR T g w env a) {o : Oper} (t : TypeId) (x : Operand) (ho : o.op = .box t x) {next : Act → World → Prop} {Q : Exit → Act → World → Prop} {K : AV → Cf → Prop} (hn : NextOk T a o.dst next g w K)
    (h : evOp P T (.box t x) ⟨env, L, nl, nt, G⟩ K) : o.wp P a w next Q := by
  simp only [evOp, effK] at h
  obtain ⟨v, h1, h2, _⟩ := opd_sound he x _ h
  obtain ⟨cs, h3, _, h4, h5, h6⟩ := cellsOf_sound h2 _ h1
  rw [snocK_iff] at h3
  have hrun : (execOp a.eval o).run P w = .ok (.value (.pointer (some ⟨w.heap.size, 0, none⟩))) (w.alloc (.cells (a.eval x).cells t)) := by
    simp only [execOp, ho]
    simp [Instr.box, newVar, newRow, newObj]
    rfl
  refine wp_value hrun (hn _ _ (g.newBox w.heap.size) _ _ h3 (hr.box _ _ cs h4.symm h5 h6) (he.keep (newBox_cx _ _ _)) ?_ (newBox_ext _ _ _))
  have := Cz.lptr (T := T) (g := g.newBox w.heap.size) (w := w.alloc (.cells (a.eval x).cells t)) nl 0 (by simp [Gh.newBox, hr.hl])
  simpa [Gh.newBox, hr.hl] using this

/-- a block that is a box's is written -/
theorem setRow_cell {k : Nat} {arr : Array Value} {k' i : Nat} (hne : k' ≠ k) : (w.setRow k arr).cell? ⟨k', i, none⟩ = w.cell? ⟨k', i, none⟩ := cell_setRow_other w k arr _ hne
theorem setRow_cx {k : Nat} (arr : Array Value) (hk : (∃ j, g.own k = .lbox j) ∨ ∃ b, g.own k = .gbox b) : Cx (fun _ => False) g w g (w.setRow k arr) := by
  refine ⟨⟨fun k' i u h1 h2 => ⟨h1, ?_⟩, Nat.le_refl _, fun _ _ => rfl⟩, Nat.le_refl _, fun _ _ => rfl, Nat.le_refl _, fun j _ _ => ⟨rfl, fun k' n _ ho _ => ⟨rfl, setRow_other w k k' arr (fun h => ?_)⟩⟩⟩
  · rw [setRow_cell]
    · exact h2
    · rintro rfl
      unfold Gh.frz at h1
      rcases hk with ⟨j, hk⟩ | ⟨b, hk⟩ <;> rw [hk] at h1 <;> exact h1
  · subst h
    rcases hk with ⟨j, hk⟩ | ⟨b, hk⟩ <;> rw [hk] at ho <;> cases ho
theorem setRow_ext {k : Nat} (arr : Array Value) (hk : (∃ j, g.own k = .lbox j) ∨ ∃ b, g.own k = .gbox b) : Ext g w g (w.setRow k arr) := by
  have := (setRow_cx (w := w) arr hk).dx
  refine ⟨this.cell, this.nb, this.beta, fun k' hk' ho => ⟨rfl, setRow_other w k k' arr (fun h => ?_)⟩, by simp, rfl, rfl, rfl⟩
  subst h
  rcases hk with ⟨j, hk⟩ | ⟨b, hk⟩ <;> rw [hk] at ho <;> exact ho
theorem cells_puts {R' : AV → Value → Prop} {k : Nat} {cells vs : List AV} {xs : Array Value} {us : Array Value} {e : TypeId} (hg : w.heap[k]? = some (.cells us e (0, 0))) (hl : us.size = cells.length) (h1 : ∀ u ∈ us, u.oneCell' = true)
    (hR : ∀ (i : Nat) (c : AV) (u : Value), cells[i]? = some c → us[i]? = some u → R' c u) (hv : vs.length = xs.size) (hx : ∀ x ∈ xs, x.oneCell' = true) (hp : ∀ (i : Nat) (c : AV) (x : Value), vs[i]? = some c → xs[i]? = some x → R' c x)
    (o : Nat) (hfit : o + vs.length ≤ cells.length) : CellsAt (w.setRow k (us.toList.take o ++ xs.toList ++ us.toList.drop (o + xs.toList.length)).toArray) k R' (cells.take o ++ vs ++ cells.drop (o + vs.length)) := by
  have hA := fun i => puts_at cells vs o hfit i
  have hB := fun i => puts_at us.toList xs.toList o (by simp; omega) i
  refine ⟨_, e, setRow_heap w k us _ e (0, 0) hg, by simp; omega, fun u hu => ?_, fun i c u hc hu => ?_⟩
  · simp only [List.mem_toArray] at hu
    rcases List.mem_append.1 hu with hu | hu
    · rcases List.mem_append.1 hu with hu | hu
      · exact h1 u (by simpa using List.mem_of_mem_take hu)
      · exact hx u (by simpa using hu)
    · exact h1 u (by simpa using List.mem_of_mem_drop hu)
  · simp only [List.getElem?_toArray] at hu
    rw [hB] at hu
    rw [hA] at hc
    simp only [Array.length_toList, ← hv] at hu
    split at hc
    · rename_i hin; rw [if_pos hin] at hu; exact hp _ _ _ hc (by simpa using hu)
    · rename_i hin; rw [if_neg hin] at hu; exact hR _ _ _ hc (by simpa using hu)
theorem run_storeAt (TO : TOk P T) {t : TypeId} (hk : kindD (T t).desc ≠ none) {k o : Nat} {us : Array Value} {e : TypeId} (hg : w.heap[k]? = some (.cells us e (0, 0))) (v : Value) (hs : v.cells.size = (T t).cells) (h1 : ∀ x ∈ v.cells, x.oneCell' = true) (hfit : o + v.cells.size ≤ us.size) :
    (Instr.storeAt t (.pointer (some ⟨k, o, none⟩)) v).run P w = .ok () (w.setRow k (us.toList.take o ++ v.cells.toList ++ us.toList.drop (o + v.cells.toList.length)).toArray) := by
  obtain ⟨_, i, hi, hsz, _⟩ := TO t hk
  have := run_storeCells_at P k o e v.cells.toList 0 us w hg (by simpa using hfit) (fun x hx => h1 x (by simpa using hx))
  simp only [Nat.add_zero] at this
  simp only [Instr.storeAt, Instr.sureAddr, Sem.run_bind, Sem.run_pure, Result.andThen_ok, storeVar, sizeOf, typeInfo, run_program, hi, hsz, hs, ne_eq, not_true_eq_false, if_false, this]
theorem dat0_sound {v : AV} {u : Value} (h : Cz T g w v u) (h1 : u.oneCell' = true) : Dz T g w (dat0 v) u := by
  cases h with
  | dz v u h => cases v <;> first | exact h | exact .top u h1 | cases h
  | any u => exact .top u h1
  | own j e els u hj h => exact h.slc (fun n i hi => hi)
  | lptr j off hj => exact .top _ h1
  | agg cs us hl h1' h => exact .top _ h1
  | tup cs us hl h => cases h1
  | fn f a b us vs ha hb h2 h3 => exact .top _ h1
  | ifc t v u h => exact .top _ h1
theorem dat0K_iff (v : AV) (K : AV → Prop) : dat0K v K ↔ K (dat0 v) := by cases v <;> exact Iff.rfl
theorem dat0sK_iff : ∀ (l : List AV) (K : List AV → Prop), dat0sK l K ↔ K (l.map dat0)
  | [], K => Iff.rfl
  | v :: r, K => by unfold dat0sK; rw [dat0K_iff, dat0sK_iff r]; rfl
theorem Rel.setL (h : Rel T g L nl nt G w) {j : Nat} {cells cells' : List AV} {org : Option Nat} (hj : L[j]? = some (.live org cells)) (arr : Array Value) (hc : CellsAt (w.setRow (g.lam j) arr) (g.lam j) (Cz T g (w.setRow (g.lam j) arr)) cells') :
    Rel T g (L.set j (.live org cells')) nl nt G (w.setRow (g.lam j) arr) := by
  have hloc := h.loc j _ hj
  have cx := setRow_cx (w := w) arr (.inl ⟨j, hloc.1⟩)
  have hjl := (List.getElem?_eq_some_iff.1 hj).1
  refine ⟨h.glob.keep cx.dx (fun b hb h1 h2 => ⟨h2, setRow_other w _ _ arr (fun he => ?_)⟩), fun i bx hi => ?_, by simp [h.hL], h.hl, h.ht⟩
  · rw [he, hloc.1] at h2; cases h2
  · by_cases hij : i = j
    · subst hij
      rw [List.getElem?_set_self hjl] at hi
      simp only [Option.some.injEq] at hi
      subst hi
      exact ⟨hloc.1, hc, hloc.2.2⟩
    · rw [List.getElem?_set_ne (Ne.symm hij)] at hi
      have hil := (List.getElem?_eq_some_iff.1 hi).1
      refine (h.loc i bx hi).keep (by rw [h.hl, ← h.hL]; exact hil) cx (fun org cells hb h1 => ⟨h1, setRow_other w _ _ arr (fun he => ?_)⟩)
      rw [he, hloc.1] at h1
      simp only [Own.lbox.injEq] at h1
      exact hij h1.symm
theorem Rel.setG (h : Rel T g L nl nt G w) {b : Nat} {cells cells' : List AV} (hb : G b = some (.cells cells)) (arr : Array Value) (hc : CellsAt (w.setRow (g.beta b) arr) (g.beta b) (Dz T g (w.setRow (g.beta b) arr)) cells') :
    Rel T g L nl nt (setG G b (.cells cells')) (w.setRow (g.beta b) arr) := by
  obtain ⟨b1, b2, b3⟩ := h.glob b _ hb
  have cx := setRow_cx (w := w) arr (.inr ⟨b, b2⟩)
  refine ⟨fun i bx hi => ?_, fun j bx hj => ?_, h.hL, h.hl, h.ht⟩
  · by_cases hib : i = b
    · subst hib
      rw [setG_same] at hi
      simp only [Option.some.injEq] at hi
      subst hi
      exact ⟨b1, b2, hc⟩
    · rw [setG_ne _ _ hib] at hi
      have := h.glob.keep cx.dx (g' := g) (w' := w.setRow (g.beta b) arr)
      obtain ⟨i1, i2, i3⟩ := h.glob i bx hi
      refine ⟨i1, i2, ?_⟩
      cases bx with
      | cells cs =>
        refine CellsAt.mono i3 (fun c u h => h.mono cx.dx) (setRow_other w _ _ arr (fun he => ?_))
        rw [he, b2] at i2
        simp only [Own.gbox.injEq] at i2
        exact hib i2.symm
  · have hjl := (List.getElem?_eq_some_iff.1 hj).1
    refine (h.loc j bx hj).keep (by rw [h.hl, ← h.hL]; exact hjl) cx (fun org cells hb h1 => ⟨h1, setRow_other w _ _ arr (fun he => ?_)⟩)
    rw [he, b2] at h1; cases h1
theorem run_store_op {o : Oper} {t : TypeId} {p x : Operand} (ho : o.op = .store t p x) {ad : Value} (e : a.eval p = ad) (hst : (Instr.storeAt t ad (a.eval x)).run P w = .ok () w') : (execOp a.eval o).run P w = .ok .skip w' := by
  simp only [execOp, ho, e, Sem.run_bind, hst, Result.andThen_ok, Sem.run_pure]
theorem e_store (TO : TOk P T) (hr : Rel T g L nl nt G w) (he : EnvR T g w env a) {o : Oper} (t : TypeId) (p x : Operand) (ho : o.op = .store t p x) {next : Act → World → Prop} {Q : Exit → Act → World → Prop} {K : AV → Cf → Prop} (hn : NextOk T a o.dst next g w K)
    (h : evOp P T (.store t p x) ⟨env, L, nl, nt, G⟩ K) : o.wp P a w next Q := by
  simp only [evOp, effK] at h
  obtain ⟨v, h1, h2, _⟩ := opd_sound he x _ h
  obtain ⟨vs, h3, _, h4, h5, h6⟩ := cellsOf_sound h2 _ h1
  cases hk : kindD (T t).desc with
  | none => simp only [hk] at h3
  | some kb =>
    simp only [hk] at h3
    by_cases hs : vs.length = (T t).cells
    · rw [show (vs.length == (T t).cells) = true by simpa using hs] at h3
      obtain ⟨q, h7, h8, hq⟩ := opd_sound he p _ h3
      clear hq
      -- the store into a shared box
      have glob : ∀ b of, a.eval p = .pointer (some ⟨g.beta b, of, none⟩) → (∃ cells, G b = some (.cells cells) ∧ dat0sK vs fun vs' => putsK of vs' cells fun cells' => K .top ⟨env, L, nl, nt, setG G b (.cells cells')⟩) → o.wp P a w next Q := by
        rintro b of e ⟨cells, hb, hK⟩
        rw [dat0sK_iff, putsK_iff] at hK
        obtain ⟨hfit, hK⟩ := hK
        simp only [List.length_map] at hfit
        obtain ⟨b1, b2, us, el, c1, c2, c3, c4⟩ := hr.glob b _ hb
        have hst := run_storeAt (P := P) TO (t := t) (by rw [hk]; simp) (o := of) c1 (a.eval x) (by omega) h5 (by omega)
        refine wp_skip' (run_store_op ho e hst) (hn _ _ g _ _ hK ?_ (he.keep (setRow_cx _ (.inr ⟨b, b2⟩))) (.any _) (setRow_ext _ (.inr ⟨b, b2⟩)))
        have cx := setRow_cx (g := g) (w := w) (us.toList.take of ++ (a.eval x).cells.toList ++ us.toList.drop (of + (a.eval x).cells.toList.length)).toArray (.inr ⟨b, b2⟩)
        exact hr.setG hb _ (cells_puts c1 c2 c3 (fun i c u hc hu => (c4 i c u hc hu).mono cx.dx) (by simpa using h4) h5 (fun i c y hc hy => by
          simp only [List.getElem?_map, Option.map_eq_some_iff] at hc
          obtain ⟨c', hc', rfl⟩ := hc
          exact (dat0_sound (h6 i c' y hc' hy) (h5 _ (Array.mem_of_getElem? hy))).mono cx.dx) of (by simpa using hfit))
      cases q <;> first | exact h7.elim | skip
      case lptr j of =>
        obtain ⟨bx, hj, h7⟩ := (nthK_iff _ _).1 h7
        have e := (cz_lptr h8).2
        have hloc := hr.loc j bx hj
        cases bx with
        | live org cells =>
          simp only at h7
          rw [putsK_iff] at h7
          obtain ⟨hfit, h7⟩ := h7
          rw [setK_iff] at h7
          obtain ⟨_, hK⟩ := h7
          obtain ⟨us, el, c1, c2, c3, c4⟩ := hloc.2.1
          have hst := run_storeAt (P := P) TO (t := t) (by rw [hk]; simp) (o := of) c1 (a.eval x) (by omega) h5 (by omega)
          refine wp_skip' (run_store_op ho e hst) (hn _ _ g _ _ hK ?_ (he.keep (setRow_cx _ (.inl ⟨j, hloc.1⟩))) (.any _) (setRow_ext _ (.inl ⟨j, hloc.1⟩)))
          have cx := setRow_cx (g := g) (w := w) (us.toList.take of ++ (a.eval x).cells.toList ++ us.toList.drop (of + (a.eval x).cells.toList.length)).toArray (.inl ⟨j, hloc.1⟩)
          exact hr.setL hj _ (cells_puts c1 c2 c3 (fun i c u hc hu => (c4 i c u hc hu).mono cx) h4 h5 (fun i c y hc hy => (h6 i c y hc hy).mono cx) of hfit)
        | away b =>
          exact glob b of (by rw [e, hloc.2]) h7
        | dead => exact h7.elim
      case gptr b of => exact glob b of (cz_gptr h8).2 h7
    · rw [show (vs.length == (T t).cells) = false by simpa using hs] at h3; exact h3.elim
end
end Go.Proofs.Ytmmmaekaoanceaa
