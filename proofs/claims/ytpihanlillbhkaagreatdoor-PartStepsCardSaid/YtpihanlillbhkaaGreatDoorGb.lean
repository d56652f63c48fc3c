/- One text out of several: Ae, Af, Ag, Ah, Ai. -/
import Derived.Test.YtpihanlillbhkaaGreatDoorGa

section
/- Operations that make memory, or write it. -/
namespace Go.Proofs.YtpihanlillbhkaaGreatDoor
open Go Go.RowKit

section
variable {P : Program} {T : TypeId → TR} {g g' : Gh} {w w' : World} {a : Act} {L : List LB} {nl nt : Nat} {G : Glob} {env : List AV}

theorem CellsAt.mono {R R' : AV → Value → Prop} {k : Nat} {cells : List AV} (h : CellsAt w k R cells) (hR : ∀ c u, R c u → R' c u) (hk : w'.heap[k]? = w.heap[k]?) : CellsAt w' k R' cells := by
  obtain ⟨us, e, h1, h2, h3, h4⟩ := h
  exact ⟨us, e, by rw [hk]; exact h1, h2, h3, fun i c u hc hu => hR _ _ (h4 i c u hc hu)⟩
theorem ownsRow_keep {base : Nat} {e : TypeId} {size n : Nat} {v : Value} {xs : List Value} (h : w.ownsRow base e size v n xs) (hk : ∀ k, v.ownBlock = some k → w'.heap[k]? = w.heap[k]?) : w'.ownsRow base e size v n xs := by
  refine ⟨h.1, ?_⟩
  rcases h.2 with h | ⟨b, cap, cur, rfl, hb, hg, r⟩
  · exact .inl h
  · exact .inr ⟨b, cap, cur, rfl, hb, by rw [hk b rfl]; exact hg, r⟩
theorem BoxAt.lt {b : Nat} {bx : GB} (h : BoxAt T g w b bx) : g.beta b < w.heap.size := by
  have lt : ∀ o, w.heap[g.beta b]? = some o → g.beta b < w.heap.size := fun o h => (Array.getElem?_eq_some_iff.1 h).1
  cases bx with
  | cells cs => obtain ⟨us, e, h1, _⟩ := h; exact lt _ h1
  | box cs gs => obtain ⟨us, e, h1, _⟩ := h; exact lt _ h1
  | bld s => obtain ⟨t, e, p, v, _, h1, _⟩ := h; exact lt _ h1
  | obld t s x => obtain ⟨e, p, v, u, _, h1, _⟩ := h; exact lt _ h1
  | map kd m => obtain ⟨es, c, h1, _⟩ := h; exact lt _ h1
  | cmap n m => obtain ⟨t, v, h1, _⟩ := h; exact lt _ h1
  | pin k o => obtain ⟨rfl, h1⟩ := h; exact lt _ h1
theorem BoxAt.keep {b : Nat} {bx : GB} (h : BoxAt T g w b bx) (hn : b < g.nb) (ho : g.own (g.beta b) = .gbox b) (dx : Dx g w g' w') (hk : ∀ k, (g.own k).ofBox b → k < w.heap.size → g'.own k = g.own k ∧ w'.heap[k]? = w.heap[k]?) : BoxAt T g' w' b bx := by
  have hb := dx.beta b hn
  have he := (hk _ (by rw [ho]; exact rfl) h.lt).2
  cases bx with
  | cells cs =>
    unfold BoxAt
    rw [hb]
    exact CellsAt.mono h (fun c u h => h.mono dx) he
  | box cs gs =>
    obtain ⟨us, e, h1, h2, h3, h4, h5⟩ := h
    refine ⟨us, e, by rw [hb, he]; exact h1, h2, h3, fun i c u hc hu => (h4 i c u hc hu).mono dx, fun x hx => ?_⟩
    obtain ⟨u, q1, q2⟩ := h5 x hx
    refine ⟨u, q1, q2.mono dx fun k hku => hk k ?_ ?_⟩
    · obtain ⟨_, _, _, h3, _⟩ := q2
      rw [h3 k hku]; exact rfl
    · rw [hku] at q2; exact q2.lt
  | bld s =>
    obtain ⟨t, e, p, v, h0, h1, h2, h3, h4, h5, h6⟩ := h
    refine ⟨t, e, p, v, h0, by rw [hb, he]; exact h1, by rw [hb]; exact h2, ownsRow_keep h3 fun k hku => (hk k (by rw [h5 k hku]; exact rfl) (h3.lt k hku).2).2, by rw [hb]; exact h4, fun k hku => ?_, h6⟩
    rw [(hk k (by rw [h5 k hku]; exact rfl) (h3.lt k hku).2).1]
    exact h5 k hku
  | obld t s x =>
    obtain ⟨e, p, v, u, h0, h1, h2, h3, h4, h5, h6, h7, h8⟩ := h
    refine ⟨e, p, v, u, h0, by rw [hb, he]; exact h1, by rw [hb]; exact h2, ownsRow_keep h3 fun k hku => (hk k (by rw [h5 k hku]; exact rfl) (h3.lt k hku).2).2, by rw [hb]; exact h4, fun k hku => ?_, h6, h7, h8.mono dx⟩
    rw [(hk k (by rw [h5 k hku]; exact rfl) (h3.lt k hku).2).1]
    exact h5 k hku
  | map kd m =>
    obtain ⟨es, clock, h1, h2, h3, h4⟩ := h
    exact ⟨es, clock, by rw [hb, he]; exact h1, h2, h3, fun i x y hx hy => ⟨(h4 i x y hx hy).1, (h4 i x y hx hy).2.mono dx⟩⟩
  | cmap n m =>
    obtain ⟨t, v, h1, h2⟩ := h
    refine ⟨t, v, by rw [hb, he]; exact h1, ?_⟩
    rcases h2 with h2 | ⟨k, es, clock, h2, h3, h4, h5, h6, h7⟩
    · exact .inl h2
    · have hlt : k < w.heap.size := (Array.getElem?_eq_some_iff.1 h4).1
      obtain ⟨q1, q2⟩ := hk k (by rw [h3]; exact rfl) hlt
      exact .inr ⟨k, es, clock, h2, by rw [q1]; exact h3, by rw [q2]; exact h4, h5, h6, fun i x y hx hy => ⟨(h7 i x y hx hy).1, (h7 i x y hx hy).2.mono dx⟩⟩
  | pin k o =>
    obtain ⟨rfl, h1⟩ := h
    exact ⟨hb, by rw [he]; exact h1⟩
theorem GRel.keep (h : GRel T g G w) (dx : Dx g w g' w') (hk : ∀ b k, (G b).isSome = true → (g.own k).ofBox b → k < w.heap.size → g'.own k = g.own k ∧ w'.heap[k]? = w.heap[k]?) : GRel T g' G w' := by
  intro b bx hb
  obtain ⟨h1, h2, h3⟩ := h b bx hb
  have hs : (G b).isSome = true := by rw [hb]; rfl
  refine ⟨Nat.lt_of_lt_of_le h1 dx.nb, ?_, h3.keep h1 h2 dx fun k => hk b k hs⟩
  rw [dx.beta b h1, (hk b _ hs (by rw [h2]; exact rfl) h3.lt).1]
  exact h2
theorem LocAt.keep {j : Nat} {bx : LB} (h : LocAt T g w j bx) (hj : j < g.nl) (cx : Cx (fun _ => False) g w g' w') (hk : ∀ org cells, bx = .live org cells → g.own (g.lam j) = .lbox j → g'.own (g.lam j) = .lbox j ∧ w'.heap[g.lam j]? = w.heap[g.lam j]?) : LocAt T g' w' j bx := by
  cases bx with
  | live org cells =>
    obtain ⟨h1, h2, h3⟩ := h
    obtain ⟨h4, h5⟩ := hk _ _ rfl h1
    refine ⟨by rw [cx.lam j hj]; exact h4, ?_, fun b hb => ?_⟩
    · rw [cx.lam j hj]; exact CellsAt.mono h2 (fun c u h => h.mono cx) h5
    · obtain ⟨q1, q2⟩ := h3 b hb
      exact ⟨Nat.lt_of_lt_of_le q1 cx.dx.nb, by rw [cx.dx.beta b q1, cx.lam j hj]; exact q2⟩
  | away b =>
    obtain ⟨q1, q2⟩ := h
    exact ⟨Nat.lt_of_lt_of_le q1 cx.dx.nb, by rw [cx.dx.beta b q1, cx.lam j hj]; exact q2⟩
  | dead => trivial
theorem EnvR.keep (h : EnvR T g w env a) (cx : Cx (fun _ => False) g w g' w') : EnvR T g' w' env a := ⟨h.size, fun i v hv => (h.vals i v hv).mono cx, h.defers⟩

theorem cell_lt {k i : Nat} {u : Value} (h : w.cell? ⟨k, i, none⟩ = some u) : k < w.heap.size := by
  rcases Nat.lt_or_ge k w.heap.size with h1 | h1
  · exact h1
  · rw [show w.cell? ⟨k, i, none⟩ = none from by simp [World.cell?, Array.getElem?_eq_none h1]] at h
    cases h
/-- a new block: whose it is -/
def Gh.newBox (g : Gh) (k : Nat) : Gh := { g with own := fun i => if i = k then .lbox g.nl else g.own i, lam := fun j => if j = g.nl then k else g.lam j, nl := g.nl + 1 }
theorem newBox_cx (g : Gh) (w : World) (o : Obj) : Cx (fun _ => False) g w (g.newBox w.heap.size) (w.alloc o) := by
  refine ⟨⟨fun k i u h1 h2 => ?_, Nat.le_refl _, fun _ _ => rfl⟩, Nat.le_succ _, fun j hj => by simp [Gh.newBox, show j ≠ g.nl by omega], Nat.le_refl _, fun j _ _ => ⟨rfl, fun k n _ _ hk => ⟨by simp [Gh.newBox, show k ≠ w.heap.size by omega], Below.heap_alloc _ _ _ hk⟩⟩⟩
  have hlt := cell_lt h2
  refine ⟨?_, ?_⟩
  · unfold Gh.frz at *; simp only [Gh.newBox, show k ≠ w.heap.size by omega, if_false]; exact h1
  · rw [show (w.alloc o).cell? ⟨k, i, none⟩ = w.cell? ⟨k, i, none⟩ from by simp [World.cell?, Below.heap_alloc _ _ _ hlt]]; exact h2
theorem newBox_ext (g : Gh) (w : World) (o : Obj) : Ext g w (g.newBox w.heap.size) (w.alloc o) := by
  have := (newBox_cx g w o).dx
  refine ⟨this.cell, this.nb, this.beta, fun k hk _ => ⟨by simp [Gh.newBox, show k ≠ w.heap.size by omega], Below.heap_alloc _ _ _ hk⟩, by simp, rfl, rfl, rfl⟩
theorem loc_lt {j : Nat} {org : Option Nat} {cells : List AV} (h : LocAt T g w j (.live org cells)) : g.lam j < w.heap.size := by
  obtain ⟨_, ⟨us, e, h4, _⟩, _⟩ := h; exact blk_lt h4
theorem GRel.new (h : GRel T g G w) (dx : Dx g w g' w') (hk : ∀ k, k < w.heap.size → g'.own k = g.own k ∧ w'.heap[k]? = w.heap[k]?) : GRel T g' G w' :=
  h.keep dx fun _ k _ _ hlt => hk k hlt
theorem LocAt.new {j : Nat} {bx : LB} (h : LocAt T g w j bx) (hj : j < g.nl) (cx : Cx (fun _ => False) g w g' w') (hk : ∀ k, k < w.heap.size → g'.own k = g.own k ∧ w'.heap[k]? = w.heap[k]?) : LocAt T g' w' j bx := by
  refine h.keep hj cx (fun org cells hb h1 => ?_)
  subst hb
  obtain ⟨q1, q2⟩ := hk _ (loc_lt h)
  exact ⟨q1.trans h1, q2⟩
/-- a world with new blocks alone: all that was said of the old ones holds -/
theorem Rel.new {nt' : Nat} (h : Rel T g L nl nt G w) (cx : Cx (fun _ => False) g w g' w') (hk : ∀ k, k < w.heap.size → g'.own k = g.own k ∧ w'.heap[k]? = w.heap[k]?) (hl : g'.nl = g.nl) (ht : g'.nt = nt') : Rel T g' L nl nt' G w' :=
  ⟨h.glob.new cx.dx hk, fun j bx hj => (h.loc j bx hj).new (by rw [h.hl, ← h.hL]; exact (List.getElem?_eq_some_iff.1 hj).1) cx hk, h.hL, by rw [hl]; exact h.hl, ht⟩
/-- a new local box -/
theorem Rel.box (h : Rel T g L nl nt G w) (us : Array Value) (e : TypeId) (cells : List AV) (hs : us.size = cells.length) (h1 : ∀ u ∈ us, u.oneCell' = true) (hc : ∀ (i : Nat) (c : AV) (u : Value), cells[i]? = some c → us[i]? = some u → Cz T g w c u) :
    Rel T (g.newBox w.heap.size) (L ++ [.live none cells]) (nl + 1) nt G (w.alloc (.cells us e (0, 0))) := by
  have cx := newBox_cx g w (.cells us e (0, 0))
  have hk : ∀ k, k < w.heap.size → (g.newBox w.heap.size).own k = g.own k ∧ (w.alloc (.cells us e (0, 0))).heap[k]? = w.heap[k]? := fun k hk => ⟨by simp [Gh.newBox, show k ≠ w.heap.size by omega], Below.heap_alloc _ _ _ hk⟩
  refine ⟨h.glob.new cx.dx hk, fun j bx hj => ?_, by simp [h.hL], by simp [Gh.newBox, h.hl], h.ht⟩
  rcases Nat.lt_or_ge j L.length with hlt | hge
  · rw [List.getElem?_append_left hlt] at hj
    exact (h.loc j bx hj).new (by rw [h.hl, ← h.hL]; exact hlt) cx hk
  · obtain ⟨hl, _⟩ := List.getElem?_eq_some_iff.1 hj
    simp only [List.length_append, List.length_cons, List.length_nil] at hl
    obtain rfl : j = L.length := by omega
    simp at hj
    subst hj
    have hnl : g.nl = L.length := by rw [h.hl, h.hL]
    have hlam : (g.newBox w.heap.size).lam L.length = w.heap.size := by simp [Gh.newBox, hnl]
    refine ⟨?_, ?_, fun b hb => by cases hb⟩
    · rw [hlam]; simp [Gh.newBox, hnl]
    · rw [hlam]
      exact ⟨us, e, blk_new _ _, hs, h1, fun i c u hi hu => (hc i c u hi hu).mono cx⟩

/-- an operation in the run of the program -/
theorem wp_value {o : Oper} {next : Act → World → Prop} {Q : Exit → Act → World → Prop} {u : Value} (hr : (execOp a.eval o).run P w = .ok (.value u) w') (h : next (a.put o.dst u) w') : o.wp P a w next Q := by
  unfold Oper.wp; rw [hr]; exact h
theorem wp_skip' {o : Oper} {next : Act → World → Prop} {Q : Exit → Act → World → Prop} (hr : (execOp a.eval o).run P w = .ok .skip w') (h : next (a.put o.dst undef) w') : o.wp P a w next Q := by
  unfold Oper.wp; rw [hr]; exact h
/-- what is asked of what comes behind an operation -/
def NextOk (T : TypeId → TR) (a : Act) (dst : Option Tmp) (next : Act → World → Prop) (g : Gh) (w : World) (K : AV → Cf → Prop) : Prop :=
  ∀ v c' g' w' u, K v c' → Rel T g' c'.L c'.nl c'.nt c'.G w' → EnvR T g' w' c'.env a → Cz T g' w' v u → Ext g w g' w' → next (a.put dst u) w'
theorem e_alloc (TO : TOk P T) (hr : Rel T g L nl nt G w) (he : EnvR T g w env a) {o : Oper} (t : TypeId) (ho : o.op = .alloc t) {next : Act → World → Prop} {Q : Exit → Act → World → Prop} {K : AV → Cf → Prop} (hn : NextOk T a o.dst next g w K)
    (h : evOp0 P T (.alloc t) ⟨env, L, nl, nt, G⟩ K) : o.wp P a w next Q := by
  simp only [evOp0, effK] at h
  cases hk : kindD (T t).desc with
  | none => simp only [hk] at h
  | some kb =>
    simp only [hk] at h
    obtain ⟨cs, h1, _, h3, h4, h5, h6⟩ := zero_sound (w := w) (g := g) TO (t := t) (by rw [hk]; simp) _ h
    rw [snocK_iff] at h1
    have hrun : (execOp a.eval o).run P w = .ok (.value (.pointer (some ⟨w.heap.size, 0, none⟩))) (w.alloc (.cells (T t).zero.cells t)) := by
      simp only [execOp, ho]
      simp [Instr.alloc, h3, newVar, newRow, newObj]
      rfl
    refine wp_value hrun (hn _ _ (g.newBox w.heap.size) _ _ h1 (hr.box _ _ cs h4.symm h5 (fun i c u hc hu => .dz _ _ (h6 i c u hc hu))) (he.keep (newBox_cx _ _ _)) ?_ (newBox_ext _ _ _))
    have := Cz.lptr (T := T) (g := g.newBox w.heap.size) (w := w.alloc (.cells (T t).zero.cells t)) nl 0 (by simp [Gh.newBox, hr.hl])
    simpa [Gh.newBox, hr.hl] using this
theorem e_box (hr : Rel T g L nl nt G w) (he : EnvR T g w env a) {o : Oper} (t : TypeId) (x : Operand) (ho : o.op = .box t x) {next : Act → World → Prop} {Q : Exit → Act → World → Prop} {K : AV → Cf → Prop} (hn : NextOk T a o.dst next g w K)
    (h : evOp0 P T (.box t x) ⟨env, L, nl, nt, G⟩ K) : o.wp P a w next Q := by
  simp only [evOp0, effK] at h
  obtain ⟨v, h1, h2, _⟩ := opd_sound he x _ h
  obtain ⟨cs, h3, _, h4, h5, h6⟩ := cellsOf_sound h2 _ h1
  rw [snocK_iff] at h3
  have hrun : (execOp a.eval o).run P w = .ok (.value (.pointer (some ⟨w.heap.size, 0, none⟩))) (w.alloc (.cells (a.eval x).cells t)) := by
    simp only [execOp, ho]
    simp [Instr.box, newVar, newRow, newObj]
    rfl
  refine wp_value hrun (hn _ _ (g.newBox w.heap.size) _ _ h3 (hr.box _ _ cs h4.symm h5 h6) (he.keep (newBox_cx _ _ _)) ?_ (newBox_ext _ _ _))
  have := Cz.lptr (T := T) (g := g.newBox w.heap.size) (w := w.alloc (.cells (a.eval x).cells t)) nl 0 (by simp [Gh.newBox, hr.hl])
  simpa [Gh.newBox, hr.hl] using this

/-- a block that is a box's is written -/
theorem setRow_cell {k : Nat} {arr : Array Value} {k' i : Nat} (hne : k' ≠ k) : (w.setRow k arr).cell? ⟨k', i, none⟩ = w.cell? ⟨k', i, none⟩ := cell_setRow_other w k arr _ hne
theorem cell_same {k i : Nat} (h : w'.heap[k]? = w.heap[k]?) : w'.cell? ⟨k, i, none⟩ = w.cell? ⟨k, i, none⟩ := by simp [World.cell?, h]
theorem blk_cx {k : Nat} (hk : (∃ j, g.own k = .lbox j) ∨ ∃ b, g.own k = .gbox b) (hw : ∀ k', k' ≠ k → w'.heap[k']? = w.heap[k']?) : Cx (fun _ => False) g w g w' := by
  refine ⟨⟨fun k' i u h1 h2 => ⟨h1, ?_⟩, Nat.le_refl _, fun _ _ => rfl⟩, Nat.le_refl _, fun _ _ => rfl, Nat.le_refl _, fun j _ _ => ⟨rfl, fun k' n _ ho _ => ⟨rfl, hw k' (fun h => ?_)⟩⟩⟩
  · rw [cell_same (hw k' ?_)]
    · exact h2
    · rintro rfl
      unfold Gh.frz at h1
      rcases hk with ⟨j, hk⟩ | ⟨b, hk⟩ <;> rw [hk] at h1 <;> exact h1
  · subst h
    rcases hk with ⟨j, hk⟩ | ⟨b, hk⟩ <;> rw [hk] at ho <;> cases ho
theorem blk_ext {k : Nat} (hk : (∃ j, g.own k = .lbox j) ∨ ∃ b, g.own k = .gbox b) (hw : ∀ k', k' ≠ k → w'.heap[k']? = w.heap[k']?) (h1 : w.heap.size ≤ w'.heap.size) (h2 : w'.os = w.os) (h3 : w'.tape = w.tape) (h4 : w'.output = w.output) : Ext g w g w' := by
  have := (blk_cx hk hw).dx
  refine ⟨this.cell, this.nb, this.beta, fun k' hk' ho => ⟨rfl, hw k' (fun h => ?_)⟩, h1, h2, h3, h4⟩
  subst h
  rcases hk with ⟨j, hk⟩ | ⟨b, hk⟩ <;> rw [hk] at ho <;> exact ho
theorem setRow_cx {k : Nat} (arr : Array Value) (hk : (∃ j, g.own k = .lbox j) ∨ ∃ b, g.own k = .gbox b) : Cx (fun _ => False) g w g (w.setRow k arr) := blk_cx hk fun k' h => setRow_other w k k' arr h
theorem setRow_ext {k : Nat} (arr : Array Value) (hk : (∃ j, g.own k = .lbox j) ∨ ∃ b, g.own k = .gbox b) : Ext g w g (w.setRow k arr) := blk_ext hk (fun k' h => setRow_other w k k' arr h) (by simp) rfl rfl rfl
theorem cells_puts {R' : AV → Value → Prop} {k : Nat} {cells vs : List AV} {xs : Array Value} {us : Array Value} {e : TypeId} (hg : w.heap[k]? = some (.cells us e (0, 0))) (hl : us.size = cells.length) (h1 : ∀ u ∈ us, u.oneCell' = true)
    (hR : ∀ (i : Nat) (c : AV) (u : Value), cells[i]? = some c → us[i]? = some u → R' c u) (hv : vs.length = xs.size) (hx : ∀ x ∈ xs, x.oneCell' = true) (hp : ∀ (i : Nat) (c : AV) (x : Value), vs[i]? = some c → xs[i]? = some x → R' c x)
    (o : Nat) (hfit : o + vs.length ≤ cells.length) : CellsAt (w.setRow k (us.toList.take o ++ xs.toList ++ us.toList.drop (o + xs.toList.length)).toArray) k R' (cells.take o ++ vs ++ cells.drop (o + vs.length)) := by
  have hA := fun i => puts_at cells vs o hfit i
  have hB := fun i => puts_at us.toList xs.toList o (by simp; omega) i
  refine ⟨_, e, setRow_heap w k us _ e (0, 0) hg, by simp; omega, fun u hu => ?_, fun i c u hc hu => ?_⟩
  · simp only [List.mem_toArray] at hu
    rcases List.mem_append.1 hu with hu | hu
    · rcases List.mem_append.1 hu with hu | hu
      · exact h1 u (by simpa using List.mem_of_mem_take hu)
      · exact hx u (by simpa using hu)
    · exact h1 u (by simpa using List.mem_of_mem_drop hu)
  · simp only [List.getElem?_toArray] at hu
    rw [hB] at hu
    rw [hA] at hc
    simp only [Array.length_toList, ← hv] at hu
    split at hc
    · rename_i hin; rw [if_pos hin] at hu; exact hp _ _ _ hc (by simpa using hu)
    · rename_i hin; rw [if_neg hin] at hu; exact hR _ _ _ hc (by simpa using hu)
theorem run_storeAt (TO : TOk P T) {t : TypeId} (hk : kindD (T t).desc ≠ none) {k o : Nat} {us : Array Value} {e : TypeId} (hg : w.heap[k]? = some (.cells us e (0, 0))) (v : Value) (hs : v.cells.size = (T t).cells) (h1 : ∀ x ∈ v.cells, x.oneCell' = true) (hfit : o + v.cells.size ≤ us.size) :
    (Instr.storeAt t (.pointer (some ⟨k, o, none⟩)) v).run P w = .ok () (w.setRow k (us.toList.take o ++ v.cells.toList ++ us.toList.drop (o + v.cells.toList.length)).toArray) := by
  obtain ⟨_, i, hi, hsz, _⟩ := TO t hk
  have := run_storeCells_at P k o e v.cells.toList 0 us w hg (by simpa using hfit) (fun x hx => h1 x (by simpa using hx))
  simp only [Nat.add_zero] at this
  simp only [Instr.storeAt, Instr.sureAddr, Sem.run_bind, Sem.run_pure, Result.andThen_ok, storeVar, sizeOf, typeInfo, run_program, hi, hsz, hs, ne_eq, not_true_eq_false, if_false, this]
theorem dat0_sound {v : AV} {u : Value} (h : Cz T g w v u) (h1 : u.oneCell' = true) : Dz T g w (dat0 v) u := by
  cases h with
  | dz v u h => cases v <;> first | exact h | exact .top u h1 | cases h
  | any u => exact .top u h1
  | own j e els u hj h => exact h.slc (fun n i hi => hi)
  | lptr j off hj => exact .top _ h1
  | agg cs us hl h1' h => exact .top _ h1
  | tup cs us hl h => cases h1
  | fn f a b us vs ha hb h2 h3 => exact .top _ h1
  | ifc t v u h => exact .top _ h1
theorem dat0K_iff (v : AV) (K : AV → Prop) : dat0K v K ↔ K (dat0 v) := by cases v <;> exact Iff.rfl
theorem dat0sK_iff : ∀ (l : List AV) (K : List AV → Prop), dat0sK l K ↔ K (l.map dat0)
  | [], K => Iff.rfl
  | v :: r, K => by unfold dat0sK; rw [dat0K_iff, dat0sK_iff r]; rfl
theorem Rel.setL (h : Rel T g L nl nt G w) {j : Nat} {cells cells' : List AV} {org : Option Nat} (hj : L[j]? = some (.live org cells)) (arr : Array Value) (hc : CellsAt (w.setRow (g.lam j) arr) (g.lam j) (Cz T g (w.setRow (g.lam j) arr)) cells') :
    Rel T g (L.set j (.live org cells')) nl nt G (w.setRow (g.lam j) arr) := by
  have hloc := h.loc j _ hj
  have cx := setRow_cx (w := w) arr (.inl ⟨j, hloc.1⟩)
  have hjl := (List.getElem?_eq_some_iff.1 hj).1
  refine ⟨h.glob.keep cx.dx (fun b k hb hk hlt => ⟨rfl, setRow_other w _ _ arr (fun he => ?_)⟩), fun i bx hi => ?_, by simp [h.hL], h.hl, h.ht⟩
  · rw [he, hloc.1] at hk; exact hk
  · by_cases hij : i = j
    · subst hij
      rw [List.getElem?_set_self hjl] at hi
      simp only [Option.some.injEq] at hi
      subst hi
      exact ⟨hloc.1, hc, hloc.2.2⟩
    · rw [List.getElem?_set_ne (Ne.symm hij)] at hi
      have hil := (List.getElem?_eq_some_iff.1 hi).1
      refine (h.loc i bx hi).keep (by rw [h.hl, ← h.hL]; exact hil) cx (fun org cells hb h1 => ⟨h1, setRow_other w _ _ arr (fun he => ?_)⟩)
      rw [he, hloc.1] at h1
      simp only [Own.lbox.injEq] at h1
      exact hij h1.symm
theorem Rel.putBox (h : Rel T g L nl nt G w) {b : Nat} {bx bx' : GB} (hb : G b = some bx) (hw : ∀ k, k ≠ g.beta b → w'.heap[k]? = w.heap[k]?) (hc : BoxAt T g w' b bx') : Rel T g L nl nt (setG G b bx') w' := by
  obtain ⟨b1, b2, b3⟩ := h.glob b _ hb
  have cx := blk_cx (g := g) (w := w) (w' := w') (k := g.beta b) (.inr ⟨b, b2⟩) hw
  refine ⟨fun i bx hi => ?_, fun j bx hj => ?_, h.hL, h.hl, h.ht⟩
  · by_cases hib : i = b
    · subst hib
      rw [setG_same] at hi
      simp only [Option.some.injEq] at hi
      subst hi
      exact ⟨b1, b2, hc⟩
    · rw [setG_ne _ _ hib] at hi
      obtain ⟨i1, i2, i3⟩ := h.glob i bx hi
      refine ⟨i1, i2, i3.keep i1 i2 cx.dx fun k hk hlt => ⟨rfl, hw k fun he => ?_⟩⟩
      rw [he, b2] at hk
      exact hib hk.symm
  · have hjl := (List.getElem?_eq_some_iff.1 hj).1
    refine (h.loc j bx hj).keep (by rw [h.hl, ← h.hL]; exact hjl) cx (fun org cells hb h1 => ⟨h1, hw _ (fun he => ?_)⟩)
    rw [he, b2] at h1; cases h1
theorem dropG_is (o n : Nat) : ∀ (gs : List (Nat × TypeId × List (List AV))) (K : List (Nat × TypeId × List (List AV)) → Prop), dropG o n gs K → ∃ gs', K gs' ∧ ∀ x ∈ gs', x ∈ gs ∧ ¬ (o ≤ x.1 ∧ x.1 < o + n)
  | [], K, h => ⟨[], h, fun _ h => by cases h⟩
  | x :: r, K, h => by
    unfold dropG at h
    by_cases h1 : o ≤ x.1
    · by_cases h2 : x.1 < o + n
      · rw [decide_eq_true h1, decide_eq_true h2] at h
        obtain ⟨gs', q1, q2⟩ := dropG_is o n r K h
        exact ⟨gs', q1, fun y hy => ⟨List.mem_cons_of_mem _ (q2 y hy).1, (q2 y hy).2⟩⟩
      · rw [decide_eq_true h1, decide_eq_false h2] at h
        obtain ⟨gs', q1, q2⟩ := dropG_is o n r _ h
        refine ⟨x :: gs', q1, fun y hy => ?_⟩
        rcases List.mem_cons.1 hy with rfl | hy
        · exact ⟨by simp, fun hh => h2 hh.2⟩
        · exact ⟨List.mem_cons_of_mem _ (q2 y hy).1, (q2 y hy).2⟩
    · rw [decide_eq_false h1] at h
      obtain ⟨gs', q1, q2⟩ := dropG_is o n r _ h
      refine ⟨x :: gs', q1, fun y hy => ?_⟩
      rcases List.mem_cons.1 hy with rfl | hy
      · exact ⟨by simp, fun hh => h1 hh.1⟩
      · exact ⟨List.mem_cons_of_mem _ (q2 y hy).1, (q2 y hy).2⟩
/-- cells of a shared box are written -/
theorem gsto_sound {b : Nat} {bx : GB} (hb : G b = some bx) (hG : GRel T g G w) {vs : List AV} {xs : Array Value} {o : Nat} {K : GB → Prop} (h : gstoK bx o vs K) (hv : vs.length = xs.size) (hx : ∀ x ∈ xs, x.oneCell' = true)
    (hp : ∀ (i : Nat) (c : AV) (x : Value), vs[i]? = some c → xs[i]? = some x → Dz T g w c x) : ∃ us e, w.heap[g.beta b]? = some (.cells us e (0, 0)) ∧ o + xs.size ≤ us.size ∧
      ∃ bx', K bx' ∧ BoxAt T g (w.setRow (g.beta b) (us.toList.take o ++ xs.toList ++ us.toList.drop (o + xs.toList.length)).toArray) b bx' := by
  obtain ⟨b1, b2, h3⟩ := hG b _ hb
  have mono : ∀ arr c u, Dz T g w c u → Dz T g (w.setRow (g.beta b) arr) c u := fun arr c u h => h.mono (setRow_cx arr (.inr ⟨b, b2⟩)).dx
  cases bx with
  | cells cs =>
    unfold gstoK at h
    obtain ⟨hfit, h⟩ := (putsK_iff _ _ _ _).1 h
    obtain ⟨us, e, c1, c2, c3, c4⟩ := h3
    exact ⟨us, e, c1, by omega, _, h, cells_puts c1 c2 c3 (fun i c u hc hu => mono _ _ _ (c4 i c u hc hu)) hv hx (fun i c x hc hx => mono _ _ _ (hp i c x hc hx)) o hfit⟩
  | box cs gs =>
    unfold gstoK at h
    obtain ⟨hfit, h⟩ := (putsK_iff _ _ _ _).1 h
    obtain ⟨gs', h, hgs⟩ := dropG_is _ _ _ _ h
    obtain ⟨us, e, c1, c2, c3, c4, c5⟩ := h3
    refine ⟨us, e, c1, by omega, _, h, ?_⟩
    obtain ⟨us', e', d1, d2, d3, d4⟩ := cells_puts c1 c2 c3 (fun i c u hc hu => mono (us.toList.take o ++ xs.toList ++ us.toList.drop (o + xs.toList.length)).toArray _ _ (c4 i c u hc hu)) hv hx (fun i c x hc hx => mono _ _ _ (hp i c x hc hx)) o hfit
    refine ⟨us', e', d1, d2, d3, d4, fun x hxg => ?_⟩
    obtain ⟨hx1, hx2⟩ := hgs x hxg
    obtain ⟨u, q1, q2⟩ := c5 x hx1
    have hu' : us' = (us.toList.take o ++ xs.toList ++ us.toList.drop (o + xs.toList.length)).toArray := by
      rw [setRow_heap w _ us _ e (0, 0) c1] at d1
      simp only [Option.some.injEq, Obj.cells.injEq] at d1
      exact d1.1.symm
    refine ⟨u, ?_, q2.mono (setRow_cx _ (.inr ⟨b, b2⟩)).dx fun k hk => ⟨rfl, setRow_other w _ k _ fun he => ?_⟩⟩
    · rw [hu', List.getElem?_toArray, puts_at us.toList xs.toList o (by simp; omega), if_neg (by simp only [Array.length_toList]; omega)]
      simpa using q1
    · obtain ⟨_, _, _, q3, _⟩ := q2
      have := q3 k hk
      rw [he, b2] at this; cases this
  | bld s => exact h.elim
  | map kd m => exact h.elim
  | cmap n m => exact h.elim
  | pin k o => exact h.elim
  | obld t s x =>
    obtain ⟨e, p, v, u, h0, h1, h2, h4, h5, h6, h7, h8, h9⟩ := h3
    unfold gstoK at h
    simp only at h
    split at h
    case h_2 => exact h.elim
    rename_i y
    have hx1 : xs.size = 1 := by simpa using hv.symm
    obtain ⟨xs⟩ := xs
    match xs, hx1 with
    | [x0], _ =>
      refine ⟨#[p, v, u], t, h1, by simp, _, h, e, p, v, x0, h0, ?_, h2, ?_, h5, h6, h7, hx _ (by simp), mono _ _ _ (hp 0 _ _ rfl rfl)⟩
      · rw [setRow_heap w _ _ _ t (0, 0) h1]; rfl
      · refine ownsRow_keep h4 fun k hk => setRow_other w _ k _ fun he => ?_
        have := h6 k hk
        rw [he, b2] at this; cases this
theorem cz_one {x : AV} {u : Value} (h1 : ∀ us, x ≠ .agg us) (h2 : x ≠ .top) (h3 : ∀ us, x ≠ .tup us) (hx : Cz T g w x u) : u.oneCell' = true := by
  cases hx with
  | dz _ _ hx => cases hx <;> first | rfl | exact absurd rfl h2 | exact absurd rfl (h1 _) | exact absurd rfl (h3 _)
  | any => exact absurd rfl h2
  | own _ _ _ _ _ hx => obtain ⟨xs, hx, _⟩ := hx; rcases hx.2 with ⟨rfl, _⟩ | ⟨_, _, _, rfl, _⟩ <;> rfl
  | lptr => rfl
  | agg => exact absurd rfl (h1 _)
  | tup => exact absurd rfl (h3 _)
  | fn => rfl
  | ifc => rfl
/-- what is handed out -/
theorem out0_sound (hr : Rel T g L nl nt G w) {v : AV} {u : Value} (hc : Cz T g w v u) (h1 : u.oneCell' = true) (K : AV → Prop) (h : out0K L v K) : ∃ v', K v' ∧ Dz T g w v' u := by
  unfold out0K at h
  split at h
  · rename_i j of
    obtain ⟨bx, hj, h⟩ := (nthK_iff _ _).1 h
    have hl := hr.loc j bx hj
    cases bx with
    | live org cells => exact ⟨_, h, .top _ h1⟩
    | away b =>
      refine ⟨_, h, ?_⟩
      rw [(cz_lptr hc).2, ← hl.2]
      exact .gptr b of hl.1
    | dead => exact ⟨_, h, .top _ h1⟩
  · exact ⟨_, (dat0K_iff _ _).1 h, dat0_sound hc h1⟩
theorem out0s_sound (hr : Rel T g L nl nt G w) : ∀ (vs : List AV) (us : List Value) (K : List AV → Prop), vs.length = us.length → (∀ u ∈ us, u.oneCell' = true) → (∀ (i : Nat) (c : AV) (u : Value), vs[i]? = some c → us[i]? = some u → Cz T g w c u) → out0sK L vs K →
    ∃ vs', K vs' ∧ vs'.length = us.length ∧ ∀ (i : Nat) (c : AV) (u : Value), vs'[i]? = some c → us[i]? = some u → Dz T g w c u
  | [], [], K, _, _, _, h => ⟨[], h, rfl, fun i c u h => by simp at h⟩
  | [], _ :: _, _, h, _, _, _ => by simp at h
  | _ :: _, [], _, h, _, _, _ => by simp at h
  | v :: vs, u :: us, K, hl, h1, hp, h => by
    obtain ⟨v', h, hz⟩ := out0_sound hr (hp 0 _ _ rfl rfl) (h1 u (by simp)) _ h
    obtain ⟨vs', h, hl', hz'⟩ := out0s_sound hr vs us _ (by simpa using hl) (fun x hx => h1 x (by simp [hx])) (fun i c u hc hu => hp (i + 1) c u (by simpa using hc) (by simpa using hu)) h
    refine ⟨v' :: vs', h, by simp [hl'], fun i c x hc hx => ?_⟩
    match i with
    | 0 => simp at hc hx; subst hc hx; exact hz
    | i + 1 => exact hz' i c x (by simpa using hc) (by simpa using hx)
theorem out1_sound (hr : Rel T g L nl nt G w) {v : AV} {u : Value} (hc : Cz T g w v u) (K : AV → Prop) (h : out1K L v K) : ∃ v', K v' ∧ Dz T g w v' u := by
  cases v <;> first | exact h.elim | skip
  case agg cs =>
    obtain ⟨us, rfl, hl, h1, hp⟩ := cz_agg hc
    obtain ⟨vs', q1, q2, q3⟩ := out0s_sound hr cs us.toList _ (by simpa using hl) (fun x hx => h1 x (by simpa using hx)) (fun i c u hc hu => hp i c u hc (by simpa using hu)) h
    exact ⟨_, q1, .agg _ _ (by simpa using q2) h1 fun i c u hc hu => q3 i c u hc (by simpa using hu)⟩
  all_goals exact out0_sound hr hc (cz_one (fun _ h => by cases h) (fun h => by cases h) (fun _ h => by cases h) hc) _ h
theorem run_store_op {o : Oper} {t : TypeId} {p x : Operand} (ho : o.op = .store t p x) {ad : Value} (e : a.eval p = ad) (hst : (Instr.storeAt t ad (a.eval x)).run P w = .ok () w') : (execOp a.eval o).run P w = .ok .skip w' := by
  simp only [execOp, ho, e, Sem.run_bind, hst, Result.andThen_ok, Sem.run_pure]
theorem e_store (TO : TOk P T) (hr : Rel T g L nl nt G w) (he : EnvR T g w env a) {o : Oper} (t : TypeId) (p x : Operand) (ho : o.op = .store t p x) {next : Act → World → Prop} {Q : Exit → Act → World → Prop} {K : AV → Cf → Prop} (hn : NextOk T a o.dst next g w K)
    (h : evOp0 P T (.store t p x) ⟨env, L, nl, nt, G⟩ K) : o.wp P a w next Q := by
  simp only [evOp0, effK] at h
  obtain ⟨v, h1, h2, _⟩ := opd_sound he x _ h
  obtain ⟨vs, h3, _, h4, h5, h6⟩ := cellsOf_sound h2 _ h1
  cases hk : kindD (T t).desc with
  | none => simp only [hk] at h3
  | some kb =>
    simp only [hk] at h3
    by_cases hs : vs.length = (T t).cells
    · rw [show (vs.length == (T t).cells) = true by simpa using hs] at h3
      obtain ⟨q, h7, h8, hq⟩ := opd_sound he p _ h3
      clear hq
      -- the store into a shared box
      have glob : ∀ b of, a.eval p = .pointer (some ⟨g.beta b, of, none⟩) → (∃ bx, G b = some bx ∧ out0sK L vs fun vs' => gstoK bx of vs' fun bx' => K .top ⟨env, L, nl, nt, setG G b bx'⟩) → o.wp P a w next Q := by
        rintro b of e ⟨bx, hb, hK⟩
        obtain ⟨vs', hK, hl', hz'⟩ := out0s_sound hr vs (a.eval x).cells.toList _ (by simpa using h4) (fun y hy => h5 y (by simpa using hy)) (fun i c u hc hu => h6 i c u hc (by simpa using hu)) hK
        obtain ⟨us, el, c1, hfit, bx', hK, hbx⟩ := gsto_sound hb hr.glob hK (xs := (a.eval x).cells) (by simpa using hl') h5 (fun i c y hc hy => hz' i c y hc (by simpa using hy))
        obtain ⟨b1, b2, _⟩ := hr.glob b _ hb
        have hst := run_storeAt (P := P) TO (t := t) (by rw [hk]; simp) (o := of) c1 (a.eval x) (by omega) h5 (by omega)
        refine wp_skip' (run_store_op ho e hst) (hn _ _ g _ _ hK ?_ (he.keep (setRow_cx _ (.inr ⟨b, b2⟩))) (.any _) (setRow_ext _ (.inr ⟨b, b2⟩)))
        exact hr.putBox hb (fun k hk => setRow_other w _ k _ hk) hbx
      cases q <;> first | exact h7.elim | skip
      case lptr j of =>
        obtain ⟨bx, hj, h7⟩ := (nthK_iff _ _).1 h7
        have e := (cz_lptr h8).2
        have hloc := hr.loc j bx hj
        cases bx with
        | live org cells =>
          simp only at h7
          rw [putsK_iff] at h7
          obtain ⟨hfit, h7⟩ := h7
          rw [setK_iff] at h7
          obtain ⟨_, hK⟩ := h7
          obtain ⟨us, el, c1, c2, c3, c4⟩ := hloc.2.1
          have hst := run_storeAt (P := P) TO (t := t) (by rw [hk]; simp) (o := of) c1 (a.eval x) (by omega) h5 (by omega)
          refine wp_skip' (run_store_op ho e hst) (hn _ _ g _ _ hK ?_ (he.keep (setRow_cx _ (.inl ⟨j, hloc.1⟩))) (.any _) (setRow_ext _ (.inl ⟨j, hloc.1⟩)))
          have cx := setRow_cx (g := g) (w := w) (us.toList.take of ++ (a.eval x).cells.toList ++ us.toList.drop (of + (a.eval x).cells.toList.length)).toArray (.inl ⟨j, hloc.1⟩)
          exact hr.setL hj _ (cells_puts c1 c2 c3 (fun i c u hc hu => (c4 i c u hc hu).mono cx) h4 h5 (fun i c y hc hy => (h6 i c y hc hy).mono cx) of hfit)
        | away b =>
          exact glob b of (by rw [e, hloc.2]) h7
        | dead => exact h7.elim
      case gptr b of => exact glob b of (cz_gptr h8).2 h7
    · rw [show (vs.length == (T t).cells) = false by simpa using hs] at h3; exact h3.elim
/-- a new shared box -/
def Gh.newG (g : Gh) (k : Nat) : Gh := { g with own := fun i => if i = k then .gbox g.nb else g.own i, beta := fun b => if b = g.nb then k else g.beta b, nb := g.nb + 1 }
theorem newG_cx (g : Gh) (w : World) (o : Obj) : Cx (fun _ => False) g w (g.newG w.heap.size) (w.alloc o) := by
  refine ⟨⟨fun k i u h1 h2 => ?_, Nat.le_succ _, fun b hb => by simp [Gh.newG, show b ≠ g.nb by omega]⟩, Nat.le_refl _, fun _ _ => rfl, Nat.le_refl _, fun j _ _ => ⟨rfl, fun k n _ _ hk => ⟨by simp [Gh.newG, show k ≠ w.heap.size by omega], Below.heap_alloc _ _ _ hk⟩⟩⟩
  have hlt := cell_lt h2
  refine ⟨?_, ?_⟩
  · unfold Gh.frz at *; simp only [Gh.newG, show k ≠ w.heap.size by omega, if_false]; exact h1
  · rw [cell_same (Below.heap_alloc _ _ _ hlt)]; exact h2
theorem newG_ext (g : Gh) (w : World) (o : Obj) : Ext g w (g.newG w.heap.size) (w.alloc o) := by
  have := (newG_cx g w o).dx
  refine ⟨this.cell, this.nb, this.beta, fun k hk _ => ⟨by simp [Gh.newG, show k ≠ w.heap.size by omega], Below.heap_alloc _ _ _ hk⟩, by simp, rfl, rfl, rfl⟩
theorem nb_none (h : GRel T g G w) : G g.nb = none := by
  cases hG : G g.nb with
  | none => rfl
  | some bx => have := (h g.nb bx hG).1; omega
theorem Rel.newG (h : Rel T g L nl nt G w) (o : Obj) (bx : GB) (hb : BoxAt T (g.newG w.heap.size) (w.alloc o) g.nb bx) : Rel T (g.newG w.heap.size) L nl nt (setG G g.nb bx) (w.alloc o) := by
  have cx := newG_cx g w o
  have hk : ∀ k, k < w.heap.size → (g.newG w.heap.size).own k = g.own k ∧ (w.alloc o).heap[k]? = w.heap[k]? := fun k hk => ⟨by simp [Gh.newG, show k ≠ w.heap.size by omega], Below.heap_alloc _ _ _ hk⟩
  have r := h.new (nt' := nt) cx hk rfl h.ht
  refine ⟨fun i x hi => ?_, r.loc, r.hL, r.hl, r.ht⟩
  by_cases hib : i = g.nb
  · subst hib
    rw [setG_same] at hi
    simp only [Option.some.injEq] at hi
    subst hi
    exact ⟨by simp [Gh.newG], by simp [Gh.newG], hb⟩
  · rw [setG_ne _ _ hib] at hi
    exact r.glob i x hi
theorem e_allocB (TO : TOk P T) (hr : Rel T g L nl nt G w) (he : EnvR T g w env a) {o : Oper} (t : TypeId) (ho : o.op = .alloc t) {next : Act → World → Prop} {Q : Exit → Act → World → Prop} {K : AV → Cf → Prop} (hn : NextOk T a o.dst next g w K)
    {e : TypeId} (hb : (T t).bld = some e) (hk : kindD (T t).desc ≠ none) (h : zeroK T t fun z => (match z with | [.nilp, .nils] => ∀ b, G b = none → K (.gptr b 0) ⟨env, L, nl, nt, setG G b (.bld .empty)⟩ | _ => False)) : o.wp P a w next Q := by
  obtain ⟨cs, h1, _, h3, h4, h5, h6⟩ := zero_sound (w := w) (g := g) TO hk _ h
  split at h1
  case h_2 => exact h1.elim
  rename_i z
  have hz : (T t).zero.cells = #[.pointer none, .slice none 0 0] := by
    generalize (T t).zero.cells = us at *
    obtain ⟨us⟩ := us
    match us, h4 with
    | [u0, u1], _ =>
      have e0 := h6 0 .nilp u0 rfl rfl
      have e1 := h6 1 .nils u1 rfl rfl
      cases e0; cases e1; rfl
  have hrun : (execOp a.eval o).run P w = .ok (.value (.pointer (some ⟨w.heap.size, 0, none⟩))) (w.alloc (.cells (T t).zero.cells t)) := by
    simp only [execOp, ho]
    simp [Instr.alloc, h3, newVar, newRow, newObj]
    rfl
  have hbeta : (g.newG w.heap.size).beta g.nb = w.heap.size := by simp [Gh.newG]
  have hr' := hr.newG (.cells (T t).zero.cells t) (.bld .empty) ⟨t, e, .pointer none, .slice none 0 0, hb, by rw [hbeta, hz]; exact blk_new _ _, .inl rfl, ⟨rfl, .inl ⟨rfl, rfl⟩⟩, by rw [hbeta]; simp [Value.ownBlock], fun k hk => by simp [Value.ownBlock] at hk, fun _ => rfl⟩
  refine wp_value hrun (hn _ _ _ _ _ (h1 g.nb (nb_none hr.glob)) hr' (he.keep (newG_cx _ _ _)) ?_ (newG_ext _ _ _))
  have := Cz.dz (T := T) (g := g.newG w.heap.size) (w := w.alloc (.cells (T t).zero.cells t)) _ _ (.gptr g.nb 0 (by simp [Gh.newG]))
  rwa [hbeta] at this
theorem e_boxO (hr : Rel T g L nl nt G w) (he : EnvR T g w env a) {o : Oper} (t : TypeId) (x : Operand) (ho : o.op = .box t x) {next : Act → World → Prop} {Q : Exit → Act → World → Prop} {K : AV → Cf → Prop} (hn : NextOk T a o.dst next g w K)
    {e : TypeId} (hb : (T t).obld = some e) (h : opdK env x fun v => (match v with | .agg [.nilp, .nils, .bool q] => ∀ b, G b = none → K (.gptr b 0) ⟨env, L, nl, nt, setG G b (.obld t .empty (.bool q))⟩ | _ => False)) : o.wp P a w next Q := by
  obtain ⟨v, h, hz, -⟩ := opd_sound he x _ h
  split at h
  case h_2 => exact h.elim
  rename_i q
  obtain ⟨us, hus⟩ : ∃ us, a.eval x = .agg us := by
    generalize a.eval x = u at hz
    cases hz with
    | dz _ _ hz => cases hz with | agg _ us _ _ _ => exact ⟨us, rfl⟩
    | agg _ us _ _ _ => exact ⟨us, rfl⟩
  have hc : us = #[.pointer none, .slice none 0 0, .bool q] := by
    rw [hus] at hz
    obtain ⟨us⟩ := us
    have key : ∀ (R : AV → Value → Prop), (∀ u, R .nilp u → u = .pointer none) → (∀ u, R .nils u → u = .slice none 0 0) → (∀ u, R (.bool q) u → u = .bool q) → us.length = 3 → (∀ (i : Nat) (c : AV) (u : Value), [AV.nilp, .nils, .bool q][i]? = some c → (us.toArray)[i]? = some u → R c u) → us.toArray = #[.pointer none, .slice none 0 0, .bool q] := fun R r1 r2 r3 hl hR => by
      match us, hl with
      | [u0, u1, u2], _ =>
        rw [r1 u0 (hR 0 _ _ rfl rfl), r2 u1 (hR 1 _ _ rfl rfl), r3 u2 (hR 2 _ _ rfl rfl)]
    cases hz with
    | dz _ _ hz =>
      cases hz with
      | agg _ _ hl _ hR => exact key (Dz T g w) (fun u h => by cases h; rfl) (fun u h => by cases h; rfl) (fun u h => by cases h; rfl) (by simpa using hl.symm) hR
    | agg _ _ hl _ hR => exact key (Cz T g w) (fun u h => by cases h with | dz _ _ h => cases h; rfl) (fun u h => by cases h with | dz _ _ h => cases h; rfl) (fun u h => by cases h with | dz _ _ h => cases h; rfl) (by simpa using hl.symm) hR
  have hcells : (Value.agg us).cells = #[.pointer none, .slice none 0 0, .bool q] := by rw [hc]; rfl
  have hrun : (execOp a.eval o).run P w = .ok (.value (.pointer (some ⟨w.heap.size, 0, none⟩))) (w.alloc (.cells #[.pointer none, .slice none 0 0, .bool q] t)) := by
    simp only [execOp, ho]
    simp [Instr.box, hus, newVar, newRow, newObj, hcells]
    rfl
  have hbeta : (g.newG w.heap.size).beta g.nb = w.heap.size := by simp [Gh.newG]
  have hr' := hr.newG (.cells #[.pointer none, .slice none 0 0, .bool q] t) (.obld t .empty (.bool q)) ⟨e, .pointer none, .slice none 0 0, .bool q, hb, by rw [hbeta]; exact blk_new _ _, .inl rfl, ⟨rfl, .inl ⟨rfl, rfl⟩⟩, by rw [hbeta]; simp [Value.ownBlock], fun k hk => by simp [Value.ownBlock] at hk, fun _ => rfl, rfl, .bool q⟩
  refine wp_value hrun (hn _ _ _ _ _ (h g.nb (nb_none hr.glob)) hr' (he.keep (newG_cx _ _ _)) ?_ (newG_ext _ _ _))
  have := Cz.dz (T := T) (g := g.newG w.heap.size) (w := w.alloc (.cells #[.pointer none, .slice none 0 0, .bool q] t)) _ _ (.gptr g.nb 0 (by simp [Gh.newG]))
  rwa [hbeta] at this
theorem e_makeMap (hr : Rel T g L nl nt G w) (he : EnvR T g w env a) {o : Oper} (t : TypeId) (ho : o.op = .makeMap t none) {next : Act → World → Prop} {Q : Exit → Act → World → Prop} {K : AV → Cf → Prop} (hn : NextOk T a o.dst next g w K)
    (kd : Option IntKind) (h : ∀ b, G b = none → K (.mp b) ⟨env, L, nl, nt, setG G b (.map kd [])⟩) : o.wp P a w next Q := by
  have hrun : (execOp a.eval o).run P w = .ok (.value (.map (some w.heap.size))) (w.alloc (.map #[] 0)) := by
    simp only [execOp, ho]
    simp [Instr.makeMap, newObj]
    rfl
  have hbeta : (g.newG w.heap.size).beta g.nb = w.heap.size := by simp [Gh.newG]
  have hr' := hr.newG (.map #[] 0) (.map kd []) ⟨#[], 0, by rw [hbeta]; exact (MapKept.heap_alloc w _).1, MapKept.stamped_empty 0, rfl, fun i x y hx => by simp at hx⟩
  refine wp_value hrun (hn _ _ _ _ _ (h g.nb (nb_none hr.glob)) hr' (he.keep (newG_cx _ _ _)) ?_ (newG_ext _ _ _))
  have := Cz.dz (T := T) (g := g.newG w.heap.size) (w := w.alloc (.map #[] 0)) _ _ (.mp g.nb (by simp [Gh.newG]))
  rwa [hbeta] at this
theorem map_set {b : Nat} {kd : Option IntKind} {m m' : List (AV × AV)} {es es' : Array MapEntry} {clock clock' : Nat} (hr : Rel T g L nl nt G w) (hb : G b = some (.map kd m)) (hs : MapKept.Stamped es' clock') (hl : es'.size = m'.length)
    (hp : ∀ (i : Nat) (x : AV × AV) (y : MapEntry), m'[i]? = some x → es'[i]? = some y → keyAt kd x.1 y.key ∧ Dz T g w x.2 y.val) (h1 : w.heap[g.beta b]? = some (.map es clock)) :
    Rel T g L nl nt (setG G b (.map kd m')) { w with heap := w.heap.setIfInBounds (g.beta b) (.map es' clock') } ∧ Cx (fun _ => False) g w g { w with heap := w.heap.setIfInBounds (g.beta b) (.map es' clock') } ∧ Ext g w g { w with heap := w.heap.setIfInBounds (g.beta b) (.map es' clock') } := by
  obtain ⟨b1, b2, _⟩ := hr.glob b _ hb
  have hw := (MapKept.heap_set (o' := .map es' clock') h1)
  have cx := blk_cx (g := g) (w := w) (w' := { w with heap := w.heap.setIfInBounds (g.beta b) (.map es' clock') }) (k := g.beta b) (.inr ⟨b, b2⟩) hw.2
  refine ⟨hr.putBox hb hw.2 ⟨es', clock', hw.1, hs, hl, fun i x y hx hy => ⟨(hp i x y hx hy).1, (hp i x y hx hy).2.mono cx.dx⟩⟩, cx, blk_ext (.inr ⟨b, b2⟩) hw.2 (by simp) rfl rfl rfl⟩
theorem e_mapUpdate (TO : TOk P T) (hr : Rel T g L nl nt G w) (he : EnvR T g w env a) {o : Oper} (t : TypeId) (mo ko xo : Operand) (ho : o.op = .mapUpdate t mo ko xo) {next : Act → World → Prop} {Q : Exit → Act → World → Prop} {K : AV → Cf → Prop} (hn : NextOk T a o.dst next g w K)
    (h : evOp0 P T (.mapUpdate t mo ko xo) ⟨env, L, nl, nt, G⟩ K) : o.wp P a w next Q := by
  simp only [evOp0, effK] at h
  obtain ⟨kv, h, hk, z_kv⟩ := opd_sound he ko _ h
  clear z_kv
  obtain ⟨mv, h, hm, z_mv⟩ := opd_sound he mo _ h
  clear z_mv
  obtain ⟨v, h, hv, z_v⟩ := opd_sound he xo _ h
  clear z_v
  cases hd : (T t).desc <;> simp only [hd] at h
  rename_i kt et
  obtain ⟨b, rfl⟩ : ∃ b, mv = .mp b := by cases mv <;> first | exact ⟨_, rfl⟩ | exact False.elim h
  simp only at h
  obtain ⟨kd, h, _, hku, hka⟩ := key_sound TO hk _ h
  obtain ⟨v', h, hz⟩ := out1_sound hr hv _ h
  obtain ⟨m, hb, hK⟩ := h
  obtain ⟨hbn, e⟩ := cz_mp hm
  have hu := und TO hd (by simp [kindD])
  have ik := keyAt_isKey hka
  obtain ⟨es, clock, g1, g2, g3, g4, g5⟩ := map_shape (hr.glob b _ hb).2.2
  rcases mfind hka m es.toList 0 g3 g4 with ⟨_, p2, _, p4, p5⟩ | ⟨j, x0, e0, p1, p2, _, p4, _, p6, p7⟩
  · have hrun : (execOp a.eval o).run P w = .ok .skip { w with heap := w.heap.setIfInBounds (g.beta b) (.map (es.push { key := a.eval ko, val := a.eval xo, born := clock }) (clock + 1)) } := by
      simp [execOp, ho, e, Instr.mapUpdate, run_underlying hu, MapKept.run_getObj_map g1, MapKept.run_checkKey hku ik, MapKept.run_findKey hku p4, MapKept.run_setObj_map _ g1, Result.andThen]
    rw [p2] at hK
    obtain ⟨q1, q2, q3⟩ := map_set (m' := m ++ [(kv, v')]) (es' := es.push { key := a.eval ko, val := a.eval xo, born := clock }) (clock' := clock + 1) hr hb (MapKept.stamped_push g2 p5) (by simp; simpa using g3) (fun i x y hx hy => by
      rcases Nat.lt_or_ge i m.length with hi | hi
      · rw [List.getElem?_append_left hi] at hx
        have hlt : i < es.size := by simp at g3; omega
        rw [Array.getElem?_push_lt hlt] at hy
        have hy' : es.toList[i]? = some y := by rw [Array.getElem?_toList, Array.getElem?_eq_getElem hlt]; exact hy
        exact ⟨g4 i x y hx hy', g5 i x y hx hy'⟩
      · rw [List.getElem?_append_right hi] at hx
        have hil := (Array.getElem?_eq_some_iff.1 hy).1
        simp only [Array.size_push] at hil
        simp only [Array.length_toList] at g3
        obtain rfl : i = m.length := by omega
        simp at hx
        subst hx
        rw [← g3] at hy
        simp at hy
        subst hy
        exact ⟨hka, hz⟩) g1
    exact wp_skip' hrun (hn _ _ g _ _ hK q1 (he.keep q2) (.any _) q3)
  · have hj : es[j]? = some e0 := by simpa using p2
    rw [Nat.zero_add] at p6
    have hrun : (execOp a.eval o).run P w = .ok .skip { w with heap := w.heap.setIfInBounds (g.beta b) (.map (es.modify j fun e' => { e' with key := a.eval ko, val := a.eval xo }) clock) } := by
      simp [execOp, ho, e, Instr.mapUpdate, run_underlying hu, MapKept.run_getObj_map g1, MapKept.run_checkKey hku ik, MapKept.run_findKey hku p6, hj, p7, MapKept.run_keyThatStays ik, MapKept.run_setObj_map _ g1, Result.andThen]
    rw [p4] at hK
    have hkeyf : ∀ e', es[j]? = some e' → ({ e' with key := a.eval ko, val := a.eval xo } : MapEntry).key = e'.key := fun e' he' => by rw [hj] at he'; cases he'; exact p7.symm
    obtain ⟨q1, q2, q3⟩ := map_set (m' := m.set j (kv, v')) (es' := es.modify j fun e' => { e' with key := a.eval ko, val := a.eval xo }) (clock' := clock) hr hb (MapKept.stamped_modify g2 _ _ (fun _ _ => rfl) (fun e' _ he' => hkeyf e' he')) (by simpa using g3) (fun i x y hx hy => by
      by_cases hij : i = j
      · subst hij
        rw [List.getElem?_set_self (List.getElem?_eq_some_iff.1 p1).1] at hx
        simp only [Option.some.injEq] at hx
        subst hx
        rw [Array.getElem?_modify, if_pos rfl, hj] at hy
        simp at hy
        subst hy
        exact ⟨hka, hz⟩
      · rw [List.getElem?_set_ne (Ne.symm hij)] at hx
        rw [Array.getElem?_modify, if_neg (Ne.symm hij)] at hy
        have hy' : es.toList[i]? = some y := by rw [Array.getElem?_toList]; exact hy
        exact ⟨g4 i x y hx hy', g5 i x y hx hy'⟩) g1
    exact wp_skip' hrun (hn _ _ g _ _ hK q1 (he.keep q2) (.any _) q3)
theorem e_delete (TO : TOk P T) (hr : Rel T g L nl nt G w) (he : EnvR T g w env a) {o : Oper} (args : Array Operand) (ts : Array TypeId) (ho : o.op = .call { callee := .builtin .delete, args := args, argTypes := ts }) {next : Act → World → Prop} {Q : Exit → Act → World → Prop} {K : AV → Cf → Prop} (hn : NextOk T a o.dst next g w K)
    (h : evOp0 P T (.call { callee := .builtin .delete, args := args, argTypes := ts }) ⟨env, L, nl, nt, G⟩ K) : o.wp P a w next Q := by
  simp only [evOp0, effK] at h
  obtain ⟨args⟩ := args
  obtain ⟨ts⟩ := ts
  match args, ts, h with
  | [mo, ko], [t, t2], h =>
    simp only at h
    obtain ⟨kv, h, hk, z_kv⟩ := opd_sound he ko _ h
    clear z_kv
    obtain ⟨mv, h, hm, z_mv⟩ := opd_sound he mo _ h
    clear z_mv
    cases hd : (T t).desc <;> simp only [hd] at h
    rename_i kt et
    obtain ⟨kd, h, _, hku, hka⟩ := key_sound TO hk _ h
    have hu := und TO hd (by simp [kindD])
    have ik := keyAt_isKey hka
    have tup0 : ∀ g' w', Cz T g' w' (.tup []) (.tuple #[]) := fun g' w' => .tup _ _ rfl fun i c u hc => by simp at hc
    rcases (show mv = .nilm ∨ ∃ b, mv = .mp b by cases mv <;> first | exact .inl rfl | exact .inr ⟨_, rfl⟩ | exact False.elim h) with rfl | ⟨b, rfl⟩ <;> simp only at h
    · have hrun : (execOp a.eval o).run P w = .ok (.value (.tuple #[])) w := by
        simp [execOp, ho, cz_nilm hm, resolve, invoke, builtin, Builtin.delete_, run_underlying hu, MapKept.run_checkKey hku ik, Result.andThen]
      exact wp_value hrun (hn _ _ g _ _ h hr he (tup0 _ _) (Ext.refl _ _))
    · obtain ⟨m, hb, hK⟩ := h
      obtain ⟨hbn, e⟩ := cz_mp hm
      obtain ⟨es, clock, g1, g2, g3, g4, g5⟩ := map_shape (hr.glob b _ hb).2.2
      rcases mfind hka m es.toList 0 g3 g4 with ⟨_, _, p3, p4, p5⟩ | ⟨j, x0, e0, p1, p2, _, _, p5, p6, p7⟩
      · have hrun : (execOp a.eval o).run P w = .ok (.value (.tuple #[])) { w with heap := w.heap.setIfInBounds (g.beta b) (.map es clock) } := by
          simp [execOp, ho, e, resolve, invoke, builtin, Builtin.delete_, run_underlying hu, MapKept.run_getObj_map g1, MapKept.run_checkKey hku ik, MapKept.run_findKey hku p4, MapKept.run_setObj_map _ g1, Result.andThen]
        rw [p3] at hK
        obtain ⟨q1, q2, q3⟩ := map_set (m' := m) (es' := es) (clock' := clock) hr hb g2 (by simpa using g3) (fun i x y hx hy => ⟨g4 i x y hx (by rw [Array.getElem?_toList]; exact hy), g5 i x y hx (by rw [Array.getElem?_toList]; exact hy)⟩) g1
        exact wp_value hrun (hn _ _ g _ _ hK q1 (he.keep q2) (tup0 _ _) q3)
      · rw [Nat.zero_add] at p6
        have hrun : (execOp a.eval o).run P w = .ok (.value (.tuple #[])) { w with heap := w.heap.setIfInBounds (g.beta b) (.map (es.eraseIdxIfInBounds j) clock) } := by
          simp [execOp, ho, e, resolve, invoke, builtin, Builtin.delete_, run_underlying hu, MapKept.run_getObj_map g1, MapKept.run_checkKey hku ik, MapKept.run_findKey hku p6, MapKept.run_setObj_map _ g1, Result.andThen]
        have hjs : j < es.size := by have := (List.getElem?_eq_some_iff.1 p2).1; simpa using this
        have hsub : (es.eraseIdxIfInBounds j).toList = es.toList.eraseIdx j := by
          unfold Array.eraseIdxIfInBounds
          rw [dif_pos hjs]
          simp
        rw [p5] at hK
        obtain ⟨q1, q2, q3⟩ := map_set (m' := m.eraseIdx j) (es' := es.eraseIdxIfInBounds j) (clock' := clock) hr hb (MapKept.stamped_erase g2 j) (by
          rw [← Array.length_toList, hsub, List.length_eraseIdx, List.length_eraseIdx, g3]) (fun i x y hx hy => by
          have hy' : (es.toList.eraseIdx j)[i]? = some y := by rw [← hsub, Array.getElem?_toList]; exact hy
          rw [List.getElem?_eraseIdx] at hx hy'
          split at hx
          · rename_i hlt; rw [if_pos hlt] at hy'; exact ⟨g4 i x y hx hy', g5 i x y hx hy'⟩
          · rename_i hlt; rw [if_neg hlt] at hy'; exact ⟨g4 _ x y hx hy', g5 _ x y hx hy'⟩) g1
        exact wp_value hrun (hn _ _ g _ _ hK q1 (he.keep q2) (tup0 _ _) q3)
end
end Go.Proofs.YtpihanlillbhkaaGreatDoor
end

section
/- Rows of the call's own: made, and grown. -/
namespace Go.Proofs.YtpihanlillbhkaaGreatDoor
open Go Go.RowKit

section
variable {P : Program} {T : TypeId → TR} {g g' : Gh} {w w' : World} {a : Act} {L : List LB} {nl nt : Nat} {G : Glob} {env : List AV}

theorem dem0K_iff (j : Nat) (v : AV) (K : AV → Prop) : dem0K j v K ↔ K (dem0 j v) := by
  cases v <;> first | exact Iff.rfl | skip
  rename_i i e els
  simp only [dem0K, dem0]
  cases decide (i = j) <;> exact Iff.rfl
theorem dem0sK_iff (j : Nat) : ∀ (l : List AV) (K : List AV → Prop), dem0sK j l K ↔ K (l.map (dem0 j))
  | [], K => Iff.rfl
  | v :: r, K => by unfold dem0sK; rw [dem0K_iff, dem0sK_iff j r]; rfl
theorem dem1K_iff (j : Nat) (v : AV) (K : AV → Prop) : dem1K j v K ↔ K (dem1 j v) := by
  cases v with
  | agg cs => exact dem0sK_iff j _ _
  | tup cs => exact dem0sK_iff j _ _
  | fn f p q => simp only [dem1K, dem0sK_iff]; exact Iff.rfl
  | ifc t v => cases v with
    | agg cs => exact dem0sK_iff j _ _
    | _ => simp only [dem1K, dem0K_iff]; exact Iff.rfl
  | _ => simp only [dem1K, dem0K_iff]; exact Iff.rfl
theorem dem1sK_iff (j : Nat) : ∀ (l : List AV) (K : List AV → Prop), dem1sK j l K ↔ K (l.map (dem1 j))
  | [], K => Iff.rfl
  | v :: r, K => by unfold dem1sK; rw [dem1K_iff, dem1sK_iff j r]; rfl
theorem demLK_iff (j : Nat) : ∀ (l : List LB) (K : List LB → Prop), demLK j l K ↔ K (l.map (demL j))
  | [], K => Iff.rfl
  | .live org cells :: r, K => by unfold demLK; rw [dem1sK_iff, demLK_iff j r]; rfl
  | .away b :: r, K => by unfold demLK; rw [demLK_iff j r]; rfl
  | .dead :: r, K => by unfold demLK; rw [demLK_iff j r]; rfl
theorem dem0_sound {j : Nat} {v : AV} {u : Value} (h : Cz T g w v u) (x : Cx (fun i => i = j) g w g' w') : Cz T g' w' (dem0 j v) u := by
  cases h with
  | dz v u h => cases v <;> first | exact .any _ | exact .dz _ _ (h.mono x.dx) | cases h
  | any u => exact .any u
  | own i e els u hi h =>
    by_cases hij : i = j
    · simp only [dem0, decide_eq_true hij]
      exact .dz _ _ ((h.slc (fun n i hi => hi)).mono x.dx)
    · simp only [dem0, decide_eq_false hij]
      obtain ⟨h1, h2⟩ := x.tok i hi hij
      refine .own i e els u (Nat.lt_of_lt_of_le hi x.nt) ?_
      rw [h1]
      exact h.mono x.dx (fun k hk => let ⟨_, _, _, h4, _⟩ := h; h2 k _ hk (h4 k hk) (by rw [hk] at h; exact h.lt))
  | lptr i off hi => unfold dem0; rw [← x.lam i hi]; exact .lptr i off (Nat.lt_of_lt_of_le hi x.nl)
  | agg => exact .any _
  | tup => exact .any _
  | fn => exact .any _
  | ifc => exact .any _
theorem dem0s_sound {j : Nat} {cs : List AV} {us : Array Value} (h : ∀ (i : Nat) (c : AV) (u : Value), cs[i]? = some c → us[i]? = some u → Cz T g w c u) (x : Cx (fun i => i = j) g w g' w') :
    ∀ (i : Nat) (c : AV) (u : Value), (cs.map (dem0 j))[i]? = some c → us[i]? = some u → Cz T g' w' c u := by
  intro i c u hc hu
  rw [List.getElem?_map] at hc
  obtain ⟨c', hc', rfl⟩ := Option.map_eq_some_iff.1 hc
  exact dem0_sound (h i c' u hc' hu) x
theorem dem1_sound {j : Nat} {v : AV} {u : Value} (h : Cz T g w v u) (x : Cx (fun i => i = j) g w g' w') : Cz T g' w' (dem1 j v) u := by
  cases v with
  | agg cs =>
    obtain ⟨us, rfl, hl, h1, h2⟩ := cz_agg h
    exact .agg _ _ (by simpa using hl) h1 (dem0s_sound h2 x)
  | tup cs =>
    obtain ⟨us, rfl, hl, h2⟩ := cz_tup h
    exact .tup _ _ (by simpa using hl) (dem0s_sound h2 x)
  | fn f p q =>
    obtain ⟨us, vs, rfl, ha, hb, h1, h2⟩ := cz_fn h
    exact .fn _ _ _ _ _ (by simpa using ha) (by simpa using hb) (dem0s_sound h1 x) (dem0s_sound h2 x)
  | ifc t v =>
    obtain ⟨y, rfl, hy⟩ := cz_ifc h
    cases v with
    | agg cs =>
      obtain ⟨us, rfl, hl, h1, h2⟩ := cz_agg hy
      exact .ifc t _ _ (.agg _ _ (by simpa using hl) h1 (dem0s_sound h2 x))
    | _ => exact .ifc t _ _ (dem0_sound hy x)
  | _ => exact dem0_sound h x
theorem EnvR.dem {j : Nat} (h : EnvR T g w env a) (x : Cx (fun i => i = j) g w g' w') : EnvR T g' w' (env.map (dem1 j)) a := by
  refine ⟨by simpa using h.size, fun i v hv => ?_, h.defers⟩
  rw [List.getElem?_map] at hv
  obtain ⟨v', hv', rfl⟩ := Option.map_eq_some_iff.1 hv
  exact dem1_sound (h.vals i v' hv') x
theorem LocAt.dem {j i : Nat} {bx : LB} (h : LocAt T g w i bx) (hi : i < g.nl) (x : Cx (fun i => i = j) g w g' w') (hk : ∀ org cells, bx = .live org cells → g.own (g.lam i) = .lbox i → g'.own (g.lam i) = .lbox i ∧ w'.heap[g.lam i]? = w.heap[g.lam i]?) : LocAt T g' w' i (demL j bx) := by
  cases bx with
  | live org cells =>
    obtain ⟨h1, h2, h3⟩ := h
    obtain ⟨h4, h5⟩ := hk _ _ rfl h1
    refine ⟨by rw [x.lam i hi]; exact h4, ?_, fun b hb => ?_⟩
    · rw [x.lam i hi]
      obtain ⟨us, e, c1, c2, c3, c4⟩ := h2
      refine ⟨us, e, by rw [h5]; exact c1, by simpa using c2, c3, fun i c u hc hu => ?_⟩
      rw [List.getElem?_map] at hc
      obtain ⟨c', hc', rfl⟩ := Option.map_eq_some_iff.1 hc
      exact dem1_sound (c4 i c' u hc' hu) x
    · obtain ⟨q1, q2⟩ := h3 b hb
      exact ⟨Nat.lt_of_lt_of_le q1 x.dx.nb, by rw [x.dx.beta b q1, x.lam i hi]; exact q2⟩
  | away b =>
    obtain ⟨q1, q2⟩ := h
    exact ⟨Nat.lt_of_lt_of_le q1 x.dx.nb, by rw [x.dx.beta b q1, x.lam i hi]; exact q2⟩
  | dead => trivial
/-- what an append leaves of the world -/
def AppW (w w' : World) (u u' : Value) : Prop :=
  (w' = w ∧ u' = u) ∨ (∃ k arr, u.ownBlock = some k ∧ u'.ownBlock = some k ∧ w' = w.setRow k arr) ∨ (∃ o, w' = w.drew.alloc o ∧ u'.ownBlock = some w.heap.size)
theorem app_run (TO : TOk P T) {t e : TypeId} (ht : P.underlying t = some (.slice e)) (hk : kindD (T e).desc ≠ none) (hsz : 0 < (T e).cells) (ty : TypeId) {u : Value} {n : Nat} {xs : List Value} (hown : w.ownsRow 0 e (T e).cells u n xs)
    (p : Option Addr) (m c : Nat) (news : List Value) (hl : news.length = m * (T e).cells) (hnews : 0 < m → ∃ ad, p = some ad ∧ ∀ j v, news[j]? = some v → w.cell? (ad.add j) = some v) (h1 : ∀ v ∈ news, v.oneCell' = true)
    (h63 : n + m ≤ maxLen) (hbytes : (n + m) * (T e).bytes ≤ 140737488355328) :
    ∃ u' w', (Builtin.append_ #[t, t] ty #[u, .slice p m c]).run P w = .ok u' w' ∧ w'.ownsRow 0 e (T e).cells u' (n + m) (xs ++ news) ∧ AppW w w' u u' := by
  obtain ⟨_, i, hi, hs, hb, hz, hzs, _⟩ := TO e hk
  by_cases hm : m = 0
  · subst hm
    have hn : news = [] := List.eq_nil_of_length_eq_zero (by simpa using hl)
    subst hn
    refine ⟨u, w, ?_, by simpa using hown, .inl ⟨rfl, rfl⟩⟩
    obtain ⟨_, ⟨rfl, rfl⟩ | ⟨b, cap, cur, rfl, _, hg, hc, _⟩⟩ := hown
    · cases p <;> simp [Builtin.append_, run_underlying ht, sizeOf, typeInfo, hi, Builtin.lenOf, Builtin.firstCells, loadCells, loadCellsFrom]
    · cases p <;> simp [Builtin.append_, run_underlying ht, sizeOf, typeInfo, hi, Builtin.lenOf, Builtin.firstCells, loadCells, loadCellsFrom, hc, storeCells]
  · obtain ⟨ad, rfl, hn2⟩ := hnews (by omega)
    obtain ⟨u', w', hr, ho, _, _⟩ := run_append_own (P := P) w 0 t ty e i (T e).zero (T e).cells (T e).bytes ht hi hz hs hb hzs hsz u n xs hown ad m c news hl hn2 h1 h63 hbytes (Nat.zero_le _)
    refine ⟨u', w', hr, ho, ?_⟩
    rw [← hb] at hbytes
    unfold maxLen at h63
    have hl' : news.length = m * i.size := by rw [hs]; exact hl
    have hx' : xs.length = n * i.size := by rw [hs]; exact hown.1
    rcases hown.2 with ⟨rfl, rfl⟩ | ⟨b, cap, cur, rfl, _, hg, hc, _, hcs, htk⟩
    · have h2 := run_append_nil (P := P) w t ty e i (T e).zero ht hi hz ad m c news hl' hn2 (by omega) (by omega) (by have hb := hbytes; simp only [Nat.zero_add] at hb; omega)
      rw [h2] at hr
      simp only [Result.ok.injEq] at hr
      obtain ⟨rfl, rfl⟩ := hr
      exact .inr (.inr ⟨_, rfl, rfl⟩)
    · by_cases hroom : n + m ≤ cap
      · have hfit : n * i.size + news.length ≤ cur.size := by rw [hl', hcs, ← hs, ← Nat.add_mul]; exact Nat.mul_le_mul_right _ hroom
        have h2 := run_append_room (P := P) w t ty e i ht hi b n cap cur hg ad m c news hl' hn2 h1 hroom hfit
        rw [h2] at hr
        simp only [Result.ok.injEq] at hr
        obtain ⟨rfl, rfl⟩ := hr
        exact .inr (.inl ⟨b, _, rfl, rfl, rfl⟩)
      · have holds : ∀ j u, xs[j]? = some u → w.cell? ((⟨b, 0, none⟩ : Addr).add j) = some u := hown.cells (g := b) rfl
        have h2 := run_append_grow (P := P) w t ty e i (T e).zero ht hi hz ⟨b, 0, none⟩ n cap xs hx' holds ad m c news hl' hn2 (by omega) (by omega) (growslice_fits (by omega) hbytes)
        rw [h2] at hr
        simp only [Result.ok.injEq] at hr
        obtain ⟨rfl, rfl⟩ := hr
        exact .inr (.inr ⟨_, rfl, rfl⟩)

/-- a new row: whose it is -/
def Gh.newTok (g : Gh) (kopt : Option Nat) (n : Nat) : Gh := { g with own := fun i => if some i = kopt then .tok g.nt n else g.own i, tau := fun j => if j = g.nt then kopt else g.tau j, nt := g.nt + 1 }
theorem newTok_cx (g : Gh) {w w' : World} {kopt : Option Nat} (n : Nat) (hk : ∀ k, kopt = some k → w.heap.size ≤ k) (hw : ∀ k, k < w.heap.size → w'.heap[k]? = w.heap[k]?) : Cx (fun _ => False) g w (g.newTok kopt n) w' := by
  have hne : ∀ k, k < w.heap.size → some k ≠ kopt := fun k hk' h => by have := hk k h.symm; omega
  refine ⟨⟨fun k i u h1 h2 => ?_, Nat.le_refl _, fun _ _ => rfl⟩, Nat.le_refl _, fun _ _ => rfl, Nat.le_succ _, fun j hj _ => ⟨by simp [Gh.newTok, show j ≠ g.nt by omega], fun k n _ _ hk' => ⟨by simp [Gh.newTok, hne k hk'], hw k hk'⟩⟩⟩
  have hlt := cell_lt h2
  refine ⟨?_, ?_⟩
  · unfold Gh.frz at *; simp only [Gh.newTok, hne k hlt, if_false]; exact h1
  · rw [show w'.cell? ⟨k, i, none⟩ = w.cell? ⟨k, i, none⟩ from by simp [World.cell?, hw k hlt]]; exact h2
theorem newTok_ext (g : Gh) {w w' : World} {kopt : Option Nat} (n : Nat) (hk : ∀ k, kopt = some k → w.heap.size ≤ k) (hw : ∀ k, k < w.heap.size → w'.heap[k]? = w.heap[k]?) (hs : w.heap.size ≤ w'.heap.size) (h1 : w'.os = w.os) (h2 : w'.tape = w.tape) (h3 : w'.output = w.output) : Ext g w (g.newTok kopt n) w' := by
  have := (newTok_cx g n hk hw).dx
  refine ⟨this.cell, this.nb, this.beta, fun k hk' _ => ⟨?_, hw k hk'⟩, hs, h1, h2, h3⟩
  have hne : some k ≠ kopt := fun h => by have := hk k h.symm; omega
  simp [Gh.newTok, hne]
theorem Rel.newTok (h : Rel T g L nl nt G w) {w' : World} {kopt : Option Nat} (n : Nat) (hk : ∀ k, kopt = some k → w.heap.size ≤ k) (hw : ∀ k, k < w.heap.size → w'.heap[k]? = w.heap[k]?) : Rel T (g.newTok kopt n) L nl (nt + 1) G w' := by
  refine h.new (newTok_cx g n hk hw) (fun k hk' => ⟨?_, hw k hk'⟩) rfl (by simp [Gh.newTok, h.ht])
  have hne : some k ≠ kopt := fun h => by have := hk k h.symm; omega
  simp [Gh.newTok, hne]
/-- the cells of a slice's elements, one behind the other -/
theorem slc_flat {e : TypeId} {els : List (List AV)} {p : Option Addr} {m c : Nat} (h : Dz T g w (.slc e els) (.slice p m c)) (hsz : 0 < (T e).cells) : m = els.length ∧ ∃ news : List Value, news.length = m * (T e).cells ∧ (∀ v ∈ news, v.oneCell' = true) ∧
    (0 < m → ∃ ad, p = some ad ∧ ∀ j v, news[j]? = some v → w.cell? (ad.add j) = some v) ∧
    ∀ (i : Nat) (cells : List AV), els[i]? = some cells → ∀ (j : Nat) (x : AV), cells[j]? = some x → ∃ y, news[i * (T e).cells + j]? = some y ∧ y.oneCell' = true ∧ Dz T g w x y := by
  obtain ⟨p', cap, e1, hc, hm, hs, hF0⟩ := slc_cells h
  simp only [Value.slice.injEq] at e1
  obtain ⟨rfl, rfl, rfl⟩ := e1
  refine ⟨rfl, ?_⟩
  by_cases h0 : 0 < els.length
  · obtain ⟨b, off, F, rfl, hF⟩ := hF0 h0
    clear hF0
    have hat : ∀ q, q < els.length * (T e).cells → ∃ cells, els[q / (T e).cells]? = some cells ∧ q / (T e).cells * (T e).cells + q % (T e).cells = q ∧ q % (T e).cells < (T e).cells := by
      intro q hq
      have h1 : q / (T e).cells < els.length := Nat.div_lt_of_lt_mul (by rw [Nat.mul_comm]; exact hq)
      exact ⟨_, List.getElem?_eq_getElem h1, by rw [Nat.mul_comm]; exact Nat.div_add_mod q _, Nat.mod_lt _ hsz⟩
    refine ⟨(List.range (els.length * (T e).cells)).map fun q => F (q / (T e).cells) (q % (T e).cells), by simp, fun v hv => ?_, fun _ => ⟨_, rfl, fun j v hj => ?_⟩, fun i cells hi j x hj => ?_⟩
    · obtain ⟨q, hq, rfl⟩ := List.mem_map.1 hv
      obtain ⟨cells, h1, h2, h3⟩ := hat q (by simpa using hq)
      exact (hF _ cells h1 _ h3).2.2.1
    · obtain ⟨hq, rfl⟩ := List.getElem?_eq_some_iff.1 hj
      simp only [List.length_map, List.length_range] at hq
      obtain ⟨cells, h1, h2, h3⟩ := hat j hq
      have := (hF _ cells h1 _ h3).2.1
      rw [h2] at this
      rw [addr_add, this]
      simp
    · have hcl := hs cells (List.mem_of_getElem? hi)
      have hjl := (List.getElem?_eq_some_iff.1 hj).1
      have hil := (List.getElem?_eq_some_iff.1 hi).1
      have hq : i * (T e).cells + j < els.length * (T e).cells := by
        calc i * (T e).cells + j < i * (T e).cells + (T e).cells := by omega
          _ = (i + 1) * (T e).cells := by rw [Nat.add_mul, Nat.one_mul]
          _ ≤ els.length * (T e).cells := Nat.mul_le_mul_right _ hil
      have hd : (i * (T e).cells + j) / (T e).cells = i := by
        rw [Nat.mul_comm, Nat.mul_add_div hsz, Nat.div_eq_of_lt (by omega)]; rfl
      have hmod : (i * (T e).cells + j) % (T e).cells = j := by
        rw [Nat.mul_comm, Nat.mul_add_mod, Nat.mod_eq_of_lt (by omega)]
      obtain ⟨_, _, f3, f4⟩ := hF i cells hi j (by omega)
      exact ⟨F i j, by rw [List.getElem?_map, List.getElem?_range hq]; simp [hd, hmod], f3, f4 x hj⟩
  · have : els = [] := List.eq_nil_of_length_eq_zero (by omega)
    subst this
    exact ⟨[], by simp, fun _ h => (by cases h), fun h => (by simp at h), fun i c hi => (by simp at hi)⟩
theorem els_app {e : TypeId} {els els' : List (List AV)} {xs news : List Value} (hl : xs.length = els.length * (T e).cells) (hs : ∀ cells ∈ els, cells.length = (T e).cells) (hs' : ∀ cells ∈ els', cells.length = (T e).cells)
    (h1 : ∀ (i : Nat) (cells : List AV), els[i]? = some cells → ∀ (j : Nat) (x : AV), cells[j]? = some x → ∃ y, xs[i * (T e).cells + j]? = some y ∧ y.oneCell' = true ∧ Dz T g w x y)
    (h2 : ∀ (i : Nat) (cells : List AV), els'[i]? = some cells → ∀ (j : Nat) (x : AV), cells[j]? = some x → ∃ y, news[i * (T e).cells + j]? = some y ∧ y.oneCell' = true ∧ Dz T g w x y) :
    (∀ cells ∈ els ++ els', cells.length = (T e).cells) ∧ ∀ (i : Nat) (cells : List AV), (els ++ els')[i]? = some cells → ∀ (j : Nat) (x : AV), cells[j]? = some x → ∃ y, (xs ++ news)[i * (T e).cells + j]? = some y ∧ y.oneCell' = true ∧ Dz T g w x y := by
  refine ⟨fun c hc => (List.mem_append.1 hc).elim (hs c) (hs' c), fun i cells hi j x hj => ?_⟩
  rcases Nat.lt_or_ge i els.length with hlt | hge
  · rw [List.getElem?_append_left hlt] at hi
    obtain ⟨y, q1, q2⟩ := h1 i cells hi j x hj
    exact ⟨y, by rw [List.getElem?_append_left (List.getElem?_eq_some_iff.1 q1).1]; exact q1, q2⟩
  · rw [List.getElem?_append_right hge] at hi
    obtain ⟨y, q1, q2⟩ := h2 _ cells hi j x hj
    have hge2 : els.length * (T e).cells ≤ i * (T e).cells := Nat.mul_le_mul_right _ hge
    refine ⟨y, ?_, q2⟩
    rw [List.getElem?_append_right (by omega), hl]
    rw [show i * (T e).cells + j - els.length * (T e).cells = (i - els.length) * (T e).cells + j by rw [Nat.sub_mul]; omega]
    exact q1
theorem drew_block (w : World) (o : Obj) {k : Nat} (hk : k < w.heap.size) : (w.drew.alloc o).heap[k]? = w.heap[k]? := Below.heap_alloc w.drew _ _ hk
/-- the world of an append to a row of the call's own: whose the blocks are -/
def Gh.regrow (g : Gh) (j k : Nat) (kopt : Option Nat) (n : Nat) : Gh := { g with own := fun i => if i = k then .tok j n else if some i = kopt then .frz else g.own i, tau := fun i => if i = j then some k else g.tau i }
theorem slc_shape {e : TypeId} {els : List (List AV)} {u : Value} (h : Dz T g w (.slc e els) u) : ∃ p cap, u = .slice p els.length cap := by
  obtain ⟨p, cap, e1, _⟩ := slc_cells h; exact ⟨p, cap, e1⟩
theorem run_app_op {o : Oper} {s x : Operand} {t : TypeId} (ho : o.op = .call { callee := .builtin .append, args := #[s, x], argTypes := #[t, t] }) {u : Value} (hr : (Builtin.append_ #[t, t] o.type #[a.eval s, a.eval x]).run P w = .ok u w') : (execOp a.eval o).run P w = .ok (.value u) w' := by
  simp [execOp, ho, resolve, invoke, builtin, hr]
theorem e_append (TO : TOk P T) (hr : Rel T g L nl nt G w) (he : EnvR T g w env a) {o : Oper} (s x : Operand) (t e : TypeId) (ho : o.op = .call { callee := .builtin .append, args := #[s, x], argTypes := #[t, t] }) (hd : (T t).desc = .slice e) (hk : kindD (T e).desc ≠ none) (hsz : 0 < (T e).cells)
    {next : Act → World → Prop} {Q : Exit → Act → World → Prop} {K : AV → Cf → Prop} (hn : NextOk T a o.dst next g w K) (h : opdK env x fun xv => opdK env s fun sv => appK T e xv sv ⟨env, L, nl, nt, G⟩ K) : o.wp P a w next Q := by
  have ht := und TO hd (by simp [kindD])
  obtain ⟨xv, h1, h2, h2'⟩ := opd_sound he x _ h
  obtain ⟨sv, h3, h4, h4'⟩ := opd_sound he s _ h1
  clear h2' h4'
  cases sv <;> simp only [appK] at h3 <;> first | exact h3.elim | skip
  case nils =>
    obtain ⟨e', els', h5, h6, h7⟩ := els_sound h2 _ h3
    clear h7
    by_cases hee : e = e'
    · subst hee
      simp only [decide_true] at h5
      obtain ⟨⟨b1, b2⟩, hK⟩ := h5
      obtain ⟨p, cap, ex⟩ := slc_shape h6
      rw [ex] at h6
      obtain ⟨_, news, n1, n2, n3, n4⟩ := slc_flat h6 hsz
      have hs' : ∀ cells ∈ els', cells.length = (T e).cells := (slc_cells h6).elim fun _ h => h.elim fun _ h => h.2.2.2.1
      have es := cz_nils h4
      obtain ⟨u', w', r1, r2, r3⟩ := app_run TO ht hk hsz o.type (World.ownsRow_nil w 0 e (T e).cells) p els'.length cap news n1 n3 n2 (by omega) (by simpa using b2)
      have run := run_app_op (P := P) (a := a) (w := w) (w' := w') (u := u') ho (by rw [es, ex]; exact r1)
      have hblk : ∀ k, u'.ownBlock = some k → w.heap.size ≤ k := by
        intro k hk
        rcases r3 with ⟨rfl, rfl⟩ | ⟨k', arr, q1, _⟩ | ⟨ob, rfl, q⟩
        · simp [Value.ownBlock] at hk
        · simp [Value.ownBlock] at q1
        · rw [hk] at q; simp at q; omega
      have hheap : (∀ k, k < w.heap.size → w'.heap[k]? = w.heap[k]?) ∧ w.heap.size ≤ w'.heap.size ∧ w'.os = w.os ∧ w'.tape = w.tape ∧ w'.output = w.output := by
        rcases r3 with ⟨rfl, rfl⟩ | ⟨k', arr, q1, _⟩ | ⟨ob, rfl, q⟩
        · exact ⟨fun _ _ => rfl, Nat.le_refl _, rfl, rfl, rfl⟩
        · simp [Value.ownBlock] at q1
        · exact ⟨fun k hk => drew_block w ob hk, by simp, rfl, rfl, rfl⟩
      have cx := newTok_cx g (kopt := u'.ownBlock) (els'.length * (T e).cells) hblk hheap.1
      refine wp_value run (hn _ _ (g.newTok u'.ownBlock (els'.length * (T e).cells)) _ _ hK (hr.newTok _ hblk hheap.1) (he.keep cx) ?_ (newTok_ext g _ hblk hheap.1 hheap.2.1 hheap.2.2.1 hheap.2.2.2.1 hheap.2.2.2.2))
      refine .own nt e els' u' (by simp [Gh.newTok, hr.ht]) ⟨news, ?_, ?_, fun k hk => ?_, hs', fun i cells hi j y hj => ?_⟩
      · simpa using r2
      · simp [Gh.newTok, hr.ht]
      · simp only [Gh.newTok, hr.ht, if_true] at hk ⊢
        rw [if_pos hk.symm]
      · obtain ⟨y', q1, q2, q3⟩ := n4 i cells hi j y hj
        exact ⟨y', q1, q2, q3.mono cx.dx⟩
    · rw [decide_eq_false hee] at h5; exact h5.elim
  case own j e1 els =>
    obtain ⟨e', els', h5, h6, h7⟩ := els_sound h2 _ h3
    clear h7
    by_cases hee : e = e1 ∧ e = e'
    · obtain ⟨rfl, rfl⟩ := hee
      simp only [decide_true] at h5
      obtain ⟨⟨b1, b2⟩, h5⟩ := h5
      rw [dem1sK_iff, demLK_iff] at h5
      obtain ⟨p, cap, ex⟩ := slc_shape h6
      rw [ex] at h6
      obtain ⟨_, news, n1, n2, n3, n4⟩ := slc_flat h6 hsz
      have hs' : ∀ cells ∈ els', cells.length = (T e).cells := (slc_cells h6).elim fun _ h => h.elim fun _ h => h.2.2.2.1
      obtain ⟨hj, xs, o1, o2, o3, o4, o5⟩ := cz_own h4
      obtain ⟨u', w', r1, r2, r3⟩ := app_run TO ht hk hsz o.type o1 p els'.length cap news n1 n3 n2 b1 b2
      have run := run_app_op (P := P) (a := a) (w := w) (w' := w') (u := u') ho (by rw [ex]; exact r1)
      obtain ⟨a1, a2⟩ := els_app o1.1 o4 hs' o5 n4
      have hjn : j < nt := by rw [← hr.ht]; exact hj
      -- what each way leaves
      have fin : ∀ g' : Gh, Cx (fun i => i = j) g w g' w' → Ext g w g' w' → (∀ k, k < w.heap.size → (∃ i, g.own k = .lbox i) ∨ (∃ b, (g.own k).ofBox b) → g'.own k = g.own k ∧ w'.heap[k]? = w.heap[k]?) → g'.nl = g.nl → g'.nt = g.nt → g'.tau j = u'.ownBlock →
          (∀ k, u'.ownBlock = some k → g'.own k = .tok j ((els.length + els'.length) * (T e).cells)) → o.wp P a w next Q := by
        intro g' cx ext hk' hl hnt htau hown
        refine wp_value run (hn _ _ g' _ _ h5 ⟨?_, fun i bx hi => ?_, by simpa using hr.hL, by rw [hl]; exact hr.hl, by rw [hnt]; exact hr.ht⟩ (he.dem cx) ?_ ext)
        · exact hr.glob.keep cx.dx (fun b k _ q2 q3 => hk' k q3 (.inr ⟨b, q2⟩))
        · rw [List.getElem?_map] at hi
          obtain ⟨bx', hi', rfl⟩ := Option.map_eq_some_iff.1 hi
          refine (hr.loc i bx' hi').dem (by rw [hr.hl, ← hr.hL]; exact (List.getElem?_eq_some_iff.1 hi').1) cx (fun org cells hb q1 => ?_)
          have hloc := hr.loc i bx' hi'
          rw [hb] at hloc
          obtain ⟨q3, q4⟩ := hk' _ (loc_lt hloc) (.inl ⟨i, q1⟩)
          exact ⟨q3.trans q1, q4⟩
        · refine .own j e _ u' (by rw [hnt]; exact hj) ⟨xs ++ news, by rw [List.length_append]; exact r2, htau.symm, fun k hk => ?_, a1, fun i cells hi q y hq => ?_⟩
          · rw [List.length_append]; exact hown k (by rw [← htau]; exact hk)
          · obtain ⟨y', q1, q2, q3⟩ := a2 i cells hi q y hq
            exact ⟨y', q1, q2, q3.mono cx.dx⟩
      have hold : ∀ k i u, g.frz k i → w.cell? ⟨k, i, none⟩ = some u → ∀ n', g.tau j = some k → els.length ≤ n' → i < n' * (T e).cells := by
        intro k i u q1 _ n' q2 q3
        unfold Gh.frz at q1
        rw [o3 k q2] at q1
        exact Nat.lt_of_lt_of_le q1 (Nat.mul_le_mul_right _ q3)
      rcases r3 with ⟨rfl, rfl⟩ | ⟨k, arr, q1, q2, rfl⟩ | ⟨ob, rfl, q⟩
      · -- nothing was put behind it
        refine fin { g with own := fun i => if g.tau j = some i then .tok j ((els.length + els'.length) * (T e).cells) else g.own i } ⟨⟨fun k i u q1 q2 => ⟨?_, q2⟩, Nat.le_refl _, fun _ _ => rfl⟩, Nat.le_refl _, fun _ _ => rfl, Nat.le_refl _, fun i _ hij => ⟨rfl, fun k n q1 q2 _ => ⟨?_, rfl⟩⟩⟩
            ⟨fun k i u q1 q2 => ⟨?_, q2⟩, Nat.le_refl _, fun _ _ => rfl, fun k _ q1 => ⟨?_, rfl⟩, Nat.le_refl _, rfl, rfl, rfl⟩ (fun k _ q1 => ⟨?_, rfl⟩) rfl rfl ?_ ?_
        · unfold Gh.frz
          by_cases hk : g.tau j = some k
          · simp only [hk, if_true]; exact hold k i u q1 q2 _ hk (by omega)
          · simp only [hk, if_false]; exact q1
        · by_cases hk : g.tau j = some k
          · rw [o3 k hk] at q2; simp only [Own.tok.injEq] at q2; exact absurd q2.1.symm hij
          · simp only [hk, if_false]
        · unfold Gh.frz
          by_cases hk : g.tau j = some k
          · simp only [hk, if_true]; exact hold k i u q1 q2 _ hk (by omega)
          · simp only [hk, if_false]; exact q1
        · by_cases hk : g.tau j = some k
          · rw [o3 k hk] at q1; exact q1.elim
          · simp only [hk, if_false]
        · by_cases hk : g.tau j = some k
          · rw [o3 k hk] at q1; rcases q1 with ⟨_, q1⟩ | ⟨_, q1⟩ <;> cases q1
          · simp only [hk, if_false]
        · exact o2.symm
        · intro k hk
          rw [← o2, hk]; simp
      · -- there was room
        have htk : g.tau j = some k := by rw [← o2]; exact q1
        have hcell : ∀ i u, i < els.length * (T e).cells → w.cell? ⟨k, i, none⟩ = some u → (w.setRow k arr).cell? ⟨k, i, none⟩ = some u := by
          intro i u hi hu
          have c1 := o1.cells q1
          have c2 := r2.cells q2
          obtain ⟨x0, hx⟩ : ∃ x0, xs[i]? = some x0 := ⟨xs[i]'(by rw [o1.1]; exact hi), List.getElem?_eq_getElem _⟩
          have d1 := c1 i _ hx
          have d2 := c2 i x0 (by rw [List.getElem?_append_left (by rw [o1.1]; exact hi)]; exact hx)
          rw [addr_add, Nat.zero_add] at d1 d2
          rw [d1] at hu
          rw [d2, hu]
        have dx : Dx g w { g with own := fun i => if i = k then .tok j ((els.length + els'.length) * (T e).cells) else g.own i } (w.setRow k arr) := by
          refine ⟨fun k' i u p1 p2 => ?_, Nat.le_refl _, fun _ _ => rfl⟩
          by_cases hkk : k' = k
          · subst hkk
            refine ⟨?_, hcell i u ?_ p2⟩
            · unfold Gh.frz; simp only [if_true]; exact hold k' i u p1 p2 _ htk (by omega)
            · have := p1; unfold Gh.frz at this; rw [o3 k' htk] at this; exact this
          · refine ⟨?_, by rw [setRow_cell hkk]; exact p2⟩
            unfold Gh.frz at *; simp only [hkk, if_false]; exact p1
        refine fin _ ⟨dx, Nat.le_refl _, fun _ _ => rfl, Nat.le_refl _, fun i _ hij => ⟨rfl, fun k' n p1 p2 _ => ?_⟩⟩ ⟨dx.cell, dx.nb, dx.beta, fun k' _ p1 => ?_, by simp, rfl, rfl, rfl⟩ (fun k' _ p1 => ?_) rfl rfl (by show g.tau j = _; rw [htk, q2]) (fun k' hk' => ?_)
        · have hkk : k' ≠ k := by rintro rfl; rw [o3 k' htk] at p2; simp only [Own.tok.injEq] at p2; exact hij p2.1.symm
          exact ⟨by simp only [hkk, if_false], setRow_other w k k' arr hkk⟩
        · have hkk : k' ≠ k := by rintro rfl; rw [o3 k' htk] at p1; exact p1
          exact ⟨by simp only [hkk, if_false], setRow_other w k k' arr hkk⟩
        · have hkk : k' ≠ k := by rintro rfl; rw [o3 k' htk] at p1; rcases p1 with ⟨_, p1⟩ | ⟨_, p1⟩ <;> cases p1
          exact ⟨by simp only [hkk, if_false], setRow_other w k k' arr hkk⟩
        · rw [q2] at hk'; simp only [Option.some.injEq] at hk'; subst hk'; simp only [if_true]
      · -- a new block
        have hlt : ∀ k, g.tau j = some k → k < w.heap.size := fun k hk => OwnAt.lt (T := T) (g := g) (o := .tok j) (e := e) (els := els) (u := a.eval s) (by rw [← hk]; exact ⟨xs, o1, o2, o3, o4, o5⟩)
        have dx : Dx g w (g.regrow j w.heap.size (g.tau j) ((els.length + els'.length) * (T e).cells)) (w.drew.alloc ob) := by
          refine ⟨fun k' i u p1 p2 => ?_, Nat.le_refl _, fun _ _ => rfl⟩
          have hkl := cell_lt p2
          refine ⟨?_, by rw [show (w.drew.alloc ob).cell? ⟨k', i, none⟩ = w.cell? ⟨k', i, none⟩ from by simp only [World.cell?, drew_block w ob hkl]]; exact p2⟩
          unfold Gh.frz Gh.regrow at *
          simp only [show k' ≠ w.heap.size by omega, if_false]
          by_cases hk : some k' = g.tau j
          · simp only [hk, if_true]; trivial
          · simp only [hk, if_false]; exact p1
        refine fin _ ⟨dx, Nat.le_refl _, fun _ _ => rfl, Nat.le_refl _, fun i _ hij => ⟨by simp [Gh.regrow, hij], fun k' n p1 p2 hkl => ?_⟩⟩ ⟨dx.cell, dx.nb, dx.beta, fun k' hkl p1 => ?_, by simp, rfl, rfl, rfl⟩ (fun k' hkl p1 => ?_) rfl rfl (by simp [Gh.regrow, q]) (fun k' hk' => ?_)
        · have hne : some k' ≠ g.tau j := fun h => by rw [o3 k' h.symm] at p2; simp only [Own.tok.injEq] at p2; exact hij p2.1.symm
          exact ⟨by simp only [Gh.regrow, show k' ≠ w.heap.size by omega, hne, if_false], drew_block w ob hkl⟩
        · have hne : some k' ≠ g.tau j := fun h => by rw [o3 k' h.symm] at p1; exact p1
          exact ⟨by simp only [Gh.regrow, show k' ≠ w.heap.size by omega, hne, if_false], drew_block w ob hkl⟩
        · have hne : some k' ≠ g.tau j := fun h => by rw [o3 k' h.symm] at p1; rcases p1 with ⟨_, p1⟩ | ⟨_, p1⟩ <;> cases p1
          exact ⟨by simp only [Gh.regrow, show k' ≠ w.heap.size by omega, hne, if_false], drew_block w ob hkl⟩
        · rw [q] at hk'; simp only [Option.some.injEq] at hk'; subst hk'; simp [Gh.regrow]
    · by_cases h8 : e = e1
      · have h9 : e ≠ e' := fun h => hee ⟨h8, h⟩
        simp only [decide_eq_true h8, decide_eq_false h9] at h5
      · simp only [decide_eq_false h8] at h5
/-- cells, n to an element -/
def chunk (n : Nat) : Nat → List AV → List (List AV)
  | 0, _ => []
  | m + 1, l => l.take n :: chunk n m (l.drop n)
theorem chunkK_iff (n : Nat) : ∀ (m : Nat) (l : List AV) (K : List (List AV) → Prop), chunkK n m l K ↔ l.length = m * n ∧ K (chunk n m l)
  | 0, [], K => by simp [chunkK, chunk]
  | 0, _ :: _, K => by simp [chunkK]
  | m + 1, l, K => by
    simp only [chunkK, takeK_iff, dropK_iff, chunkK_iff n m, chunk, List.length_drop, Nat.add_mul, Nat.one_mul]
    constructor
    · rintro ⟨h1, h2, h3, h4⟩; exact ⟨by omega, h4⟩
    · rintro ⟨h1, h4⟩; exact ⟨by omega, by omega, by omega, h4⟩
theorem chunk_len (n : Nat) : ∀ (m : Nat) (l : List AV), (chunk n m l).length = m
  | 0, _ => rfl
  | m + 1, l => by simp [chunk, chunk_len n m]
theorem chunk_at (n : Nat) : ∀ (m : Nat) (l : List AV) (i : Nat), i < m → (chunk n m l)[i]? = some ((l.drop (i * n)).take n)
  | 0, _, i, h => by omega
  | m + 1, l, 0, h => by simp [chunk]
  | m + 1, l, i + 1, h => by
    simp only [chunk, List.getElem?_cons_succ, chunk_at n m _ i (by omega), List.drop_drop]
    rw [show n + i * n = (i + 1) * n by rw [Nat.add_mul]; omega]
def repl (z : List AV) : Nat → List AV
  | 0 => []
  | n + 1 => z ++ repl z n
theorem repK_iff (z : List AV) : ∀ (n : Nat) (K : List AV → Prop), repK z n K ↔ K (repl z n)
  | 0, K => Iff.rfl
  | n + 1, K => by simp only [repK, repK_iff z n, repl]
theorem repl_at (z : List AV) (hz : 0 < z.length) : ∀ (n i : Nat), i < n * z.length → (repl z n)[i]? = z[i % z.length]?
  | 0, i, h => by omega
  | n + 1, i, h => by
    unfold repl
    rcases Nat.lt_or_ge i z.length with h1 | h1
    · rw [List.getElem?_append_left h1, Nat.mod_eq_of_lt h1]
    · rw [List.getElem?_append_right h1, repl_at z hz n _ (by rw [Nat.add_mul, Nat.one_mul] at h; omega), Nat.mod_eq_sub_mod h1]
theorem repl_len (z : List AV) : ∀ n, (repl z n).length = n * z.length
  | 0 => by simp [repl]
  | n + 1 => by simp [repl, repl_len z n, Nat.add_mul]; omega
theorem run_vw {s : Sem Value} {u : Value} (h : s.run P w = .ok u w') : (do pure (.value (← s)) : Sem Next).run P w = .ok (.value u) w' := by
  simp only [Sem.run_bind, h, Result.andThen_ok, Sem.run_pure]
theorem e_buildSlice (TO : TOk P T) (hr : Rel T g L nl nt G w) (he : EnvR T g w env a) {o : Oper} (t : TypeId) (len : Nat) (parts : Array (Nat × Operand)) (ho : o.op = .buildSlice t len parts)
    {next : Act → World → Prop} {Q : Exit → Act → World → Prop} {K : AV → Cf → Prop} (hn : NextOk T a o.dst next g w K) (h : evOp0 P T (.buildSlice t len parts) ⟨env, L, nl, nt, G⟩ K) : o.wp P a w next Q := by
  simp only [evOp0, effK] at h
  cases hd : (T t).desc <;> simp only [hd] at h <;> first | exact h.elim | skip
  rename_i e
  have ht := und TO hd (by simp [kindD])
  cases hc : (T e).cells with
  | zero => simp only [hc] at h
  | succ n =>
    cases hk : kindD (T e).desc with
    | none => simp only [hc, hk] at h
    | some kb =>
      by_cases hle : len * (n + 1) ≤ 16777216
      · simp only [hc, hk, decide_eq_true hle] at h
        obtain ⟨_, i', hi', hs', _, hz', hzs, _⟩ := TO e (by rw [hk]; simp)
        obtain ⟨z0, h1, _, h3, h4, h5, h6⟩ := zero_sound (w := w) (g := g) TO (t := e) (by rw [hk]; simp) _ h
        rw [repK_iff] at h1
        have hz0 : z0.length = n + 1 := by rw [h4, hzs, hc]
        have hzz : (T e).zero.cells.size = n + 1 := by rw [hzs, hc]
        generalize hZ : ((Array.range (len * (n + 1))).map fun x => (T e).zero.cells[x % (T e).zero.cells.size]!) = Z
        have hZs : Z.size = len * (n + 1) := by rw [← hZ]; simp
        have hZat : ∀ q, q < len * (n + 1) → ∃ y, Z[q]? = some y ∧ (T e).zero.cells[q % (n + 1)]? = some y := by
          intro q hq
          have hm : q % (n + 1) < (T e).zero.cells.size := by rw [hzz]; exact Nat.mod_lt _ (by omega)
          refine ⟨(T e).zero.cells[q % (n + 1)], ?_, Array.getElem?_eq_getElem hm⟩
          rw [← hZ]
          simp [hq, hzz]
          rw [getElem!_pos (T e).zero.cells _ hm]
        obtain ⟨cs, xs, q1, _, q3, q4, q5, q6, q7⟩ := fill_sound he _ parts.toList (repl z0 len) Z _ (by rw [repl_len, hz0, hZs]) (fun x hx => by
            obtain ⟨q, hq, rfl⟩ := Array.mem_iff_getElem.1 hx
            obtain ⟨y, y1, y2⟩ := hZat q (by omega)
            rw [Array.getElem?_eq_getElem hq] at y1
            simp only [Option.some.injEq] at y1
            rw [y1]; exact h5 _ (Array.mem_of_getElem? y2)) (fun q c x hc' hx => by
            have hq := (Array.getElem?_eq_some_iff.1 hx).1
            obtain ⟨y, y1, y2⟩ := hZat q (by omega)
            rw [repl_at _ (by omega) _ _ (by rw [hz0]; omega), hz0] at hc'
            rw [y1] at hx
            simp only [Option.some.injEq] at hx
            subst hx
            exact .dz _ _ (h6 _ _ _ hc' y2)) h1
        rw [dat0sK_iff, chunkK_iff] at q1
        obtain ⟨c1, hK⟩ := q1
        simp only [List.length_map] at c1
        have pl : (parts.map fun (i, x) => (i, a.eval x)).toList = parts.toList.map fun p => (p.1, a.eval p.2) := by simp
        have run : (execOp a.eval o).run P w = .ok (.value (.slice (some ⟨w.heap.size, 0, none⟩) len len)) (w.alloc (.cells xs e)) := by
          simp only [execOp, ho]
          refine run_vw ?_
          by_cases h0 : len * (n + 1) = 0
          · have : len = 0 := by rcases Nat.mul_eq_zero.1 h0 with h | h <;> omega
            subst this
            have hz1 : Z = #[] := Array.eq_empty_of_size_eq_zero (by omega)
            rw [hz1] at q3
            have hE : ∀ f : Nat → Value, (Array.range 0).map f = #[] := fun f => by simp
            have hg : ¬ (16777216 < 0) := by omega
            simp only [Instr.buildSlice, Sem.run_bind, run_underlying ht, Result.andThen_ok, sizeOf, typeInfo, run_program, hi', Sem.run_pure, hs', hc, Nat.reducePow, gt_iff_lt, Nat.zero_mul, hg, if_false, if_true, hE, pl, q3, newRow, newObj]
            rfl
          · have hg : ¬ (16777216 < len * (n + 1)) := by omega
            simp only [Instr.buildSlice, Sem.run_bind, run_underlying ht, Result.andThen_ok, sizeOf, typeInfo, run_program, hi', Sem.run_pure, hs', hc, Nat.reducePow, gt_iff_lt, hg, if_false, h0, h3, pl, hZ, q3, newRow, newObj]
            rfl
        have hw : ∀ k, k < w.heap.size → (w.alloc (.cells xs e)).heap[k]? = w.heap[k]? := fun k hk => Below.heap_alloc _ _ _ hk
        have hb : ∀ k, some w.heap.size = some k → w.heap.size ≤ k := fun k hk => by simp only [Option.some.injEq] at hk; omega
        have cx := newTok_cx g (kopt := some w.heap.size) (len * (T e).cells) hb hw
        refine wp_value run (hn _ _ (g.newTok (some w.heap.size) (len * (T e).cells)) _ _ hK (hr.newTok _ hb hw) (he.keep cx) ?_ (newTok_ext g _ hb hw (by simp) rfl rfl rfl))
        have hlen := chunk_len (n + 1) len (cs.map dat0)
        refine .own nt e _ _ (by simp [Gh.newTok, hr.ht]) ⟨xs.toList, ?_, ?_, fun k hk' => ?_, fun cells hcl => ?_, fun i cells hi j x hj => ?_⟩
        · rw [hlen, hc]
          have hlm : len ≤ maxLen := by
            have : len ≤ len * (n + 1) := Nat.le_mul_of_pos_right _ (by omega)
            unfold maxLen; omega
          exact ⟨by simp; omega, .inr ⟨w.heap.size, len, xs, rfl, Nat.zero_le _, blk_new _ _, Nat.le_refl _, hlm, by omega, by rw [List.take_of_length_le (by simp; omega)]⟩⟩
        · simp [Gh.newTok, hr.ht, Value.ownBlock]
        · simp only [Gh.newTok, hr.ht, if_true, Option.some.injEq] at hk' ⊢
          subst hk'
          simp [hlen]
        · obtain ⟨i, hil, rfl⟩ := List.mem_iff_getElem.1 hcl
          have := chunk_at (n + 1) len (cs.map dat0) i (by omega)
          rw [List.getElem?_eq_getElem hil] at this
          simp only [Option.some.injEq] at this
          rw [this, hc]
          simp
          have : (i + 1) * (n + 1) ≤ len * (n + 1) := Nat.mul_le_mul_right _ (by omega)
          rw [Nat.add_mul] at this
          omega
        · have hil := (List.getElem?_eq_some_iff.1 hi).1
          rw [chunk_at (n + 1) len (cs.map dat0) i (by omega)] at hi
          simp only [Option.some.injEq] at hi
          subst hi
          have hjl := (List.getElem?_eq_some_iff.1 hj).1
          simp only [List.length_take, List.length_drop, List.length_map] at hjl
          rw [List.getElem?_take_of_lt (by omega), List.getElem?_drop, List.getElem?_map] at hj
          obtain ⟨c, hc', rfl⟩ := Option.map_eq_some_iff.1 hj
          have cxd := cx.dx
          rw [hc] at cxd ⊢
          have hxl : i * (n + 1) + j < xs.size := by have := (List.getElem?_eq_some_iff.1 hc').1; omega
          have hx : xs[i * (n + 1) + j]? = some xs[i * (n + 1) + j] := Array.getElem?_eq_getElem hxl
          refine ⟨xs[i * (n + 1) + j], by simp, q6 _ (Array.getElem_mem _), ?_⟩
          exact (dat0_sound (q7 _ _ _ hc' hx) (q6 _ (Array.getElem_mem _))).mono cxd
      · simp only [hc, hk, decide_eq_false hle] at h
end
end Go.Proofs.YtpihanlillbhkaaGreatDoor
end

section
/- A call: what is handed over, and what comes back. -/
namespace Go.Proofs.YtpihanlillbhkaaGreatDoor
open Go Go.RowKit

section
variable {P : Program} {T : TypeId → TR} {g g' : Gh} {w w' : World} {a : Act}

theorem St.env {c : Cf} (h : St T g w a c) : EnvR T g w c.env a := ⟨h.size, h.vals, h.defers⟩
theorem St.mk' {c : Cf} (h : Rel T g c.L c.nl c.nt c.G w) (he : EnvR T g w c.env a) : St T g w a c := ⟨h, he.size, he.vals, he.defers⟩
theorem Cx.refl (S : Nat → Prop) (g : Gh) (w : World) : Cx S g w g w := ⟨Dx.refl g w, Nat.le_refl _, fun _ _ => rfl, Nat.le_refl _, fun _ _ _ => ⟨rfl, fun _ _ _ _ _ => ⟨rfl, rfl⟩⟩⟩
theorem Cx.trans {S : Nat → Prop} {g1 g2 g3 : Gh} {w1 w2 w3 : World} (h : Cx S g1 w1 g2 w2) (k : Cx S g2 w2 g3 w3) (hs : w1.heap.size ≤ w2.heap.size) : Cx S g1 w1 g3 w3 := by
  refine ⟨h.dx.trans k.dx, Nat.le_trans h.nl k.nl, fun j hj => (k.lam j (Nat.lt_of_lt_of_le hj h.nl)).trans (h.lam j hj), Nat.le_trans h.nt k.nt, fun j hj hn => ?_⟩
  obtain ⟨h1, h2⟩ := h.tok j hj hn
  obtain ⟨k1, k2⟩ := k.tok j (Nat.lt_of_lt_of_le hj h.nt) hn
  refine ⟨k1.trans h1, fun q n q1 q2 q3 => ?_⟩
  obtain ⟨p1, p2⟩ := h2 q n q1 q2 q3
  obtain ⟨r1, r2⟩ := k2 q n (by rw [h1]; exact q1) (by rw [p1]; exact q2) (Nat.lt_of_lt_of_le q3 hs)
  exact ⟨r1.trans p1, r2.trans p2⟩

/-- a local box is lent -/
theorem lend_live {L : List LB} {nl nt : Nat} {G : Glob} (hr : Rel T g L nl nt G w) {j : Nat} {org : Option Nat} {cells : List AV} (hj : L[j]? = some (.live org cells)) (b : Nat) (g' : Gh) (hown : g'.own = fun i => if i = g.lam j then .gbox b else g.own i)
    (hb : b < g'.nb) (hbeta : g'.beta b = g.lam j) (hold : ∀ i, i < g.nb → g'.beta i = g.beta i) (hnb : g.nb ≤ g'.nb) (hl : g'.lam = g.lam) (hnl : g'.nl = g.nl) (ht : g'.tau = g.tau) (hnt : g'.nt = g.nt) :
    Rel T g' (L.set j (.away b)) nl nt (setG G b (.cells (cells.map dat0))) w ∧ Cx (fun _ => False) g w g' w ∧ Ext g w g' w := by
  have hloc := hr.loc j _ hj
  obtain ⟨ho, ⟨us, e, c1, c2, c3, c4⟩, horg⟩ := hloc
  have hne : ∀ k i, g.frz k i → k ≠ g.lam j := by
    rintro k i h rfl
    unfold Gh.frz at h; rw [ho] at h; exact h
  have dx : Dx g w g' w := ⟨fun k i u h1 h2 => ⟨by unfold Gh.frz at *; rw [hown]; simp only [hne k i h1, if_false]; exact h1, h2⟩, hnb, hold⟩
  have cx : Cx (fun _ => False) g w g' w := ⟨dx, Nat.le_of_eq hnl.symm, fun _ _ => by rw [hl], Nat.le_of_eq hnt.symm, fun i _ _ => ⟨by rw [ht], fun k n _ h2 _ => ⟨by
    have : k ≠ g.lam j := by rintro rfl; rw [ho] at h2; cases h2
    rw [hown]; simp only [this, if_false], rfl⟩⟩⟩
  refine ⟨⟨fun i bx hi => ?_, fun i bx hi => ?_, by simpa using hr.hL, by rw [hnl]; exact hr.hl, by rw [hnt]; exact hr.ht⟩, cx, ⟨dx.cell, dx.nb, dx.beta, fun k _ h2 => ⟨by
    have : k ≠ g.lam j := by rintro rfl; rw [ho] at h2; exact h2
    rw [hown]; simp only [this, if_false], rfl⟩, Nat.le_refl _, rfl, rfl, rfl⟩⟩
  · by_cases hib : i = b
    · subst hib
      rw [setG_same] at hi
      simp only [Option.some.injEq] at hi
      subst hi
      refine ⟨hb, by rw [hbeta, hown]; simp, ?_⟩
      show CellsAt w (g'.beta i) _ _
      rw [hbeta]
      refine ⟨us, e, c1, by simpa using c2, c3, fun q c u hc hu => ?_⟩
      rw [List.getElem?_map] at hc
      obtain ⟨c', hc', rfl⟩ := Option.map_eq_some_iff.1 hc
      exact (dat0_sound (c4 q c' u hc' hu) (c3 _ (Array.mem_of_getElem? hu))).mono dx
    · rw [setG_ne _ _ hib] at hi
      obtain ⟨i1, i2, i3⟩ := hr.glob i bx hi
      have hnj : g.beta i ≠ g.lam j := by intro h; rw [h, ho] at i2; cases i2
      refine ⟨Nat.lt_of_lt_of_le i1 hnb, by rw [hold i i1, hown]; simp only [hnj, if_false]; exact i2, ?_⟩
      refine i3.keep i1 i2 dx fun k hk _ => ⟨?_, rfl⟩
      have : k ≠ g.lam j := by rintro rfl; rw [ho] at hk; exact hk
      rw [hown]; simp only [this, if_false]
  · by_cases hij : i = j
    · subst hij
      rw [List.getElem?_set_self (List.getElem?_eq_some_iff.1 hj).1] at hi
      simp only [Option.some.injEq] at hi
      subst hi
      exact ⟨hb, by rw [hbeta, hl]⟩
    · rw [List.getElem?_set_ne (Ne.symm hij)] at hi
      refine (hr.loc i bx hi).keep (by rw [hr.hl, ← hr.hL]; exact (List.getElem?_eq_some_iff.1 hi).1) cx (fun org cells hb h1 => ⟨?_, rfl⟩)
      have hnj : g.lam i ≠ g.lam j := by intro h; rw [h, ho] at h1; simp only [Own.lbox.injEq] at h1; exact hij h1.symm
      rw [hown]; simp only [hnj, if_false]; exact h1
/-- what a lending leaves -/
def Lent (T : TypeId → TR) (g : Gh) (w : World) (a : Act) (c : Cf) (K : Gh → Cf → Prop) : Prop :=
  ∃ g' c', K g' c' ∧ St T g' w a c' ∧ c'.env = c.env ∧ Cx (fun _ => False) g w g' w ∧ Ext g w g' w
theorem lend_sound {c : Cf} (hs : St T g w a c) (j : Nat) (K : Nat → Cf → Prop) (h : lendK j c K) : Lent T g w a c fun g' c' => ∃ b, K b c' ∧ b < g'.nb ∧ g'.beta b = g.lam j := by
  obtain ⟨env, L, nl, nt, G⟩ := c
  have hr := hs.rel
  have he := hs.env
  obtain ⟨bx, hj, h⟩ := (nthK_iff _ _).1 h
  cases bx with
  | live org cells =>
    have hloc := hr.loc j _ hj
    cases org with
    | some b =>
      simp only at h
      rw [dat0sK_iff, setK_iff] at h
      obtain ⟨_, hK⟩ := h
      obtain ⟨h1, h2⟩ := hloc.2.2 b rfl
      obtain ⟨q1, q2, q3⟩ := lend_live hr hj b { g with own := fun i => if i = g.lam j then .gbox b else g.own i } rfl h1 h2 (fun _ _ => rfl) (Nat.le_refl _) rfl rfl rfl rfl
      exact ⟨{ g with own := fun i => if i = g.lam j then .gbox b else g.own i }, _, ⟨b, hK, h1, h2⟩, St.mk' q1 (he.keep q2), rfl, q2, q3⟩
    | none =>
      simp only at h
      rw [dat0sK_iff] at h
      have hfree : G g.nb = none := by
        cases hG : G g.nb with
        | none => rfl
        | some bx => have := (hr.glob g.nb bx hG).1; omega
      have h := h g.nb hfree
      rw [setK_iff] at h
      obtain ⟨_, hK⟩ := h
      obtain ⟨q1, q2, q3⟩ := lend_live hr hj g.nb { g with own := fun i => if i = g.lam j then .gbox g.nb else g.own i, beta := fun i => if i = g.nb then g.lam j else g.beta i, nb := g.nb + 1 } rfl (Nat.lt_succ_self _) (by simp) (fun i hi => by simp [show i ≠ g.nb by omega]) (Nat.le_succ _) rfl rfl rfl rfl
      exact ⟨_, _, ⟨g.nb, hK, Nat.lt_succ_self _, by simp⟩, St.mk' q1 (he.keep q2), rfl, q2, q3⟩
  | away b =>
    obtain ⟨h1, h2⟩ := hr.loc j _ hj
    exact ⟨g, _, ⟨b, h, h1, h2⟩, hs, rfl, Cx.refl _ _ _, Ext.refl _ _⟩
  | dead => exact h.elim
theorem lendC_sound {c : Cf} (hs : St T g w a c) {v : AV} {u : Value} (hv : Cz T g w v u) (h1 : u.oneCell' = true) (K : AV → Cf → Prop) (h : lendCK v c K) : Lent T g w a c fun g' c' => ∃ v', K v' c' ∧ Dz T g' w v' u := by
  have other : (∀ K : AV → Cf → Prop, lendCK v c K ↔ dat0K v fun v' => K v' c) → Lent T g w a c fun g' c' => ∃ v', K v' c' ∧ Dz T g' w v' u := fun hk => by
    rw [hk, dat0K_iff] at h
    exact ⟨g, c, ⟨_, h, dat0_sound hv h1⟩, hs, rfl, Cx.refl _ _ _, Ext.refl _ _⟩
  cases v with
  | lptr j o =>
    obtain ⟨g', c', ⟨b, q1, q2, q3⟩, r1, r2, r3, r4⟩ := lend_sound hs j _ h
    refine ⟨g', c', ⟨_, q1, ?_⟩, r1, r2, r3, r4⟩
    rw [(cz_lptr hv).2, ← q3]
    exact .gptr b o q2
  | _ => exact other (fun _ => Iff.rfl)
/-- lendings, one behind the other -/
theorem lends_sound {F : AV → Cf → (AV → Cf → Prop) → Prop} {Fs : List AV → Cf → (List AV → Cf → Prop) → Prop} (hn : ∀ c K, Fs [] c K = K [] c) (hc : ∀ v r c K, Fs (v :: r) c K = F v c fun v' c' => Fs r c' fun l c'' => K (v' :: l) c'')
    {Pre : AV → Value → Prop} (hF : ∀ {g : Gh} {c : Cf} {v : AV} {u : Value}, St T g w a c → Cz T g w v u → Pre v u → ∀ K : AV → Cf → Prop, F v c K → Lent T g w a c fun g' c' => ∃ v', K v' c' ∧ Dz T g' w v' u) :
    ∀ (vs : List AV) (us : List Value) (g : Gh) (c : Cf), St T g w a c → vs.length = us.length → (∀ (i : Nat) (v : AV) (u : Value), vs[i]? = some v → us[i]? = some u → Cz T g w v u ∧ Pre v u) → ∀ K : List AV → Cf → Prop, Fs vs c K →
      Lent T g w a c fun g' c' => ∃ l, K l c' ∧ l.length = us.length ∧ ∀ (i : Nat) (v : AV) (u : Value), l[i]? = some v → us[i]? = some u → Dz T g' w v u
  | [], [], g, c, hs, _, _, K, h => by
    rw [hn] at h
    exact ⟨g, c, ⟨[], h, rfl, fun i v u h => by simp at h⟩, hs, rfl, Cx.refl _ _ _, Ext.refl _ _⟩
  | v :: vs, u :: us, g, c, hs, hl, hp, K, h => by
    rw [hc] at h
    obtain ⟨p1, p2⟩ := hp 0 v u rfl rfl
    obtain ⟨g1, c1, ⟨v', q1, q2⟩, r1, r2, r3, r4⟩ := hF hs p1 p2 _ h
    obtain ⟨g2, c2, ⟨l, s1, s2, s3⟩, t1, t2, t3, t4⟩ := lends_sound hn hc hF vs us g1 c1 r1 (by simpa using hl) (fun i v u hv hu => by
      obtain ⟨z1, z2⟩ := hp (i + 1) v u (by simpa using hv) (by simpa using hu)
      exact ⟨z1.mono r3, z2⟩) _ q1
    refine ⟨g2, c2, ⟨v' :: l, s1, by simp [s2], fun i z y hz hy => ?_⟩, t1, t2.trans r2, r3.trans t3 (Nat.le_refl _), r4.trans t4⟩
    cases i with
    | zero => simp at hz hy; subst hz; subst hy; exact q2.mono t3.dx
    | succ i => exact s3 i z y (by simpa using hz) (by simpa using hy)
theorem lend0_sound {c : Cf} (hs : St T g w a c) {v : AV} {u : Value} (hv : Cz T g w v u) (K : AV → Cf → Prop) (h : lend0K v c K) : Lent T g w a c fun g' c' => ∃ v', K v' c' ∧ Dz T g' w v' u := by
  cases v <;> first | exact h.elim | exact lendC_sound hs hv (cz_one (fun _ h => by cases h) (fun h => by cases h) (fun _ h => by cases h) hv) K h
theorem lend0s_sound (vs : List AV) (us : Array Value) (c : Cf) (hs : St T g w a c) (hl : vs.length = us.size) (hp : ∀ (i : Nat) (v : AV) (u : Value), vs[i]? = some v → us[i]? = some u → Cz T g w v u) (K : List AV → Cf → Prop) (h : lend0sK vs c K) :
    Lent T g w a c fun g' c' => ∃ l, K l c' ∧ l.length = us.size ∧ ∀ (i : Nat) (v : AV) (u : Value), l[i]? = some v → us[i]? = some u → Dz T g' w v u := by
  obtain ⟨g', c', ⟨l, q1, q2, q3⟩, r⟩ := lends_sound (Pre := fun _ _ => True) (fun _ _ => rfl) (fun _ _ _ _ => rfl) (fun hs hv _ K h => lend0_sound hs hv K h) vs us.toList g c hs (by simpa using hl) (fun i v u hv hu => ⟨hp i v u hv (by simpa using hu), trivial⟩) K h
  exact ⟨g', c', ⟨l, q1, by simpa using q2, fun i v u hv hu => q3 i v u hv (by simpa using hu)⟩, r⟩
theorem lendF_sound {c : Cf} (hs : St T g w a c) {v : AV} {u : Value} (hv : Cz T g w v u) (h1 : u.oneCell' = true) (K : AV → Cf → Prop) (h : lendFK v c K) : Lent T g w a c fun g' c' => ∃ v', K v' c' ∧ Dz T g' w v' u := by
  cases v with
  | fn f p q =>
    obtain ⟨us, vs, rfl, ha, hb, h1, h2⟩ := cz_fn hv
    obtain ⟨g1, c1, ⟨l1, q1, q2, q3⟩, r1, r2, r3, r4⟩ := lend0s_sound p us c hs ha h1 _ h
    obtain ⟨g2, c2, ⟨l2, s1, s2, s3⟩, t1, t2, t3, t4⟩ := lend0s_sound q vs c1 r1 hb (fun i v u hv hu => (h2 i v u hv hu).mono r3) _ q1
    exact ⟨g2, c2, ⟨_, s1, .fn _ _ _ _ _ q2 s2 (fun i v u hv hu => (q3 i v u hv hu).mono t3.dx) s3⟩, t1, t2.trans r2, r3.trans t3 (Nat.le_refl _), r4.trans t4⟩
  | _ => exact lendC_sound hs hv h1 K h
theorem lendCs_sound (vs : List AV) (us : Array Value) (c : Cf) (hs : St T g w a c) (hl : vs.length = us.size) (h1 : ∀ u ∈ us, u.oneCell' = true) (hp : ∀ (i : Nat) (v : AV) (u : Value), vs[i]? = some v → us[i]? = some u → Cz T g w v u) (K : List AV → Cf → Prop) (h : lendCsK vs c K) :
    Lent T g w a c fun g' c' => ∃ l, K l c' ∧ l.length = us.size ∧ ∀ (i : Nat) (v : AV) (u : Value), l[i]? = some v → us[i]? = some u → Dz T g' w v u := by
  obtain ⟨g', c', ⟨l, q1, q2, q3⟩, r⟩ := lends_sound (Pre := fun _ u => u.oneCell' = true) (fun _ _ => rfl) (fun _ _ _ _ => rfl) (fun hs hv h1 K h => lendF_sound hs hv h1 K h) vs us.toList g c hs (by simpa using hl) (fun i v u hv hu => ⟨hp i v u hv (by simpa using hu), h1 u (by simpa using List.mem_of_getElem? hu)⟩) K h
  exact ⟨g', c', ⟨l, q1, by simpa using q2, fun i v u hv hu => q3 i v u hv (by simpa using hu)⟩, r⟩
theorem lend1_sound {c : Cf} (hs : St T g w a c) {v : AV} {u : Value} (hv : Cz T g w v u) (K : AV → Cf → Prop) (h : lend1K v c K) : Lent T g w a c fun g' c' => ∃ v', K v' c' ∧ Dz T g' w v' u := by
  cases v with
  | fn f p q =>
    obtain ⟨us, vs, rfl, ha, hb, h1, h2⟩ := cz_fn hv
    obtain ⟨g1, c1, ⟨l1, q1, q2, q3⟩, r1, r2, r3, r4⟩ := lend0s_sound p us c hs ha h1 _ h
    obtain ⟨g2, c2, ⟨l2, s1, s2, s3⟩, t1, t2, t3, t4⟩ := lend0s_sound q vs c1 r1 hb (fun i v u hv hu => (h2 i v u hv hu).mono r3) _ q1
    exact ⟨g2, c2, ⟨_, s1, .fn _ _ _ _ _ q2 s2 (fun i v u hv hu => (q3 i v u hv hu).mono t3.dx) s3⟩, t1, t2.trans r2, r3.trans t3 (Nat.le_refl _), r4.trans t4⟩
  | agg cs =>
    obtain ⟨us, rfl, hl, h1, h2⟩ := cz_agg hv
    obtain ⟨g1, c1, ⟨l1, q1, q2, q3⟩, r⟩ := lendCs_sound cs us c hs hl h1 h2 _ h
    exact ⟨g1, c1, ⟨_, q1, .agg _ _ q2 h1 q3⟩, r⟩
  | ifc t v =>
    obtain ⟨y, rfl, hy⟩ := cz_ifc hv
    have other : lend0K v c (fun v' c' => K (.ifc t v') c') → Lent T g w a c fun g' c' => ∃ v', K v' c' ∧ Dz T g' w v' (.iface t y) := fun h => by
      obtain ⟨g1, c1, ⟨l1, q1, q2⟩, r⟩ := lend0_sound hs hy _ h
      exact ⟨g1, c1, ⟨_, q1, .ifc t _ _ q2⟩, r⟩
    cases v with
    | agg cs =>
      obtain ⟨us, rfl, hl, h1, h2⟩ := cz_agg hy
      obtain ⟨g1, c1, ⟨l1, q1, q2, q3⟩, r⟩ := lendCs_sound cs us c hs hl h1 h2 _ h
      exact ⟨g1, c1, ⟨_, q1, .ifc t _ _ (.agg _ _ q2 h1 q3)⟩, r⟩
    | _ => exact other h
  | _ => exact lend0_sound hs hv K h
theorem lend1s_sound (vs : List AV) (us : Array Value) (c : Cf) (hs : St T g w a c) (hl : vs.length = us.size) (hp : ∀ (i : Nat) (v : AV) (u : Value), vs[i]? = some v → us[i]? = some u → Cz T g w v u) (K : List AV → Cf → Prop) (h : lend1sK vs c K) :
    Lent T g w a c fun g' c' => ∃ l, K l c' ∧ l.length = us.size ∧ ∀ (i : Nat) (v : AV) (u : Value), l[i]? = some v → us[i]? = some u → Dz T g' w v u := by
  obtain ⟨g', c', ⟨l, q1, q2, q3⟩, r⟩ := lends_sound (Pre := fun _ _ => True) (fun _ _ => rfl) (fun _ _ _ _ => rfl) (fun hs hv _ K h => lend1_sound hs hv K h) vs us.toList g c hs (by simpa using hl) (fun i v u hv hu => ⟨hp i v u hv (by simpa using hu), trivial⟩) K h
  exact ⟨g', c', ⟨l, q1, by simpa using q2, fun i v u hv hu => q3 i v u hv (by simpa using hu)⟩, r⟩

/-- what a callee sees of its caller's own blocks -/
def Gh.hide (g : Gh) : Gh := { g with own := fun k => match g.own k with | .lbox _ => .prot 0 | .tok _ n => .prot n | o => o }
/-- the caller's own blocks again -/
def Gh.back (g : Gh) (w : World) (g' : Gh) : Gh := { g' with own := fun k => if k < w.heap.size then (match g.own k with | .lbox j => .lbox j | .tok j n => .tok j n | _ => g'.own k) else g'.own k, lam := g.lam, nl := g.nl, tau := g.tau, nt := g.nt }
theorem hide_dx (g : Gh) (w : World) : Dx g w g.hide w := by
  refine ⟨fun k i u h1 h2 => ⟨?_, h2⟩, Nat.le_refl _, fun _ _ => rfl⟩
  unfold Gh.frz Gh.hide at *
  revert h1
  simp only
  cases g.own k <;> intro h1 <;> first | exact h1 | exact h1.elim
theorem hide_rel {G : Glob} (h : GRel T g G w) : GRel T g.hide G w := by
  intro b bx hb
  obtain ⟨h1, h2, h3⟩ := h b bx hb
  refine ⟨h1, by simp only [Gh.hide, h2], h3.keep h1 h2 (hide_dx g w) fun k hk _ => ⟨?_, rfl⟩⟩
  simp only [Gh.hide]
  revert hk
  cases g.own k <;> intro hk <;> first | rfl | exact hk.elim
theorem back_dx {g' : Gh} (h : Ext g.hide w g' w') : Dx g' w' (g.back w g') w' := by
  refine ⟨fun k i u h1 h2 => ⟨?_, h2⟩, Nat.le_refl _, fun _ _ => rfl⟩
  unfold Gh.frz Gh.back at *
  simp only
  split
  · rename_i hk
    have hkept := h.kept k hk
    cases ho : g.own k with
    | lbox j =>
      have := (hkept (by simp [Gh.hide, ho, Own.kept])).1
      rw [this] at h1
      simp only [Gh.hide, ho] at h1
      exact absurd h1 (Nat.not_lt_zero _)
    | tok j n =>
      have := (hkept (by simp [Gh.hide, ho, Own.kept])).1
      rw [this] at h1
      simp only [Gh.hide, ho] at h1
      exact h1
    | _ => exact h1
  · exact h1
theorem back_cx {g' : Gh} (h : Ext g.hide w g' w') : Cx (fun _ => False) g w (g.back w g') w' := by
  refine ⟨?_, Nat.le_refl _, fun _ _ => rfl, Nat.le_refl _, fun j hj _ => ⟨rfl, fun k n h1 h2 hk => ⟨by simp only [Gh.back, hk, if_true, h2], ?_⟩⟩⟩
  · have := (hide_dx g w).trans (h.dx.trans (back_dx h))
    exact this
  · exact (h.kept k hk (by simp [Gh.hide, h2, Own.kept])).2
theorem back_ext {g' : Gh} (h : Ext g.hide w g' w') : Ext g w (g.back w g') w' := by
  have := (back_cx h).dx
  refine ⟨this.cell, this.nb, this.beta, fun k hk hkept => ?_, h.size, h.os, h.tape, h.output⟩
  have h1 := h.kept k hk
  have h2 : (g.hide.own k).kept ∧ g.hide.own k = g.own k := by
    revert hkept; simp only [Gh.hide]; cases g.own k <;> intro hkept <;> first | exact ⟨trivial, rfl⟩ | exact hkept.elim
  obtain ⟨h3, h4⟩ := h1 h2.1
  refine ⟨?_, h4⟩
  rw [h2.2] at h3
  simp only [Gh.back, hk, if_true]
  revert hkept
  cases ho : g.own k <;> intro hkept <;> first | (rw [ho] at h3; exact h3) | exact hkept.elim
theorem back_st {g' : Gh} {c : Cf} (hs : St T g w a c) (h : Ext g.hide w g' w') {G' : Glob} (hG : GRel T g' G' w') : St T (g.back w g') w' a { c with G := G' } := by
  have cx := back_cx h
  refine St.mk' ⟨fun b bx hb => ?_, fun j bx hj => ?_, hs.rel.hL, hs.rel.hl, hs.rel.ht⟩ (hs.env.keep cx)
  · obtain ⟨h1, h2, h3⟩ := hG b bx hb
    refine ⟨h1, ?_, ?_⟩
    · simp only [Gh.back]
      split
      · rename_i hk
        have hkept := h.kept _ hk
        cases ho : g.own (g'.beta b) with
        | lbox j => have := (hkept (by simp [Gh.hide, ho, Own.kept])).1; rw [this] at h2; simp [Gh.hide, ho] at h2
        | tok j n => have := (hkept (by simp [Gh.hide, ho, Own.kept])).1; rw [this] at h2; simp [Gh.hide, ho] at h2
        | _ => exact h2
      · exact h2
    · refine h3.keep h1 h2 (back_dx h) fun k hk _ => ⟨?_, rfl⟩
      simp only [Gh.back]
      split
      · rename_i hlt
        have hkept := h.kept k hlt
        cases ho : g.own k with
        | lbox j => have := (hkept (by simp [Gh.hide, ho, Own.kept])).1; rw [this] at hk; simp only [Gh.hide, ho] at hk; exact hk.elim
        | tok j n => have := (hkept (by simp [Gh.hide, ho, Own.kept])).1; rw [this] at hk; simp only [Gh.hide, ho] at hk; exact hk.elim
        | _ => rfl
      · rfl
  · refine (hs.rel.loc j bx hj).keep (by rw [hs.rel.hl, ← hs.rel.hL]; exact (List.getElem?_eq_some_iff.1 hj).1) cx (fun org cells hb h1 => ?_)
    have hlt : g.lam j < w.heap.size := by have := hs.rel.loc j bx hj; rw [hb] at this; exact loc_lt this
    exact ⟨by simp only [Gh.back, hlt, if_true, h1], (h.kept _ hlt (by simp [Gh.hide, h1, Own.kept])).2⟩
/-- after a call -/
theorem call_sound {f : FuncId} {args : List AV} {Q : AV → Glob → Prop} {c : Cf} (hs : St T g w a c) (hc : CallOk P T f args c.G Q) (us : Array Value) (hl : us.size = args.length) (hp : ∀ (i : Nat) (v : AV) (u : Value), args[i]? = some v → us[i]? = some u → Dz T g w v u) :
    Calls P f us w fun e w' => ∃ u g' G' v, e = .returned u ∧ Q v G' ∧ St T g' w' a { c with G := G' } ∧ Ext g w g' w' ∧ Dz T g' w' v u :=
  (hc.calls g.hide us w (hide_rel hs.rel.glob) hl (fun i v u hv hu => (hp i v u hv hu).mono (hide_dx g w))).mono fun _ _ ⟨u, g', G', v, h1, h2, h3, h4, h5⟩ =>
    ⟨u, g.back w g', G', v, h1, h2, back_st hs h4 h3, back_ext h4, h5.mono (back_dx h4)⟩
theorem run_callFunc {id : FuncId} {fn : Func} {args : Array Value} (e1 : P.funcs[id]? = some fn) (e2 : (fn.name == "runtime.NumGoroutine") = false) (e3 : fn.body.isNone = false) : (callFunc id args).run P w = .ok (.enter id args) w := by
  unfold callFunc
  simp only [Sem.run_bind, run_program, Result.andThen_ok, e1, e2, e3, Bool.false_eq_true, if_false, Sem.run_pure]
theorem e_call {o : Oper} {env : List AV} {L : List LB} {nl nt : Nat} {G : Glob} (hs : St T g w a ⟨env, L, nl, nt, G⟩) (f : Operand) (args : Array Operand) (ts : Array TypeId) (ho : o.op = .call { callee := .value f, args := args, argTypes := ts })
    {next : Act → World → Prop} {Q : Exit → Act → World → Prop} {K : AV → Cf → Prop} (hn : NextOk T a o.dst next g w K) (h : evOp0 P T (.call { callee := .value f, args := args, argTypes := ts }) ⟨env, L, nl, nt, G⟩ K) : o.wp P a w next Q := by
  simp only [evOp0] at h
  obtain ⟨fv, h1, h2, h2'⟩ := opd_sound hs.env f _ h
  clear h2'
  cases fv <;> first | exact h1.elim | skip
  rename_i fn p q
  cases fn <;> first | exact h1.elim | skip
  rename_i id
  obtain ⟨us, vs, ef, hpl, hql, hp, hq⟩ := cz_fn h2
  obtain ⟨l, h3, h3', h4, h5⟩ := opds_sound hs.env args.toList _ h1
  clear h3'
  obtain ⟨g1, c1, ⟨p', q1, q2, q3⟩, r1, r2, r3, r4⟩ := lend1s_sound p us _ hs hpl hp _ h3
  obtain ⟨g2, c2, ⟨l', s1, s2, s3⟩, t1, t2, t3, t4⟩ := lend1s_sound l (args.map a.eval) c1 r1 (by simpa using h4) (fun i v u hv hu => by
    simp only [Array.getElem?_map, Option.map_eq_some_iff] at hu
    obtain ⟨x, hx, rfl⟩ := hu
    exact (h5 i v x hv (by simpa using hx)).mono r3) _ q1
  have cx2 := r3.trans t3 (Nat.le_refl _)
  obtain ⟨g3, c3, ⟨q', y1, y2, y3⟩, z1, z2, z3, z4⟩ := lend1s_sound q vs c2 t1 hql (fun i v u hv hu => (hq i v u hv hu).mono cx2) _ s1
  obtain ⟨env3, L3, nl3, nt3, G3⟩ := c3
  simp only at y1
  obtain ⟨fn, e1, e2, e3⟩ := y1.enters
  have hargs : ((us ++ args.map a.eval) ++ vs).size = (p' ++ (l' ++ q')).length := by simp [q2, s2, y2]
  have hcall := call_sound z1 y1 ((us ++ args.map a.eval) ++ vs) hargs (fun i v u hv hu => by
    rcases Nat.lt_or_ge i us.size with hi | hi
    · rw [List.getElem?_append_left (by omega)] at hv
      rw [Array.getElem?_append_left (by simp; omega), Array.getElem?_append_left hi] at hu
      exact ((q3 i v u hv hu).mono t3.dx).mono z3.dx
    · rw [List.getElem?_append_right (by omega)] at hv
      rcases Nat.lt_or_ge i (us.size + args.size) with hi2 | hi2
      · rw [List.getElem?_append_left (by simp at s2; omega)] at hv
        rw [Array.getElem?_append_left (by simp; omega), Array.getElem?_append_right hi] at hu
        exact (s3 (i - p'.length) v u hv (by rw [q2]; exact hu)).mono z3.dx
      · rw [List.getElem?_append_right (by simp at s2; omega)] at hv
        rw [Array.getElem?_append_right (by simp; omega)] at hu
        refine y3 _ v u hv ?_
        rw [show i - p'.length - l'.length = i - (us ++ args.map a.eval).size by simp at s2 ⊢; omega]
        exact hu)
  have run : (execOp a.eval o).run P w = .ok (.enter id ((us ++ args.map a.eval) ++ vs)) w := by
    simp only [execOp, ho, resolve, ef, Deferred.ofValue, invoke, Sem.run_bind, Sem.run_pure, Result.andThen_ok]
    exact run_callFunc e1 e2 e3
  unfold Oper.wp
  rw [run]
  refine Calls.mono hcall ?_
  rintro e w' ⟨u, g', G', v, rfl, hQ, hst, hext, hd⟩
  have ext2 := r4.trans (t4.trans z4)
  exact hn v _ g' w' u hQ hst.rel hst.env (.dz _ _ hd) (ext2.trans hext)
theorem e_invoke {o : Oper} {env : List AV} {L : List LB} {nl nt : Nat} {G : Glob} (hs : St T g w a ⟨env, L, nl, nt, G⟩) (r : Operand) (m : String) (args : Array Operand) (ts : Array TypeId) (ho : o.op = .call { callee := .invoke r m, args := args, argTypes := ts })
    {next : Act → World → Prop} {Q : Exit → Act → World → Prop} {K : AV → Cf → Prop} (hn : NextOk T a o.dst next g w K) (h : evOp0 P T (.call { callee := .invoke r m, args := args, argTypes := ts }) ⟨env, L, nl, nt, G⟩ K) : o.wp P a w next Q := by
  simp only [evOp0] at h
  obtain ⟨fv, h1, h2, h2'⟩ := opd_sound hs.env r _ h
  clear h2'
  cases fv <;> first | exact h1.elim | skip
  rename_i t x
  obtain ⟨u, ef, hx⟩ := cz_ifc h2
  obtain ⟨l, h3, h3', h4, h5⟩ := opds_sound hs.env args.toList _ h1
  clear h3'
  obtain ⟨g1, c1, ⟨x', q1, q2⟩, r1, r2, r3, r4⟩ := lend1_sound hs hx _ h3
  obtain ⟨g2, c2, ⟨l', s1, s2, s3⟩, t1, t2, t3, t4⟩ := lend1s_sound l (args.map a.eval) c1 r1 (by simpa using h4) (fun i v u hv hu => by
    simp only [Array.getElem?_map, Option.map_eq_some_iff] at hu
    obtain ⟨x, hx, rfl⟩ := hu
    exact (h5 i v x hv (by simpa using hx)).mono r3) _ q1
  obtain ⟨env3, L3, nl3, nt3, G3⟩ := c2
  simp only at s1
  obtain ⟨id, hm, y1⟩ := s1
  obtain ⟨fn, e1, e2, e3⟩ := y1.enters
  have hargs : (#[u] ++ args.map a.eval).size = (x' :: l').length := by simp at s2 ⊢; omega
  have hcall := call_sound t1 y1 (#[u] ++ args.map a.eval) hargs (fun i v u' hv hu => by
    cases i with
    | zero =>
      cases hv
      rw [Array.getElem?_append_left (by simp)] at hu
      cases hu
      exact q2.mono t3.dx
    | succ i =>
      rw [Array.getElem?_append_right (by simp)] at hu
      exact s3 i v u' (by simpa using hv) (by simpa using hu))
  have run : (execOp a.eval o).run P w = .ok (.enter id (#[u] ++ args.map a.eval)) w := by
    have e : (#[Value.iface t u] ++ args.map a.eval).extract 1 (#[Value.iface t u] ++ args.map a.eval).size = args.map a.eval := by
      apply Array.ext
      · simp
      · intro i h1 h2
        simp only [Array.getElem_extract]
        rw [Array.getElem_append_right (by simp)]
        simp
    have e0 : (#[Value.iface t u] ++ args.map a.eval)[0]? = some (.iface t u) := by rw [Array.getElem?_append_left (by simp)]; rfl
    simp only [execOp, ho, resolve, ef, invoke, e0, e, Sem.run_bind, Sem.run_pure, Result.andThen_ok]
    have e4 : (callMethod (.iface t u) m (args.map a.eval)).run P w = .ok (.enter id (#[u] ++ args.map a.eval)) w := by
      have h0 := hm w u
      simp only [callMethod, Sem.run_bind, run_program, Result.andThen_ok, h0]
      exact run_callFunc e1 e2 e3
    exact e4
  unfold Oper.wp
  rw [run]
  refine Calls.mono hcall ?_
  rintro e w' ⟨u, g', G', v, rfl, hQ, hst, hext, hd⟩
  exact hn v _ g' w' u hQ hst.rel hst.env (.dz _ _ hd) ((r4.trans t4).trans hext)
/-- every operation, nothing being lent for it -/
theorem evOp0_sound (TO : TOk P T) {c : Cf} (hs : St T g w a c) (o : Oper) {next : Act → World → Prop} {Q : Exit → Act → World → Prop} {K : AV → Cf → Prop} (hn : NextOk T a o.dst next g w K) (h : evOp0 P T o.op c K) : o.wp P a w next Q := by
  obtain ⟨env, L, nl, nt, G⟩ := c
  have quiet : (evOp0 P T o.op ⟨env, L, nl, nt, G⟩ K ↔ qOp T L G env o.op fun v => K v ⟨env, L, nl, nt, G⟩) → o.wp P a w next Q := fun hk => by
    rw [hk] at h
    obtain ⟨v, u, h1, h2, h3, _⟩ := qOp_sound TO hs.rel hs.env o _ h
    exact wp_value h3 (hn v _ g w u h1 hs.rel hs.env h2 (Ext.refl _ _))
  cases hop : o.op with
  | alloc t => exact e_alloc TO hs.rel hs.env t hop hn (by rw [hop] at h; exact h)
  | box t x => exact e_box hs.rel hs.env t x hop hn (by rw [hop] at h; exact h)
  | store t p x => exact e_store TO hs.rel hs.env t p x hop hn (by rw [hop] at h; exact h)
  | buildSlice t len parts => exact e_buildSlice TO hs.rel hs.env t len parts hop hn (by rw [hop] at h; exact h)
  | call c =>
    obtain ⟨callee, args, ts⟩ := c
    cases callee with
    | value f => exact e_call hs f args ts hop hn (by rw [hop] at h; exact h)
    | invoke r m => exact e_invoke hs r m args ts hop hn (by rw [hop] at h; exact h)
    | builtin b =>
      cases b with
      | append =>
        rw [hop] at h
        simp only [evOp0] at h
        obtain ⟨l⟩ := args
        obtain ⟨l2⟩ := ts
        match l, l2, h, hop with
        | [s, x], [t, t'], h, hop =>
          simp only at h
          cases hd : (T t).desc <;> simp only [hd] at h <;> first | exact h.elim | skip
          rename_i e
          by_cases htt : t = t'
          · subst htt
            simp only [decide_true] at h
            cases hk : kindD (T e).desc with
            | none => simp only [hk] at h
            | some kb =>
              cases hc : (T e).cells with
              | zero => simp only [hk, hc] at h
              | succ n =>
                simp only [hk, hc] at h
                exact e_append TO hs.rel hs.env s x t e hop hd (by rw [hk]; simp) (by omega) hn h
          · simp only [decide_eq_false htt] at h
      | delete => exact e_delete TO hs.rel hs.env args ts hop hn (by rw [hop] at h; exact h)
      | _ => exact quiet (by rw [hop]; exact Iff.rfl)
  | mapUpdate t m k x => exact e_mapUpdate TO hs.rel hs.env t m k x hop hn (by rw [hop] at h; exact h)
  | _ => exact quiet (by rw [hop]; exact Iff.rfl)
theorem preK_sound {c : Cf} (hs : St T g w a c) {p v : AV} (K : Cf → Prop) (h : preK c.L p v c K) : ∃ g' c', K c' ∧ St T g' w a c' ∧ Ext g w g' w := by
  unfold preK at h
  have lend : ∀ j, (lendK j c fun _ c' => K c') → ∃ g' c', K c' ∧ St T g' w a c' ∧ Ext g w g' w := fun j h => by
    obtain ⟨g', c', ⟨b, q1, _⟩, r1, _, _, r4⟩ := lend_sound hs j _ h
    exact ⟨g', c', q1, r1, r4⟩
  split at h
  · split at h
    · obtain ⟨bx, _, h⟩ := (nthK_iff _ _).1 h
      cases bx with
      | live org cells => exact ⟨g, c, h, hs, Ext.refl _ _⟩
      | away b => exact lend _ h
      | dead => exact lend _ h
    · exact lend _ h
  · exact ⟨g, c, h, hs, Ext.refl _ _⟩
/-- every operation -/
theorem evOp_sound (TO : TOk P T) {c : Cf} (hs : St T g w a c) (o : Oper) {next : Act → World → Prop} {Q : Exit → Act → World → Prop} {K : AV → Cf → Prop} (hn : NextOk T a o.dst next g w K) (h : evOp P T o.op c K) : o.wp P a w next Q := by
  obtain ⟨env, L, nl, nt, G⟩ := c
  have quiet : (evOp P T o.op ⟨env, L, nl, nt, G⟩ K ↔ evOp0 P T o.op ⟨env, L, nl, nt, G⟩ K) → o.wp P a w next Q := fun hk => evOp0_sound TO hs o hn (hk.1 h)
  have from' : ∀ {g' : Gh}, Ext g w g' w → NextOk T a o.dst next g' w K := fun hx v c' g2 w2 u h1 h2 h3 h4 h5 => hn v c' g2 w2 u h1 h2 h3 h4 (hx.trans h5)
  cases hop : o.op with
  | alloc t =>
    rw [hop] at h
    simp only [evOp] at h
    cases hb : (T t).bld with
    | none =>
      simp only [hb] at h
      exact evOp0_sound TO hs o hn (by rw [hop]; exact h)
    | some e =>
      simp only [hb] at h
      cases hk : kindD (T t).desc with
      | none => simp only [hk] at h
      | some kb =>
        simp only [hk] at h
        exact e_allocB TO hs.rel hs.env t hop hn hb (by rw [hk]; simp) h
  | box t x =>
    rw [hop] at h
    simp only [evOp] at h
    cases hb : (T t).obld with
    | none =>
      simp only [hb] at h
      exact evOp0_sound TO hs o hn (by rw [hop]; exact h)
    | some e =>
      simp only [hb] at h
      exact e_boxO hs.rel hs.env t x hop hn hb h
  | store t p x =>
    rw [hop] at h
    simp only [evOp] at h
    obtain ⟨pv, h, _, _⟩ := opd_sound hs.env p _ h
    obtain ⟨v, h, _, _⟩ := opd_sound hs.env x _ h
    obtain ⟨g', c', h, hs', hx⟩ := preK_sound hs _ h
    exact evOp0_sound TO hs' o (from' hx) (by rw [hop]; exact h)
  | mapUpdate t m k x =>
    rw [hop] at h
    simp only [evOp] at h
    obtain ⟨v, h, _, _⟩ := opd_sound hs.env x _ h
    obtain ⟨g', c', h, hs', hx⟩ := preK_sound hs _ h
    exact evOp0_sound TO hs' o (from' hx) (by rw [hop]; exact h)
  | makeMap t r =>
    cases r with
    | some x => exact quiet (by rw [hop]; exact Iff.rfl)
    | none =>
      rw [hop] at h
      simp only [evOp] at h
      cases hd : (T t).desc <;> simp only [hd] at h
      rename_i kt et
      cases hkd : (T kt).desc <;> simp only [hkd] at h
      · exact e_makeMap hs.rel hs.env t hop hn (some _) h
      · exact e_makeMap hs.rel hs.env t hop hn none h
  | _ => exact quiet (by rw [hop]; exact Iff.rfl)
end
end Go.Proofs.YtpihanlillbhkaaGreatDoor
end

section
/- The abstract run of code, of a function's body: what holds of it holds of the run of the program. -/
namespace Go.Proofs.YtpihanlillbhkaaGreatDoor
open Go Go.RowKit

section
variable {P : Program} {T : TypeId → TR}

theorem arr_getD (xs : Array Value) (i : Nat) (h : i < xs.size) : xs.getD i undef = xs[i] := by simp [Array.getD, h]
theorem EnvR.put {g : Gh} {w : World} {env : List AV} {a : Act} (h : EnvR T g w env a) {d : Tmp} {v : AV} {u : Value} (hv : Cz T g w v u) : EnvR T g w (env.set d v) (a.put (some d) u) := by
  refine ⟨by simp [Act.put, h.size], fun i x hi => ?_, h.defers⟩
  have hil := (List.getElem?_eq_some_iff.1 hi).1
  simp only [List.length_set] at hil
  have hsz := h.size
  by_cases hid : i = d
  · subst hid
    rw [List.getElem?_set_self hil] at hi
    simp only [Option.some.injEq] at hi
    subst hi
    have : (a.put (some i) u).tmps.getD i undef = u := by simp [Act.put, Array.getD, hsz, hil]
    rw [this]; exact hv
  · rw [List.getElem?_set_ne (Ne.symm hid)] at hi
    have : (a.put (some d) u).tmps.getD i undef = a.tmps.getD i undef := by
      show (a.tmps.setIfInBounds d u).getD i undef = _
      rw [arr_getD _ _ (by simp; omega), arr_getD _ _ (by omega), Array.getElem_setIfInBounds_ne _ (Ne.symm hid)]
    rw [this]; exact h.vals i x hi
theorem put_sound {g : Gh} {w : World} {a : Act} {c : Cf} (hs : St T g w a c) {dst : Option Tmp} {v : AV} {u : Value} (hv : Cz T g w v u) (K : Cf → Prop) (h : putE dst v c K) : ∃ c', K c' ∧ St T g w (a.put dst u) c' := by
  obtain ⟨env, L, nl, nt, G⟩ := c
  cases dst with
  | none => exact ⟨_, h, hs⟩
  | some d =>
    simp only [putE, setK_iff] at h
    exact ⟨_, h.2, St.mk' hs.rel (hs.env.put hv)⟩
theorem evOps_sound (TO : TOk P T) (all : List Oper) {Q : Exit → Act → World → Prop} : ∀ (l : List Oper) (g : Gh) (w : World) (a : Act) (c : Cf) (K : Cf → Prop), evOps P T all l c K → St T g w a c →
    (∀ g' w' a' c', K c' → St T g' w' a' c' → Ext g w g' w' → Q .normal a' w') → wpList P all.toArray Q l a w
  | [], g, w, a, c, K, h, hs, hk => hk g w a c h hs (Ext.refl _ _)
  | o :: r, g, w, a, c, K, h, hs, hk => by
    obtain ⟨dst, op, ty, pos, after, gd⟩ := o
    -- it is carried out
    have go : (evOp P T op c fun v c' => putE dst v c' fun c'' => evOps P T all r c'' K) → Oper.wp P ⟨dst, op, ty, pos, after, gd⟩ a w (wpList P all.toArray Q r) Q := fun h => by
      refine evOp_sound TO hs ⟨dst, op, ty, pos, after, gd⟩ (fun v c' g' w' u hK hrel henv hv hext => ?_) h
      obtain ⟨c'', hK', hs'⟩ := put_sound (St.mk' hrel henv) hv _ hK
      exact evOps_sound TO all r g' w' _ c'' K hK' hs' (fun g2 w2 a2 c2 h1 h2 h3 => hk g2 w2 a2 c2 h1 h2 (hext.trans h3))
    -- it is passed over
    have skip : (putE dst (.tup []) c fun c'' => evOps P T all r c'' K) → wpList P all.toArray Q r (a.put dst undef) w := fun h => by
      obtain ⟨c'', hK', hs'⟩ := put_sound hs (u := undef) (.tup _ _ rfl fun i c u hc => by simp at hc) _ h
      exact evOps_sound TO all r g w _ c'' K hK' hs' hk
    cases gd with
    | none =>
      simp only [evOps] at h
      unfold wpList
      rw [if_pos (by simp [Region.wanted])]
      exact .inl (go h)
    | some jw =>
      obtain ⟨j, want⟩ := jw
      simp only [evOps] at h
      obtain ⟨oj, hj, h⟩ := (nthK_iff _ _).1 h
      cases hd : oj.dst with
      | none => simp only [hd] at h
      | some d =>
        simp only [hd] at h
        obtain ⟨bv, hb, h⟩ := (nthK_iff _ _).1 h
        have hlt := (List.getElem?_eq_some_iff.1 hb).1
        have at_ : ∀ u, a.tmps.getD d undef = u → a.tmps[d]? = some u := fun u hu => by
          have hdl : d < a.tmps.size := by rw [hs.size]; exact hlt
          rw [Array.getElem?_eq_getElem hdl]
          rw [arr_getD a.tmps d hdl] at hu
          rw [hu]
        unfold wpList
        rcases guardK_is h with ⟨b, rfl, k⟩ | ⟨rfl, k⟩
        · have hy : yielded all.toArray a.tmps j = some b := by
            simp only [yielded, List.getElem?_toArray, hj, Option.bind_some, hd, at_ _ (cz_bool (hs.vals d _ hb))]
          rcases k with ⟨hbw, k⟩ | ⟨hbw, k⟩
          · rw [if_pos (by simp [Region.wanted, hy, hbw])]
            exact .inl (go k)
          · rw [if_neg (by simp [Region.wanted, hy, hbw])]
            exact skip k
        · obtain ⟨us, hu, _, _⟩ := cz_tup (hs.vals d _ hb)
          have hy : yielded all.toArray a.tmps j = none := by
            simp only [yielded, List.getElem?_toArray, hj, Option.bind_some, hd, at_ _ hu]
          rw [if_neg (by simp [Region.wanted, hy])]
          exact skip k

def exOf : Ex → Exit
  | .normal => .normal
  | .exit id => .exit id
  | .ret => .ret
/-- a run from a state to one of which Q holds -/
def Lift (T : TypeId → TR) (Q : Ex → Cf → Prop) (g : Gh) (w : World) (e : Exit) (a' : Act) (w' : World) : Prop := ∃ ex c' g', e = exOf ex ∧ Q ex c' ∧ St T g' w' a' c' ∧ Ext g w g' w'
theorem Lift.from {Q : Ex → Cf → Prop} {g g1 : Gh} {w w1 : World} {e : Exit} {a' : Act} {w' : World} (h : Lift T Q g1 w1 e a' w') (hx : Ext g w g1 w1) : Lift T Q g w e a' w' := by
  obtain ⟨ex, c', g', h1, h2, h3, h4⟩ := h
  exact ⟨ex, c', g', h1, h2, h3, hx.trans h4⟩
theorem wp_loop_ix {ι : Type} {Q : Exit → Act → World → Prop} {a : Act} {w : World} {c : Code} (I : ι → Act → World → Prop) (μ : ι → Nat) (i0 : ι) (h0 : I i0 a w)
    (round : ∀ i a w, I i a w → c.wp P (Exit.then (fun a' w' => ∃ i', I i' a' w' ∧ μ i' < μ i) Q) a w) : (Code.loop c).wp P Q a w := by
  intro b k cs
  have key : ∀ n i a w, μ i = n → I i a w →
      ∃ e a' w', Q e a' w' ∧ Arrives P (lone (b.at a (.code c :: .inLoop c :: k)) cs w) b k cs e a' w' := by
    intro n
    induction n using Nat.strongRecOn with
    | _ n ih =>
      intro i a w hn hI
      obtain ⟨e, a₁, w₁, hq, harr⟩ := round i a w hI b (.inLoop c :: k) cs
      cases e with
      | normal =>
        obtain ⟨i', hI₁, hlt⟩ := hq
        obtain ⟨e₂, a₂, w₂, hq₂, harr₂⟩ := ih (μ i') (hn ▸ hlt) i' a₁ w₁ rfl hI₁
        exact ⟨e₂, a₂, w₂, hq₂, .of_steps (Steps.trans harr (.one step_inLoop)) harr₂⟩
      | exit id => exact ⟨_, a₁, w₁, hq, .pass (x := .inLoop c) rfl (fun _ _ => .inl (by simp)) harr⟩
      | goto l => exact ⟨_, a₁, w₁, hq, .pass (x := .inLoop c) rfl (fun _ _ => .inl (by simp)) harr⟩
      | ret => exact ⟨_, a₁, w₁, hq, .pass (x := .inLoop c) rfl (fun _ _ => .inl (by simp)) harr⟩
      | panic ch => exact ⟨_, a₁, w₁, hq, .pass (x := .inLoop c) rfl (fun _ _ => .inl (by simp)) harr⟩
      | outgrown => exact ⟨_, a₁, w₁, hq, .pass (x := .inLoop c) rfl (fun _ _ => .inl (by simp)) harr⟩
  obtain ⟨e, a', w', hq, harr⟩ := key _ i0 a w rfl h0
  exact ⟨e, a', w', hq, .of_steps (.one step_loop) harr⟩
theorem wpC_sound (TO : TOk P T) : ∀ (code : Code) (c : Cf) (Q : Ex → Cf → Prop) (g : Gh) (w : World) (a : Act), wpC P T code c Q → St T g w a c → code.wp P (Lift T Q g w) a w := by
  intro code
  induction code with
  | skip => exact fun c Q g w a h hs => wp_skip ⟨.normal, c, g, rfl, h, hs, Ext.refl _ _⟩
  | label l => exact fun c Q g w a h hs => wp_label ⟨.normal, c, g, rfl, h, hs, Ext.refl _ _⟩
  | exit id => exact fun c Q g w a h hs => wp_exit ⟨.exit id, c, g, rfl, h, hs, Ext.refl _ _⟩
  | ret => exact fun c Q g w a h hs => wp_ret ⟨.ret, c, g, rfl, h, hs, Ext.refl _ _⟩
  | region id ops draw =>
    intro c Q g w a h hs
    cases draw with
    | true => exact h.draw g a w hs id _ (fun g' w' a' c' h1 h2 h3 => ⟨.normal, c', g', rfl, h1, h2, h3⟩)
    | false =>
      refine wp_region_list ?_
      have := evOps_sound (Q := Lift T Q g w) TO ops.toList ops.toList g w a c _ h hs (fun g' w' a' c' h1 h2 h3 => ⟨.normal, c', g', rfl, h1, h2, h3⟩)
      simpa using this
  | seq x y ihx ihy =>
    intro c Q g w a h hs
    refine wp_seq (wp_mono (ihx c _ g w a h hs) ?_)
    rintro e a' w' ⟨ex, c', g', rfl, h1, h2, h3⟩
    cases ex with
    | normal => exact wp_mono (ihy c' Q g' w' a' h1 h2) (fun e a w h => h.from h3)
    | exit id => exact ⟨.exit id, c', g', rfl, h1, h2, h3⟩
    | ret => exact ⟨.ret, c', g', rfl, h1, h2, h3⟩
  | cond x y z ihy ihz =>
    intro c Q g w a h hs
    obtain ⟨v, h1, h2, h3⟩ := opd_sound hs.env x _ h
    clear h3
    cases v <;> first | exact h1.elim | skip
    rename_i t
    have e := cz_bool h2
    cases t with
    | true => exact wp_cond_true e (ihy c Q g w a h1 hs)
    | false => exact wp_cond_false e (ihz c Q g w a h1 hs)
  | block id b ih =>
    intro c Q g w a h hs
    refine wp_block (wp_mono (ih c _ g w a h hs) ?_)
    rintro e a' w' ⟨ex, c', g', rfl, h1, h2, h3⟩
    cases ex with
    | normal => exact ⟨.normal, c', g', rfl, h1, h2, h3⟩
    | exit i =>
      by_cases hi : i = id
      · simp only [decide_eq_true hi] at h1
        simp only [exOf, Exit.inBlock, if_pos hi]
        exact ⟨.normal, c', g', rfl, h1, h2, h3⟩
      · simp only [decide_eq_false hi] at h1
        simp only [exOf, Exit.inBlock, if_neg hi]
        exact ⟨.exit i, c', g', rfl, h1, h2, h3⟩
    | ret => exact ⟨.ret, c', g', rfl, h1, h2, h3⟩
  | loop b ih =>
    intro c Q g w a h hs
    obtain ⟨ι, I, μ, i0, hw, hround⟩ := h
    obtain ⟨g0, hs0, hx0⟩ := hw.weak g a w hs
    refine wp_loop_ix (fun i a' w' => ∃ g', St T g' w' a' (I i) ∧ Ext g w g' w') μ i0 ⟨g0, hs0, hx0⟩ ?_
    rintro i a' w' ⟨g', hs', hx'⟩
    refine wp_mono (ih (I i) _ g' w' a' (hround i) hs') ?_
    rintro e a2 w2 ⟨ex, c2, g2, rfl, h1, h2, h3⟩
    cases ex with
    | normal =>
      obtain ⟨i', hlt, hw'⟩ := h1
      obtain ⟨g3, hs3, hx3⟩ := hw'.weak g2 a2 w2 h2
      exact ⟨i', ⟨g3, hs3, hx'.trans (h3.trans hx3)⟩, hlt⟩
    | exit id => exact ⟨.exit id, c2, g2, rfl, h1, h2, hx'.trans h3⟩
    | ret => exact ⟨.ret, c2, g2, rfl, h1, h2, hx'.trans h3⟩
  | rangeFunc f ps x y ihx ihy => exact fun c Q g w a h hs => h.elim
  | scope b ih => exact fun c Q g w a h hs => h.elim
  | goto l => exact fun c Q g w a h hs => h.elim
  | refuse s => exact fun c Q g w a h hs => h.elim

/-- results -/
def resF (tmps : Array Value) : ResultVar → Sem Value
  | .tmp t => pure (tmps.getD t undef)
  | .cell x t => do loadVar t (← asAddr (tmps.getD x undef))
theorem results_eq (fn : Func) (tmps : Array Value) : results fn tmps = (do let vs ← fn.results.mapM (resF tmps); pure (if h : vs.size = 1 then vs[0] else .tuple vs)) := by
  unfold results
  congr 1
theorem ress_sound (TO : TOk P T) {g : Gh} {w : World} {a : Act} {c : Cf} (hs : St T g w a c) : ∀ (rs : List ResultVar) (K : List AV → Prop), ressK T c rs K → ∃ (l : List AV) (us : List Value), K l ∧ l.length = us.length ∧
    (rs.mapM (resF a.tmps)).run P w = .ok us w ∧ ∀ (i : Nat) (v : AV) (u : Value), l[i]? = some v → us[i]? = some u → Cz T g w v u
  | [], K, h => ⟨[], [], h, rfl, rfl, fun i v u h => by simp at h⟩
  | .tmp t :: r, K, h => by
    obtain ⟨v, h1, h2⟩ := (nthK_iff _ _).1 h
    obtain ⟨l, us, h3, h4, h5, h6⟩ := ress_sound TO hs r _ h2
    refine ⟨v :: l, a.tmps.getD t undef :: us, h3, by simp [h4], ?_, fun i x u hx hu => ?_⟩
    · simp only [List.mapM_cons, resF, Sem.run_bind, Sem.run_pure, Result.andThen_ok, h5]
    · cases i with
      | zero => simp only [List.getElem?_cons_zero, Option.some.injEq] at hx hu; subst hx; subst hu; exact hs.vals t _ h1
      | succ i => exact h6 i x u (by simpa using hx) (by simpa using hu)
  | .cell x t :: r, K, h => by
    obtain ⟨p, h1, h2⟩ := (nthK_iff _ _).1 h
    obtain ⟨cells, of, h4, h5, _⟩ := box_sound hs.rel (hs.vals x _ h1) _ h2
    obtain ⟨v, y, ad, g1, g2, g3, g4, _⟩ := sub_sound TO h5 t _ h4
    obtain ⟨l, us, q3, q4, q5, q6⟩ := ress_sound TO hs r _ g1
    refine ⟨v :: l, y :: us, q3, by simp [q4], ?_, fun i z u hz hu => ?_⟩
    · simp only [List.mapM_cons, resF, Sem.run_bind, Sem.run_pure, Result.andThen_ok, q5, g3, asAddr, g4]
    · cases i with
      | zero => simp at hz hu; subst hz; subst hu; exact g2
      | succ i => exact q6 i z u (by simpa using hz) (by simpa using hu)
theorem res_sound (TO : TOk P T) {g : Gh} {w : World} {a : Act} {c : Cf} (hs : St T g w a c) (fn : Func) (K : AV → Prop) (h : resK T c fn.results.toList K) : ∃ v u, K v ∧ (results fn a.tmps).run P w = .ok u w ∧ Cz T g w v u := by
  obtain ⟨l, us, h1, h2, h3, h4⟩ := ress_sound TO hs _ _ h
  have hm : (fn.results.mapM (resF a.tmps)).run P w = .ok us.toArray w := by
    rw [Array.mapM_eq_mapM_toList]
    simp only [Sem.run_map, h3, Result.andThen_ok]
  have tup : ∀ (_ : us.length ≠ 1), K (.tup l) → ∃ v u, K v ∧ (results fn a.tmps).run P w = .ok u w ∧ Cz T g w v u := fun h0 hK => by
    refine ⟨.tup l, .tuple us.toArray, hK, ?_, .tup _ _ (by simpa using h2) (fun i v u hv hu => h4 i v u hv (by simpa using hu))⟩
    rw [results_eq]
    simp only [Sem.run_bind, hm, Result.andThen_ok]
    rw [dif_neg (by simpa using h0)]
    rfl
  match l, us, h1, h2, h4, hm, tup with
  | [], [], h1, _, _, _, tup => exact tup (by simp) h1
  | [v], [u], h1, _, h4, hm, _ =>
    refine ⟨v, u, h1, ?_, h4 0 v u rfl rfl⟩
    rw [results_eq]
    simp only [Sem.run_bind, hm, Result.andThen_ok]
    rfl
  | v :: v2 :: l, u :: u2 :: us, h1, _, _, _, tup => exact tup (by simp) h1
theorem back_sound {w : World} {a : Act} : ∀ (n j : Nat) (g : Gh) (c : Cf) (K : Cf → Prop), St T g w a c → backK n j c K → ∃ g' c', K c' ∧ St T g' w a c' ∧ Dx g w g' w ∧ Ext g w g' w
  | 0, j, g, c, K, hs, h => ⟨g, c, h, hs, Dx.refl _ _, Ext.refl _ _⟩
  | n + 1, j, g, c, K, hs, h => by
    obtain ⟨bx, hj, h⟩ := (nthK_iff _ _).1 h
    have plain : backK n (j + 1) c K → ∃ g' c', K c' ∧ St T g' w a c' ∧ Dx g w g' w ∧ Ext g w g' w := fun h => back_sound n (j + 1) g c K hs h
    match bx, h with
    | .live (some b) cells, h =>
      obtain ⟨g1, c1, ⟨b', q1, _⟩, r1, _, r3, r4⟩ := lend_sound hs j _ h
      obtain ⟨g2, c2, s1, s2, s3, s4⟩ := back_sound n (j + 1) g1 c1 K r1 q1
      exact ⟨g2, c2, s1, s2, r3.dx.trans s3, r4.trans s4⟩
    | .live none cells, h => exact plain h
    | .away b, h => exact plain h
    | .dead, h => exact plain h
theorem lend2_sound {g : Gh} {w : World} {a : Act} {c : Cf} (hs : St T g w a c) {v : AV} {u : Value} (hv : Cz T g w v u) (K : AV → Cf → Prop) (h : lend2K v c K) : Lent T g w a c fun g' c' => ∃ v', K v' c' ∧ Dz T g' w v' u := by
  cases v with
  | tup vs =>
    obtain ⟨us, rfl, hl, hp⟩ := cz_tup hv
    obtain ⟨g', c', ⟨l, q1, q2, q3⟩, r⟩ := lend1s_sound vs us c hs hl hp _ h
    exact ⟨g', c', ⟨_, q1, .tup _ _ q2 q3⟩, r⟩
  | _ => exact lend1_sound hs hv K h
theorem fin_sound (TO : TOk P T) {g : Gh} {w : World} {a : Act} {c : Cf} (hs : St T g w a c) (fn : Func) (Q : AV → Glob → Prop) (h : finK T fn.results.toList Q c) :
    ∃ u g' G' v, (results fn a.tmps).run P w = .ok u w ∧ Q v G' ∧ GRel T g' G' w ∧ Ext g w g' w ∧ Dz T g' w v u := by
  obtain ⟨v, u, h1, h2, h3⟩ := res_sound TO hs fn _ h
  obtain ⟨g1, c1, ⟨v', q1, q2⟩, r1, _, _, r4⟩ := lend2_sound hs h3 _ h1
  obtain ⟨g2, c2, ⟨G'', s1, s2⟩, t1, t2, t3⟩ := back_sound _ _ g1 c1 _ r1 q1
  exact ⟨u, g2, G'', v', h2, s2, fun b bx hb => t1.rel.glob b bx (s1 b bx hb), r4.trans t3, q2.mono t2⟩
theorem topsK_iff : ∀ (n : Nat) (K : List AV → Prop), topsK n K ↔ K (List.replicate n .top)
  | 0, K => Iff.rfl
  | n + 1, K => by simp only [topsK, topsK_iff n, List.replicate_succ]
theorem catK_iff : ∀ (l m : List AV) (K : List AV → Prop), catK l m K ↔ K (l ++ m)
  | [], m, K => Iff.rfl
  | v :: r, m, K => by simp only [catK, catK_iff r m, List.cons_append]
/-- a function: its body's abstract run -/
theorem call_body (TO : TOk P T) {f : FuncId} {fn : Func} {code : Code} {args : List AV} {G : Glob} {Q : AV → Glob → Prop} (hf : P.funcs[f]? = some fn) (hb : fn.body = some code) (hname : (fn.name == "runtime.NumGoroutine") = false) {n : Nat} (hnt : fn.ntmps = n) {rs : Array ResultVar} (hrs : fn.results = rs)
    (h : bodyK P T n rs.toList code args G Q) : CallOk P T f args G Q := by
  subst hnt
  subst hrs
  refine ⟨⟨fn, hf, hname, by rw [hb]; rfl⟩, fun g us w hg hl hp => ?_⟩
  unfold bodyK at h
  rw [topsK_iff, catK_iff] at h
  refine calls_of_wp hf hb ?_
  have hs : St T { g with nl := 0, nt := 0 } w { tmps := us ++ Array.replicate (fn.ntmps - us.size) undef, defers := [] } ⟨args ++ List.replicate (fn.ntmps - args.length) .top, [], 0, 0, G⟩ := by
    have dx : Dx g w { g with nl := 0, nt := 0 } w := ⟨fun _ _ _ h1 h2 => ⟨h1, h2⟩, Nat.le_refl _, fun _ _ => rfl⟩
    refine ⟨⟨fun b bx hb => ?_, fun j bx hj => by simp at hj, rfl, rfl, rfl⟩, by simp [hl], fun i v hv => ?_, rfl⟩
    · obtain ⟨h1, h2, h3⟩ := hg b bx hb
      exact ⟨h1, h2, h3.keep h1 h2 dx fun _ _ _ => ⟨rfl, rfl⟩⟩
    · rcases Nat.lt_or_ge i args.length with hi | hi
      · rw [List.getElem?_append_left hi] at hv
        have hu : us[i]? = some us[i] := Array.getElem?_eq_getElem (by omega)
        have e : (us ++ Array.replicate (fn.ntmps - us.size) undef).getD i undef = us[i] := by
          simp only [Array.getD, Array.size_append]
          rw [dif_pos (by omega), Array.getInternal_eq_getElem, Array.getElem_append_left]
        show Cz T _ w v ((us ++ Array.replicate (fn.ntmps - us.size) undef).getD i undef)
        rw [e]
        exact .dz _ _ ((hp i v _ hv hu).mono dx)
      · rw [List.getElem?_append_right hi] at hv
        have := List.mem_of_getElem? hv
        rw [List.mem_replicate] at this
        rw [this.2]
        exact .any _
  have hx : Ext g w { g with nl := 0, nt := 0 } w := ⟨fun _ _ _ h1 h2 => ⟨h1, h2⟩, Nat.le_refl _, fun _ _ => rfl, fun _ _ _ => ⟨rfl, rfl⟩, Nat.le_refl _, rfl, rfl, rfl⟩
  refine wp_mono (wpC_sound TO code _ _ _ w _ h hs) ?_
  rintro e a' w' ⟨ex, c', g', rfl, h1, h2, h3⟩
  have fin : finK T fn.results.toList Q c' → a'.defers = [] ∧ ∃ v, (results fn a'.tmps).run P w' = .ok v w' ∧ ∃ u g'' G' v', Ending.returned v = .returned u ∧ Q v' G' ∧ GRel T g'' G' w' ∧ Ext g w g'' w' ∧ Dz T g'' w' v' u := fun h => by
    obtain ⟨u, g2, G', v, q1, q2, q3, q4, q5⟩ := fin_sound TO h2 fn Q h
    exact ⟨h2.defers, u, q1, u, g2, G', v, rfl, q2, q3, (hx.trans h3).trans q4, q5⟩
  cases ex with
  | normal => exact fin h1
  | exit id => exact h1.elim
  | ret => exact fin h1
theorem CallOk.mono {f : FuncId} {args : List AV} {G : Glob} {Q Q' : AV → Glob → Prop} (h : CallOk P T f args G Q) (hq : ∀ v G', Q v G' → Q' v G') : CallOk P T f args G Q' :=
  ⟨h.enters, fun g us w h1 h2 h3 => (h.calls g us w h1 h2 h3).mono fun _ _ ⟨u, g', G', v, q1, q2, q3⟩ => ⟨u, g', G', v, q1, hq _ _ q2, q3⟩⟩
/-- at a call: the one value that comes back, and what of the shared boxes is there then -/
theorem CallOk.on {f : FuncId} {args : List AV} {G G1 : Glob} {v : AV} {Q : AV → Glob → Prop} (h : CallOk P T f args G fun x G' => x = v ∧ G' = G1) (hq : Q v G1) : CallOk P T f args G Q :=
  h.mono fun _ _ ⟨h1, h2⟩ => by rw [h1, h2]; exact hq
end
end Go.Proofs.YtpihanlillbhkaaGreatDoor
end

section
/- What is known at a loop's head: less than what is known ahead of it; rows of the call's own under new numbers. -/
namespace Go.Proofs.YtpihanlillbhkaaGreatDoor
open Go Go.RowKit

/-- v' says at most what v says; rs: under which number each row was kept -/
def le0 (rs : List (Option Nat)) (nl : Nat) : AV → AV → Prop
  | _, .top => True
  | .own j e els, .own i e' els' => rs[i]? = some (some j) ∧ e = e' ∧ els = els'
  | .nils, .own i _ els' => rs[i]? = some none ∧ els' = []
  | .own _ e els, .slc e' els' => e = e' ∧ els = els'
  | .slc e els, .slc e' els' => e = e' ∧ els = els'
  | .nils, .slc _ els' => els' = []
  | .nils, .nils => True
  | .int k n, .int k' n' => k = k' ∧ n = n'
  | .bool b, .bool b' => b = b'
  | .str s, .str s' => s = s'
  | .lptr j o, .lptr j' o' => (j = j' ∧ j < nl) ∧ o = o'
  | .gptr b o, .gptr b' o' => b = b' ∧ o = o'
  | .nilp, .nilp => True
  | .nilf, .nilf => True
  | .nili, .nili => True
  | .nilm, .nilm => True
  | .mp b, .mp b' => b = b'
  | .eref c o, .eref c' o' => c = c' ∧ o = o'
  | _, _ => False
def le0s (rs : List (Option Nat)) (nl : Nat) : List AV → List AV → Prop
  | [], [] => True
  | v :: r, v' :: r' => le0 rs nl v v' ∧ le0s rs nl r r'
  | _, _ => False
def le1 (rs : List (Option Nat)) (nl : Nat) : AV → AV → Prop
  | .agg cs, .agg ds => le0s rs nl cs ds
  | .fn f a b, .fn f' a' b' => f = f' ∧ le0s rs nl a a' ∧ le0s rs nl b b'
  | v, v' => le0 rs nl v v'
def le1s (rs : List (Option Nat)) (nl : Nat) : List AV → List AV → Prop
  | [], [] => True
  | v :: r, v' :: r' => le1 rs nl v v' ∧ le1s rs nl r r'
  | _, _ => False
def leL (rs : List (Option Nat)) (nl : Nat) : List LB → List LB → Prop
  | _, [] => True
  | .live org cells :: r, .live org' cells' :: r' => (org = org' ∧ le1s rs nl cells cells') ∧ leL rs nl r r'
  | .away b :: r, .away b' :: r' => b = b' ∧ leL rs nl r r'
  | _ :: r, .dead :: r' => leL rs nl r r'
  | _, _ => False
def nodupB (nt : Nat) : List (Option Nat) → Bool
  | [] => true
  | none :: r => nodupB nt r
  | some j :: r => decide (j < nt) && !(r.contains (some j)) && nodupB nt r
def RsOk (rs : List (Option Nat)) : Prop := ∀ (i j : Nat), rs[i]? = some (some j) → ∀ i' : Nat, rs[i']? = some (some j) → i' = i
theorem rsOk_of {nt : Nat} : ∀ {rs : List (Option Nat)}, nodupB nt rs = true → RsOk rs
  | [], _ => fun i j h => by simp at h
  | none :: r, h => by
    have ih := rsOk_of (rs := r) h
    intro i j hi i' hi'
    cases i <;> cases i' <;> simp at hi hi'
    rw [ih _ _ hi _ hi']
  | some q :: r, h => by
    simp only [nodupB, Bool.and_eq_true, Bool.not_eq_true', decide_eq_true_eq] at h
    have ih := rsOk_of (rs := r) h.2
    have hn : some q ∉ r := by have := h.1.2; simpa using this
    intro i j hi i' hi'
    cases i with
    | zero =>
      simp at hi
      subst hi
      cases i' with
      | zero => rfl
      | succ i' => simp at hi'; exact absurd (List.mem_of_getElem? hi') hn
    | succ i =>
      simp at hi
      cases i' with
      | zero => simp at hi'; subst hi'; exact absurd (List.mem_of_getElem? hi) hn
      | succ i' => simp at hi'; rw [ih _ _ hi _ hi']
def weakP (rs : List (Option Nat)) (c' c : Cf) : Prop :=
  le1s rs c'.nl c.env c'.env ∧ leL rs c'.nl c.L c'.L ∧ (∀ b x, c'.G b = some x → c.G b = some x) ∧ c'.L.length = c'.nl ∧ c'.nl ≤ c.nl ∧ c'.nt = rs.length ∧ nodupB c.nt rs = true

section
variable {T : TypeId → TR} {g : Gh} {w : World} {a : Act}
/-- the ghost under new numbers -/
def Gh.renum (g : Gh) (rs : List (Option Nat)) (nl : Nat) : Gh :=
  { g with own := fun k => match g.own k with | .tok j n => (match rs.idxOf? (some j) with | some i => .tok i n | none => .frz) | o => o, nl := nl, tau := fun i => match rs[i]? with | some (some j) => g.tau j | _ => none, nt := rs.length }
theorem idx_of {rs : List (Option Nat)} {i j : Nat} (hu : ∀ i', rs[i']? = some (some j) → i' = i) (h : rs[i]? = some (some j)) : rs.idxOf? (some j) = some i := by
  obtain ⟨hlt, hx⟩ := List.getElem?_eq_some_iff.1 h
  have hm : some j ∈ rs := List.mem_of_getElem? h
  cases hc : rs.idxOf? (some j) with
  | none => rw [List.idxOf?_eq_none_iff] at hc; exact absurd hm hc
  | some q =>
    congr 1
    refine hu q ?_
    unfold List.idxOf? at hc
    obtain ⟨hq, h1, _⟩ := List.findIdx?_eq_some_iff_getElem.1 hc
    rw [List.getElem?_eq_getElem hq]
    simpa using h1
theorem renum_dx (g : Gh) (rs : List (Option Nat)) (nl : Nat) (w : World) : Dx g w (g.renum rs nl) w := by
  refine ⟨fun k i u h1 h2 => ⟨?_, h2⟩, Nat.le_refl _, fun _ _ => rfl⟩
  unfold Gh.frz Gh.renum at *
  revert h1
  simp only
  cases g.own k <;> intro h1 <;> first | exact h1 | skip
  rename_i j n
  simp only
  cases rs.idxOf? (some j) <;> first | trivial | exact h1
theorem renum_ext (g : Gh) (rs : List (Option Nat)) (nl : Nat) (w : World) : Ext g w (g.renum rs nl) w := by
  have := renum_dx g rs nl w
  refine ⟨this.cell, this.nb, this.beta, fun k _ h => ⟨?_, rfl⟩, Nat.le_refl _, rfl, rfl, rfl⟩
  unfold Gh.renum
  revert h
  simp only
  cases g.own k <;> intro h <;> first | rfl | exact h.elim
theorem le0_sound {rs : List (Option Nat)} {nl : Nat} (hrs : RsOk rs) {v v' : AV} (hle : le0 rs nl v v') {u : Value} (h : Cz T g w v u) : Cz T (g.renum rs nl) w v' u := by
  have dx := renum_dx g rs nl w
  have dz : Dz T g w v' u → Cz T (g.renum rs nl) w v' u := fun h => .dz _ _ (h.mono dx)
  cases v' with
  | top => exact .any u
  | int k n => cases v <;> first | exact hle.elim | (obtain ⟨rfl, rfl⟩ := hle; rw [cz_int h]; exact .dz _ _ (.int _ _))
  | bool b => cases v <;> first | exact hle.elim | (cases hle; rw [cz_bool h]; exact .dz _ _ (.bool _))
  | str s => cases v <;> first | exact hle.elim | (cases hle; rw [cz_str h]; exact .dz _ _ (.str _))
  | nils => cases v <;> first | exact hle.elim | (rw [cz_nils h]; exact .dz _ _ .nils)
  | slc e els =>
    cases v <;> first | exact hle.elim | skip
    · cases hle
      rw [cz_nils h]
      exact .dz _ _ (.slc e [] none 0 (fun _ _ => undef) (Nat.le_refl _) (by decide) (fun _ h => by cases h) (fun h => by simp at h) (fun i cells h => by simp at h))
    · obtain ⟨rfl, rfl⟩ := hle; exact dz (cz_slc h)
    · obtain ⟨rfl, rfl⟩ := hle; exact dz ((cz_own h).2.slc (fun n i hi => hi))
  | own i e els =>
    cases v <;> first | exact hle.elim | skip
    · obtain ⟨h1, rfl⟩ := hle
      rw [cz_nils h]
      have hi := (List.getElem?_eq_some_iff.1 h1).1
      have ht : (g.renum rs nl).tau i = none := by simp only [Gh.renum, h1]
      exact .own i e [] _ hi ⟨[], World.ownsRow_nil _ _ _ _, by rw [ht]; rfl, fun k hk => (by rw [ht] at hk; cases hk), fun _ h => (by cases h), fun i cells h => (by simp at h)⟩
    · rename_i j e2 els2
      obtain ⟨h1, rfl, rfl⟩ := hle
      have hi := (List.getElem?_eq_some_iff.1 h1).1
      obtain ⟨hj, hown⟩ := cz_own h
      have hidx := idx_of (hrs i j h1) h1
      have ht : (g.renum rs nl).tau i = g.tau j := by simp only [Gh.renum, h1]
      refine .own i _ _ u hi ?_
      rw [ht]
      obtain ⟨xs, o1, o2, o3, o4, o5⟩ := hown
      refine ⟨xs, o1, o2, fun k hk => ?_, o4, fun i cells hi j x hj => ?_⟩
      · simp only [Gh.renum, o3 k hk, hidx]
      · obtain ⟨y, q1, q2, q3⟩ := o5 i cells hi j x hj
        exact ⟨y, q1, q2, q3.mono dx⟩
  | eref c o => cases v <;> first | exact hle.elim | (obtain ⟨rfl, rfl⟩ := hle; cases h with | dz _ _ h => exact dz h)
  | lptr j o =>
    cases v <;> first | exact hle.elim | skip
    obtain ⟨⟨rfl, h1⟩, rfl⟩ := hle
    rw [(cz_lptr h).2]
    exact .lptr (g := g.renum rs nl) _ _ h1
  | gptr b o =>
    cases v <;> first | exact hle.elim | skip
    obtain ⟨rfl, rfl⟩ := hle
    cases h with | dz _ _ h => exact dz h
  | nilp => cases v <;> first | exact hle.elim | (rw [cz_nilp h]; exact .dz _ _ .nilp)
  | nilf => cases v <;> first | exact hle.elim | (rw [cz_nilf h]; exact .dz _ _ .nilf)
  | nili => cases v <;> first | exact hle.elim | (rw [cz_nili h]; exact .dz _ _ .nili)
  | nilm => cases v <;> first | exact hle.elim | (rw [cz_nilm h]; exact .dz _ _ .nilm)
  | mp b => cases v <;> first | exact hle.elim | (cases hle; cases h with | dz _ _ h => exact dz h)
  | agg cs => cases v <;> exact hle.elim
  | tup cs => cases v <;> exact hle.elim
  | fn f p q => cases v <;> exact hle.elim
  | ifc t x => cases v <;> exact hle.elim
theorem le0s_sound {rs : List (Option Nat)} {nl : Nat} (hrs : RsOk rs) : ∀ {cs ds : List AV}, le0s rs nl cs ds → ds.length = cs.length ∧ ∀ {us : Array Value} {n : Nat}, (∀ (i : Nat) (c : AV) (u : Value), cs[i]? = some c → us[n + i]? = some u → Cz T g w c u) →
    ∀ (i : Nat) (c : AV) (u : Value), ds[i]? = some c → us[n + i]? = some u → Cz T (g.renum rs nl) w c u
  | [], [], _ => ⟨rfl, fun _ i c u h => by simp at h⟩
  | [], _ :: _, h => h.elim
  | _ :: _, [], h => h.elim
  | v :: r, v' :: r', ⟨h1, h2⟩ => by
    obtain ⟨h3, h4⟩ := le0s_sound hrs h2
    refine ⟨by simp [h3], fun {us n} hp i c u hc hu => ?_⟩
    cases i with
    | zero => simp at hc; subst hc; exact le0_sound hrs h1 (hp 0 v u rfl hu)
    | succ i => exact h4 (us := us) (n := n + 1) (fun i c u hc hu => hp (i + 1) c u (by simpa using hc) (by rw [show n + (i + 1) = n + 1 + i by omega]; exact hu)) i c u (by simpa using hc) (by rw [show n + 1 + i = n + (i + 1) by omega]; exact hu)
theorem le1_sound {rs : List (Option Nat)} {nl : Nat} (hrs : RsOk rs) {v v' : AV} (hle : le1 rs nl v v') {u : Value} (h : Cz T g w v u) : Cz T (g.renum rs nl) w v' u := by
  have plain : (le1 rs nl v v' = le0 rs nl v v') → Cz T (g.renum rs nl) w v' u := fun he => le0_sound hrs (by rw [← he]; exact hle) h
  cases v with
  | agg cs => cases v' with
    | agg ds =>
      obtain ⟨us, rfl, hl, h1, h2⟩ := cz_agg h
      obtain ⟨h3, h4⟩ := le0s_sound (T := T) (g := g) (w := w) hrs hle
      exact .agg _ _ (h3.trans hl) h1 (fun i c u hc hu => h4 (n := 0) (us := us) (fun i c u hc hu => h2 i c u hc (by simpa using hu)) i c u hc (by simpa using hu))
    | _ => exact plain rfl
  | fn f p q => cases v' with
    | fn f' p' q' =>
      obtain ⟨rfl, l1, l2⟩ := hle
      obtain ⟨us, vs, rfl, ha, hb, h1, h2⟩ := cz_fn h
      obtain ⟨h3, h4⟩ := le0s_sound (T := T) (g := g) (w := w) hrs l1
      obtain ⟨h5, h6⟩ := le0s_sound (T := T) (g := g) (w := w) hrs l2
      exact .fn _ _ _ _ _ (h3.trans ha) (h5.trans hb) (fun i c u hc hu => h4 (n := 0) (us := us) (fun i c u hc hu => h1 i c u hc (by simpa using hu)) i c u hc (by simpa using hu))
        (fun i c u hc hu => h6 (n := 0) (us := vs) (fun i c u hc hu => h2 i c u hc (by simpa using hu)) i c u hc (by simpa using hu))
    | _ => exact plain rfl
  | _ => exact plain (by cases v' <;> rfl)
theorem le1s_len {rs : List (Option Nat)} {nl : Nat} : ∀ {cs ds : List AV}, le1s rs nl cs ds → ds.length = cs.length
  | [], [], _ => rfl
  | [], _ :: _, h => h.elim
  | _ :: _, [], h => h.elim
  | _ :: _, _ :: _, h => by simp [le1s_len h.2]
theorem le1s_at {rs : List (Option Nat)} {nl : Nat} : ∀ {cs ds : List AV}, le1s rs nl cs ds → ∀ (i : Nat) (v' : AV), ds[i]? = some v' → ∃ v, cs[i]? = some v ∧ le1 rs nl v v'
  | [], [], _, i, v', h => by simp at h
  | [], _ :: _, h, _, _, _ => h.elim
  | _ :: _, [], h, _, _, _ => h.elim
  | v :: r, x :: r', h, 0, v', hv => by simp at hv; subst hv; exact ⟨v, rfl, h.1⟩
  | v :: r, x :: r', h, i + 1, v', hv => by simpa using le1s_at h.2 i v' (by simpa using hv)
theorem leL_at {rs : List (Option Nat)} {nl : Nat} : ∀ {L L' : List LB}, leL rs nl L L' → ∀ (j : Nat) (b' : LB), L'[j]? = some b' → b' = .dead ∨ ∃ b, L[j]? = some b ∧ ((∃ org cells cells', b = .live org cells ∧ b' = .live org cells' ∧ le1s rs nl cells cells') ∨ ∃ x, b = .away x ∧ b' = .away x)
  | [], [], _, j, b', h => by simp at h
  | _ :: _, [], _, j, b', h => by simp at h
  | [], b :: r, h, _, _, _ => by cases b <;> exact h.elim
  | b :: r, b1 :: r', h, j, b', hj => by
    have tail : leL rs nl r r' := by cases b <;> cases b1 <;> first | exact h.2 | exact h | exact h.elim
    cases j with
    | succ j => simpa using leL_at tail j b' (by simpa using hj)
    | zero =>
      simp at hj
      subst hj
      cases b <;> cases b1 <;> first | exact .inl rfl | exact h.elim | skip
      · obtain ⟨⟨rfl, h2⟩, _⟩ := h; exact .inr ⟨_, rfl, .inl ⟨_, _, _, rfl, rfl, h2⟩⟩
      · obtain ⟨rfl, _⟩ := h; exact .inr ⟨_, rfl, .inr ⟨_, rfl, rfl⟩⟩
theorem weak_of (rs : List (Option Nat)) {c' c : Cf} (h : weakP rs c' c) : Weak T c' c := by
  obtain ⟨h1, h2, h3, h4, h5, h6, h7⟩ := h
  refine ⟨fun g a w hs => ⟨g.renum rs c'.nl, ?_, renum_ext _ _ _ _⟩⟩
  have dx := renum_dx g rs c'.nl w
  have hrs : RsOk rs := rsOk_of h7
  refine ⟨⟨fun b bx hb => ?_, fun j bx hj => ?_, h4, rfl, h6.symm⟩, by rw [hs.size, le1s_len h1], fun i v' hv => ?_, hs.defers⟩
  · obtain ⟨q1, q2, q3⟩ := hs.rel.glob b bx (h3 b bx hb)
    refine ⟨q1, by simp only [Gh.renum, q2], q3.keep q1 q2 dx fun k hk _ => ⟨?_, rfl⟩⟩
    simp only [Gh.renum]
    revert hk
    cases g.own k <;> intro hk <;> first | rfl | exact hk.elim
  · rcases leL_at h2 j bx hj with rfl | ⟨b, hb, ⟨org, cells, cells', rfl, rfl, hle⟩ | ⟨x, rfl, rfl⟩⟩
    · trivial
    · obtain ⟨q1, ⟨us, e, c1, c2, c3, c4⟩, q3⟩ := hs.rel.loc j _ hb
      refine ⟨by simp only [Gh.renum, q1], ⟨us, e, c1, by rw [le1s_len hle]; exact c2, c3, fun i v' u hv hu => ?_⟩, q3⟩
      obtain ⟨v, hv2, hle2⟩ := le1s_at hle i v' hv
      exact le1_sound hrs hle2 (c4 i v u hv2 hu)
    · exact hs.rel.loc j _ hb
  · obtain ⟨v, hv2, hle2⟩ := le1s_at h1 i v' hv
    exact le1_sound hrs hle2 (hs.vals i v hv2)
end
end Go.Proofs.YtpihanlillbhkaaGreatDoor
end
