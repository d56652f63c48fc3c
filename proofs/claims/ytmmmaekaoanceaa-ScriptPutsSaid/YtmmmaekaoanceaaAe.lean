/- Operations that make memory, or write it. -/
import Derived.Test.YtmmmaekaoanceaaAq
namespace Go.Proofs.Ytmmmaekaoanceaa
open Go Go.RowKit

section
variable {P : Program} {T : TypeId → TR} {g g' : Gh} {w w' : World} {a : Act} {L : List LB} {nl nt : Nat} {G : Glob} {env : List AV}

theorem CellsAt.mono {R R' : AV → Value → Prop} {k : Nat} {cells : List AV} (h : CellsAt w k R cells) (hR : ∀ c u, R c u → R' c u) (hk : w'.heap[k]? = w.heap[k]?) : CellsAt w' k R' cells := by
  obtain ⟨us, e, h1, h2, h3, h4⟩ := h
  exact ⟨us, e, by rw [hk]; exact h1, h2, h3, fun i c u hc hu => hR _ _ (h4 i c u hc hu)⟩
theorem ownsRow_keep {base : Nat} {e : TypeId} {size n : Nat} {v : Value} {xs : List Value} (h : w.ownsRow base e size v n xs) (hk : ∀ k, v.ownBlock = some k → w'.heap[k]? = w.heap[k]?) : w'.ownsRow base e size v n xs := by
  refine ⟨h.1, ?_⟩
  rcases h.2 with h | ⟨b, cap, cur, rfl, hb, hg, r⟩
  · exact .inl h
  · exact .inr ⟨b, cap, cur, rfl, hb, by rw [hk b rfl]; exact hg, r⟩
theorem BoxAt.lt {b : Nat} {bx : GB} (h : BoxAt T g w b bx) : g.beta b < w.heap.size := by
  have lt : ∀ o, w.heap[g.beta b]? = some o → g.beta b < w.heap.size := fun o h => (Array.getElem?_eq_some_iff.1 h).1
  cases bx with
  | cells cs => obtain ⟨us, e, h1, _⟩ := h; exact lt _ h1
  | box cs gs => obtain ⟨us, e, h1, _⟩ := h; exact lt _ h1
  | bld s => obtain ⟨t, e, p, v, _, h1, _⟩ := h; exact lt _ h1
  | map kd m => obtain ⟨es, c, h1, _⟩ := h; exact lt _ h1
theorem BoxAt.keep {b : Nat} {bx : GB} (h : BoxAt T g w b bx) (hn : b < g.nb) (ho : g.own (g.beta b) = .gbox b) (dx : Dx g w g' w') (hk : ∀ k, (g.own k).ofBox b → k < w.heap.size → g'.own k = g.own k ∧ w'.heap[k]? = w.heap[k]?) : BoxAt T g' w' b bx := by
  have hb := dx.beta b hn
  have he := (hk _ (by rw [ho]; exact rfl) h.lt).2
  cases bx with
  | cells cs =>
    unfold BoxAt
    rw [hb]
    exact CellsAt.mono h (fun c u h => h.mono dx) he
  | box cs gs =>
    obtain ⟨us, e, h1, h2, h3, h4, h5⟩ := h
    refine ⟨us, e, by rw [hb, he]; exact h1, h2, h3, fun i c u hc hu => (h4 i c u hc hu).mono dx, fun x hx => ?_⟩
    obtain ⟨u, q1, q2⟩ := h5 x hx
    refine ⟨u, q1, q2.mono dx fun k hku => hk k ?_ ?_⟩
    · obtain ⟨_, _, _, h3, _⟩ := q2
      rw [h3 k hku]; exact rfl
    · rw [hku] at q2; exact q2.lt
  | bld s =>
    obtain ⟨t, e, p, v, h0, h1, h2, h3, h4, h5, h6⟩ := h
    refine ⟨t, e, p, v, h0, by rw [hb, he]; exact h1, by rw [hb]; exact h2, ownsRow_keep h3 fun k hku => (hk k (by rw [h5 k hku]; exact rfl) (h3.lt k hku).2).2, by rw [hb]; exact h4, fun k hku => ?_, h6⟩
    rw [(hk k (by rw [h5 k hku]; exact rfl) (h3.lt k hku).2).1]
    exact h5 k hku
  | map kd m =>
    obtain ⟨es, clock, h1, h2, h3, h4⟩ := h
    exact ⟨es, clock, by rw [hb, he]; exact h1, h2, h3, fun i x y hx hy => ⟨(h4 i x y hx hy).1, (h4 i x y hx hy).2.mono dx⟩⟩
theorem GRel.keep (h : GRel T g G w) (dx : Dx g w g' w') (hk : ∀ b k, (G b).isSome = true → (g.own k).ofBox b → k < w.heap.size → g'.own k = g.own k ∧ w'.heap[k]? = w.heap[k]?) : GRel T g' G w' := by
  intro b bx hb
  obtain ⟨h1, h2, h3⟩ := h b bx hb
  have hs : (G b).isSome = true := by rw [hb]; rfl
  refine ⟨Nat.lt_of_lt_of_le h1 dx.nb, ?_, h3.keep h1 h2 dx fun k => hk b k hs⟩
  rw [dx.beta b h1, (hk b _ hs (by rw [h2]; exact rfl) h3.lt).1]
  exact h2
theorem LocAt.keep {j : Nat} {bx : LB} (h : LocAt T g w j bx) (hj : j < g.nl) (cx : Cx (fun _ => False) g w g' w') (hk : ∀ org cells, bx = .live org cells → g.own (g.lam j) = .lbox j → g'.own (g.lam j) = .lbox j ∧ w'.heap[g.lam j]? = w.heap[g.lam j]?) : LocAt T g' w' j bx := by
  cases bx with
  | live org cells =>
    obtain ⟨h1, h2, h3⟩ := h
    obtain ⟨h4, h5⟩ := hk _ _ rfl h1
    refine ⟨by rw [cx.lam j hj]; exact h4, ?_, fun b hb => ?_⟩
    · rw [cx.lam j hj]; exact CellsAt.mono h2 (fun c u h => h.mono cx) h5
    · obtain ⟨q1, q2⟩ := h3 b hb
      exact ⟨Nat.lt_of_lt_of_le q1 cx.dx.nb, by rw [cx.dx.beta b q1, cx.lam j hj]; exact q2⟩
  | away b =>
    obtain ⟨q1, q2⟩ := h
    exact ⟨Nat.lt_of_lt_of_le q1 cx.dx.nb, by rw [cx.dx.beta b q1, cx.lam j hj]; exact q2⟩
  | dead => trivial
theorem EnvR.keep (h : EnvR T g w env a) (cx : Cx (fun _ => False) g w g' w') : EnvR T g' w' env a := ⟨h.size, fun i v hv => (h.vals i v hv).mono cx, h.defers⟩

theorem cell_lt {k i : Nat} {u : Value} (h : w.cell? ⟨k, i, none⟩ = some u) : k < w.heap.size := by
  rcases Nat.lt_or_ge k w.heap.size with h1 | h1
  · exact h1
  · rw [show w.cell? ⟨k, i, none⟩ = none from by simp [World.cell?, Array.getElem?_eq_none h1]] at h
    cases h
/-- a new block: whose it is -/
def Gh.newBox (g : Gh) (k : Nat) : Gh := { g with own := fun i => if i = k then .lbox g.nl else g.own i, lam := fun j => if j = g.nl then k else g.lam j, nl := g.nl + 1 }
theorem newBox_cx (g : Gh) (w : World) (o : Obj) : Cx (fun _ => False) g w (g.newBox w.heap.size) (w.alloc o) := by
  refine ⟨⟨fun k i u h1 h2 => ?_, Nat.le_refl _, fun _ _ => rfl⟩, Nat.le_succ _, fun j hj => by simp [Gh.newBox, show j ≠ g.nl by omega], Nat.le_refl _, fun j _ _ => ⟨rfl, fun k n _ _ hk => ⟨by simp [Gh.newBox, show k ≠ w.heap.size by omega], Below.heap_alloc _ _ _ hk⟩⟩⟩
  have hlt := cell_lt h2
  refine ⟨?_, ?_⟩
  · unfold Gh.frz at *; simp only [Gh.newBox, show k ≠ w.heap.size by omega, if_false]; exact h1
  · rw [show (w.alloc o).cell? ⟨k, i, none⟩ = w.cell? ⟨k, i, none⟩ from by simp [World.cell?, Below.heap_alloc _ _ _ hlt]]; exact h2
theorem newBox_ext (g : Gh) (w : World) (o : Obj) : Ext g w (g.newBox w.heap.size) (w.alloc o) := by
  have := (newBox_cx g w o).dx
  refine ⟨this.cell, this.nb, this.beta, fun k hk _ => ⟨by simp [Gh.newBox, show k ≠ w.heap.size by omega], Below.heap_alloc _ _ _ hk⟩, by simp, rfl, rfl, rfl⟩
theorem live_lt (h : GRel T g G w) {b : Nat} {bx : GB} (hb : G b = some bx) : g.beta b < w.heap.size := (h b bx hb).2.2.lt
theorem loc_lt {j : Nat} {org : Option Nat} {cells : List AV} (h : LocAt T g w j (.live org cells)) : g.lam j < w.heap.size := by
  obtain ⟨_, ⟨us, e, h4, _⟩, _⟩ := h; exact blk_lt h4
theorem GRel.new (h : GRel T g G w) (dx : Dx g w g' w') (hk : ∀ k, k < w.heap.size → g'.own k = g.own k ∧ w'.heap[k]? = w.heap[k]?) : GRel T g' G w' :=
  h.keep dx fun _ k _ _ hlt => hk k hlt
theorem LocAt.new {j : Nat} {bx : LB} (h : LocAt T g w j bx) (hj : j < g.nl) (cx : Cx (fun _ => False) g w g' w') (hk : ∀ k, k < w.heap.size → g'.own k = g.own k ∧ w'.heap[k]? = w.heap[k]?) : LocAt T g' w' j bx := by
  refine h.keep hj cx (fun org cells hb h1 => ?_)
  subst hb
  obtain ⟨q1, q2⟩ := hk _ (loc_lt h)
  exact ⟨q1.trans h1, q2⟩
/-- a world with new blocks alone: all that was said of the old ones holds -/
theorem Rel.new {nt' : Nat} (h : Rel T g L nl nt G w) (cx : Cx (fun _ => False) g w g' w') (hk : ∀ k, k < w.heap.size → g'.own k = g.own k ∧ w'.heap[k]? = w.heap[k]?) (hl : g'.nl = g.nl) (ht : g'.nt = nt') : Rel T g' L nl nt' G w' :=
  ⟨h.glob.new cx.dx hk, fun j bx hj => (h.loc j bx hj).new (by rw [h.hl, ← h.hL]; exact (List.getElem?_eq_some_iff.1 hj).1) cx hk, h.hL, by rw [hl]; exact h.hl, ht⟩
/-- a new local box -/
theorem Rel.box (h : Rel T g L nl nt G w) (us : Array Value) (e : TypeId) (cells : List AV) (hs : us.size = cells.length) (h1 : ∀ u ∈ us, u.oneCell' = true) (hc : ∀ (i : Nat) (c : AV) (u : Value), cells[i]? = some c → us[i]? = some u → Cz T g w c u) :
    Rel T (g.newBox w.heap.size) (L ++ [.live none cells]) (nl + 1) nt G (w.alloc (.cells us e (0, 0))) := by
  have cx := newBox_cx g w (.cells us e (0, 0))
  have hk : ∀ k, k < w.heap.size → (g.newBox w.heap.size).own k = g.own k ∧ (w.alloc (.cells us e (0, 0))).heap[k]? = w.heap[k]? := fun k hk => ⟨by simp [Gh.newBox, show k ≠ w.heap.size by omega], Below.heap_alloc _ _ _ hk⟩
  refine ⟨h.glob.new cx.dx hk, fun j bx hj => ?_, by simp [h.hL], by simp [Gh.newBox, h.hl], h.ht⟩
  rcases Nat.lt_or_ge j L.length with hlt | hge
  · rw [List.getElem?_append_left hlt] at hj
    exact (h.loc j bx hj).new (by rw [h.hl, ← h.hL]; exact hlt) cx hk
  · obtain ⟨hl, _⟩ := List.getElem?_eq_some_iff.1 hj
    simp only [List.length_append, List.length_cons, List.length_nil] at hl
    obtain rfl : j = L.length := by omega
    simp at hj
    subst hj
    have hnl : g.nl = L.length := by rw [h.hl, h.hL]
    have hlam : (g.newBox w.heap.size).lam L.length = w.heap.size := by simp [Gh.newBox, hnl]
    refine ⟨?_, ?_, fun b hb => by cases hb⟩
    · rw [hlam]; simp [Gh.newBox, hnl]
    · rw [hlam]
      exact ⟨us, e, blk_new _ _, hs, h1, fun i c u hi hu => (hc i c u hi hu).mono cx⟩

/-- an operation in the run of the program -/
theorem wp_value {o : Oper} {next : Act → World → Prop} {Q : Exit → Act → World → Prop} {u : Value} (hr : (execOp a.eval o).run P w = .ok (.value u) w') (h : next (a.put o.dst u) w') : o.wp P a w next Q := by
  unfold Oper.wp; rw [hr]; exact h
theorem wp_skip' {o : Oper} {next : Act → World → Prop} {Q : Exit → Act → World → Prop} (hr : (execOp a.eval o).run P w = .ok .skip w') (h : next (a.put o.dst undef) w') : o.wp P a w next Q := by
  unfold Oper.wp; rw [hr]; exact h
/-- what is asked of what comes behind an operation -/
def NextOk (T : TypeId → TR) (a : Act) (dst : Option Tmp) (next : Act → World → Prop) (g : Gh) (w : World) (K : AV → Cf → Prop) : Prop :=
  ∀ v c' g' w' u, K v c' → Rel T g' c'.L c'.nl c'.nt c'.G w' → EnvR T g' w' c'.env a → Cz T g' w' v u → Ext g w g' w' → next (a.put dst u) w'
theorem e_alloc (TO : TOk P T) (hr : Rel T g L nl nt G w) (he : EnvR T g w env a) {o : Oper} (t : TypeId) (ho : o.op = .alloc t) {next : Act → World → Prop} {Q : Exit → Act → World → Prop} {K : AV → Cf → Prop} (hn : NextOk T a o.dst next g w K)
    (h : evOp0 P T (.alloc t) ⟨env, L, nl, nt, G⟩ K) : o.wp P a w next Q := by
  simp only [evOp0, effK] at h
  cases hk : kindD (T t).desc with
  | none => simp only [hk] at h
  | some kb =>
    simp only [hk] at h
    obtain ⟨cs, h1, _, h3, h4, h5, h6⟩ := zero_sound (w := w) (g := g) TO (t := t) (by rw [hk]; simp) _ h
    rw [snocK_iff] at h1
    have hrun : (execOp a.eval o).run P w = .ok (.value (.pointer (some ⟨w.heap.size, 0, none⟩))) (w.alloc (.cells (T t).zero.cells t)) := by
      simp only [execOp, ho]
      simp [Instr.alloc, h3, newVar, newRow, newObj]
      rfl
    refine wp_value hrun (hn _ _ (g.newBox w.heap.size) _ _ h1 (hr.box _ _ cs h4.symm h5 (fun i c u hc hu => .dz _ _ (h6 i c u hc hu))) (he.keep (newBox_cx _ _ _)) ?_ (newBox_ext _ _ _))
    have := Cz.lptr (T := T) (g := g.newBox w.heap.size) (w := w.alloc (.cells (T t).zero.cells t)) nl 0 (by simp [Gh.newBox, hr.hl])
    simpa [Gh.newBox, hr.hl] using this
theorem e_box (hr : Rel T g L nl nt G w) (he : EnvR T g w env a) {o : Oper} (t : TypeId) (x : Operand) (ho : o.op = .box t x) {next : Act → World → Prop} {Q : Exit → Act → World → Prop} {K : AV → Cf → Prop} (hn : NextOk T a o.dst next g w K)
    (h : evOp0 P T (.box t x) ⟨env, L, nl, nt, G⟩ K) : o.wp P a w next Q := by
  simp only [evOp0, effK] at h
  obtain ⟨v, h1, h2, _⟩ := opd_sound he x _ h
  obtain ⟨cs, h3, _, h4, h5, h6⟩ := cellsOf_sound h2 _ h1
  rw [snocK_iff] at h3
  have hrun : (execOp a.eval o).run P w = .ok (.value (.pointer (some ⟨w.heap.size, 0, none⟩))) (w.alloc (.cells (a.eval x).cells t)) := by
    simp only [execOp, ho]
    simp [Instr.box, newVar, newRow, newObj]
    rfl
  refine wp_value hrun (hn _ _ (g.newBox w.heap.size) _ _ h3 (hr.box _ _ cs h4.symm h5 h6) (he.keep (newBox_cx _ _ _)) ?_ (newBox_ext _ _ _))
  have := Cz.lptr (T := T) (g := g.newBox w.heap.size) (w := w.alloc (.cells (a.eval x).cells t)) nl 0 (by simp [Gh.newBox, hr.hl])
  simpa [Gh.newBox, hr.hl] using this

/-- a block that is a box's is written -/
theorem setRow_cell {k : Nat} {arr : Array Value} {k' i : Nat} (hne : k' ≠ k) : (w.setRow k arr).cell? ⟨k', i, none⟩ = w.cell? ⟨k', i, none⟩ := cell_setRow_other w k arr _ hne
theorem cell_same {k i : Nat} (h : w'.heap[k]? = w.heap[k]?) : w'.cell? ⟨k, i, none⟩ = w.cell? ⟨k, i, none⟩ := by simp [World.cell?, h]
theorem blk_cx {k : Nat} (hk : (∃ j, g.own k = .lbox j) ∨ ∃ b, g.own k = .gbox b) (hw : ∀ k', k' ≠ k → w'.heap[k']? = w.heap[k']?) : Cx (fun _ => False) g w g w' := by
  refine ⟨⟨fun k' i u h1 h2 => ⟨h1, ?_⟩, Nat.le_refl _, fun _ _ => rfl⟩, Nat.le_refl _, fun _ _ => rfl, Nat.le_refl _, fun j _ _ => ⟨rfl, fun k' n _ ho _ => ⟨rfl, hw k' (fun h => ?_)⟩⟩⟩
  · rw [cell_same (hw k' ?_)]
    · exact h2
    · rintro rfl
      unfold Gh.frz at h1
      rcases hk with ⟨j, hk⟩ | ⟨b, hk⟩ <;> rw [hk] at h1 <;> exact h1
  · subst h
    rcases hk with ⟨j, hk⟩ | ⟨b, hk⟩ <;> rw [hk] at ho <;> cases ho
theorem blk_ext {k : Nat} (hk : (∃ j, g.own k = .lbox j) ∨ ∃ b, g.own k = .gbox b) (hw : ∀ k', k' ≠ k → w'.heap[k']? = w.heap[k']?) (h1 : w.heap.size ≤ w'.heap.size) (h2 : w'.os = w.os) (h3 : w'.tape = w.tape) (h4 : w'.output = w.output) : Ext g w g w' := by
  have := (blk_cx hk hw).dx
  refine ⟨this.cell, this.nb, this.beta, fun k' hk' ho => ⟨rfl, hw k' (fun h => ?_)⟩, h1, h2, h3, h4⟩
  subst h
  rcases hk with ⟨j, hk⟩ | ⟨b, hk⟩ <;> rw [hk] at ho <;> exact ho
theorem setRow_cx {k : Nat} (arr : Array Value) (hk : (∃ j, g.own k = .lbox j) ∨ ∃ b, g.own k = .gbox b) : Cx (fun _ => False) g w g (w.setRow k arr) := blk_cx hk fun k' h => setRow_other w k k' arr h
theorem setRow_ext {k : Nat} (arr : Array Value) (hk : (∃ j, g.own k = .lbox j) ∨ ∃ b, g.own k = .gbox b) : Ext g w g (w.setRow k arr) := blk_ext hk (fun k' h => setRow_other w k k' arr h) (by simp) rfl rfl rfl
theorem cells_puts {R' : AV → Value → Prop} {k : Nat} {cells vs : List AV} {xs : Array Value} {us : Array Value} {e : TypeId} (hg : w.heap[k]? = some (.cells us e (0, 0))) (hl : us.size = cells.length) (h1 : ∀ u ∈ us, u.oneCell' = true)
    (hR : ∀ (i : Nat) (c : AV) (u : Value), cells[i]? = some c → us[i]? = some u → R' c u) (hv : vs.length = xs.size) (hx : ∀ x ∈ xs, x.oneCell' = true) (hp : ∀ (i : Nat) (c : AV) (x : Value), vs[i]? = some c → xs[i]? = some x → R' c x)
    (o : Nat) (hfit : o + vs.length ≤ cells.length) : CellsAt (w.setRow k (us.toList.take o ++ xs.toList ++ us.toList.drop (o + xs.toList.length)).toArray) k R' (cells.take o ++ vs ++ cells.drop (o + vs.length)) := by
  have hA := fun i => puts_at cells vs o hfit i
  have hB := fun i => puts_at us.toList xs.toList o (by simp; omega) i
  refine ⟨_, e, setRow_heap w k us _ e (0, 0) hg, by simp; omega, fun u hu => ?_, fun i c u hc hu => ?_⟩
  · simp only [List.mem_toArray] at hu
    rcases List.mem_append.1 hu with hu | hu
    · rcases List.mem_append.1 hu with hu | hu
      · exact h1 u (by simpa using List.mem_of_mem_take hu)
      · exact hx u (by simpa using hu)
    · exact h1 u (by simpa using List.mem_of_mem_drop hu)
  · simp only [List.getElem?_toArray] at hu
    rw [hB] at hu
    rw [hA] at hc
    simp only [Array.length_toList, ← hv] at hu
    split at hc
    · rename_i hin; rw [if_pos hin] at hu; exact hp _ _ _ hc (by simpa using hu)
    · rename_i hin; rw [if_neg hin] at hu; exact hR _ _ _ hc (by simpa using hu)
theorem run_storeAt (TO : TOk P T) {t : TypeId} (hk : kindD (T t).desc ≠ none) {k o : Nat} {us : Array Value} {e : TypeId} (hg : w.heap[k]? = some (.cells us e (0, 0))) (v : Value) (hs : v.cells.size = (T t).cells) (h1 : ∀ x ∈ v.cells, x.oneCell' = true) (hfit : o + v.cells.size ≤ us.size) :
    (Instr.storeAt t (.pointer (some ⟨k, o, none⟩)) v).run P w = .ok () (w.setRow k (us.toList.take o ++ v.cells.toList ++ us.toList.drop (o + v.cells.toList.length)).toArray) := by
  obtain ⟨_, i, hi, hsz, _⟩ := TO t hk
  have := run_storeCells_at P k o e v.cells.toList 0 us w hg (by simpa using hfit) (fun x hx => h1 x (by simpa using hx))
  simp only [Nat.add_zero] at this
  simp only [Instr.storeAt, Instr.sureAddr, Sem.run_bind, Sem.run_pure, Result.andThen_ok, storeVar, sizeOf, typeInfo, run_program, hi, hsz, hs, ne_eq, not_true_eq_false, if_false, this]
theorem dat0_sound {v : AV} {u : Value} (h : Cz T g w v u) (h1 : u.oneCell' = true) : Dz T g w (dat0 v) u := by
  cases h with
  | dz v u h => cases v <;> first | exact h | exact .top u h1 | cases h
  | any u => exact .top u h1
  | own j e els u hj h => exact h.slc (fun n i hi => hi)
  | lptr j off hj => exact .top _ h1
  | agg cs us hl h1' h => exact .top _ h1
  | tup cs us hl h => cases h1
  | fn f a b us vs ha hb h2 h3 => exact .top _ h1
  | ifc t v u h => exact .top _ h1
theorem dat0K_iff (v : AV) (K : AV → Prop) : dat0K v K ↔ K (dat0 v) := by cases v <;> exact Iff.rfl
theorem dat0sK_iff : ∀ (l : List AV) (K : List AV → Prop), dat0sK l K ↔ K (l.map dat0)
  | [], K => Iff.rfl
  | v :: r, K => by unfold dat0sK; rw [dat0K_iff, dat0sK_iff r]; rfl
theorem Rel.setL (h : Rel T g L nl nt G w) {j : Nat} {cells cells' : List AV} {org : Option Nat} (hj : L[j]? = some (.live org cells)) (arr : Array Value) (hc : CellsAt (w.setRow (g.lam j) arr) (g.lam j) (Cz T g (w.setRow (g.lam j) arr)) cells') :
    Rel T g (L.set j (.live org cells')) nl nt G (w.setRow (g.lam j) arr) := by
  have hloc := h.loc j _ hj
  have cx := setRow_cx (w := w) arr (.inl ⟨j, hloc.1⟩)
  have hjl := (List.getElem?_eq_some_iff.1 hj).1
  refine ⟨h.glob.keep cx.dx (fun b k hb hk hlt => ⟨rfl, setRow_other w _ _ arr (fun he => ?_)⟩), fun i bx hi => ?_, by simp [h.hL], h.hl, h.ht⟩
  · rw [he, hloc.1] at hk; exact hk
  · by_cases hij : i = j
    · subst hij
      rw [List.getElem?_set_self hjl] at hi
      simp only [Option.some.injEq] at hi
      subst hi
      exact ⟨hloc.1, hc, hloc.2.2⟩
    · rw [List.getElem?_set_ne (Ne.symm hij)] at hi
      have hil := (List.getElem?_eq_some_iff.1 hi).1
      refine (h.loc i bx hi).keep (by rw [h.hl, ← h.hL]; exact hil) cx (fun org cells hb h1 => ⟨h1, setRow_other w _ _ arr (fun he => ?_)⟩)
      rw [he, hloc.1] at h1
      simp only [Own.lbox.injEq] at h1
      exact hij h1.symm
theorem Rel.putBox (h : Rel T g L nl nt G w) {b : Nat} {bx bx' : GB} (hb : G b = some bx) (hw : ∀ k, k ≠ g.beta b → w'.heap[k]? = w.heap[k]?) (hc : BoxAt T g w' b bx') : Rel T g L nl nt (setG G b bx') w' := by
  obtain ⟨b1, b2, b3⟩ := h.glob b _ hb
  have cx := blk_cx (g := g) (w := w) (w' := w') (k := g.beta b) (.inr ⟨b, b2⟩) hw
  refine ⟨fun i bx hi => ?_, fun j bx hj => ?_, h.hL, h.hl, h.ht⟩
  · by_cases hib : i = b
    · subst hib
      rw [setG_same] at hi
      simp only [Option.some.injEq] at hi
      subst hi
      exact ⟨b1, b2, hc⟩
    · rw [setG_ne _ _ hib] at hi
      obtain ⟨i1, i2, i3⟩ := h.glob i bx hi
      refine ⟨i1, i2, i3.keep i1 i2 cx.dx fun k hk hlt => ⟨rfl, hw k fun he => ?_⟩⟩
      rw [he, b2] at hk
      exact hib hk.symm
  · have hjl := (List.getElem?_eq_some_iff.1 hj).1
    refine (h.loc j bx hj).keep (by rw [h.hl, ← h.hL]; exact hjl) cx (fun org cells hb h1 => ⟨h1, hw _ (fun he => ?_)⟩)
    rw [he, b2] at h1; cases h1
theorem dropG_is (o n : Nat) : ∀ (gs : List (Nat × TypeId × List (List AV))) (K : List (Nat × TypeId × List (List AV)) → Prop), dropG o n gs K → ∃ gs', K gs' ∧ ∀ x ∈ gs', x ∈ gs ∧ ¬ (o ≤ x.1 ∧ x.1 < o + n)
  | [], K, h => ⟨[], h, fun _ h => by cases h⟩
  | x :: r, K, h => by
    unfold dropG at h
    by_cases h1 : o ≤ x.1
    · by_cases h2 : x.1 < o + n
      · rw [decide_eq_true h1, decide_eq_true h2] at h
        obtain ⟨gs', q1, q2⟩ := dropG_is o n r K h
        exact ⟨gs', q1, fun y hy => ⟨List.mem_cons_of_mem _ (q2 y hy).1, (q2 y hy).2⟩⟩
      · rw [decide_eq_true h1, decide_eq_false h2] at h
        obtain ⟨gs', q1, q2⟩ := dropG_is o n r _ h
        refine ⟨x :: gs', q1, fun y hy => ?_⟩
        rcases List.mem_cons.1 hy with rfl | hy
        · exact ⟨by simp, fun hh => h2 hh.2⟩
        · exact ⟨List.mem_cons_of_mem _ (q2 y hy).1, (q2 y hy).2⟩
    · rw [decide_eq_false h1] at h
      obtain ⟨gs', q1, q2⟩ := dropG_is o n r _ h
      refine ⟨x :: gs', q1, fun y hy => ?_⟩
      rcases List.mem_cons.1 hy with rfl | hy
      · exact ⟨by simp, fun hh => h1 hh.1⟩
      · exact ⟨List.mem_cons_of_mem _ (q2 y hy).1, (q2 y hy).2⟩
/-- cells of a shared box are written -/
theorem gsto_sound {b : Nat} {bx : GB} (hb : G b = some bx) (hG : GRel T g G w) {vs : List AV} {xs : Array Value} {o : Nat} {K : GB → Prop} (h : gstoK bx o vs K) (hv : vs.length = xs.size) (hx : ∀ x ∈ xs, x.oneCell' = true)
    (hp : ∀ (i : Nat) (c : AV) (x : Value), vs[i]? = some c → xs[i]? = some x → Dz T g w c x) : ∃ us e, w.heap[g.beta b]? = some (.cells us e (0, 0)) ∧ o + xs.size ≤ us.size ∧
      ∃ bx', K bx' ∧ BoxAt T g (w.setRow (g.beta b) (us.toList.take o ++ xs.toList ++ us.toList.drop (o + xs.toList.length)).toArray) b bx' := by
  obtain ⟨b1, b2, h3⟩ := hG b _ hb
  have mono : ∀ arr c u, Dz T g w c u → Dz T g (w.setRow (g.beta b) arr) c u := fun arr c u h => h.mono (setRow_cx arr (.inr ⟨b, b2⟩)).dx
  cases bx with
  | cells cs =>
    unfold gstoK at h
    obtain ⟨hfit, h⟩ := (putsK_iff _ _ _ _).1 h
    obtain ⟨us, e, c1, c2, c3, c4⟩ := h3
    exact ⟨us, e, c1, by omega, _, h, cells_puts c1 c2 c3 (fun i c u hc hu => mono _ _ _ (c4 i c u hc hu)) hv hx (fun i c x hc hx => mono _ _ _ (hp i c x hc hx)) o hfit⟩
  | box cs gs =>
    unfold gstoK at h
    obtain ⟨hfit, h⟩ := (putsK_iff _ _ _ _).1 h
    obtain ⟨gs', h, hgs⟩ := dropG_is _ _ _ _ h
    obtain ⟨us, e, c1, c2, c3, c4, c5⟩ := h3
    refine ⟨us, e, c1, by omega, _, h, ?_⟩
    obtain ⟨us', e', d1, d2, d3, d4⟩ := cells_puts c1 c2 c3 (fun i c u hc hu => mono (us.toList.take o ++ xs.toList ++ us.toList.drop (o + xs.toList.length)).toArray _ _ (c4 i c u hc hu)) hv hx (fun i c x hc hx => mono _ _ _ (hp i c x hc hx)) o hfit
    refine ⟨us', e', d1, d2, d3, d4, fun x hxg => ?_⟩
    obtain ⟨hx1, hx2⟩ := hgs x hxg
    obtain ⟨u, q1, q2⟩ := c5 x hx1
    have hu' : us' = (us.toList.take o ++ xs.toList ++ us.toList.drop (o + xs.toList.length)).toArray := by
      rw [setRow_heap w _ us _ e (0, 0) c1] at d1
      simp only [Option.some.injEq, Obj.cells.injEq] at d1
      exact d1.1.symm
    refine ⟨u, ?_, q2.mono (setRow_cx _ (.inr ⟨b, b2⟩)).dx fun k hk => ⟨rfl, setRow_other w _ k _ fun he => ?_⟩⟩
    · rw [hu', List.getElem?_toArray, puts_at us.toList xs.toList o (by simp; omega), if_neg (by simp only [Array.length_toList]; omega)]
      simpa using q1
    · obtain ⟨_, _, _, q3, _⟩ := q2
      have := q3 k hk
      rw [he, b2] at this; cases this
  | bld s => exact h.elim
  | map kd m => exact h.elim
theorem cz_one {x : AV} {u : Value} (h1 : ∀ us, x ≠ .agg us) (h2 : x ≠ .top) (h3 : ∀ us, x ≠ .tup us) (hx : Cz T g w x u) : u.oneCell' = true := by
  cases hx with
  | dz _ _ hx => cases hx <;> first | rfl | exact absurd rfl h2 | exact absurd rfl (h1 _) | exact absurd rfl (h3 _)
  | any => exact absurd rfl h2
  | own _ _ _ _ _ hx => obtain ⟨xs, hx, _⟩ := hx; rcases hx.2 with ⟨rfl, _⟩ | ⟨_, _, _, rfl, _⟩ <;> rfl
  | lptr => rfl
  | agg => exact absurd rfl (h1 _)
  | tup => exact absurd rfl (h3 _)
  | fn => rfl
  | ifc => rfl
/-- what is handed out -/
theorem out0_sound (hr : Rel T g L nl nt G w) {v : AV} {u : Value} (hc : Cz T g w v u) (h1 : u.oneCell' = true) (K : AV → Prop) (h : out0K L v K) : ∃ v', K v' ∧ Dz T g w v' u := by
  unfold out0K at h
  split at h
  · rename_i j of
    obtain ⟨bx, hj, h⟩ := (nthK_iff _ _).1 h
    have hl := hr.loc j bx hj
    cases bx with
    | live org cells => exact ⟨_, h, .top _ h1⟩
    | away b =>
      refine ⟨_, h, ?_⟩
      rw [(cz_lptr hc).2, ← hl.2]
      exact .gptr b of hl.1
    | dead => exact ⟨_, h, .top _ h1⟩
  · exact ⟨_, (dat0K_iff _ _).1 h, dat0_sound hc h1⟩
theorem out0s_sound (hr : Rel T g L nl nt G w) : ∀ (vs : List AV) (us : List Value) (K : List AV → Prop), vs.length = us.length → (∀ u ∈ us, u.oneCell' = true) → (∀ (i : Nat) (c : AV) (u : Value), vs[i]? = some c → us[i]? = some u → Cz T g w c u) → out0sK L vs K →
    ∃ vs', K vs' ∧ vs'.length = us.length ∧ ∀ (i : Nat) (c : AV) (u : Value), vs'[i]? = some c → us[i]? = some u → Dz T g w c u
  | [], [], K, _, _, _, h => ⟨[], h, rfl, fun i c u h => by simp at h⟩
  | [], _ :: _, _, h, _, _, _ => by simp at h
  | _ :: _, [], _, h, _, _, _ => by simp at h
  | v :: vs, u :: us, K, hl, h1, hp, h => by
    obtain ⟨v', h, hz⟩ := out0_sound hr (hp 0 _ _ rfl rfl) (h1 u (by simp)) _ h
    obtain ⟨vs', h, hl', hz'⟩ := out0s_sound hr vs us _ (by simpa using hl) (fun x hx => h1 x (by simp [hx])) (fun i c u hc hu => hp (i + 1) c u (by simpa using hc) (by simpa using hu)) h
    refine ⟨v' :: vs', h, by simp [hl'], fun i c x hc hx => ?_⟩
    match i with
    | 0 => simp at hc hx; subst hc hx; exact hz
    | i + 1 => exact hz' i c x (by simpa using hc) (by simpa using hx)
theorem out1_sound (hr : Rel T g L nl nt G w) {v : AV} {u : Value} (hc : Cz T g w v u) (K : AV → Prop) (h : out1K L v K) : ∃ v', K v' ∧ Dz T g w v' u := by
  cases v <;> first | exact h.elim | skip
  case agg cs =>
    obtain ⟨us, rfl, hl, h1, hp⟩ := cz_agg hc
    obtain ⟨vs', q1, q2, q3⟩ := out0s_sound hr cs us.toList _ (by simpa using hl) (fun x hx => h1 x (by simpa using hx)) (fun i c u hc hu => hp i c u hc (by simpa using hu)) h
    exact ⟨_, q1, .agg _ _ (by simpa using q2) h1 fun i c u hc hu => q3 i c u hc (by simpa using hu)⟩
  all_goals exact out0_sound hr hc (cz_one (fun _ h => by cases h) (fun h => by cases h) (fun _ h => by cases h) hc) _ h
theorem run_store_op {o : Oper} {t : TypeId} {p x : Operand} (ho : o.op = .store t p x) {ad : Value} (e : a.eval p = ad) (hst : (Instr.storeAt t ad (a.eval x)).run P w = .ok () w') : (execOp a.eval o).run P w = .ok .skip w' := by
  simp only [execOp, ho, e, Sem.run_bind, hst, Result.andThen_ok, Sem.run_pure]
theorem e_store (TO : TOk P T) (hr : Rel T g L nl nt G w) (he : EnvR T g w env a) {o : Oper} (t : TypeId) (p x : Operand) (ho : o.op = .store t p x) {next : Act → World → Prop} {Q : Exit → Act → World → Prop} {K : AV → Cf → Prop} (hn : NextOk T a o.dst next g w K)
    (h : evOp0 P T (.store t p x) ⟨env, L, nl, nt, G⟩ K) : o.wp P a w next Q := by
  simp only [evOp0, effK] at h
  obtain ⟨v, h1, h2, _⟩ := opd_sound he x _ h
  obtain ⟨vs, h3, _, h4, h5, h6⟩ := cellsOf_sound h2 _ h1
  cases hk : kindD (T t).desc with
  | none => simp only [hk] at h3
  | some kb =>
    simp only [hk] at h3
    by_cases hs : vs.length = (T t).cells
    · rw [show (vs.length == (T t).cells) = true by simpa using hs] at h3
      obtain ⟨q, h7, h8, hq⟩ := opd_sound he p _ h3
      clear hq
      -- the store into a shared box
      have glob : ∀ b of, a.eval p = .pointer (some ⟨g.beta b, of, none⟩) → (∃ bx, G b = some bx ∧ out0sK L vs fun vs' => gstoK bx of vs' fun bx' => K .top ⟨env, L, nl, nt, setG G b bx'⟩) → o.wp P a w next Q := by
        rintro b of e ⟨bx, hb, hK⟩
        obtain ⟨vs', hK, hl', hz'⟩ := out0s_sound hr vs (a.eval x).cells.toList _ (by simpa using h4) (fun y hy => h5 y (by simpa using hy)) (fun i c u hc hu => h6 i c u hc (by simpa using hu)) hK
        obtain ⟨us, el, c1, hfit, bx', hK, hbx⟩ := gsto_sound hb hr.glob hK (xs := (a.eval x).cells) (by simpa using hl') h5 (fun i c y hc hy => hz' i c y hc (by simpa using hy))
        obtain ⟨b1, b2, _⟩ := hr.glob b _ hb
        have hst := run_storeAt (P := P) TO (t := t) (by rw [hk]; simp) (o := of) c1 (a.eval x) (by omega) h5 (by omega)
        refine wp_skip' (run_store_op ho e hst) (hn _ _ g _ _ hK ?_ (he.keep (setRow_cx _ (.inr ⟨b, b2⟩))) (.any _) (setRow_ext _ (.inr ⟨b, b2⟩)))
        exact hr.putBox hb (fun k hk => setRow_other w _ k _ hk) hbx
      cases q <;> first | exact h7.elim | skip
      case lptr j of =>
        obtain ⟨bx, hj, h7⟩ := (nthK_iff _ _).1 h7
        have e := (cz_lptr h8).2
        have hloc := hr.loc j bx hj
        cases bx with
        | live org cells =>
          simp only at h7
          rw [putsK_iff] at h7
          obtain ⟨hfit, h7⟩ := h7
          rw [setK_iff] at h7
          obtain ⟨_, hK⟩ := h7
          obtain ⟨us, el, c1, c2, c3, c4⟩ := hloc.2.1
          have hst := run_storeAt (P := P) TO (t := t) (by rw [hk]; simp) (o := of) c1 (a.eval x) (by omega) h5 (by omega)
          refine wp_skip' (run_store_op ho e hst) (hn _ _ g _ _ hK ?_ (he.keep (setRow_cx _ (.inl ⟨j, hloc.1⟩))) (.any _) (setRow_ext _ (.inl ⟨j, hloc.1⟩)))
          have cx := setRow_cx (g := g) (w := w) (us.toList.take of ++ (a.eval x).cells.toList ++ us.toList.drop (of + (a.eval x).cells.toList.length)).toArray (.inl ⟨j, hloc.1⟩)
          exact hr.setL hj _ (cells_puts c1 c2 c3 (fun i c u hc hu => (c4 i c u hc hu).mono cx) h4 h5 (fun i c y hc hy => (h6 i c y hc hy).mono cx) of hfit)
        | away b =>
          exact glob b of (by rw [e, hloc.2]) h7
        | dead => exact h7.elim
      case gptr b of => exact glob b of (cz_gptr h8).2 h7
    · rw [show (vs.length == (T t).cells) = false by simpa using hs] at h3; exact h3.elim
/-- a new shared box -/
def Gh.newG (g : Gh) (k : Nat) : Gh := { g with own := fun i => if i = k then .gbox g.nb else g.own i, beta := fun b => if b = g.nb then k else g.beta b, nb := g.nb + 1 }
theorem newG_cx (g : Gh) (w : World) (o : Obj) : Cx (fun _ => False) g w (g.newG w.heap.size) (w.alloc o) := by
  refine ⟨⟨fun k i u h1 h2 => ?_, Nat.le_succ _, fun b hb => by simp [Gh.newG, show b ≠ g.nb by omega]⟩, Nat.le_refl _, fun _ _ => rfl, Nat.le_refl _, fun j _ _ => ⟨rfl, fun k n _ _ hk => ⟨by simp [Gh.newG, show k ≠ w.heap.size by omega], Below.heap_alloc _ _ _ hk⟩⟩⟩
  have hlt := cell_lt h2
  refine ⟨?_, ?_⟩
  · unfold Gh.frz at *; simp only [Gh.newG, show k ≠ w.heap.size by omega, if_false]; exact h1
  · rw [cell_same (Below.heap_alloc _ _ _ hlt)]; exact h2
theorem newG_ext (g : Gh) (w : World) (o : Obj) : Ext g w (g.newG w.heap.size) (w.alloc o) := by
  have := (newG_cx g w o).dx
  refine ⟨this.cell, this.nb, this.beta, fun k hk _ => ⟨by simp [Gh.newG, show k ≠ w.heap.size by omega], Below.heap_alloc _ _ _ hk⟩, by simp, rfl, rfl, rfl⟩
theorem nb_none (h : GRel T g G w) : G g.nb = none := by
  cases hG : G g.nb with
  | none => rfl
  | some bx => have := (h g.nb bx hG).1; omega
theorem Rel.newG (h : Rel T g L nl nt G w) (o : Obj) (bx : GB) (hb : BoxAt T (g.newG w.heap.size) (w.alloc o) g.nb bx) : Rel T (g.newG w.heap.size) L nl nt (setG G g.nb bx) (w.alloc o) := by
  have cx := newG_cx g w o
  have hk : ∀ k, k < w.heap.size → (g.newG w.heap.size).own k = g.own k ∧ (w.alloc o).heap[k]? = w.heap[k]? := fun k hk => ⟨by simp [Gh.newG, show k ≠ w.heap.size by omega], Below.heap_alloc _ _ _ hk⟩
  have r := h.new (nt' := nt) cx hk rfl h.ht
  refine ⟨fun i x hi => ?_, r.loc, r.hL, r.hl, r.ht⟩
  by_cases hib : i = g.nb
  · subst hib
    rw [setG_same] at hi
    simp only [Option.some.injEq] at hi
    subst hi
    exact ⟨by simp [Gh.newG], by simp [Gh.newG], hb⟩
  · rw [setG_ne _ _ hib] at hi
    exact r.glob i x hi
theorem e_allocB (TO : TOk P T) (hr : Rel T g L nl nt G w) (he : EnvR T g w env a) {o : Oper} (t : TypeId) (ho : o.op = .alloc t) {next : Act → World → Prop} {Q : Exit → Act → World → Prop} {K : AV → Cf → Prop} (hn : NextOk T a o.dst next g w K)
    {e : TypeId} (hb : (T t).bld = some e) (hk : kindD (T t).desc ≠ none) (h : zeroK T t fun z => (match z with | [.nilp, .nils] => ∀ b, G b = none → K (.gptr b 0) ⟨env, L, nl, nt, setG G b (.bld .empty)⟩ | _ => False)) : o.wp P a w next Q := by
  obtain ⟨cs, h1, _, h3, h4, h5, h6⟩ := zero_sound (w := w) (g := g) TO hk _ h
  split at h1
  case h_2 => exact h1.elim
  rename_i z
  have hz : (T t).zero.cells = #[.pointer none, .slice none 0 0] := by
    generalize (T t).zero.cells = us at *
    obtain ⟨us⟩ := us
    match us, h4 with
    | [u0, u1], _ =>
      have e0 := h6 0 .nilp u0 rfl rfl
      have e1 := h6 1 .nils u1 rfl rfl
      cases e0; cases e1; rfl
  have hrun : (execOp a.eval o).run P w = .ok (.value (.pointer (some ⟨w.heap.size, 0, none⟩))) (w.alloc (.cells (T t).zero.cells t)) := by
    simp only [execOp, ho]
    simp [Instr.alloc, h3, newVar, newRow, newObj]
    rfl
  have hbeta : (g.newG w.heap.size).beta g.nb = w.heap.size := by simp [Gh.newG]
  have hr' := hr.newG (.cells (T t).zero.cells t) (.bld .empty) ⟨t, e, .pointer none, .slice none 0 0, hb, by rw [hbeta, hz]; exact blk_new _ _, .inl rfl, ⟨rfl, .inl ⟨rfl, rfl⟩⟩, by rw [hbeta]; simp [Value.ownBlock], fun k hk => by simp [Value.ownBlock] at hk, fun _ => rfl⟩
  refine wp_value hrun (hn _ _ _ _ _ (h1 g.nb (nb_none hr.glob)) hr' (he.keep (newG_cx _ _ _)) ?_ (newG_ext _ _ _))
  have := Cz.dz (T := T) (g := g.newG w.heap.size) (w := w.alloc (.cells (T t).zero.cells t)) _ _ (.gptr g.nb 0 (by simp [Gh.newG]))
  rwa [hbeta] at this
theorem e_makeMap (hr : Rel T g L nl nt G w) (he : EnvR T g w env a) {o : Oper} (t : TypeId) (ho : o.op = .makeMap t none) {next : Act → World → Prop} {Q : Exit → Act → World → Prop} {K : AV → Cf → Prop} (hn : NextOk T a o.dst next g w K)
    (kd : Option IntKind) (h : ∀ b, G b = none → K (.mp b) ⟨env, L, nl, nt, setG G b (.map kd [])⟩) : o.wp P a w next Q := by
  have hrun : (execOp a.eval o).run P w = .ok (.value (.map (some w.heap.size))) (w.alloc (.map #[] 0)) := by
    simp only [execOp, ho]
    simp [Instr.makeMap, newObj]
    rfl
  have hbeta : (g.newG w.heap.size).beta g.nb = w.heap.size := by simp [Gh.newG]
  have hr' := hr.newG (.map #[] 0) (.map kd []) ⟨#[], 0, by rw [hbeta]; exact (MapKept.heap_alloc w _).1, MapKept.stamped_empty 0, rfl, fun i x y hx => by simp at hx⟩
  refine wp_value hrun (hn _ _ _ _ _ (h g.nb (nb_none hr.glob)) hr' (he.keep (newG_cx _ _ _)) ?_ (newG_ext _ _ _))
  have := Cz.dz (T := T) (g := g.newG w.heap.size) (w := w.alloc (.map #[] 0)) _ _ (.mp g.nb (by simp [Gh.newG]))
  rwa [hbeta] at this
theorem map_set {b : Nat} {kd : Option IntKind} {m m' : List (AV × AV)} {es es' : Array MapEntry} {clock clock' : Nat} (hr : Rel T g L nl nt G w) (hb : G b = some (.map kd m)) (hs : MapKept.Stamped es' clock') (hl : es'.size = m'.length)
    (hp : ∀ (i : Nat) (x : AV × AV) (y : MapEntry), m'[i]? = some x → es'[i]? = some y → keyAt kd x.1 y.key ∧ Dz T g w x.2 y.val) (h1 : w.heap[g.beta b]? = some (.map es clock)) :
    Rel T g L nl nt (setG G b (.map kd m')) { w with heap := w.heap.setIfInBounds (g.beta b) (.map es' clock') } ∧ Cx (fun _ => False) g w g { w with heap := w.heap.setIfInBounds (g.beta b) (.map es' clock') } ∧ Ext g w g { w with heap := w.heap.setIfInBounds (g.beta b) (.map es' clock') } := by
  obtain ⟨b1, b2, _⟩ := hr.glob b _ hb
  have hw := (MapKept.heap_set (o' := .map es' clock') h1)
  have cx := blk_cx (g := g) (w := w) (w' := { w with heap := w.heap.setIfInBounds (g.beta b) (.map es' clock') }) (k := g.beta b) (.inr ⟨b, b2⟩) hw.2
  refine ⟨hr.putBox hb hw.2 ⟨es', clock', hw.1, hs, hl, fun i x y hx hy => ⟨(hp i x y hx hy).1, (hp i x y hx hy).2.mono cx.dx⟩⟩, cx, blk_ext (.inr ⟨b, b2⟩) hw.2 (by simp) rfl rfl rfl⟩
theorem e_mapUpdate (TO : TOk P T) (hr : Rel T g L nl nt G w) (he : EnvR T g w env a) {o : Oper} (t : TypeId) (mo ko xo : Operand) (ho : o.op = .mapUpdate t mo ko xo) {next : Act → World → Prop} {Q : Exit → Act → World → Prop} {K : AV → Cf → Prop} (hn : NextOk T a o.dst next g w K)
    (h : evOp0 P T (.mapUpdate t mo ko xo) ⟨env, L, nl, nt, G⟩ K) : o.wp P a w next Q := by
  simp only [evOp0, effK] at h
  obtain ⟨kv, h, hk, z_kv⟩ := opd_sound he ko _ h
  clear z_kv
  obtain ⟨mv, h, hm, z_mv⟩ := opd_sound he mo _ h
  clear z_mv
  obtain ⟨v, h, hv, z_v⟩ := opd_sound he xo _ h
  clear z_v
  cases hd : (T t).desc <;> simp only [hd] at h
  rename_i kt et
  obtain ⟨b, rfl⟩ : ∃ b, mv = .mp b := by cases mv <;> first | exact ⟨_, rfl⟩ | exact False.elim h
  simp only at h
  obtain ⟨kd, h, _, hku, hka⟩ := key_sound TO hk _ h
  obtain ⟨v', h, hz⟩ := out1_sound hr hv _ h
  obtain ⟨m, hb, hK⟩ := h
  obtain ⟨hbn, e⟩ := cz_mp hm
  have hu := und TO hd (by simp [kindD])
  have ik := keyAt_isKey hka
  obtain ⟨es, clock, g1, g2, g3, g4, g5⟩ := map_shape (hr.glob b _ hb).2.2
  rcases mfind hka m es.toList 0 g3 g4 with ⟨_, p2, _, p4, p5⟩ | ⟨j, x0, e0, p1, p2, _, p4, _, p6, p7⟩
  · have hrun : (execOp a.eval o).run P w = .ok .skip { w with heap := w.heap.setIfInBounds (g.beta b) (.map (es.push { key := a.eval ko, val := a.eval xo, born := clock }) (clock + 1)) } := by
      simp [execOp, ho, e, Instr.mapUpdate, run_underlying hu, MapKept.run_getObj_map g1, MapKept.run_checkKey hku ik, MapKept.run_findKey hku p4, MapKept.run_setObj_map _ g1, Result.andThen]
    rw [p2] at hK
    obtain ⟨q1, q2, q3⟩ := map_set (m' := m ++ [(kv, v')]) (es' := es.push { key := a.eval ko, val := a.eval xo, born := clock }) (clock' := clock + 1) hr hb (MapKept.stamped_push g2 p5) (by simp; simpa using g3) (fun i x y hx hy => by
      rcases Nat.lt_or_ge i m.length with hi | hi
      · rw [List.getElem?_append_left hi] at hx
        have hlt : i < es.size := by simp at g3; omega
        rw [Array.getElem?_push_lt hlt] at hy
        have hy' : es.toList[i]? = some y := by rw [Array.getElem?_toList, Array.getElem?_eq_getElem hlt]; exact hy
        exact ⟨g4 i x y hx hy', g5 i x y hx hy'⟩
      · rw [List.getElem?_append_right hi] at hx
        have hil := (Array.getElem?_eq_some_iff.1 hy).1
        simp only [Array.size_push] at hil
        simp only [Array.length_toList] at g3
        obtain rfl : i = m.length := by omega
        simp at hx
        subst hx
        rw [← g3] at hy
        simp at hy
        subst hy
        exact ⟨hka, hz⟩) g1
    exact wp_skip' hrun (hn _ _ g _ _ hK q1 (he.keep q2) (.any _) q3)
  · have hj : es[j]? = some e0 := by simpa using p2
    rw [Nat.zero_add] at p6
    have hrun : (execOp a.eval o).run P w = .ok .skip { w with heap := w.heap.setIfInBounds (g.beta b) (.map (es.modify j fun e' => { e' with key := a.eval ko, val := a.eval xo }) clock) } := by
      simp [execOp, ho, e, Instr.mapUpdate, run_underlying hu, MapKept.run_getObj_map g1, MapKept.run_checkKey hku ik, MapKept.run_findKey hku p6, hj, p7, MapKept.run_keyThatStays ik, MapKept.run_setObj_map _ g1, Result.andThen]
    rw [p4] at hK
    have hkeyf : ∀ e', es[j]? = some e' → ({ e' with key := a.eval ko, val := a.eval xo } : MapEntry).key = e'.key := fun e' he' => by rw [hj] at he'; cases he'; exact p7.symm
    obtain ⟨q1, q2, q3⟩ := map_set (m' := m.set j (kv, v')) (es' := es.modify j fun e' => { e' with key := a.eval ko, val := a.eval xo }) (clock' := clock) hr hb (MapKept.stamped_modify g2 _ _ (fun _ _ => rfl) (fun e' _ he' => hkeyf e' he')) (by simpa using g3) (fun i x y hx hy => by
      by_cases hij : i = j
      · subst hij
        rw [List.getElem?_set_self (List.getElem?_eq_some_iff.1 p1).1] at hx
        simp only [Option.some.injEq] at hx
        subst hx
        rw [Array.getElem?_modify, if_pos rfl, hj] at hy
        simp at hy
        subst hy
        exact ⟨hka, hz⟩
      · rw [List.getElem?_set_ne (Ne.symm hij)] at hx
        rw [Array.getElem?_modify, if_neg (Ne.symm hij)] at hy
        have hy' : es.toList[i]? = some y := by rw [Array.getElem?_toList]; exact hy
        exact ⟨g4 i x y hx hy', g5 i x y hx hy'⟩) g1
    exact wp_skip' hrun (hn _ _ g _ _ hK q1 (he.keep q2) (.any _) q3)
theorem e_delete (TO : TOk P T) (hr : Rel T g L nl nt G w) (he : EnvR T g w env a) {o : Oper} (args : Array Operand) (ts : Array TypeId) (ho : o.op = .call { callee := .builtin .delete, args := args, argTypes := ts }) {next : Act → World → Prop} {Q : Exit → Act → World → Prop} {K : AV → Cf → Prop} (hn : NextOk T a o.dst next g w K)
    (h : evOp0 P T (.call { callee := .builtin .delete, args := args, argTypes := ts }) ⟨env, L, nl, nt, G⟩ K) : o.wp P a w next Q := by
  simp only [evOp0, effK] at h
  obtain ⟨args⟩ := args
  obtain ⟨ts⟩ := ts
  match args, ts, h with
  | [mo, ko], [t, t2], h =>
    simp only at h
    obtain ⟨kv, h, hk, z_kv⟩ := opd_sound he ko _ h
    clear z_kv
    obtain ⟨mv, h, hm, z_mv⟩ := opd_sound he mo _ h
    clear z_mv
    cases hd : (T t).desc <;> simp only [hd] at h
    rename_i kt et
    obtain ⟨kd, h, _, hku, hka⟩ := key_sound TO hk _ h
    have hu := und TO hd (by simp [kindD])
    have ik := keyAt_isKey hka
    have tup0 : ∀ g' w', Cz T g' w' (.tup []) (.tuple #[]) := fun g' w' => .tup _ _ rfl fun i c u hc => by simp at hc
    rcases (show mv = .nilm ∨ ∃ b, mv = .mp b by cases mv <;> first | exact .inl rfl | exact .inr ⟨_, rfl⟩ | exact False.elim h) with rfl | ⟨b, rfl⟩ <;> simp only at h
    · have hrun : (execOp a.eval o).run P w = .ok (.value (.tuple #[])) w := by
        simp [execOp, ho, cz_nilm hm, resolve, invoke, builtin, Builtin.delete_, run_underlying hu, MapKept.run_checkKey hku ik, Result.andThen]
      exact wp_value hrun (hn _ _ g _ _ h hr he (tup0 _ _) (Ext.refl _ _))
    · obtain ⟨m, hb, hK⟩ := h
      obtain ⟨hbn, e⟩ := cz_mp hm
      obtain ⟨es, clock, g1, g2, g3, g4, g5⟩ := map_shape (hr.glob b _ hb).2.2
      rcases mfind hka m es.toList 0 g3 g4 with ⟨_, _, p3, p4, p5⟩ | ⟨j, x0, e0, p1, p2, _, _, p5, p6, p7⟩
      · have hrun : (execOp a.eval o).run P w = .ok (.value (.tuple #[])) { w with heap := w.heap.setIfInBounds (g.beta b) (.map es clock) } := by
          simp [execOp, ho, e, resolve, invoke, builtin, Builtin.delete_, run_underlying hu, MapKept.run_getObj_map g1, MapKept.run_checkKey hku ik, MapKept.run_findKey hku p4, MapKept.run_setObj_map _ g1, Result.andThen]
        rw [p3] at hK
        obtain ⟨q1, q2, q3⟩ := map_set (m' := m) (es' := es) (clock' := clock) hr hb g2 (by simpa using g3) (fun i x y hx hy => ⟨g4 i x y hx (by rw [Array.getElem?_toList]; exact hy), g5 i x y hx (by rw [Array.getElem?_toList]; exact hy)⟩) g1
        exact wp_value hrun (hn _ _ g _ _ hK q1 (he.keep q2) (tup0 _ _) q3)
      · rw [Nat.zero_add] at p6
        have hrun : (execOp a.eval o).run P w = .ok (.value (.tuple #[])) { w with heap := w.heap.setIfInBounds (g.beta b) (.map (es.eraseIdxIfInBounds j) clock) } := by
          simp [execOp, ho, e, resolve, invoke, builtin, Builtin.delete_, run_underlying hu, MapKept.run_getObj_map g1, MapKept.run_checkKey hku ik, MapKept.run_findKey hku p6, MapKept.run_setObj_map _ g1, Result.andThen]
        have hjs : j < es.size := by have := (List.getElem?_eq_some_iff.1 p2).1; simpa using this
        have hsub : (es.eraseIdxIfInBounds j).toList = es.toList.eraseIdx j := by
          unfold Array.eraseIdxIfInBounds
          rw [dif_pos hjs]
          simp
        rw [p5] at hK
        obtain ⟨q1, q2, q3⟩ := map_set (m' := m.eraseIdx j) (es' := es.eraseIdxIfInBounds j) (clock' := clock) hr hb (MapKept.stamped_erase g2 j) (by
          rw [← Array.length_toList, hsub, List.length_eraseIdx, List.length_eraseIdx, g3]) (fun i x y hx hy => by
          have hy' : (es.toList.eraseIdx j)[i]? = some y := by rw [← hsub, Array.getElem?_toList]; exact hy
          rw [List.getElem?_eraseIdx] at hx hy'
          split at hx
          · rename_i hlt; rw [if_pos hlt] at hy'; exact ⟨g4 i x y hx hy', g5 i x y hx hy'⟩
          · rename_i hlt; rw [if_neg hlt] at hy'; exact ⟨g4 _ x y hx hy', g5 _ x y hx hy'⟩) g1
        exact wp_value hrun (hn _ _ g _ _ hK q1 (he.keep q2) (tup0 _ _) q3)
end
end Go.Proofs.Ytmmmaekaoanceaa
