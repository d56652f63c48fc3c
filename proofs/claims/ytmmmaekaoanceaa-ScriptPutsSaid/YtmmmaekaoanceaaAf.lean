/- Rows of the call's own: made, and grown. -/
import Derived.Test.YtmmmaekaoanceaaAe
namespace Go.Proofs.Ytmmmaekaoanceaa
open Go Go.RowKit

section
variable {P : Program} {T : TypeId → TR} {g g' : Gh} {w w' : World} {a : Act} {L : List LB} {nl nt : Nat} {G : Glob} {env : List AV}

theorem dem0K_iff (j : Nat) (v : AV) (K : AV → Prop) : dem0K j v K ↔ K (dem0 j v) := by
  cases v <;> first | exact Iff.rfl | skip
  rename_i i e els
  simp only [dem0K, dem0]
  cases decide (i = j) <;> exact Iff.rfl
theorem dem0sK_iff (j : Nat) : ∀ (l : List AV) (K : List AV → Prop), dem0sK j l K ↔ K (l.map (dem0 j))
  | [], K => Iff.rfl
  | v :: r, K => by unfold dem0sK; rw [dem0K_iff, dem0sK_iff j r]; rfl
theorem dem1K_iff (j : Nat) (v : AV) (K : AV → Prop) : dem1K j v K ↔ K (dem1 j v) := by
  cases v with
  | agg cs => exact dem0sK_iff j _ _
  | tup cs => exact dem0sK_iff j _ _
  | fn f p q => simp only [dem1K, dem0sK_iff]; exact Iff.rfl
  | ifc t v => cases v with
    | agg cs => exact dem0sK_iff j _ _
    | _ => simp only [dem1K, dem0K_iff]; exact Iff.rfl
  | _ => simp only [dem1K, dem0K_iff]; exact Iff.rfl
theorem dem1sK_iff (j : Nat) : ∀ (l : List AV) (K : List AV → Prop), dem1sK j l K ↔ K (l.map (dem1 j))
  | [], K => Iff.rfl
  | v :: r, K => by unfold dem1sK; rw [dem1K_iff, dem1sK_iff j r]; rfl
theorem demLK_iff (j : Nat) : ∀ (l : List LB) (K : List LB → Prop), demLK j l K ↔ K (l.map (demL j))
  | [], K => Iff.rfl
  | .live org cells :: r, K => by unfold demLK; rw [dem1sK_iff, demLK_iff j r]; rfl
  | .away b :: r, K => by unfold demLK; rw [demLK_iff j r]; rfl
  | .dead :: r, K => by unfold demLK; rw [demLK_iff j r]; rfl
theorem dem0_sound {j : Nat} {v : AV} {u : Value} (h : Cz T g w v u) (x : Cx (fun i => i = j) g w g' w') : Cz T g' w' (dem0 j v) u := by
  cases h with
  | dz v u h => cases v <;> first | exact .any _ | exact .dz _ _ (h.mono x.dx) | cases h
  | any u => exact .any u
  | own i e els u hi h =>
    by_cases hij : i = j
    · simp only [dem0, decide_eq_true hij]
      exact .dz _ _ ((h.slc (fun n i hi => hi)).mono x.dx)
    · simp only [dem0, decide_eq_false hij]
      obtain ⟨h1, h2⟩ := x.tok i hi hij
      refine .own i e els u (Nat.lt_of_lt_of_le hi x.nt) ?_
      rw [h1]
      exact h.mono x.dx (fun k hk => let ⟨_, _, _, h4, _⟩ := h; h2 k _ hk (h4 k hk) (by rw [hk] at h; exact h.lt))
  | lptr i off hi => unfold dem0; rw [← x.lam i hi]; exact .lptr i off (Nat.lt_of_lt_of_le hi x.nl)
  | agg => exact .any _
  | tup => exact .any _
  | fn => exact .any _
  | ifc => exact .any _
theorem dem0s_sound {j : Nat} {cs : List AV} {us : Array Value} (h : ∀ (i : Nat) (c : AV) (u : Value), cs[i]? = some c → us[i]? = some u → Cz T g w c u) (x : Cx (fun i => i = j) g w g' w') :
    ∀ (i : Nat) (c : AV) (u : Value), (cs.map (dem0 j))[i]? = some c → us[i]? = some u → Cz T g' w' c u := by
  intro i c u hc hu
  rw [List.getElem?_map] at hc
  obtain ⟨c', hc', rfl⟩ := Option.map_eq_some_iff.1 hc
  exact dem0_sound (h i c' u hc' hu) x
theorem dem1_sound {j : Nat} {v : AV} {u : Value} (h : Cz T g w v u) (x : Cx (fun i => i = j) g w g' w') : Cz T g' w' (dem1 j v) u := by
  cases v with
  | agg cs =>
    obtain ⟨us, rfl, hl, h1, h2⟩ := cz_agg h
    exact .agg _ _ (by simpa using hl) h1 (dem0s_sound h2 x)
  | tup cs =>
    obtain ⟨us, rfl, hl, h2⟩ := cz_tup h
    exact .tup _ _ (by simpa using hl) (dem0s_sound h2 x)
  | fn f p q =>
    obtain ⟨us, vs, rfl, ha, hb, h1, h2⟩ := cz_fn h
    exact .fn _ _ _ _ _ (by simpa using ha) (by simpa using hb) (dem0s_sound h1 x) (dem0s_sound h2 x)
  | ifc t v =>
    obtain ⟨y, rfl, hy⟩ := cz_ifc h
    cases v with
    | agg cs =>
      obtain ⟨us, rfl, hl, h1, h2⟩ := cz_agg hy
      exact .ifc t _ _ (.agg _ _ (by simpa using hl) h1 (dem0s_sound h2 x))
    | _ => exact .ifc t _ _ (dem0_sound hy x)
  | _ => exact dem0_sound h x
theorem EnvR.dem {j : Nat} (h : EnvR T g w env a) (x : Cx (fun i => i = j) g w g' w') : EnvR T g' w' (env.map (dem1 j)) a := by
  refine ⟨by simpa using h.size, fun i v hv => ?_, h.defers⟩
  rw [List.getElem?_map] at hv
  obtain ⟨v', hv', rfl⟩ := Option.map_eq_some_iff.1 hv
  exact dem1_sound (h.vals i v' hv') x
theorem LocAt.dem {j i : Nat} {bx : LB} (h : LocAt T g w i bx) (hi : i < g.nl) (x : Cx (fun i => i = j) g w g' w') (hk : ∀ org cells, bx = .live org cells → g.own (g.lam i) = .lbox i → g'.own (g.lam i) = .lbox i ∧ w'.heap[g.lam i]? = w.heap[g.lam i]?) : LocAt T g' w' i (demL j bx) := by
  cases bx with
  | live org cells =>
    obtain ⟨h1, h2, h3⟩ := h
    obtain ⟨h4, h5⟩ := hk _ _ rfl h1
    refine ⟨by rw [x.lam i hi]; exact h4, ?_, fun b hb => ?_⟩
    · rw [x.lam i hi]
      obtain ⟨us, e, c1, c2, c3, c4⟩ := h2
      refine ⟨us, e, by rw [h5]; exact c1, by simpa using c2, c3, fun i c u hc hu => ?_⟩
      rw [List.getElem?_map] at hc
      obtain ⟨c', hc', rfl⟩ := Option.map_eq_some_iff.1 hc
      exact dem1_sound (c4 i c' u hc' hu) x
    · obtain ⟨q1, q2⟩ := h3 b hb
      exact ⟨Nat.lt_of_lt_of_le q1 x.dx.nb, by rw [x.dx.beta b q1, x.lam i hi]; exact q2⟩
  | away b =>
    obtain ⟨q1, q2⟩ := h
    exact ⟨Nat.lt_of_lt_of_le q1 x.dx.nb, by rw [x.dx.beta b q1, x.lam i hi]; exact q2⟩
  | dead => trivial
theorem Cx.weaken {S S' : Nat → Prop} (h : Cx S g w g' w') (hs : ∀ i, S i → S' i) : Cx S' g w g' w' := ⟨h.dx, h.nl, h.lam, h.nt, fun j hj hn => h.tok j hj (fun h => hn (hs j h))⟩

/-- what an append leaves of the world -/
def AppW (w w' : World) (u u' : Value) : Prop :=
  (w' = w ∧ u' = u) ∨ (∃ k arr, u.ownBlock = some k ∧ u'.ownBlock = some k ∧ w' = w.setRow k arr) ∨ (∃ o, w' = w.drew.alloc o ∧ u'.ownBlock = some w.heap.size)
theorem app_run (TO : TOk P T) {t e : TypeId} (ht : P.underlying t = some (.slice e)) (hk : kindD (T e).desc ≠ none) (hsz : 0 < (T e).cells) (ty : TypeId) {u : Value} {n : Nat} {xs : List Value} (hown : w.ownsRow 0 e (T e).cells u n xs)
    (p : Option Addr) (m c : Nat) (news : List Value) (hl : news.length = m * (T e).cells) (hnews : 0 < m → ∃ ad, p = some ad ∧ ∀ j v, news[j]? = some v → w.cell? (ad.add j) = some v) (h1 : ∀ v ∈ news, v.oneCell' = true)
    (h63 : n + m ≤ maxLen) (hbytes : (n + m) * (T e).bytes ≤ 140737488355328) :
    ∃ u' w', (Builtin.append_ #[t, t] ty #[u, .slice p m c]).run P w = .ok u' w' ∧ w'.ownsRow 0 e (T e).cells u' (n + m) (xs ++ news) ∧ AppW w w' u u' := by
  obtain ⟨_, i, hi, hs, hb, hz, hzs, _⟩ := TO e hk
  by_cases hm : m = 0
  · subst hm
    have hn : news = [] := List.eq_nil_of_length_eq_zero (by simpa using hl)
    subst hn
    refine ⟨u, w, ?_, by simpa using hown, .inl ⟨rfl, rfl⟩⟩
    obtain ⟨_, ⟨rfl, rfl⟩ | ⟨b, cap, cur, rfl, _, hg, hc, _⟩⟩ := hown
    · cases p <;> simp [Builtin.append_, run_underlying ht, sizeOf, typeInfo, hi, Builtin.lenOf, Builtin.firstCells, loadCells, loadCellsFrom]
    · cases p <;> simp [Builtin.append_, run_underlying ht, sizeOf, typeInfo, hi, Builtin.lenOf, Builtin.firstCells, loadCells, loadCellsFrom, hc, storeCells]
  · obtain ⟨ad, rfl, hn2⟩ := hnews (by omega)
    obtain ⟨u', w', hr, ho, _, _⟩ := run_append_own (P := P) w 0 t ty e i (T e).zero (T e).cells (T e).bytes ht hi hz hs hb hzs hsz u n xs hown ad m c news hl hn2 h1 h63 hbytes (Nat.zero_le _)
    refine ⟨u', w', hr, ho, ?_⟩
    rw [← hb] at hbytes
    unfold maxLen at h63
    have hl' : news.length = m * i.size := by rw [hs]; exact hl
    have hx' : xs.length = n * i.size := by rw [hs]; exact hown.1
    rcases hown.2 with ⟨rfl, rfl⟩ | ⟨b, cap, cur, rfl, _, hg, hc, _, hcs, htk⟩
    · have h2 := run_append_nil (P := P) w t ty e i (T e).zero ht hi hz ad m c news hl' hn2 (by omega) (by omega) (by have hb := hbytes; simp only [Nat.zero_add] at hb; omega)
      rw [h2] at hr
      simp only [Result.ok.injEq] at hr
      obtain ⟨rfl, rfl⟩ := hr
      exact .inr (.inr ⟨_, rfl, rfl⟩)
    · by_cases hroom : n + m ≤ cap
      · have hfit : n * i.size + news.length ≤ cur.size := by rw [hl', hcs, ← hs, ← Nat.add_mul]; exact Nat.mul_le_mul_right _ hroom
        have h2 := run_append_room (P := P) w t ty e i ht hi b n cap cur hg ad m c news hl' hn2 h1 hroom hfit
        rw [h2] at hr
        simp only [Result.ok.injEq] at hr
        obtain ⟨rfl, rfl⟩ := hr
        exact .inr (.inl ⟨b, _, rfl, rfl, rfl⟩)
      · have holds : ∀ j u, xs[j]? = some u → w.cell? ((⟨b, 0, none⟩ : Addr).add j) = some u := hown.cells (g := b) rfl
        have h2 := run_append_grow (P := P) w t ty e i (T e).zero ht hi hz ⟨b, 0, none⟩ n cap xs hx' holds ad m c news hl' hn2 (by omega) (by omega) (growslice_fits (by omega) hbytes)
        rw [h2] at hr
        simp only [Result.ok.injEq] at hr
        obtain ⟨rfl, rfl⟩ := hr
        exact .inr (.inr ⟨_, rfl, rfl⟩)

/-- a new row: whose it is -/
def Gh.newTok (g : Gh) (kopt : Option Nat) (n : Nat) : Gh := { g with own := fun i => if some i = kopt then .tok g.nt n else g.own i, tau := fun j => if j = g.nt then kopt else g.tau j, nt := g.nt + 1 }
theorem newTok_cx (g : Gh) {w w' : World} {kopt : Option Nat} (n : Nat) (hk : ∀ k, kopt = some k → w.heap.size ≤ k) (hw : ∀ k, k < w.heap.size → w'.heap[k]? = w.heap[k]?) : Cx (fun _ => False) g w (g.newTok kopt n) w' := by
  have hne : ∀ k, k < w.heap.size → some k ≠ kopt := fun k hk' h => by have := hk k h.symm; omega
  refine ⟨⟨fun k i u h1 h2 => ?_, Nat.le_refl _, fun _ _ => rfl⟩, Nat.le_refl _, fun _ _ => rfl, Nat.le_succ _, fun j hj _ => ⟨by simp [Gh.newTok, show j ≠ g.nt by omega], fun k n _ _ hk' => ⟨by simp [Gh.newTok, hne k hk'], hw k hk'⟩⟩⟩
  have hlt := cell_lt h2
  refine ⟨?_, ?_⟩
  · unfold Gh.frz at *; simp only [Gh.newTok, hne k hlt, if_false]; exact h1
  · rw [show w'.cell? ⟨k, i, none⟩ = w.cell? ⟨k, i, none⟩ from by simp [World.cell?, hw k hlt]]; exact h2
theorem newTok_ext (g : Gh) {w w' : World} {kopt : Option Nat} (n : Nat) (hk : ∀ k, kopt = some k → w.heap.size ≤ k) (hw : ∀ k, k < w.heap.size → w'.heap[k]? = w.heap[k]?) (hs : w.heap.size ≤ w'.heap.size) (h1 : w'.os = w.os) (h2 : w'.tape = w.tape) (h3 : w'.output = w.output) : Ext g w (g.newTok kopt n) w' := by
  have := (newTok_cx g n hk hw).dx
  refine ⟨this.cell, this.nb, this.beta, fun k hk' _ => ⟨?_, hw k hk'⟩, hs, h1, h2, h3⟩
  have hne : some k ≠ kopt := fun h => by have := hk k h.symm; omega
  simp [Gh.newTok, hne]
theorem Rel.newTok (h : Rel T g L nl nt G w) {w' : World} {kopt : Option Nat} (n : Nat) (hk : ∀ k, kopt = some k → w.heap.size ≤ k) (hw : ∀ k, k < w.heap.size → w'.heap[k]? = w.heap[k]?) : Rel T (g.newTok kopt n) L nl (nt + 1) G w' := by
  refine h.new (newTok_cx g n hk hw) (fun k hk' => ⟨?_, hw k hk'⟩) rfl (by simp [Gh.newTok, h.ht])
  have hne : some k ≠ kopt := fun h => by have := hk k h.symm; omega
  simp [Gh.newTok, hne]
/-- the cells of a slice's elements, one behind the other -/
theorem slc_flat {e : TypeId} {els : List (List AV)} {p : Option Addr} {m c : Nat} (h : Dz T g w (.slc e els) (.slice p m c)) (hsz : 0 < (T e).cells) : m = els.length ∧ ∃ news : List Value, news.length = m * (T e).cells ∧ (∀ v ∈ news, v.oneCell' = true) ∧
    (0 < m → ∃ ad, p = some ad ∧ ∀ j v, news[j]? = some v → w.cell? (ad.add j) = some v) ∧
    ∀ (i : Nat) (cells : List AV), els[i]? = some cells → ∀ (j : Nat) (x : AV), cells[j]? = some x → ∃ y, news[i * (T e).cells + j]? = some y ∧ y.oneCell' = true ∧ Dz T g w x y := by
  obtain ⟨p', cap, e1, hc, hm, hs, hF0⟩ := slc_cells h
  simp only [Value.slice.injEq] at e1
  obtain ⟨rfl, rfl, rfl⟩ := e1
  refine ⟨rfl, ?_⟩
  by_cases h0 : 0 < els.length
  · obtain ⟨b, off, F, rfl, hF⟩ := hF0 h0
    clear hF0
    have hat : ∀ q, q < els.length * (T e).cells → ∃ cells, els[q / (T e).cells]? = some cells ∧ q / (T e).cells * (T e).cells + q % (T e).cells = q ∧ q % (T e).cells < (T e).cells := by
      intro q hq
      have h1 : q / (T e).cells < els.length := Nat.div_lt_of_lt_mul (by rw [Nat.mul_comm]; exact hq)
      exact ⟨_, List.getElem?_eq_getElem h1, by rw [Nat.mul_comm]; exact Nat.div_add_mod q _, Nat.mod_lt _ hsz⟩
    refine ⟨(List.range (els.length * (T e).cells)).map fun q => F (q / (T e).cells) (q % (T e).cells), by simp, fun v hv => ?_, fun _ => ⟨_, rfl, fun j v hj => ?_⟩, fun i cells hi j x hj => ?_⟩
    · obtain ⟨q, hq, rfl⟩ := List.mem_map.1 hv
      obtain ⟨cells, h1, h2, h3⟩ := hat q (by simpa using hq)
      exact (hF _ cells h1 _ h3).2.2.1
    · obtain ⟨hq, rfl⟩ := List.getElem?_eq_some_iff.1 hj
      simp only [List.length_map, List.length_range] at hq
      obtain ⟨cells, h1, h2, h3⟩ := hat j hq
      have := (hF _ cells h1 _ h3).2.1
      rw [h2] at this
      rw [addr_add, this]
      simp
    · have hcl := hs cells (List.mem_of_getElem? hi)
      have hjl := (List.getElem?_eq_some_iff.1 hj).1
      have hil := (List.getElem?_eq_some_iff.1 hi).1
      have hq : i * (T e).cells + j < els.length * (T e).cells := by
        calc i * (T e).cells + j < i * (T e).cells + (T e).cells := by omega
          _ = (i + 1) * (T e).cells := by rw [Nat.add_mul, Nat.one_mul]
          _ ≤ els.length * (T e).cells := Nat.mul_le_mul_right _ hil
      have hd : (i * (T e).cells + j) / (T e).cells = i := by
        rw [Nat.mul_comm, Nat.mul_add_div hsz, Nat.div_eq_of_lt (by omega)]; rfl
      have hmod : (i * (T e).cells + j) % (T e).cells = j := by
        rw [Nat.mul_comm, Nat.mul_add_mod, Nat.mod_eq_of_lt (by omega)]
      obtain ⟨_, _, f3, f4⟩ := hF i cells hi j (by omega)
      exact ⟨F i j, by rw [List.getElem?_map, List.getElem?_range hq]; simp [hd, hmod], f3, f4 x hj⟩
  · have : els = [] := List.eq_nil_of_length_eq_zero (by omega)
    subst this
    exact ⟨[], by simp, fun _ h => (by cases h), fun h => (by simp at h), fun i c hi => (by simp at hi)⟩
theorem els_app {e : TypeId} {els els' : List (List AV)} {xs news : List Value} (hl : xs.length = els.length * (T e).cells) (hs : ∀ cells ∈ els, cells.length = (T e).cells) (hs' : ∀ cells ∈ els', cells.length = (T e).cells)
    (h1 : ∀ (i : Nat) (cells : List AV), els[i]? = some cells → ∀ (j : Nat) (x : AV), cells[j]? = some x → ∃ y, xs[i * (T e).cells + j]? = some y ∧ y.oneCell' = true ∧ Dz T g w x y)
    (h2 : ∀ (i : Nat) (cells : List AV), els'[i]? = some cells → ∀ (j : Nat) (x : AV), cells[j]? = some x → ∃ y, news[i * (T e).cells + j]? = some y ∧ y.oneCell' = true ∧ Dz T g w x y) :
    (∀ cells ∈ els ++ els', cells.length = (T e).cells) ∧ ∀ (i : Nat) (cells : List AV), (els ++ els')[i]? = some cells → ∀ (j : Nat) (x : AV), cells[j]? = some x → ∃ y, (xs ++ news)[i * (T e).cells + j]? = some y ∧ y.oneCell' = true ∧ Dz T g w x y := by
  refine ⟨fun c hc => (List.mem_append.1 hc).elim (hs c) (hs' c), fun i cells hi j x hj => ?_⟩
  rcases Nat.lt_or_ge i els.length with hlt | hge
  · rw [List.getElem?_append_left hlt] at hi
    obtain ⟨y, q1, q2⟩ := h1 i cells hi j x hj
    exact ⟨y, by rw [List.getElem?_append_left (List.getElem?_eq_some_iff.1 q1).1]; exact q1, q2⟩
  · rw [List.getElem?_append_right hge] at hi
    obtain ⟨y, q1, q2⟩ := h2 _ cells hi j x hj
    have hge2 : els.length * (T e).cells ≤ i * (T e).cells := Nat.mul_le_mul_right _ hge
    refine ⟨y, ?_, q2⟩
    rw [List.getElem?_append_right (by omega), hl]
    rw [show i * (T e).cells + j - els.length * (T e).cells = (i - els.length) * (T e).cells + j by rw [Nat.sub_mul]; omega]
    exact q1
theorem drew_block (w : World) (o : Obj) {k : Nat} (hk : k < w.heap.size) : (w.drew.alloc o).heap[k]? = w.heap[k]? := Below.heap_alloc w.drew _ _ hk
/-- the world of an append to a row of the call's own: whose the blocks are -/
def Gh.regrow (g : Gh) (j k : Nat) (kopt : Option Nat) (n : Nat) : Gh := { g with own := fun i => if i = k then .tok j n else if some i = kopt then .frz else g.own i, tau := fun i => if i = j then some k else g.tau i }
theorem slc_shape {e : TypeId} {els : List (List AV)} {u : Value} (h : Dz T g w (.slc e els) u) : ∃ p cap, u = .slice p els.length cap := by
  obtain ⟨p, cap, e1, _⟩ := slc_cells h; exact ⟨p, cap, e1⟩
theorem run_app_op {o : Oper} {s x : Operand} {t : TypeId} (ho : o.op = .call { callee := .builtin .append, args := #[s, x], argTypes := #[t, t] }) {u : Value} (hr : (Builtin.append_ #[t, t] o.type #[a.eval s, a.eval x]).run P w = .ok u w') : (execOp a.eval o).run P w = .ok (.value u) w' := by
  simp [execOp, ho, resolve, invoke, builtin, hr]
theorem e_append (TO : TOk P T) (hr : Rel T g L nl nt G w) (he : EnvR T g w env a) {o : Oper} (s x : Operand) (t e : TypeId) (ho : o.op = .call { callee := .builtin .append, args := #[s, x], argTypes := #[t, t] }) (hd : (T t).desc = .slice e) (hk : kindD (T e).desc ≠ none) (hsz : 0 < (T e).cells)
    {next : Act → World → Prop} {Q : Exit → Act → World → Prop} {K : AV → Cf → Prop} (hn : NextOk T a o.dst next g w K) (h : opdK env x fun xv => opdK env s fun sv => appK T e xv sv ⟨env, L, nl, nt, G⟩ K) : o.wp P a w next Q := by
  have ht := und TO hd (by simp [kindD])
  obtain ⟨xv, h1, h2, h2'⟩ := opd_sound he x _ h
  obtain ⟨sv, h3, h4, h4'⟩ := opd_sound he s _ h1
  clear h2' h4'
  cases sv <;> simp only [appK] at h3 <;> first | exact h3.elim | skip
  case nils =>
    obtain ⟨e', els', h5, h6, h7⟩ := els_sound h2 _ h3
    clear h7
    by_cases hee : e = e'
    · subst hee
      simp only [decide_true] at h5
      obtain ⟨⟨b1, b2⟩, hK⟩ := h5
      obtain ⟨p, cap, ex⟩ := slc_shape h6
      rw [ex] at h6
      obtain ⟨_, news, n1, n2, n3, n4⟩ := slc_flat h6 hsz
      have hs' : ∀ cells ∈ els', cells.length = (T e).cells := (slc_cells h6).elim fun _ h => h.elim fun _ h => h.2.2.2.1
      have es := cz_nils h4
      obtain ⟨u', w', r1, r2, r3⟩ := app_run TO ht hk hsz o.type (World.ownsRow_nil w 0 e (T e).cells) p els'.length cap news n1 n3 n2 (by omega) (by simpa using b2)
      have run := run_app_op (P := P) (a := a) (w := w) (w' := w') (u := u') ho (by rw [es, ex]; exact r1)
      have hblk : ∀ k, u'.ownBlock = some k → w.heap.size ≤ k := by
        intro k hk
        rcases r3 with ⟨rfl, rfl⟩ | ⟨k', arr, q1, _⟩ | ⟨ob, rfl, q⟩
        · simp [Value.ownBlock] at hk
        · simp [Value.ownBlock] at q1
        · rw [hk] at q; simp at q; omega
      have hheap : (∀ k, k < w.heap.size → w'.heap[k]? = w.heap[k]?) ∧ w.heap.size ≤ w'.heap.size ∧ w'.os = w.os ∧ w'.tape = w.tape ∧ w'.output = w.output := by
        rcases r3 with ⟨rfl, rfl⟩ | ⟨k', arr, q1, _⟩ | ⟨ob, rfl, q⟩
        · exact ⟨fun _ _ => rfl, Nat.le_refl _, rfl, rfl, rfl⟩
        · simp [Value.ownBlock] at q1
        · exact ⟨fun k hk => drew_block w ob hk, by simp, rfl, rfl, rfl⟩
      have cx := newTok_cx g (kopt := u'.ownBlock) (els'.length * (T e).cells) hblk hheap.1
      refine wp_value run (hn _ _ (g.newTok u'.ownBlock (els'.length * (T e).cells)) _ _ hK (hr.newTok _ hblk hheap.1) (he.keep cx) ?_ (newTok_ext g _ hblk hheap.1 hheap.2.1 hheap.2.2.1 hheap.2.2.2.1 hheap.2.2.2.2))
      refine .own nt e els' u' (by simp [Gh.newTok, hr.ht]) ⟨news, ?_, ?_, fun k hk => ?_, hs', fun i cells hi j y hj => ?_⟩
      · simpa using r2
      · simp [Gh.newTok, hr.ht]
      · simp only [Gh.newTok, hr.ht, if_true] at hk ⊢
        rw [if_pos hk.symm]
      · obtain ⟨y', q1, q2, q3⟩ := n4 i cells hi j y hj
        exact ⟨y', q1, q2, q3.mono cx.dx⟩
    · rw [decide_eq_false hee] at h5; exact h5.elim
  case own j e1 els =>
    obtain ⟨e', els', h5, h6, h7⟩ := els_sound h2 _ h3
    clear h7
    by_cases hee : e = e1 ∧ e = e'
    · obtain ⟨rfl, rfl⟩ := hee
      simp only [decide_true] at h5
      obtain ⟨⟨b1, b2⟩, h5⟩ := h5
      rw [dem1sK_iff, demLK_iff] at h5
      obtain ⟨p, cap, ex⟩ := slc_shape h6
      rw [ex] at h6
      obtain ⟨_, news, n1, n2, n3, n4⟩ := slc_flat h6 hsz
      have hs' : ∀ cells ∈ els', cells.length = (T e).cells := (slc_cells h6).elim fun _ h => h.elim fun _ h => h.2.2.2.1
      obtain ⟨hj, xs, o1, o2, o3, o4, o5⟩ := cz_own h4
      obtain ⟨u', w', r1, r2, r3⟩ := app_run TO ht hk hsz o.type o1 p els'.length cap news n1 n3 n2 b1 b2
      have run := run_app_op (P := P) (a := a) (w := w) (w' := w') (u := u') ho (by rw [ex]; exact r1)
      obtain ⟨a1, a2⟩ := els_app o1.1 o4 hs' o5 n4
      have hjn : j < nt := by rw [← hr.ht]; exact hj
      -- what each way leaves
      have fin : ∀ g' : Gh, Cx (fun i => i = j) g w g' w' → Ext g w g' w' → (∀ k, k < w.heap.size → (∃ i, g.own k = .lbox i) ∨ (∃ b, (g.own k).ofBox b) → g'.own k = g.own k ∧ w'.heap[k]? = w.heap[k]?) → g'.nl = g.nl → g'.nt = g.nt → g'.tau j = u'.ownBlock →
          (∀ k, u'.ownBlock = some k → g'.own k = .tok j ((els.length + els'.length) * (T e).cells)) → o.wp P a w next Q := by
        intro g' cx ext hk' hl hnt htau hown
        refine wp_value run (hn _ _ g' _ _ h5 ⟨?_, fun i bx hi => ?_, by simpa using hr.hL, by rw [hl]; exact hr.hl, by rw [hnt]; exact hr.ht⟩ (he.dem cx) ?_ ext)
        · exact hr.glob.keep cx.dx (fun b k _ q2 q3 => hk' k q3 (.inr ⟨b, q2⟩))
        · rw [List.getElem?_map] at hi
          obtain ⟨bx', hi', rfl⟩ := Option.map_eq_some_iff.1 hi
          refine (hr.loc i bx' hi').dem (by rw [hr.hl, ← hr.hL]; exact (List.getElem?_eq_some_iff.1 hi').1) cx (fun org cells hb q1 => ?_)
          have hloc := hr.loc i bx' hi'
          rw [hb] at hloc
          obtain ⟨q3, q4⟩ := hk' _ (loc_lt hloc) (.inl ⟨i, q1⟩)
          exact ⟨q3.trans q1, q4⟩
        · refine .own j e _ u' (by rw [hnt]; exact hj) ⟨xs ++ news, by rw [List.length_append]; exact r2, htau.symm, fun k hk => ?_, a1, fun i cells hi q y hq => ?_⟩
          · rw [List.length_append]; exact hown k (by rw [← htau]; exact hk)
          · obtain ⟨y', q1, q2, q3⟩ := a2 i cells hi q y hq
            exact ⟨y', q1, q2, q3.mono cx.dx⟩
      have hold : ∀ k i u, g.frz k i → w.cell? ⟨k, i, none⟩ = some u → ∀ n', g.tau j = some k → els.length ≤ n' → i < n' * (T e).cells := by
        intro k i u q1 _ n' q2 q3
        unfold Gh.frz at q1
        rw [o3 k q2] at q1
        exact Nat.lt_of_lt_of_le q1 (Nat.mul_le_mul_right _ q3)
      rcases r3 with ⟨rfl, rfl⟩ | ⟨k, arr, q1, q2, rfl⟩ | ⟨ob, rfl, q⟩
      · -- nothing was put behind it
        refine fin { g with own := fun i => if g.tau j = some i then .tok j ((els.length + els'.length) * (T e).cells) else g.own i } ⟨⟨fun k i u q1 q2 => ⟨?_, q2⟩, Nat.le_refl _, fun _ _ => rfl⟩, Nat.le_refl _, fun _ _ => rfl, Nat.le_refl _, fun i _ hij => ⟨rfl, fun k n q1 q2 _ => ⟨?_, rfl⟩⟩⟩
            ⟨fun k i u q1 q2 => ⟨?_, q2⟩, Nat.le_refl _, fun _ _ => rfl, fun k _ q1 => ⟨?_, rfl⟩, Nat.le_refl _, rfl, rfl, rfl⟩ (fun k _ q1 => ⟨?_, rfl⟩) rfl rfl ?_ ?_
        · unfold Gh.frz
          by_cases hk : g.tau j = some k
          · simp only [hk, if_true]; exact hold k i u q1 q2 _ hk (by omega)
          · simp only [hk, if_false]; exact q1
        · by_cases hk : g.tau j = some k
          · rw [o3 k hk] at q2; simp only [Own.tok.injEq] at q2; exact absurd q2.1.symm hij
          · simp only [hk, if_false]
        · unfold Gh.frz
          by_cases hk : g.tau j = some k
          · simp only [hk, if_true]; exact hold k i u q1 q2 _ hk (by omega)
          · simp only [hk, if_false]; exact q1
        · by_cases hk : g.tau j = some k
          · rw [o3 k hk] at q1; exact q1.elim
          · simp only [hk, if_false]
        · by_cases hk : g.tau j = some k
          · rw [o3 k hk] at q1; rcases q1 with ⟨_, q1⟩ | ⟨_, q1⟩ <;> cases q1
          · simp only [hk, if_false]
        · exact o2.symm
        · intro k hk
          rw [← o2, hk]; simp
      · -- there was room
        have htk : g.tau j = some k := by rw [← o2]; exact q1
        have hcell : ∀ i u, i < els.length * (T e).cells → w.cell? ⟨k, i, none⟩ = some u → (w.setRow k arr).cell? ⟨k, i, none⟩ = some u := by
          intro i u hi hu
          have c1 := o1.cells q1
          have c2 := r2.cells q2
          obtain ⟨x0, hx⟩ : ∃ x0, xs[i]? = some x0 := ⟨xs[i]'(by rw [o1.1]; exact hi), List.getElem?_eq_getElem _⟩
          have d1 := c1 i _ hx
          have d2 := c2 i x0 (by rw [List.getElem?_append_left (by rw [o1.1]; exact hi)]; exact hx)
          rw [addr_add, Nat.zero_add] at d1 d2
          rw [d1] at hu
          rw [d2, hu]
        have dx : Dx g w { g with own := fun i => if i = k then .tok j ((els.length + els'.length) * (T e).cells) else g.own i } (w.setRow k arr) := by
          refine ⟨fun k' i u p1 p2 => ?_, Nat.le_refl _, fun _ _ => rfl⟩
          by_cases hkk : k' = k
          · subst hkk
            refine ⟨?_, hcell i u ?_ p2⟩
            · unfold Gh.frz; simp only [if_true]; exact hold k' i u p1 p2 _ htk (by omega)
            · have := p1; unfold Gh.frz at this; rw [o3 k' htk] at this; exact this
          · refine ⟨?_, by rw [setRow_cell hkk]; exact p2⟩
            unfold Gh.frz at *; simp only [hkk, if_false]; exact p1
        refine fin _ ⟨dx, Nat.le_refl _, fun _ _ => rfl, Nat.le_refl _, fun i _ hij => ⟨rfl, fun k' n p1 p2 _ => ?_⟩⟩ ⟨dx.cell, dx.nb, dx.beta, fun k' _ p1 => ?_, by simp, rfl, rfl, rfl⟩ (fun k' _ p1 => ?_) rfl rfl (by show g.tau j = _; rw [htk, q2]) (fun k' hk' => ?_)
        · have hkk : k' ≠ k := by rintro rfl; rw [o3 k' htk] at p2; simp only [Own.tok.injEq] at p2; exact hij p2.1.symm
          exact ⟨by simp only [hkk, if_false], setRow_other w k k' arr hkk⟩
        · have hkk : k' ≠ k := by rintro rfl; rw [o3 k' htk] at p1; exact p1
          exact ⟨by simp only [hkk, if_false], setRow_other w k k' arr hkk⟩
        · have hkk : k' ≠ k := by rintro rfl; rw [o3 k' htk] at p1; rcases p1 with ⟨_, p1⟩ | ⟨_, p1⟩ <;> cases p1
          exact ⟨by simp only [hkk, if_false], setRow_other w k k' arr hkk⟩
        · rw [q2] at hk'; simp only [Option.some.injEq] at hk'; subst hk'; simp only [if_true]
      · -- a new block
        have hlt : ∀ k, g.tau j = some k → k < w.heap.size := fun k hk => OwnAt.lt (T := T) (g := g) (o := .tok j) (e := e) (els := els) (u := a.eval s) (by rw [← hk]; exact ⟨xs, o1, o2, o3, o4, o5⟩)
        have dx : Dx g w (g.regrow j w.heap.size (g.tau j) ((els.length + els'.length) * (T e).cells)) (w.drew.alloc ob) := by
          refine ⟨fun k' i u p1 p2 => ?_, Nat.le_refl _, fun _ _ => rfl⟩
          have hkl := cell_lt p2
          refine ⟨?_, by rw [show (w.drew.alloc ob).cell? ⟨k', i, none⟩ = w.cell? ⟨k', i, none⟩ from by simp only [World.cell?, drew_block w ob hkl]]; exact p2⟩
          unfold Gh.frz Gh.regrow at *
          simp only [show k' ≠ w.heap.size by omega, if_false]
          by_cases hk : some k' = g.tau j
          · simp only [hk, if_true]; trivial
          · simp only [hk, if_false]; exact p1
        refine fin _ ⟨dx, Nat.le_refl _, fun _ _ => rfl, Nat.le_refl _, fun i _ hij => ⟨by simp [Gh.regrow, hij], fun k' n p1 p2 hkl => ?_⟩⟩ ⟨dx.cell, dx.nb, dx.beta, fun k' hkl p1 => ?_, by simp, rfl, rfl, rfl⟩ (fun k' hkl p1 => ?_) rfl rfl (by simp [Gh.regrow, q]) (fun k' hk' => ?_)
        · have hne : some k' ≠ g.tau j := fun h => by rw [o3 k' h.symm] at p2; simp only [Own.tok.injEq] at p2; exact hij p2.1.symm
          exact ⟨by simp only [Gh.regrow, show k' ≠ w.heap.size by omega, hne, if_false], drew_block w ob hkl⟩
        · have hne : some k' ≠ g.tau j := fun h => by rw [o3 k' h.symm] at p1; exact p1
          exact ⟨by simp only [Gh.regrow, show k' ≠ w.heap.size by omega, hne, if_false], drew_block w ob hkl⟩
        · have hne : some k' ≠ g.tau j := fun h => by rw [o3 k' h.symm] at p1; rcases p1 with ⟨_, p1⟩ | ⟨_, p1⟩ <;> cases p1
          exact ⟨by simp only [Gh.regrow, show k' ≠ w.heap.size by omega, hne, if_false], drew_block w ob hkl⟩
        · rw [q] at hk'; simp only [Option.some.injEq] at hk'; subst hk'; simp [Gh.regrow]
    · by_cases h8 : e = e1
      · have h9 : e ≠ e' := fun h => hee ⟨h8, h⟩
        simp only [decide_eq_true h8, decide_eq_false h9] at h5
      · simp only [decide_eq_false h8] at h5
/-- cells, n to an element -/
def chunk (n : Nat) : Nat → List AV → List (List AV)
  | 0, _ => []
  | m + 1, l => l.take n :: chunk n m (l.drop n)
theorem chunkK_iff (n : Nat) : ∀ (m : Nat) (l : List AV) (K : List (List AV) → Prop), chunkK n m l K ↔ l.length = m * n ∧ K (chunk n m l)
  | 0, [], K => by simp [chunkK, chunk]
  | 0, _ :: _, K => by simp [chunkK]
  | m + 1, l, K => by
    simp only [chunkK, takeK_iff, dropK_iff, chunkK_iff n m, chunk, List.length_drop, Nat.add_mul, Nat.one_mul]
    constructor
    · rintro ⟨h1, h2, h3, h4⟩; exact ⟨by omega, h4⟩
    · rintro ⟨h1, h4⟩; exact ⟨by omega, by omega, by omega, h4⟩
theorem chunk_len (n : Nat) : ∀ (m : Nat) (l : List AV), (chunk n m l).length = m
  | 0, _ => rfl
  | m + 1, l => by simp [chunk, chunk_len n m]
theorem chunk_at (n : Nat) : ∀ (m : Nat) (l : List AV) (i : Nat), i < m → (chunk n m l)[i]? = some ((l.drop (i * n)).take n)
  | 0, _, i, h => by omega
  | m + 1, l, 0, h => by simp [chunk]
  | m + 1, l, i + 1, h => by
    simp only [chunk, List.getElem?_cons_succ, chunk_at n m _ i (by omega), List.drop_drop]
    rw [show n + i * n = (i + 1) * n by rw [Nat.add_mul]; omega]
def repl (z : List AV) : Nat → List AV
  | 0 => []
  | n + 1 => z ++ repl z n
theorem repK_iff (z : List AV) : ∀ (n : Nat) (K : List AV → Prop), repK z n K ↔ K (repl z n)
  | 0, K => Iff.rfl
  | n + 1, K => by simp only [repK, repK_iff z n, repl]
theorem repl_at (z : List AV) (hz : 0 < z.length) : ∀ (n i : Nat), i < n * z.length → (repl z n)[i]? = z[i % z.length]?
  | 0, i, h => by omega
  | n + 1, i, h => by
    unfold repl
    rcases Nat.lt_or_ge i z.length with h1 | h1
    · rw [List.getElem?_append_left h1, Nat.mod_eq_of_lt h1]
    · rw [List.getElem?_append_right h1, repl_at z hz n _ (by rw [Nat.add_mul, Nat.one_mul] at h; omega), Nat.mod_eq_sub_mod h1]
theorem repl_len (z : List AV) : ∀ n, (repl z n).length = n * z.length
  | 0 => by simp [repl]
  | n + 1 => by simp [repl, repl_len z n, Nat.add_mul]; omega
theorem run_vw {s : Sem Value} {u : Value} (h : s.run P w = .ok u w') : (do pure (.value (← s)) : Sem Next).run P w = .ok (.value u) w' := by
  simp only [Sem.run_bind, h, Result.andThen_ok, Sem.run_pure]
theorem e_buildSlice (TO : TOk P T) (hr : Rel T g L nl nt G w) (he : EnvR T g w env a) {o : Oper} (t : TypeId) (len : Nat) (parts : Array (Nat × Operand)) (ho : o.op = .buildSlice t len parts)
    {next : Act → World → Prop} {Q : Exit → Act → World → Prop} {K : AV → Cf → Prop} (hn : NextOk T a o.dst next g w K) (h : evOp0 P T (.buildSlice t len parts) ⟨env, L, nl, nt, G⟩ K) : o.wp P a w next Q := by
  simp only [evOp0, effK] at h
  cases hd : (T t).desc <;> simp only [hd] at h <;> first | exact h.elim | skip
  rename_i e
  have ht := und TO hd (by simp [kindD])
  cases hc : (T e).cells with
  | zero => simp only [hc] at h
  | succ n =>
    cases hk : kindD (T e).desc with
    | none => simp only [hc, hk] at h
    | some kb =>
      by_cases hle : len * (n + 1) ≤ 16777216
      · simp only [hc, hk, decide_eq_true hle] at h
        obtain ⟨_, i', hi', hs', _, hz', hzs, _⟩ := TO e (by rw [hk]; simp)
        obtain ⟨z0, h1, _, h3, h4, h5, h6⟩ := zero_sound (w := w) (g := g) TO (t := e) (by rw [hk]; simp) _ h
        rw [repK_iff] at h1
        have hz0 : z0.length = n + 1 := by rw [h4, hzs, hc]
        have hzz : (T e).zero.cells.size = n + 1 := by rw [hzs, hc]
        generalize hZ : ((Array.range (len * (n + 1))).map fun x => (T e).zero.cells[x % (T e).zero.cells.size]!) = Z
        have hZs : Z.size = len * (n + 1) := by rw [← hZ]; simp
        have hZat : ∀ q, q < len * (n + 1) → ∃ y, Z[q]? = some y ∧ (T e).zero.cells[q % (n + 1)]? = some y := by
          intro q hq
          have hm : q % (n + 1) < (T e).zero.cells.size := by rw [hzz]; exact Nat.mod_lt _ (by omega)
          refine ⟨(T e).zero.cells[q % (n + 1)], ?_, Array.getElem?_eq_getElem hm⟩
          rw [← hZ]
          simp [hq, hzz]
          rw [getElem!_pos (T e).zero.cells _ hm]
        obtain ⟨cs, xs, q1, _, q3, q4, q5, q6, q7⟩ := fill_sound he _ parts.toList (repl z0 len) Z _ (by rw [repl_len, hz0, hZs]) (fun x hx => by
            obtain ⟨q, hq, rfl⟩ := Array.mem_iff_getElem.1 hx
            obtain ⟨y, y1, y2⟩ := hZat q (by omega)
            rw [Array.getElem?_eq_getElem hq] at y1
            simp only [Option.some.injEq] at y1
            rw [y1]; exact h5 _ (Array.mem_of_getElem? y2)) (fun q c x hc' hx => by
            have hq := (Array.getElem?_eq_some_iff.1 hx).1
            obtain ⟨y, y1, y2⟩ := hZat q (by omega)
            rw [repl_at _ (by omega) _ _ (by rw [hz0]; omega), hz0] at hc'
            rw [y1] at hx
            simp only [Option.some.injEq] at hx
            subst hx
            exact .dz _ _ (h6 _ _ _ hc' y2)) h1
        rw [dat0sK_iff, chunkK_iff] at q1
        obtain ⟨c1, hK⟩ := q1
        simp only [List.length_map] at c1
        have pl : (parts.map fun (i, x) => (i, a.eval x)).toList = parts.toList.map fun p => (p.1, a.eval p.2) := by simp
        have run : (execOp a.eval o).run P w = .ok (.value (.slice (some ⟨w.heap.size, 0, none⟩) len len)) (w.alloc (.cells xs e)) := by
          simp only [execOp, ho]
          refine run_vw ?_
          by_cases h0 : len * (n + 1) = 0
          · have : len = 0 := by rcases Nat.mul_eq_zero.1 h0 with h | h <;> omega
            subst this
            have hz1 : Z = #[] := Array.eq_empty_of_size_eq_zero (by omega)
            rw [hz1] at q3
            have hE : ∀ f : Nat → Value, (Array.range 0).map f = #[] := fun f => by simp
            have hg : ¬ (16777216 < 0) := by omega
            simp only [Instr.buildSlice, Sem.run_bind, run_underlying ht, Result.andThen_ok, sizeOf, typeInfo, run_program, hi', Sem.run_pure, hs', hc, Nat.reducePow, gt_iff_lt, Nat.zero_mul, hg, if_false, if_true, hE, pl, q3, newRow, newObj]
            rfl
          · have hg : ¬ (16777216 < len * (n + 1)) := by omega
            simp only [Instr.buildSlice, Sem.run_bind, run_underlying ht, Result.andThen_ok, sizeOf, typeInfo, run_program, hi', Sem.run_pure, hs', hc, Nat.reducePow, gt_iff_lt, hg, if_false, h0, h3, pl, hZ, q3, newRow, newObj]
            rfl
        have hw : ∀ k, k < w.heap.size → (w.alloc (.cells xs e)).heap[k]? = w.heap[k]? := fun k hk => Below.heap_alloc _ _ _ hk
        have hb : ∀ k, some w.heap.size = some k → w.heap.size ≤ k := fun k hk => by simp only [Option.some.injEq] at hk; omega
        have cx := newTok_cx g (kopt := some w.heap.size) (len * (T e).cells) hb hw
        refine wp_value run (hn _ _ (g.newTok (some w.heap.size) (len * (T e).cells)) _ _ hK (hr.newTok _ hb hw) (he.keep cx) ?_ (newTok_ext g _ hb hw (by simp) rfl rfl rfl))
        have hlen := chunk_len (n + 1) len (cs.map dat0)
        refine .own nt e _ _ (by simp [Gh.newTok, hr.ht]) ⟨xs.toList, ?_, ?_, fun k hk' => ?_, fun cells hcl => ?_, fun i cells hi j x hj => ?_⟩
        · rw [hlen, hc]
          have hlm : len ≤ maxLen := by
            have : len ≤ len * (n + 1) := Nat.le_mul_of_pos_right _ (by omega)
            unfold maxLen; omega
          exact ⟨by simp; omega, .inr ⟨w.heap.size, len, xs, rfl, Nat.zero_le _, blk_new _ _, Nat.le_refl _, hlm, by omega, by rw [List.take_of_length_le (by simp; omega)]⟩⟩
        · simp [Gh.newTok, hr.ht, Value.ownBlock]
        · simp only [Gh.newTok, hr.ht, if_true, Option.some.injEq] at hk' ⊢
          subst hk'
          simp [hlen]
        · obtain ⟨i, hil, rfl⟩ := List.mem_iff_getElem.1 hcl
          have := chunk_at (n + 1) len (cs.map dat0) i (by omega)
          rw [List.getElem?_eq_getElem hil] at this
          simp only [Option.some.injEq] at this
          rw [this, hc]
          simp
          have : (i + 1) * (n + 1) ≤ len * (n + 1) := Nat.mul_le_mul_right _ (by omega)
          rw [Nat.add_mul] at this
          omega
        · have hil := (List.getElem?_eq_some_iff.1 hi).1
          rw [chunk_at (n + 1) len (cs.map dat0) i (by omega)] at hi
          simp only [Option.some.injEq] at hi
          subst hi
          have hjl := (List.getElem?_eq_some_iff.1 hj).1
          simp only [List.length_take, List.length_drop, List.length_map] at hjl
          rw [List.getElem?_take_of_lt (by omega), List.getElem?_drop, List.getElem?_map] at hj
          obtain ⟨c, hc', rfl⟩ := Option.map_eq_some_iff.1 hj
          have cxd := cx.dx
          rw [hc] at cxd ⊢
          have hxl : i * (n + 1) + j < xs.size := by have := (List.getElem?_eq_some_iff.1 hc').1; omega
          have hx : xs[i * (n + 1) + j]? = some xs[i * (n + 1) + j] := Array.getElem?_eq_getElem hxl
          refine ⟨xs[i * (n + 1) + j], by simp, q6 _ (Array.getElem_mem _), ?_⟩
          exact (dat0_sound (q7 _ _ _ hc' hx) (q6 _ (Array.getElem_mem _))).mono cxd
      · simp only [hc, hk, decide_eq_false hle] at h
end
end Go.Proofs.Ytmmmaekaoanceaa
