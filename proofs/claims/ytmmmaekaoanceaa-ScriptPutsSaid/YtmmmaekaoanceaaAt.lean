/- What an operand, a load, a place say of memory. -/
import Derived.Test.YtmmmaekaoanceaaAs
import Derived.Laws.StructEq
import Derived.Laws.CopyRow
import Derived.Laws.Cells
import Derived.Laws.Rows
namespace Go.Proofs.Ytmmmaekaoanceaa
open Go Go.RowKit

section
variable {P : Program} {T : TypeId → TR} {g : Gh} {w : World}

theorem ofV1_is (v : Value) : ∃ x, (∀ K : AV → Prop, ofV1K v K ↔ K x) ∧ (v.oneCell' = true → Dz T g w x v) ∧ Cz T g w x v := by
  have top : (∀ K : AV → Prop, ofV1K v K ↔ K .top) → ∃ x, (∀ K : AV → Prop, ofV1K v K ↔ K x) ∧ (v.oneCell' = true → Dz T g w x v) ∧ Cz T g w x v := fun h => ⟨.top, h, fun h1 => .top v h1, .any v⟩
  have dz : ∀ x, (∀ K : AV → Prop, ofV1K v K ↔ K x) → Dz T g w x v → ∃ x, (∀ K : AV → Prop, ofV1K v K ↔ K x) ∧ (v.oneCell' = true → Dz T g w x v) ∧ Cz T g w x v := fun x h1 h2 => ⟨x, h1, fun _ => h2, .dz x v h2⟩
  cases v with
  | bool b => exact dz _ (fun K => Iff.rfl) (.bool b)
  | int k n => exact dz _ (fun K => Iff.rfl) (.int k n)
  | string s => exact dz _ (fun K => Iff.rfl) (.str s)
  | pointer a => cases a with
    | none => exact dz _ (fun K => Iff.rfl) .nilp
    | some a => exact top (fun K => Iff.rfl)
  | slice a n c => cases a with
    | none => cases n with
      | zero => cases c with
        | zero => exact dz _ (fun K => Iff.rfl) .nils
        | succ c => exact top (fun K => Iff.rfl)
      | succ n => exact top (fun K => Iff.rfl)
    | some a => exact top (fun K => by cases n <;> cases c <;> exact Iff.rfl)
  | nilFunc => exact dz _ (fun K => Iff.rfl) .nilf
  | nilIface => exact dz _ (fun K => Iff.rfl) .nili
  | map r => cases r with
    | none => exact dz _ (fun K => Iff.rfl) .nilm
    | some r => exact top (fun K => Iff.rfl)
  | float k b => exact top (fun K => Iff.rfl)
  | complex k a b => exact top (fun K => Iff.rfl)
  | chan r => exact top (fun K => Iff.rfl)
  | func f a b => exact top (fun K => Iff.rfl)
  | iface t v => exact top (fun K => Iff.rfl)
  | agg cs => exact top (fun K => Iff.rfl)
  | tuple vs => exact top (fun K => Iff.rfl)
theorem ofVs_is : ∀ (vs : List Value) (K : List AV → Prop), ofVsK vs K → ∃ l, K l ∧ (∀ K' : List AV → Prop, K' l → ofVsK vs K') ∧ l.length = vs.length ∧ (∀ u ∈ vs, u.oneCell' = true) ∧ ∀ (i : Nat) (c : AV) (u : Value), l[i]? = some c → vs[i]? = some u → Dz T g w c u
  | [], K, h => ⟨[], h, fun _ h => h, rfl, (fun _ h => by cases h), (fun i c u h => by simp at h)⟩
  | v :: r, K, h => by
    have hone : v.oneCell' = true := by cases v <;> first | rfl | exact h.elim
    have h' : ofV1K v fun x => ofVsK r fun l => K (x :: l) := by cases v <;> first | exact h | exact h.elim
    have hb : ∀ K' : List AV → Prop, (ofV1K v fun x => ofVsK r fun l => K' (x :: l)) → ofVsK (v :: r) K' := by
      intro K' h2; cases v <;> first | exact h2 | (simp [Value.oneCell'] at hone)
    obtain ⟨x, hx, hd, _⟩ := ofV1_is (T := T) (g := g) (w := w) v
    rw [hx] at h'
    obtain ⟨l, h1, h2, h3, h4, h5⟩ := ofVs_is r _ h'
    refine ⟨x :: l, h1, fun K' hK => hb K' ((hx _).2 (h2 _ hK)), by simp [h3], fun u hu => ?_, fun i c u hc hu => ?_⟩
    · rcases List.mem_cons.1 hu with rfl | hu
      · exact hone
      · exact h4 u hu
    · cases i with
      | zero => simp at hc hu; subst hc; subst hu; exact hd hone
      | succ i => simp at hc hu; exact h5 i c u hc hu
theorem ofV_sound (v : Value) (K : AV → Prop) (h : ofVK v K) : ∃ x, K x ∧ Cz T g w x v ∧ ∀ K' : AV → Prop, K' x → ofVK v K' := by
  have gen : (∀ K : AV → Prop, ofVK v K ↔ ofV1K v K) → ∃ x, K x ∧ Cz T g w x v ∧ ∀ K' : AV → Prop, K' x → ofVK v K' := fun h0 => by
    obtain ⟨x, hx, _, hc⟩ := ofV1_is (T := T) (g := g) (w := w) v
    exact ⟨x, (hx K).1 ((h0 K).1 h), hc, fun K' hK => (h0 K').2 ((hx K').2 hK)⟩
  cases v with
  | agg cs =>
    obtain ⟨l, h1, h2, h3, h4, h5⟩ := ofVs_is (T := T) (g := g) (w := w) cs.toList _ h
    refine ⟨.agg l, h1, .dz _ _ (.agg l cs (by simpa using h3) (fun u hu => h4 u (by simpa using hu)) (fun i c u hc hu => h5 i c u hc (by simpa using hu))), fun K' hK => h2 _ hK⟩
  | _ => exact gen (fun K => Iff.rfl)
theorem opd_sound {env : List AV} {a : Act} (he : EnvR T g w env a) (x : Operand) (K : AV → Prop) (h : opdK env x K) : ∃ v, K v ∧ Cz T g w v (a.eval x) ∧ ∀ K' : AV → Prop, K' v → opdK env x K' := by
  cases x with
  | tmp t =>
    obtain ⟨v, h1, h2⟩ := (nthK_iff _ _).1 h
    exact ⟨v, h2, he.vals t v h1, fun K' hK => (nthK_iff _ _).2 ⟨v, h1, hK⟩⟩
  | const v => exact ofV_sound v K h
  | global b => exact ⟨.top, h, .any _, fun _ h => h⟩
  | func f => exact ⟨_, h, .dz _ _ (.fn _ [] [] #[] #[] rfl rfl (fun i c u h => by simp at h) (fun i c u h => by simp at h)), fun _ h => h⟩

theorem opds_sound {env : List AV} {a : Act} (he : EnvR T g w env a) : ∀ (l : List Operand) (K : List AV → Prop), opdsK env l K → ∃ vs, K vs ∧ (∀ K' : List AV → Prop, K' vs → opdsK env l K') ∧ vs.length = l.length ∧
    ∀ (i : Nat) (v : AV) (x : Operand), vs[i]? = some v → l[i]? = some x → Cz T g w v (a.eval x)
  | [], K, h => ⟨[], h, fun _ h => h, rfl, fun i v x h => by simp at h⟩
  | x :: r, K, h => by
    obtain ⟨v, h1, h2, h3⟩ := opd_sound he x _ h
    obtain ⟨vs, h4, h5, h6, h7⟩ := opds_sound he r _ h1
    refine ⟨v :: vs, h4, fun K' hK => h3 _ (h5 _ hK), by simp [h6], fun i c y hc hy => ?_⟩
    cases i with
    | zero => simp at hc hy; subst hc; subst hy; exact h2
    | succ i => simp at hc hy; exact h7 i c y hc hy
theorem oopd_sound {env : List AV} {a : Act} (he : EnvR T g w env a) (x : Option Operand) (K : Option AV → Prop) (h : oopdK env x K) : ∃ v, K v ∧ (∀ K' : Option AV → Prop, K' v → oopdK env x K') ∧
    ((x = none ∧ v = none) ∨ ∃ y c, x = some y ∧ v = some c ∧ Cz T g w c (a.eval y)) := by
  cases x with
  | none => exact ⟨none, h, fun _ h => h, .inl ⟨rfl, rfl⟩⟩
  | some y =>
    obtain ⟨v, h1, h2, h3⟩ := opd_sound he y _ h
    exact ⟨some v, h1, fun K' hK => h3 _ hK, .inr ⟨y, v, rfl, rfl, h2⟩⟩

/-- values of a shape -/
theorem cz_int {k : IntKind} {n : Int} {u : Value} (h : Cz T g w (.int k n) u) : u = .int k n := by cases h with | dz _ _ h => cases h; rfl
theorem cz_bool {b : Bool} {u : Value} (h : Cz T g w (.bool b) u) : u = .bool b := by cases h with | dz _ _ h => cases h; rfl
theorem cz_str {s : ByteArray} {u : Value} (h : Cz T g w (.str s) u) : u = .string s := by cases h with | dz _ _ h => cases h; rfl
theorem cz_nilp {u : Value} (h : Cz T g w .nilp u) : u = .pointer none := by cases h with | dz _ _ h => cases h; rfl
theorem cz_nilf {u : Value} (h : Cz T g w .nilf u) : u = .nilFunc := by cases h with | dz _ _ h => cases h; rfl
theorem cz_nili {u : Value} (h : Cz T g w .nili u) : u = .nilIface := by cases h with | dz _ _ h => cases h; rfl
theorem cz_nilm {u : Value} (h : Cz T g w .nilm u) : u = .map none := by cases h with | dz _ _ h => cases h; rfl
theorem cz_nils {u : Value} (h : Cz T g w .nils u) : u = .slice none 0 0 := by cases h with | dz _ _ h => cases h; rfl
theorem cz_mp {b : Nat} {u : Value} (h : Cz T g w (.mp b) u) : b < g.nb ∧ u = .map (some (g.beta b)) := by cases h with | dz _ _ h => cases h with | mp _ hb => exact ⟨hb, rfl⟩
theorem cz_gptr {b o : Nat} {u : Value} (h : Cz T g w (.gptr b o) u) : b < g.nb ∧ u = .pointer (some ⟨g.beta b, o, none⟩) := by cases h with | dz _ _ h => cases h with | gptr _ _ hb => exact ⟨hb, rfl⟩
theorem cz_lptr {j o : Nat} {u : Value} (h : Cz T g w (.lptr j o) u) : j < g.nl ∧ u = .pointer (some ⟨g.lam j, o, none⟩) := by
  cases h with
  | dz _ _ h => cases h
  | lptr _ _ hj => exact ⟨hj, rfl⟩
theorem cz_slc {e : TypeId} {els : List (List AV)} {u : Value} (h : Cz T g w (.slc e els) u) : Dz T g w (.slc e els) u := by cases h with | dz _ _ h => exact h
theorem cz_own {j : Nat} {e : TypeId} {els : List (List AV)} {u : Value} (h : Cz T g w (.own j e els) u) : j < g.nt ∧ OwnAt T g w (.tok j) (g.tau j) e els u := by
  cases h with
  | dz _ _ h => cases h
  | own _ _ _ _ hj h => exact ⟨hj, h⟩
theorem cz_agg {cs : List AV} {u : Value} (h : Cz T g w (.agg cs) u) : ∃ us : Array Value, u = .agg us ∧ cs.length = us.size ∧ (∀ u ∈ us, u.oneCell' = true) ∧ ∀ (i : Nat) (c : AV) (u : Value), cs[i]? = some c → us[i]? = some u → Cz T g w c u := by
  cases h with
  | dz _ _ h => cases h with | agg _ us hl h1 h => exact ⟨us, rfl, hl, h1, fun i c u hc hu => .dz _ _ (h i c u hc hu)⟩
  | agg _ us hl h1 h => exact ⟨us, rfl, hl, h1, h⟩
theorem cz_tup {cs : List AV} {u : Value} (h : Cz T g w (.tup cs) u) : ∃ us : Array Value, u = .tuple us ∧ cs.length = us.size ∧ ∀ (i : Nat) (c : AV) (u : Value), cs[i]? = some c → us[i]? = some u → Cz T g w c u := by
  cases h with
  | dz _ _ h => cases h with | tup _ us hl h => exact ⟨us, rfl, hl, fun i c u hc hu => .dz _ _ (h i c u hc hu)⟩
  | tup _ us hl h => exact ⟨us, rfl, hl, h⟩
theorem cz_fn {f : Fn} {x y : List AV} {u : Value} (h : Cz T g w (.fn f x y) u) : ∃ us vs : Array Value, u = .func f us vs ∧ x.length = us.size ∧ y.length = vs.size ∧
    (∀ (i : Nat) (c : AV) (u : Value), x[i]? = some c → us[i]? = some u → Cz T g w c u) ∧ ∀ (i : Nat) (c : AV) (u : Value), y[i]? = some c → vs[i]? = some u → Cz T g w c u := by
  cases h with
  | dz _ _ h => cases h with | fn _ _ _ us vs ha hb h1 h2 => exact ⟨us, vs, rfl, ha, hb, fun i c u hc hu => .dz _ _ (h1 i c u hc hu), fun i c u hc hu => .dz _ _ (h2 i c u hc hu)⟩
  | fn _ _ _ us vs ha hb h1 h2 => exact ⟨us, vs, rfl, ha, hb, h1, h2⟩
theorem cz_ifc {t : TypeId} {v : AV} {u : Value} (h : Cz T g w (.ifc t v) u) : ∃ x, u = .iface t x ∧ Cz T g w v x := by
  cases h with
  | dz _ _ h => cases h with | ifc _ _ u h => exact ⟨u, rfl, .dz _ _ h⟩
  | ifc _ _ u h => exact ⟨u, rfl, h⟩

/-- a value points to a place within cells that can be read -/
def ReadAt (T : TypeId → TR) (g : Gh) (w : World) (cells : List AV) (o : Nat) (u : Value) : Prop :=
  ∃ (k base : Nat) (F : Nat → Value), u = .pointer (some ⟨k, base + o, none⟩) ∧ ∀ (j : Nat) (x : AV), cells[j]? = some x → w.cell? ⟨k, base + j, none⟩ = some (F j) ∧ (F j).oneCell' = true ∧ Cz T g w x (F j)
theorem CellsAt.read {R : AV → Value → Prop} {k : Nat} {cells : List AV} (h : CellsAt w k R cells) (hR : ∀ c u, R c u → Cz T g w c u) (o : Nat) : ReadAt T g w cells o (.pointer (some ⟨k, o, none⟩)) := by
  obtain ⟨us, e, h1, h2, h3, h4⟩ := h
  refine ⟨k, 0, fun j => us.getD j undef, by simp, fun j x hj => ?_⟩
  have hl := (List.getElem?_eq_some_iff.1 hj).1
  have hu : us[j]? = some us[j] := Array.getElem?_eq_getElem (by omega)
  rw [Nat.zero_add, blk_cell h1, hu]
  refine ⟨by simp [Array.getD, show j < us.size by omega], ?_, ?_⟩
  · simp [Array.getD, show j < us.size by omega]; exact h3 _ (Array.getElem_mem _)
  · simp [Array.getD, show j < us.size by omega]; exact hR _ _ (h4 j x _ hj hu)
theorem cellsK_is {bx : GB} {K : List AV → Prop} (h : cellsK bx K) : ∃ cells, K cells ∧ (bx = .cells cells ∨ ∃ gs, bx = .box cells gs) ∧ ∀ K' : List AV → Prop, K' cells → cellsK bx K' := by
  cases bx with
  | cells cs => exact ⟨cs, h, .inl rfl, fun _ h => h⟩
  | box cs gs => exact ⟨cs, h, .inr ⟨gs, rfl⟩, fun _ h => h⟩
  | bld s => exact h.elim
  | map kd m => exact h.elim
theorem BoxAt.cellsAt {b : Nat} {bx : GB} {cells : List AV} (h : BoxAt T g w b bx) (hc : bx = .cells cells ∨ ∃ gs, bx = .box cells gs) : CellsAt w (g.beta b) (Dz T g w) cells := by
  rcases hc with rfl | ⟨gs, rfl⟩
  · exact h
  · obtain ⟨us, e, h1, h2, h3, h4, _⟩ := h
    exact ⟨us, e, h1, h2, h3, h4⟩
theorem box_sound {L : List LB} {nl nt : Nat} {G : Glob} (hr : Rel T g L nl nt G w) {p : AV} {u : Value} (hp : Cz T g w p u) (K : List AV → Nat → Prop) (h : boxK L G p K) :
    ∃ cells o, K cells o ∧ ReadAt T g w cells o u ∧ ∀ K' : List AV → Nat → Prop, K' cells o → boxK L G p K' := by
  have glob : ∀ b o bx cells, G b = some bx → (bx = .cells cells ∨ ∃ gs, bx = .box cells gs) → ReadAt T g w cells o (.pointer (some ⟨g.beta b, o, none⟩)) := by
    intro b o bx cells hG hc
    obtain ⟨_, _, hb⟩ := hr.glob b _ hG
    exact CellsAt.read (hb.cellsAt hc) (fun c u h => .dz _ _ h) o
  cases p with
  | lptr j o =>
    obtain ⟨bx, hj, h⟩ := (nthK_iff _ _).1 h
    obtain ⟨_, rfl⟩ := cz_lptr hp
    have hl := hr.loc j bx hj
    cases bx with
    | live org cells =>
      exact ⟨cells, o, h, CellsAt.read hl.2.1 (fun _ _ h => h) o, fun K' hK => (nthK_iff _ _).2 ⟨_, hj, hK⟩⟩
    | away b =>
      obtain ⟨bx, hG, h⟩ := h
      obtain ⟨cells, hK, hc, hb⟩ := cellsK_is h
      refine ⟨cells, o, hK, ?_, fun K' hK => (nthK_iff _ _).2 ⟨_, hj, bx, hG, hb _ hK⟩⟩
      rw [← hl.2]; exact glob b o bx cells hG hc
    | dead => exact h.elim
  | gptr b o =>
    obtain ⟨bx, hG, h⟩ := h
    obtain ⟨cells, hK, hc, hb⟩ := cellsK_is h
    obtain ⟨_, rfl⟩ := cz_gptr hp
    exact ⟨cells, o, hK, glob b o bx cells hG hc, fun K' hK => ⟨bx, hG, hb _ hK⟩⟩
  | eref cells o =>
    refine ⟨cells, o, h, ?_, fun _ h => h⟩
    cases hp with | dz _ _ hp => cases hp with | eref _ _ b off F hp hd => exact ⟨b, off, F, rfl, fun j x hj => ⟨(hp j (List.getElem?_eq_some_iff.1 hj).1).2.1, (hp j (List.getElem?_eq_some_iff.1 hj).1).2.2, .dz _ _ (hd j x hj)⟩⟩
  | _ => exact h.elim

theorem run_isAgg {t : TypeId} {d : TypeDesc} {b : Bool} (hu : P.underlying t = some d) (hk : kindD d = some b) : (isAgg t).run P w = .ok b w := by
  unfold isAgg
  rw [Sem.run_bind, run_underlying hu w]
  cases d <;> simp_all [kindD]
theorem sub_sound (TO : TOk P T) {cells : List AV} {o : Nat} {u : Value} (hR : ReadAt T g w cells o u) (t : TypeId) (K : AV → Prop) (h : subK T t cells o K) :
    ∃ v x ad, K v ∧ Cz T g w v x ∧ u = .pointer (some ad) ∧ (loadVar t ad).run P w = .ok x w ∧ ∀ K' : AV → Prop, K' v → subK T t cells o K' := by
  obtain ⟨k, base, F, rfl, hF⟩ := hR
  unfold subK at h
  cases hk : kindD (T t).desc with
  | none => rw [hk] at h; exact h.elim
  | some b =>
    obtain ⟨hu, i, hi, hs, _⟩ := TO t (by rw [hk]; simp)
    rw [hk] at h
    cases b with
    | true =>
      obtain ⟨h1, h2⟩ := (dropK_iff _ _).1 h
      obtain ⟨h3, h4⟩ := (takeK_iff _ _ _).1 h2
      simp only [List.length_drop] at h3
      have hcell : ∀ j, j < (T t).cells → w.cell? ⟨k, base + o + j, none⟩ = some (F (o + j)) := fun j hj => by
        have := hF (o + j) cells[o + j] (List.getElem?_eq_getElem (by omega))
        rw [Nat.add_assoc]; exact this.1
      have hload := run_loadCells (P := P) w ⟨k, base + o, none⟩ (T t).cells (fun j => F (o + j)) (fun j hj => by rw [addr_add]; exact hcell j hj)
      refine ⟨_, .agg ((List.range (T t).cells).map fun j => F (o + j)).toArray, _, h4, .agg _ _ (by simp; omega) ?_ ?_, rfl, ?_, fun K' hK => ?_⟩
      · intro u hu
        simp at hu
        obtain ⟨j, hj, rfl⟩ := hu
        exact (hF (o + j) cells[o + j] (List.getElem?_eq_getElem (by omega))).2.1
      · intro i c u hc hu
        have hil : i < (T t).cells := by
          have := (List.getElem?_eq_some_iff.1 hc).1
          simp at this; omega
        rw [List.getElem?_take_of_lt hil, List.getElem?_drop] at hc
        simp [hil] at hu
        subst hu
        exact (hF (o + i) c hc).2.2
      · simp only [loadVar, Sem.run_bind, run_isAgg hu hk, Result.andThen_ok, sizeOf, typeInfo, run_program, hi, Sem.run_pure, hs, hload, if_true]
      · unfold subK
        rw [hk]
        exact (dropK_iff _ _).2 ⟨h1, (takeK_iff _ _ _).2 ⟨by simp; omega, hK⟩⟩
    | false =>
      obtain ⟨v, hv, h⟩ := (nthK_iff _ _).1 h
      obtain ⟨h1, _, h3⟩ := hF o v hv
      refine ⟨v, F o, _, h, h3, rfl, ?_, fun K' hK => ?_⟩
      · simp [loadVar, Sem.run_bind, run_isAgg hu hk, h1]
      · unfold subK
        rw [hk]
        exact (nthK_iff _ _).2 ⟨v, hv, hK⟩
end
end Go.Proofs.Ytmmmaekaoanceaa
