/- Operations that leave memory as it is: what each yields. -/
import Derived.Test.YtmmmaekaoanceaaAt
import Derived.Laws.Small
import Derived.Laws.Pointers
import Derived.Laws.Cover3
namespace Go.Proofs.Ytmmmaekaoanceaa
open Go Go.RowKit

section
variable {P : Program} {T : TypeId → TR} {g : Gh} {w : World}

theorem und (TO : TOk P T) {t : TypeId} {d : TypeDesc} (h : (T t).desc = d) (hk : kindD d ≠ none) : P.underlying t = some d := by
  have := (TO t (by rw [h]; exact hk)).1
  rw [h] at this; exact this
theorem guard_plain (op : BinOp) (t : TypeId) (x y : Operand) (u v : Value) (h : ∀ a b, u = .agg a → v = .agg b → False) (h2 : u = .nilIface → v = .nilIface → False) : (eqGuard op t x y u v).run P w = .ok () w := by
  unfold eqGuard
  cases op <;> first | rfl | (cases u <;> first | rfl | (cases v <;> first | rfl | exact (h _ _ rfl rfl).elim | exact (h2 rfl rfl).elim))
theorem bin_int (op : BinOp) (t : TypeId) (k : IntKind) (a b : Int) (K : AV → Prop) (h1 : op ≠ .shl) (h2 : op ≠ .shr) (h : binI op k a b K) :
    ∃ v u, K v ∧ Dz T g w v u ∧ (binOp op t (.int k a) (.int k b)).run P w = .ok u w ∧ ∀ K' : AV → Prop, K' v → binI op k a b K' := by
  have hb : ∀ K' : AV → Prop, ∀ s : Sem Value, (binOp op t (.int k a) (.int k b)) = s → (binOp op t (.int k a) (.int k b)).run P w = s.run P w := fun _ s h => by rw [h]
  cases op <;> first | exact absurd rfl h1 | exact absurd rfl h2 | exact h.elim | skip
  case add => exact ⟨_, _, h, .int _ _, by simp [binOp, Op.intArith], fun _ h => h⟩
  case sub => exact ⟨_, _, h, .int _ _, by simp [binOp, Op.intArith], fun _ h => h⟩
  case mul => exact ⟨_, _, h, .int _ _, by simp [binOp, Op.intArith], fun _ h => h⟩
  case quo => exact ⟨_, _, h.2, .int _ _, by simp [binOp, Op.intDiv, h.1], fun _ h' => ⟨h.1, h'⟩⟩
  case rem => exact ⟨_, _, h.2, .int _ _, by simp [binOp, Op.intDiv, h.1], fun _ h' => ⟨h.1, h'⟩⟩
  case eql => exact ⟨_, _, h, .bool _, by simp [binOp, Op.intCmp], fun _ h => h⟩
  case neq => exact ⟨_, _, h, .bool _, by simp [binOp, Op.intCmp], fun _ h => h⟩
  case lss => exact ⟨_, _, h, .bool _, by simp [binOp, Op.intCmp], fun _ h => h⟩
  case leq => exact ⟨_, _, h, .bool _, by simp [binOp, Op.intCmp], fun _ h => h⟩
  case gtr => exact ⟨_, _, h, .bool _, by simp [binOp, Op.intCmp], fun _ h => h⟩
  case geq => exact ⟨_, _, h, .bool _, by simp [binOp, Op.intCmp], fun _ h => h⟩
theorem bin_str (op : BinOp) (t : TypeId) (a b : ByteArray) (K : AV → Prop) (h : binS op a b K) :
    ∃ v u, K v ∧ Dz T g w v u ∧ (binOp op t (.string a) (.string b)).run P w = .ok u w ∧ ∀ K' : AV → Prop, K' v → binS op a b K' := by
  cases op <;> first | exact h.elim | skip
  case add =>
    obtain ⟨h1, h2⟩ := h
    exact ⟨_, _, h2, .str _, by simp only [binOp, Op.stringOp]; rw [if_neg (by omega)]; rfl, fun _ h' => ⟨h1, h'⟩⟩
  all_goals exact ⟨_, _, h, .bool _, by simp [binOp, Op.stringOp], fun _ h => h⟩
theorem eqFields_run (TO : TOk P T) (d : Nat) : ∀ (fs : List Field) (n : Nat) (cs ds : List AV) (xs ys : Array Value) (K : Bool → Prop), flatF fs n = true → cellsEq T fs cs ds K →
    (∀ (i : Nat) (c : AV) (u : Value), cs[i]? = some c → xs[n + i]? = some u → Cz T g w c u) → (∀ (i : Nat) (c : AV) (u : Value), ds[i]? = some c → ys[n + i]? = some u → Cz T g w c u) →
    n + cs.length ≤ xs.size → n + ds.length ≤ ys.size →
    ∃ b, K b ∧ (Op.eqFields (d + 1) xs ys fs).run P w = .ok b w ∧ ∀ K' : Bool → Prop, K' b → cellsEq T fs cs ds K'
  | [], n, cs, ds, xs, ys, K, _, h, _, _, _, _ => by
    cases cs <;> cases ds <;> first | exact ⟨true, h, rfl, fun _ h => h⟩ | exact h.elim
  | f :: fs, n, cs, ds, xs, ys, K, hf, h, h1, h2, h3, h4 => by
    simp only [flatF, Bool.and_eq_true, beq_iff_eq, bne_iff_ne] at hf
    obtain ⟨⟨hoff, hname⟩, hf⟩ := hf
    cases cs with
    | nil => exact h.elim
    | cons x cs => cases ds with
      | nil => exact h.elim
      | cons y ds =>
        simp only [List.length_cons] at h3 h4
        have hx : xs[n]? = some xs[n] := Array.getElem?_eq_getElem (by omega)
        have hy : ys[n]? = some ys[n] := Array.getElem?_eq_getElem (by omega)
        have cx := h1 0 x _ rfl hx
        have cy := h2 0 y _ rfl hy
        have h1' : ∀ (i : Nat) (c : AV) (u : Value), cs[i]? = some c → xs[n + 1 + i]? = some u → Cz T g w c u := fun i c u hc hu => h1 (i + 1) c u (by simpa using hc) (by rw [show n + (i + 1) = n + 1 + i by omega]; exact hu)
        have h2' : ∀ (i : Nat) (c : AV) (u : Value), ds[i]? = some c → ys[n + 1 + i]? = some u → Cz T g w c u := fun i c u hc hu => h2 (i + 1) c u (by simpa using hc) (by rw [show n + (i + 1) = n + 1 + i by omega]; exact hu)
        have go : ∀ (r : Bool) (k : TypeDesc), (T f.type).desc = k → kindD k = some false → (Op.equalIn (d + 1) f.type xs[n] ys[n]).run P w = .ok r w → (cellsEq T fs cs ds fun u => K (r && u)) →
            ∃ b, K b ∧ (Op.eqFields (d + 1) xs ys (f :: fs)).run P w = .ok b w ∧ ∀ K' : Bool → Prop, K' b → cellsEq T fs cs ds fun u => K' (r && u) := by
          intro r k hd hk he hc
          obtain ⟨b, hb1, hb2, hb3⟩ := eqFields_run TO d fs (n + 1) cs ds xs ys _ hf hc h1' h2' (by omega) (by omega)
          refine ⟨r && b, hb1, ?_, fun K' hK => hb3 _ hK⟩
          have hu := und TO hd (by rw [hk]; simp)
          have p1 : (part f.type xs f.offset).run P w = .ok xs[n] w := by simp [part, run_isAgg hu hk, hoff, hx]
          have p2 : (part f.type ys f.offset).run P w = .ok ys[n] w := by simp [part, run_isAgg hu hk, hoff, hy]
          simp only [Op.eqFields, ne_eq, hname, not_false_eq_true, if_true, Sem.run_bind, p1, p2, he, Result.andThen_ok]
          cases r
          · simp
          · simpa using hb2
        unfold cellsEq at h ⊢
        cases hd : (T f.type).desc <;> rw [hd] at h <;> first | exact h.elim | skip
        case int k0 =>
          cases x <;> first | exact h.elim | skip
          rename_i k1 a1
          cases y <;> first | exact h.elim | skip
          rename_i k2 a2
          by_cases hk : k1 = k2
          · subst hk
            simp only [decide_true] at h ⊢
            have e1 := cz_int cx; have e2 := cz_int cy
            exact go (a1 == a2) _ hd rfl (by rw [e1, e2]; exact run_equalIn_int w d _ _ _ _ _ (und TO hd (by simp [kindD]))) h
          · simp only [decide_eq_false hk] at h
        case bool =>
          cases x <;> first | exact h.elim | skip
          cases y <;> first | exact h.elim | skip
          have e1 := cz_bool cx; have e2 := cz_bool cy
          exact go _ _ hd rfl (by rw [e1, e2]; exact run_equalIn_bool w d _ _ _ (und TO hd (by simp [kindD]))) h
        case string =>
          cases x <;> first | exact h.elim | skip
          cases y <;> first | exact h.elim | skip
          have e1 := cz_str cx; have e2 := cz_str cy
          exact go _ _ hd rfl (by rw [e1, e2]; exact run_equalIn_string w d _ _ _ (und TO hd (by simp [kindD]))) h

theorem eqIn_ptr (d : Nat) (t e : TypeId) (p q : Option Addr) (h : P.underlying t = some (.pointer e)) (hpq : p = none ∨ q = none) : (Op.equalIn (d + 1) t (.pointer p) (.pointer q)).run P w = .ok (p.isNone && q.isNone) w := by
  rcases hpq with rfl | rfl
  · cases q <;> simp [Op.equalIn, run_underlying h]
  · cases p <;> simp [Op.equalIn, run_underlying h]
theorem eqIn_ff (d : Nat) (t : TypeId) (ps rs : Array TypeId) (vd : Bool) (h : P.underlying t = some (.func ps rs vd)) : (Op.equalIn (d + 1) t .nilFunc .nilFunc).run P w = .ok true w := by simp [Op.equalIn, run_underlying h]
theorem eqIn_fl (d : Nat) (t : TypeId) (ps rs : Array TypeId) (vd : Bool) (h : P.underlying t = some (.func ps rs vd)) (f : Fn) (a b : Array Value) : (Op.equalIn (d + 1) t .nilFunc (.func f a b)).run P w = .ok false w := by simp [Op.equalIn, run_underlying h]
theorem eqIn_fr (d : Nat) (t : TypeId) (ps rs : Array TypeId) (vd : Bool) (h : P.underlying t = some (.func ps rs vd)) (f : Fn) (a b : Array Value) : (Op.equalIn (d + 1) t (.func f a b) .nilFunc).run P w = .ok false w := by simp [Op.equalIn, run_underlying h]
theorem eqIn_map (d : Nat) (t k e : TypeId) (p q : Option Nat) (h : P.underlying t = some (.map k e)) (hpq : p = none ∨ q = none) : (Op.equalIn (d + 1) t (.map p) (.map q)).run P w = .ok (p.isNone && q.isNone) w := by
  rcases hpq with rfl | rfl
  · cases q <;> simp [Op.equalIn, run_underlying h]
  · cases p <;> simp [Op.equalIn, run_underlying h]
theorem eqIn_il (d : Nat) (t : TypeId) (ms : Array (String × TypeId)) (h : P.underlying t = some (.interface ms)) (c : TypeId) (v : Value) : (Op.equalIn (d + 1) t .nilIface (.iface c v)).run P w = .ok false w := by simp [Op.equalIn, run_underlying h]
theorem eqIn_ir (d : Nat) (t : TypeId) (ms : Array (String × TypeId)) (h : P.underlying t = some (.interface ms)) (c : TypeId) (v : Value) : (Op.equalIn (d + 1) t (.iface c v) .nilIface).run P w = .ok false w := by simp [Op.equalIn, run_underlying h]
theorem eq_sound (TO : TOk P T) {t : TypeId} {x y : AV} {u v : Value} (cx : Cz T g w x u) (cy : Cz T g w y v) (K : Bool → Prop) (h : eqK T t x y K) (o1 o2 : Operand) (op : BinOp) :
    ∃ b, K b ∧ (Op.equal t u v).run P w = .ok b w ∧ (eqGuard op t o1 o2 u v).run P w = .ok () w ∧ (binOp .eql t u v = (do pure (.bool (← Op.equal t u v)))) ∧ (binOp .neq t u v = (do pure (.bool (!(← Op.equal t u v))))) ∧ ∀ K' : Bool → Prop, K' b → eqK T t x y K' := by
  have keep : ∀ b, (∀ K' : Bool → Prop, eqK T t x y K' ↔ K' b) → (Op.equal t u v).run P w = .ok b w → (eqGuard op t o1 o2 u v).run P w = .ok () w → (binOp .eql t u v = (do pure (.bool (← Op.equal t u v)))) → (binOp .neq t u v = (do pure (.bool (!(← Op.equal t u v))))) →
      ∃ b, K b ∧ (Op.equal t u v).run P w = .ok b w ∧ (eqGuard op t o1 o2 u v).run P w = .ok () w ∧ (binOp .eql t u v = (do pure (.bool (← Op.equal t u v)))) ∧ (binOp .neq t u v = (do pure (.bool (!(← Op.equal t u v))))) ∧ ∀ K' : Bool → Prop, K' b → eqK T t x y K' :=
    fun b h1 h2 h3 h4 h5 => ⟨b, (h1 K).1 h, h2, h3, h4, h5, fun K' hK => (h1 K').2 hK⟩
  unfold eqK at h keep ⊢
  cases hd : (T t).desc <;> rw [hd] at h keep <;> first | exact h.elim | skip
  case bool =>
    have ht := und TO hd (by simp [kindD])
    cases x <;> first | exact h.elim | skip
    cases y <;> first | exact h.elim | skip
    have e1 := cz_bool cx; have e2 := cz_bool cy
    subst e1; subst e2
    exact keep _ (fun _ => Iff.rfl) (run_equal_bool w t _ _ ht) (guard_plain _ _ _ _ _ _ (fun _ _ h => by cases h) (fun h => by cases h)) rfl rfl
  case struct fs =>
    have ht := und TO hd (by simp [kindD])
    cases x <;> first | exact h.elim | skip
    rename_i cs
    cases y <;> first | exact h.elim | skip
    rename_i ds
    have hq : (T t).eqok = true ∧ flatF fs.toList 0 = true ∧ cellsEq T fs.toList cs ds K := by
      cases hq1 : (T t).eqok <;> cases hq2 : flatF fs.toList 0 <;> simp only [hq1, hq2] at h <;> first | exact h.elim | exact ⟨rfl, rfl, h⟩
    obtain ⟨q1, q2, q3⟩ := hq
    obtain ⟨hu, i, hi, _, _, _, _, hs⟩ := TO t (by rw [hd]; simp [kindD])
    obtain ⟨s1, s2⟩ := hs q1
    obtain ⟨us, rfl, hl1, _, hp1⟩ := cz_agg cx
    obtain ⟨vs, rfl, hl2, _, hp2⟩ := cz_agg cy
    have hf : P.fieldsOf t = fs := by simp [Program.fieldsOf, ht]
    obtain ⟨b, b1, b2, b3⟩ := eqFields_run (g := g) (w := w) TO 9998 fs.toList 0 cs ds us vs K q2 q3 (fun i c u hc hu => hp1 i c u hc (by simpa using hu)) (fun i c u hc hu => hp2 i c u hc (by simpa using hu)) (by omega) (by omega)
    refine ⟨b, b1, ?_, run_eqGuard_agg w _ _ _ _ _ _ s2, rfl, rfl, fun K' hK => ?_⟩
    · unfold Op.equal Op.maxDepth
      rw [run_equalIn_struct w 9999 t us vs (by rw [hf]; exact ht) s1, hf]
      exact b2
    · simp only [q1, q2]; exact b3 K' hK
  case pointer e =>
    have ht := und TO hd (by simp [kindD])
    have nn : ∀ p : Option Addr, (Op.equal t (.pointer none) (.pointer p)).run P w = .ok p.isNone w := fun p => by have := eqIn_ptr (P := P) (w := w) 9999 t e none p ht (.inl rfl); simp only [Option.isNone_none, Bool.true_and] at this; exact this
    have nn' : ∀ p : Option Addr, (Op.equal t (.pointer p) (.pointer none)).run P w = .ok p.isNone w := fun p => by have := eqIn_ptr (P := P) (w := w) 9999 t e p none ht (.inr rfl); simp only [Option.isNone_none, Bool.and_true] at this; exact this
    have gp : ∀ p q : Option Addr, (eqGuard op t o1 o2 (.pointer p) (.pointer q)).run P w = .ok () w := fun p q => guard_plain _ _ _ _ _ _ (fun _ _ h => by cases h) (fun h => by cases h)
    have rd : ∀ {z : AV} {u : Value}, Cz T g w z u → isNilP z K → ∃ p : Option Addr, u = .pointer p ∧ ∀ K' : Bool → Prop, isNilP z K' ↔ K' p.isNone := by
      intro z u hc hn
      cases z <;> first | exact hn.elim | skip
      · cases hc with | dz _ _ hc => cases hc with | eref => exact ⟨_, rfl, fun _ => Iff.rfl⟩
      · exact ⟨_, (cz_lptr hc).2, fun _ => Iff.rfl⟩
      · exact ⟨_, (cz_gptr hc).2, fun _ => Iff.rfl⟩
      · exact ⟨_, cz_nilp hc, fun _ => Iff.rfl⟩
    have left : x = .nilp → ∃ b, (∀ K' : Bool → Prop, (match x, y with | .nilp, y => isNilP y K' | x, .nilp => isNilP x K' | _, _ => False) ↔ K' b) ∧ (Op.equal t u v).run P w = .ok b w ∧ (eqGuard op t o1 o2 u v).run P w = .ok () w ∧ (binOp .eql t u v = (do pure (.bool (← Op.equal t u v)))) ∧ (binOp .neq t u v = (do pure (.bool (!(← Op.equal t u v))))) := by
      rintro rfl
      have e1 := cz_nilp cx; subst e1
      obtain ⟨p, rfl, hp⟩ := rd cy h
      exact ⟨_, hp, nn p, gp _ _, rfl, rfl⟩
    have right : x ≠ .nilp → y = .nilp → ∃ b, (∀ K' : Bool → Prop, (match x, y with | .nilp, y => isNilP y K' | x, .nilp => isNilP x K' | _, _ => False) ↔ K' b) ∧ (Op.equal t u v).run P w = .ok b w ∧ (eqGuard op t o1 o2 u v).run P w = .ok () w ∧ (binOp .eql t u v = (do pure (.bool (← Op.equal t u v)))) ∧ (binOp .neq t u v = (do pure (.bool (!(← Op.equal t u v))))) := by
      rintro hx rfl
      have e1 := cz_nilp cy; subst e1
      have h' : isNilP x K := by cases x <;> first | exact absurd rfl hx | exact h
      obtain ⟨p, rfl, hp⟩ := rd cx h'
      exact ⟨_, fun K' => by rw [← hp K']; cases x <;> first | exact absurd rfl hx | exact Iff.rfl, nn' p, gp _ _, rfl, rfl⟩
    by_cases hx : x = .nilp
    · obtain ⟨b, q1, q2, q3, q4, q5⟩ := left hx
      exact keep b q1 q2 q3 q4 q5
    · have hy : y = .nilp := by revert h; cases x <;> first | exact absurd rfl hx | (cases y <;> intro h <;> first | exact h.elim | rfl)
      obtain ⟨b, q1, q2, q3, q4, q5⟩ := right hx hy
      exact keep b q1 q2 q3 q4 q5
  case func ps rs vd =>
    have ht := und TO hd (by simp [kindD])
    cases x <;> first | exact h.elim | skip
    case nilf =>
      have e1 := cz_nilf cx; subst e1
      cases y <;> first | exact h.elim | skip
      · obtain ⟨us, vs, rfl, _⟩ := cz_fn cy
        exact keep false (fun _ => Iff.rfl) (eqIn_fl 9999 t ps rs vd ht _ _ _) (guard_plain _ _ _ _ _ _ (fun _ _ h => by cases h) (fun h => by cases h)) rfl rfl
      · have e2 := cz_nilf cy; subst e2
        exact keep true (fun _ => Iff.rfl) (eqIn_ff 9999 t ps rs vd ht) (guard_plain _ _ _ _ _ _ (fun _ _ h => by cases h) (fun h => by cases h)) rfl rfl
    all_goals
      cases y <;> first | exact h.elim | skip
    case fn.nilf =>
      have e2 := cz_nilf cy; subst e2
      obtain ⟨us, vs, rfl, _⟩ := cz_fn cx
      exact keep false (fun _ => Iff.rfl) (eqIn_fr 9999 t ps rs vd ht _ _ _) (guard_plain _ _ _ _ _ _ (fun _ _ h => by cases h) (fun h => by cases h)) rfl rfl
  case map k e =>
    have ht := und TO hd (by simp [kindD])
    cases x <;> first | exact h.elim | skip
    case nilm =>
      have e1 := cz_nilm cx; subst e1
      cases y <;> first | exact h.elim | skip
      · have e2 := cz_nilm cy; subst e2
        exact keep true (fun _ => Iff.rfl) (eqIn_map 9999 t k e none none ht (.inl rfl)) (guard_plain _ _ _ _ _ _ (fun _ _ h => by cases h) (fun h => by cases h)) rfl rfl
      · obtain ⟨_, rfl⟩ := cz_mp cy
        exact keep false (fun _ => Iff.rfl) (eqIn_map 9999 t k e none _ ht (.inl rfl)) (guard_plain _ _ _ _ _ _ (fun _ _ h => by cases h) (fun h => by cases h)) rfl rfl
    all_goals
      cases y <;> first | exact h.elim | skip
    case mp.nilm =>
      have e2 := cz_nilm cy; subst e2
      obtain ⟨_, rfl⟩ := cz_mp cx
      exact keep false (fun _ => Iff.rfl) (eqIn_map 9999 t k e _ none ht (.inr rfl)) (guard_plain _ _ _ _ _ _ (fun _ _ h => by cases h) (fun h => by cases h)) rfl rfl
  case interface ms =>
    have ht := und TO hd (by simp [kindD])
    cases x <;> first | exact h.elim | skip
    case nili =>
      have e1 := cz_nili cx; subst e1
      cases y <;> first | exact h.elim | skip
      obtain ⟨_, rfl, _⟩ := cz_ifc cy
      exact keep false (fun _ => Iff.rfl) (eqIn_il 9999 t ms ht _ _) (guard_plain _ _ _ _ _ _ (fun _ _ h => by cases h) (fun _ h => by cases h)) rfl rfl
    all_goals
      cases y <;> first | exact h.elim | skip
    case ifc.nili =>
      have e2 := cz_nili cy; subst e2
      obtain ⟨_, rfl, _⟩ := cz_ifc cx
      exact keep false (fun _ => Iff.rfl) (eqIn_ir 9999 t ms ht _ _) (guard_plain _ _ _ _ _ _ (fun _ _ h => by cases h) (fun h => by cases h)) rfl rfl
theorem bin_sound (TO : TOk P T) {t : TypeId} {x y : AV} {u v : Value} (cx : Cz T g w x u) (cy : Cz T g w y v) (op : BinOp) (K : AV → Prop) (h : binK T op t x y K) (o1 o2 : Operand) :
    ∃ z r, K z ∧ Cz T g w z r ∧ (do eqGuard op t o1 o2 u v; binOp op t u v : Sem Value).run P w = .ok r w ∧ ∀ K' : AV → Prop, K' z → binK T op t x y K' := by
  have eqs : ∀ b : Bool, (op = .eql ∧ b = true) ∨ (op = .neq ∧ b = false) → (eqK T t x y fun c => K (.bool (c == b))) → (∀ K' : AV → Prop, binK T op t x y K' ↔ eqK T t x y fun c => K' (.bool (c == b))) →
      ∃ z r, K z ∧ Cz T g w z r ∧ (do eqGuard op t o1 o2 u v; binOp op t u v : Sem Value).run P w = .ok r w ∧ ∀ K' : AV → Prop, K' z → binK T op t x y K' := by
    intro b hb h hk
    obtain ⟨c, c1, c2, c3, c4, c5, c6⟩ := eq_sound TO cx cy _ h o1 o2 op
    refine ⟨_, .bool (c == b), c1, .dz _ _ (.bool _), ?_, fun K' hK => (hk K').2 (c6 _ hK)⟩
    rcases hb with ⟨rfl, rfl⟩ | ⟨rfl, rfl⟩
    · simp only [Sem.run_bind, c3, Result.andThen_ok, c4, c2, Sem.run_pure]; cases c <;> rfl
    · simp only [Sem.run_bind, c3, Result.andThen_ok, c5, c2, Sem.run_pure]; cases c <;> rfl
  have other : (∀ K' : AV → Prop, binK T op t x y K' ↔ othK T op t x y K') → ∃ z r, K z ∧ Cz T g w z r ∧ (do eqGuard op t o1 o2 u v; binOp op t u v : Sem Value).run P w = .ok r w ∧ ∀ K' : AV → Prop, K' z → binK T op t x y K' := by
    intro he
    rw [he] at h
    cases op <;> first | exact h.elim | skip
    · refine eqs true (.inl ⟨rfl, rfl⟩) (by simpa [othK] using h) (fun K' => by rw [he]; simp [othK])
    · refine eqs false (.inr ⟨rfl, rfl⟩) (by simpa [othK] using h) (fun K' => by rw [he]; simp [othK])
  cases x with
  | int k a =>
    cases y with
    | int k' b =>
      have e1 := cz_int cx; have e2 := cz_int cy
      subst e1; subst e2
      have hg : (eqGuard op t o1 o2 (.int k a) (.int k' b)).run P w = .ok () w := guard_plain _ _ _ _ _ _ (fun _ _ h => by cases h) (fun h => by cases h)
      by_cases h1 : op = .shl
      · subst h1
        obtain ⟨h2, h3⟩ := h
        exact ⟨_, _, h3, .dz _ _ (.int _ _), by simp only [Sem.run_bind, hg, Result.andThen_ok, binOp, Op.shift]; rw [if_neg (by omega)]; rfl, fun _ h' => ⟨h2, h'⟩⟩
      · by_cases h1' : op = .shr
        · subst h1'
          obtain ⟨h2, h3⟩ := h
          exact ⟨_, _, h3, .dz _ _ (.int _ _), by simp only [Sem.run_bind, hg, Result.andThen_ok, binOp, Op.shift]; rw [if_neg (by omega)]; rfl, fun _ h' => ⟨h2, h'⟩⟩
        · have hk : ∀ K' : AV → Prop, binK T op t (.int k a) (.int k' b) K' ↔ (match decide (k = k') with | true => binI op k a b K' | false => False) := by
            intro K'; cases op <;> first | exact absurd rfl h1 | exact absurd rfl h1' | exact Iff.rfl
          by_cases hkk : k = k'
          · subst hkk
            rw [hk] at h
            simp only [decide_true] at h
            obtain ⟨z, r, q1, q2, q3, q4⟩ := bin_int (g := g) (w := w) (T := T) (P := P) op t k a b K h1 h1' h
            exact ⟨z, r, q1, .dz _ _ q2, by simp only [Sem.run_bind, hg, Result.andThen_ok, q3], fun K' hK => by rw [hk]; simp only [decide_true]; exact q4 K' hK⟩
          · rw [hk, decide_eq_false hkk] at h; exact h.elim
    | _ => exact other (fun _ => Iff.rfl)
  | str a =>
    cases y with
    | str b =>
      have e1 := cz_str cx; have e2 := cz_str cy
      subst e1; subst e2
      have hg : (eqGuard op t o1 o2 (.string a) (.string b)).run P w = .ok () w := guard_plain _ _ _ _ _ _ (fun _ _ h => by cases h) (fun h => by cases h)
      obtain ⟨z, r, q1, q2, q3, q4⟩ := bin_str (g := g) (w := w) (T := T) (P := P) op t a b K h
      exact ⟨z, r, q1, .dz _ _ q2, by simp only [Sem.run_bind, hg, Result.andThen_ok, q3], q4⟩
    | _ => exact other (fun _ => Iff.rfl)
  | _ => exact other (fun _ => by cases y <;> exact Iff.rfl)
end
end Go.Proofs.Ytmmmaekaoanceaa
