/- Every operation that leaves memory as it is: what it yields in the run of the program is what the abstract run says. -/
import Derived.Test.YtmmmaekaoanceaaAma
import Derived.Laws.Tables
namespace Go.Proofs.Ytmmmaekaoanceaa
open Go Go.RowKit

section
variable {P : Program} {T : TypeId → TR} {g : Gh} {w : World}

/-- what is said of an operation that leaves memory as it is -/
def QS (P : Program) (T : TypeId → TR) (g : Gh) (w : World) (a : Act) (o : Oper) (F : (AV → Prop) → Prop) : Prop :=
  ∀ K, F K → ∃ v u, K v ∧ Cz T g w v u ∧ (execOp a.eval o).run P w = .ok (.value u) w ∧ ∀ K' : AV → Prop, K' v → F K'
theorem run_v {s : Sem Value} {u : Value} (h : s.run P w = .ok u w) : (do pure (.value (← s)) : Sem Next).run P w = .ok (.value u) w := by
  simp only [Sem.run_bind, h, Result.andThen_ok, Sem.run_pure]

variable {a : Act} {env : List AV} {L : List LB} {nl nt : Nat} {G : Glob} {o : Oper}
theorem q_move (he : EnvR T g w env a) (x : Operand) (ho : execOp a.eval o = pure (.value (a.eval x))) : QS P T g w a o (opdK env x) := by
  intro K h
  obtain ⟨v, h1, h2, h3⟩ := opd_sound he x K h
  exact ⟨v, _, h1, h2, by rw [ho]; rfl, h3⟩
theorem q_pick (he : EnvR T g w env a) (c x y : Operand) (ho : o.op = .pick c x y) : QS P T g w a o (qOp T L G env o.op) := by
  intro K h
  rw [ho] at h ⊢
  obtain ⟨v, h1, h2, h3⟩ := opd_sound he c _ h
  cases v <;> first | exact h1.elim | skip
  rename_i t
  have e := cz_bool h2
  cases t
  · obtain ⟨v, g1, g2, g3⟩ := opd_sound he y _ h1
    exact ⟨v, _, g1, g2, by simp [execOp, ho, e, asBool], fun K' hK => h3 _ (g3 _ hK)⟩
  · obtain ⟨v, g1, g2, g3⟩ := opd_sound he x _ h1
    exact ⟨v, _, g1, g2, by simp [execOp, ho, e, asBool], fun K' hK => h3 _ (g3 _ hK)⟩
theorem q_nilCheck (he : EnvR T g w env a) (x : Operand) (ho : o.op = .nilCheck x) : QS P T g w a o (qOp T L G env o.op) := by
  intro K h
  rw [ho] at h ⊢
  obtain ⟨v, h1, h2, h3⟩ := opd_sound he x _ h
  cases v <;> first | exact h1.elim | skip
  case eref c o' =>
    have e : ∃ ad, a.eval x = .pointer (some ad) := by
      revert h2; generalize a.eval x = u; intro h2
      cases h2 with | dz _ _ h2 => cases h2 with | eref => exact ⟨_, rfl⟩
    obtain ⟨ad, e⟩ := e
    exact ⟨_, _, h1, h2, by simp [execOp, ho, e], fun K' hK => h3 _ hK⟩
  case lptr j o' =>
    have e := (cz_lptr h2).2
    exact ⟨_, _, h1, h2, by simp [execOp, ho, e], fun K' hK => h3 _ hK⟩
  case gptr b o' =>
    have e := (cz_gptr h2).2
    exact ⟨_, _, h1, h2, by simp [execOp, ho, e], fun K' hK => h3 _ hK⟩
  case fn f p q =>
    cases f <;> first | exact h1.elim | skip
    obtain ⟨us, vs, e, _⟩ := cz_fn h2
    exact ⟨_, _, h1, h2, by simp [execOp, ho, e], fun K' hK => h3 _ hK⟩
  case ifc t v =>
    obtain ⟨z, e, _⟩ := cz_ifc h2
    exact ⟨_, _, h1, h2, by simp [execOp, ho, e], fun K' hK => h3 _ hK⟩
theorem q_load (TO : TOk P T) (hr : Rel T g L nl nt G w) (he : EnvR T g w env a) (t : TypeId) (x : Operand) (ho : o.op = .load t x) : QS P T g w a o (qOp T L G env o.op) := by
  intro K h
  rw [ho] at h ⊢
  obtain ⟨p, h1, h2, h3⟩ := opd_sound he x _ h
  obtain ⟨cells, of, h4, h5, h6⟩ := box_sound hr h2 _ h1
  obtain ⟨v, y, ad, g1, g2, g3, g4, g5⟩ := sub_sound TO h5 t K h4
  exact ⟨v, y, g1, g2, by simp only [execOp, ho, g3]; exact run_v (by simp only [Instr.loadAt, Instr.sureAddr, Sem.run_bind, Sem.run_pure, Result.andThen_ok, g4]), fun K' hK => h3 _ (h6 _ (g5 _ hK))⟩
theorem q_bin (TO : TOk P T) (he : EnvR T g w env a) (op : BinOp) (t : TypeId) (x y : Operand) (t' : TypeId) (ho : o.op = .binOp op t x y t') : QS P T g w a o (qOp T L G env o.op) := by
  intro K h
  rw [ho] at h ⊢
  obtain ⟨p, h1, h2, h3⟩ := opd_sound he x _ h
  obtain ⟨q, h4, h5, h6⟩ := opd_sound he y _ h1
  obtain ⟨z, r, g1, g2, g3, g4⟩ := bin_sound TO h2 h5 op K h4 x y
  exact ⟨z, r, g1, g2, by simp only [execOp, ho]; exact run_v g3, fun K' hK => h3 _ (h6 _ (g4 _ hK))⟩
theorem q_un (he : EnvR T g w env a) (op : UnOp) (t : TypeId) (x : Operand) (ho : o.op = .unOp op t x) : QS P T g w a o (qOp T L G env o.op) := by
  intro K h
  rw [ho] at h ⊢
  obtain ⟨p, h1, h2, h3⟩ := opd_sound he x _ h
  cases op <;> cases p <;> first | exact h1.elim | skip
  · have e := cz_int h2
    exact ⟨_, _, h1, .dz _ _ (.int _ _), by simp [execOp, ho, e, Op.unary, Op.intArith], fun K' hK => h3 _ hK⟩
  · have e := cz_bool h2
    exact ⟨_, _, h1, .dz _ _ (.bool _), by simp [execOp, ho, e, Op.unary], fun K' hK => h3 _ hK⟩
theorem q_conv (TO : TOk P T) (he : EnvR T g w env a) (src dst : TypeId) (x : Operand) (ho : o.op = .convert src dst x) : QS P T g w a o (qOp T L G env o.op) := by
  intro K h
  rw [ho] at h ⊢
  obtain ⟨p, h1, h2, h3⟩ := opd_sound he x _ h
  cases hs : kindD (T src).desc with
  | none => simp only [hs] at h1
  | some b =>
    have hu := (TO src (by rw [hs]; simp)).1
    simp only [hs] at h1
    cases hd : (T dst).desc <;> simp only [hd] at h1 <;> first | exact h1.elim | skip
    case int k =>
      cases p <;> first | exact h1.elim | skip
      have hv := und TO hd (by simp [kindD])
      have e := cz_int h2
      refine ⟨_, _, h1, .dz _ _ (.int _ _), ?_, fun K' hK => h3 _ (by simp only [hs, hd]; exact hK)⟩
      simp only [execOp, ho, e]
      exact run_v (by simp [convert, run_underlying hu, run_underlying hv, Conv.intToInt])
    case string =>
      cases p <;> first | exact h1.elim | skip
      have hv := und TO hd (by simp [kindD])
      have e := cz_str h2
      refine ⟨_, _, h1, .dz _ _ (.str _), ?_, fun K' hK => h3 _ (by simp only [hs, hd]; exact hK)⟩
      simp only [execOp, ho, e]
      exact run_v (by simp [convert, run_underlying hu, run_underlying hv])
theorem part_sound (TO : TOk P T) {cs : List AV} {us : Array Value} (hl : cs.length = us.size) (h1 : ∀ u ∈ us, u.oneCell' = true) (hp : ∀ (i : Nat) (c : AV) (u : Value), cs[i]? = some c → us[i]? = some u → Cz T g w c u) (t : TypeId) (off : Nat) (K : AV → Prop) (h : subK T t cs off K) :
    ∃ v u, K v ∧ Cz T g w v u ∧ (part t us off).run P w = .ok u w ∧ ∀ K' : AV → Prop, K' v → subK T t cs off K' := by
  unfold subK at h ⊢
  cases hk : kindD (T t).desc with
  | none => rw [hk] at h; exact h.elim
  | some b =>
    obtain ⟨hu, i, hi, hs, _⟩ := TO t (by rw [hk]; simp)
    rw [hk] at h
    cases b with
    | true =>
      obtain ⟨g1, g2⟩ := (dropK_iff _ _).1 h
      obtain ⟨g3, g4⟩ := (takeK_iff _ _ _).1 g2
      simp only [List.length_drop] at g3
      refine ⟨_, .agg (us.extract off (off + (T t).cells)), g4, .agg _ _ (by simp; omega) ?_ ?_, ?_, fun K' hK => (dropK_iff _ _).2 ⟨g1, (takeK_iff _ _ _).2 ⟨by simp; omega, hK⟩⟩⟩
      · intro u hu
        obtain ⟨j, hj, rfl⟩ := Array.mem_iff_getElem.1 hu
        rw [Array.getElem_extract]; exact h1 _ (Array.getElem_mem _)
      · intro j c u hc hu
        have hjl : j < (T t).cells := by
          have := (List.getElem?_eq_some_iff.1 hc).1
          simp at this; omega
        rw [List.getElem?_take_of_lt hjl, List.getElem?_drop] at hc
        refine hp (off + j) c u hc ?_
        rw [Array.getElem?_extract] at hu
        split at hu
        · exact hu
        · cases hu
      · simp only [part, Sem.run_bind, run_isAgg hu hk, Result.andThen_ok, if_true, sizeOf, typeInfo, run_program, hi, Sem.run_pure, hs]
    | false =>
      obtain ⟨v, hv, h⟩ := (nthK_iff _ _).1 h
      have hlt : off < us.size := by have := (List.getElem?_eq_some_iff.1 hv).1; omega
      have hu' : us[off]? = some us[off] := Array.getElem?_eq_getElem hlt
      exact ⟨v, us[off], h, hp off v _ hv hu', by simp [part, run_isAgg hu hk, hu'], fun K' hK => (nthK_iff _ _).2 ⟨v, hv, hK⟩⟩
theorem q_field (TO : TOk P T) (he : EnvR T g w env a) (t : TypeId) (x : Operand) (i : Nat) (ho : o.op = .field t x i) : QS P T g w a o (qOp T L G env o.op) := by
  intro K h
  rw [ho] at h ⊢
  obtain ⟨p, h1, h2, h3⟩ := opd_sound he x _ h
  cases hd : (T t).desc <;> simp only [hd] at h1 <;> first | exact h1.elim | skip
  rename_i fs
  cases p <;> first | exact h1.elim | skip
  rename_i cs
  obtain ⟨us, e, hl, h4, h5⟩ := cz_agg h2
  have hv := und TO hd (by simp [kindD])
  cases hf : fs[i]? with
  | none => simp only [hf] at h1
  | some f =>
    simp only [hf] at h1
    obtain ⟨v, u, g1, g2, g3, g4⟩ := part_sound TO hl h4 h5 f.type f.offset K h1
    refine ⟨v, u, g1, g2, ?_, fun K' hK => h3 _ (by simp only [hd, hf]; exact g4 K' hK)⟩
    simp only [execOp, ho, e]
    exact run_v (by simp [Instr.field, run_underlying hv, hf, asAgg, g3])
theorem ptr_sound {v : AV} {u : Value} (hc : Cz T g w v u) (d : Nat) (K : AV → Prop) (h : ptrK v d K) : ∃ z ad, K z ∧ u = .pointer (some ad) ∧ Cz T g w z (.pointer (some (ad.add d))) ∧ ∀ K' : AV → Prop, K' z → ptrK v d K' := by
  cases v <;> first | exact h.elim | skip
  case eref c o' =>
    cases hc with | dz _ _ hc => cases hc with | eref _ _ b o F hp hd =>
      refine ⟨_, _, h, rfl, ?_, fun _ h => h⟩
      rw [addr_add, Nat.add_assoc]
      exact .dz _ _ (.eref _ _ b o F hp hd)
  case lptr j o' =>
    obtain ⟨hj, e⟩ := cz_lptr hc
    exact ⟨_, _, h, e, by rw [addr_add]; exact .lptr _ _ hj, fun _ h => h⟩
  case gptr b o' =>
    obtain ⟨hj, e⟩ := cz_gptr hc
    exact ⟨_, _, h, e, by rw [addr_add]; exact .dz _ _ (.gptr _ _ hj), fun _ h => h⟩
theorem q_fieldAddr (TO : TOk P T) (he : EnvR T g w env a) (t : TypeId) (x : Operand) (i : Nat) (ho : o.op = .fieldAddr t x i) : QS P T g w a o (qOp T L G env o.op) := by
  intro K h
  rw [ho] at h ⊢
  unfold qOp at h ⊢
  cases hd : (T t).desc <;> simp only [hd] at h ⊢ <;> first | exact h.elim | skip
  rename_i fs
  have hv := und TO hd (by simp [kindD])
  cases hf : fs[i]? with
  | none => simp only [hf] at h
  | some f =>
    simp only [hf] at h ⊢
    cases hk : kindD (T f.type).desc with
    | none => simp only [hk] at h
    | some kb =>
      cases hc : (T f.type).cells with
      | zero => simp only [hk, hc] at h
      | succ n =>
        simp only [hk, hc] at h ⊢
        obtain ⟨p, h1, h2, h3⟩ := opd_sound he x _ h
        obtain ⟨z, ad, g1, g2, g3, g4⟩ := ptr_sound h2 _ _ h1
        refine ⟨z, _, g1, g3, ?_, fun K' hK => h3 _ (g4 _ hK)⟩
        obtain ⟨_, i', hi, hs, _⟩ := TO f.type (by rw [hk]; simp)
        simp only [execOp, ho, g2]
        exact run_v (by simp [Instr.fieldAt, run_underlying hv, hf, Instr.sureAddr, fieldPlace, sizeOf, typeInfo, hi, hs, hc])
theorem els_sound {v : AV} {u : Value} (hc : Cz T g w v u) (K : TypeId → List (List AV) → Prop) (h : elsOf v K) : ∃ e els, K e els ∧ Dz T g w (.slc e els) u ∧ ∀ K' : TypeId → List (List AV) → Prop, K' e els → elsOf v K' := by
  cases v <;> first | exact h.elim | skip
  · exact ⟨_, _, h, cz_slc hc, fun _ h => h⟩
  · exact ⟨_, _, h, (cz_own hc).2.slc (fun n i hi => hi), fun _ h => h⟩
theorem slc_cells {e : TypeId} {els : List (List AV)} {u : Value} (h : Dz T g w (.slc e els) u) : ∃ p cap, u = .slice p els.length cap ∧ els.length ≤ cap ∧ cap ≤ maxLen ∧ (∀ cells ∈ els, cells.length = (T e).cells) ∧
    (0 < els.length → ∃ (b off : Nat) (F : Nat → Nat → Value), p = some ⟨b, off, none⟩ ∧ ∀ (i : Nat) (cells : List AV), els[i]? = some cells → ∀ j, j < (T e).cells → g.frz b (off + (i * (T e).cells + j)) ∧ w.cell? ⟨b, off + (i * (T e).cells + j), none⟩ = some (F i j) ∧ (F i j).oneCell' = true ∧ ∀ x, cells[j]? = some x → Dz T g w x (F i j)) := by
  cases h with
  | slc _ _ p cap F hc hm hs hp hd =>
    refine ⟨p, cap, rfl, hc, hm, hs, fun h0 => ?_⟩
    obtain ⟨b, off, h1, h2⟩ := hp h0
    refine ⟨b, off, F, h1, fun i cells hi j hj => ?_⟩
    obtain ⟨q1, q2, q3⟩ := h2 i cells hi j hj
    exact ⟨q1, q2, q3, fun x hx => hd i cells hi j x hx⟩
theorem q_indexAddr (TO : TOk P T) (he : EnvR T g w env a) (t : TypeId) (x ix : Operand) (ho : o.op = .indexAddr t x ix) : QS P T g w a o (qOp T L G env o.op) := by
  intro K h
  rw [ho] at h ⊢
  obtain ⟨iv, h1, h2, h3⟩ := opd_sound he ix _ h
  cases iv <;> first | exact h1.elim | skip
  rename_i k i
  have e := cz_int h2
  cases hd : (T t).desc <;> simp only [hd] at h1 <;> first | exact h1.elim | skip
  case array n el =>
    have hv := und TO hd (by simp [kindD])
    cases hk : kindD (T el).desc with
    | none => simp only [hk] at h1
    | some kb =>
      simp only [hk] at h1
      obtain ⟨⟨i0, i1⟩, h1⟩ := h1
      obtain ⟨p, h4, h5, h6⟩ := opd_sound he x _ h1
      obtain ⟨z, ad, g1, g2, g3, g4⟩ := ptr_sound h5 _ _ h4
      obtain ⟨_, i', hi, hs, _⟩ := TO el (by rw [hk]; simp)
      refine ⟨z, _, g1, g3, ?_, fun K' hK => h3 _ (by simp only [hd, hk]; exact ⟨⟨i0, i1⟩, h6 _ (g4 _ hK)⟩)⟩
      simp only [execOp, ho, g2, e]
      exact run_v (by simp [Instr.indexAt, run_underlying hv, asIntOf, Instr.sureAddr, i0, i1, sizeOf, typeInfo, hi, hs])
  case slice el =>
    have hv := und TO hd (by simp [kindD])
    cases hk : kindD (T el).desc with
    | none => simp only [hk] at h1
    | some kb =>
      simp only [hk] at h1
      obtain ⟨p, h4, h5, h6⟩ := opd_sound he x _ h1
      obtain ⟨e', els, g1, g2, g3⟩ := els_sound h5 _ h4
      by_cases hee : el = e'
      · subst hee
        simp only [decide_true] at g1
        obtain ⟨cells, ⟨i0, hi0⟩, hK⟩ := g1
        obtain ⟨p', cap, q1, q2, q3, q4, q5⟩ := slc_cells g2
        have hil := (List.getElem?_eq_some_iff.1 hi0).1
        obtain ⟨b, off, F, rfl, hF⟩ := q5 (by omega)
        obtain ⟨_, i', hi, hs, _⟩ := TO el (by rw [hk]; simp)
        have hcl := q4 cells (List.mem_of_getElem? hi0)
        refine ⟨.eref cells 0, .pointer (some ⟨b, (off + i.toNat * (T el).cells) + 0, none⟩), hK, .dz _ _ (.eref cells 0 b (off + i.toNat * (T el).cells) (F i.toNat) (fun j hj => ?_) (fun j c hj => ?_)), ?_, fun K' hK' => h3 _ (by simp only [hd, hk]; exact h6 _ (g3 _ (by simp only [decide_true]; exact ⟨cells, ⟨i0, hi0⟩, hK'⟩)))⟩
        · obtain ⟨f1, f2, f3, _⟩ := hF i.toNat cells hi0 j (by omega)
          rw [Nat.add_assoc]; exact ⟨f1, f2, f3⟩
        · have hjl := (List.getElem?_eq_some_iff.1 hj).1
          exact (hF i.toNat cells hi0 j (by omega)).2.2.2 c hj
        · simp only [execOp, ho, q1, e]
          have i1 : i < els.length := by omega
          exact run_v (by simp [Instr.indexAt, run_underlying hv, asIntOf, i0, i1, sizeOf, typeInfo, hi, hs, addr_add])
      · rw [decide_eq_false hee] at g1; exact g1.elim
theorem byteAt_eq (s : ByteArray) (i : Nat) (h : i < s.size) : s[i]? = some (s.data.toList.getD i 0) := by
  have hd : i < s.data.size := h
  rw [getElem?_pos s i h]
  simp [ByteArray.getElem_eq_getElem_data, List.getD, Array.getElem?_eq_getElem hd]
theorem q_index (TO : TOk P T) (he : EnvR T g w env a) (t : TypeId) (x ix : Operand) (ho : o.op = .index t x ix) : QS P T g w a o (qOp T L G env o.op) := by
  intro K h
  rw [ho] at h ⊢
  obtain ⟨iv, h1, h2, h3⟩ := opd_sound he ix _ h
  obtain ⟨v, h4, h5, h6⟩ := opd_sound he x _ h1
  cases iv <;> first | exact h4.elim | (cases v <;> first | exact h4.elim | skip)
  case int.str k i s =>
    have e1 := cz_int h2; have e2 := cz_str h5
    cases hd : kindD (T t).desc with
    | none => simp only [hd] at h4
    | some kb =>
      simp only [hd] at h4
      cases hd' : (T t).desc <;> simp only [hd'] at h4 <;> first | exact h4.elim | skip
      have hv := und TO hd' (by simp [kindD])
      obtain ⟨⟨i0, i1⟩, hK⟩ := h4
      refine ⟨_, _, hK, .dz _ _ (.int _ _), ?_, fun K' hK' => h3 _ (h6 _ (by simp only [hd']; exact ⟨⟨i0, i1⟩, hK'⟩))⟩
      simp only [execOp, ho, e1, e2]
      have hb := byteAt_eq s i.toNat (by omega)
      exact run_v (by simp [Instr.index, run_underlying hv, asIntOf, i0, hb, byteAt])
  case int.agg k i cs =>
    have e1 := cz_int h2
    obtain ⟨us, e2, hl, g1, g2⟩ := cz_agg h5
    cases hd : (T t).desc <;> simp only [hd] at h4 <;> first | exact h4.elim | skip
    rename_i n el
    have hv := und TO hd (by simp [kindD])
    cases hk : kindD (T el).desc with
    | none => simp only [hk] at h4
    | some kb =>
      cases kb with
      | true => simp only [hk] at h4
      | false =>
        obtain ⟨hu, i', hi, hs, _⟩ := TO el (by rw [hk]; simp)
        have hc1 : (T el).cells = 1 := by
          simp only [hk] at h4
          revert h4; generalize (T el).cells = c; intro h4
          match c, h4 with
          | 1, _ => rfl
        simp only [hk, hc1] at h4
        obtain ⟨⟨i0, i1⟩, z, hz, hK⟩ := h4
        have hlt : i.toNat < us.size := by have := (List.getElem?_eq_some_iff.1 hz).1; omega
        have hu' : us[i.toNat]? = some us[i.toNat] := Array.getElem?_eq_getElem hlt
        refine ⟨z, us[i.toNat], hK, g2 _ _ _ hz hu', ?_, fun K' hK' => h3 _ (h6 _ (by simp only [hd, hk, hc1]; exact ⟨⟨i0, i1⟩, z, hz, hK'⟩))⟩
        simp only [execOp, ho, e1, e2]
        exact run_v (by simp [Instr.index, run_underlying hv, asIntOf, i0, i1, sizeOf, typeInfo, hi, hs, hc1, part, run_isAgg hu hk, hu'])
theorem q_extract (he : EnvR T g w env a) (x : Operand) (i : Nat) (ho : o.op = .extract x i) : QS P T g w a o (qOp T L G env o.op) := by
  intro K h
  rw [ho] at h ⊢
  obtain ⟨v, h1, h2, h3⟩ := opd_sound he x _ h
  cases v <;> first | exact h1.elim | skip
  obtain ⟨us, e, hl, hp⟩ := cz_tup h2
  obtain ⟨z, hz, hK⟩ := (nthK_iff _ _).1 h1
  have hlt : i < us.size := by have := (List.getElem?_eq_some_iff.1 hz).1; omega
  have hu' : us[i]? = some us[i] := Array.getElem?_eq_getElem hlt
  refine ⟨z, us[i], hK, hp _ _ _ hz hu', ?_, fun K' hK' => h3 _ ((nthK_iff _ _).2 ⟨z, hz, hK'⟩)⟩
  simp only [execOp, ho, e]
  exact run_v (by simp [Instr.extract, hu'])
theorem q_makeFunc (he : EnvR T g w env a) (f : Fn) (x y : Array Operand) (ho : o.op = .makeFunc f x y) : QS P T g w a o (qOp T L G env o.op) := by
  intro K h
  rw [ho] at h ⊢
  obtain ⟨vs, h1, h2, h3, h4⟩ := opds_sound he x.toList _ h
  obtain ⟨us, h5, h6, h7, h8⟩ := opds_sound he y.toList _ h1
  refine ⟨_, .func f (x.map a.eval) (y.map a.eval), h5, .fn _ _ _ _ _ (by simpa using h3) (by simpa using h7) (fun i c u hc hu => ?_) (fun i c u hc hu => ?_), ?_, fun K' hK => h2 _ (h6 _ hK)⟩
  · simp at hu
    obtain ⟨z, hz, rfl⟩ := hu
    exact h4 i c z hc (by simpa using hz)
  · simp at hu
    obtain ⟨z, hz, rfl⟩ := hu
    exact h8 i c z hc (by simpa using hz)
  · simp only [execOp, ho]
    exact run_v (by simp [Instr.makeFunc])
theorem q_makeInterface (TO : TOk P T) (he : EnvR T g w env a) (t : TypeId) (x : Operand) (ho : o.op = .makeInterface t x) : QS P T g w a o (qOp T L G env o.op) := by
  intro K h
  rw [ho] at h ⊢
  simp only [qOp] at h ⊢
  have hk : kindD (T t).desc ≠ none ∧ (∀ ms, (T t).desc ≠ .interface ms) ∧ (opdK env x fun v => K (.ifc t v)) ∧ ∀ K' : AV → Prop, (opdK env x fun v => K' (.ifc t v)) → (match (T t).desc with
    | .interface _ => False
    | .invalid => False
    | _ => opdK env x fun v => K' (.ifc t v)) := by
    revert h
    cases (T t).desc <;> intro h <;> first | exact h.elim | exact ⟨by simp [kindD], (fun _ h => by cases h), h, (fun _ h => h)⟩
  obtain ⟨k1, k2, k3, k4⟩ := hk
  obtain ⟨v, h1, h2, h3⟩ := opd_sound he x _ k3
  refine ⟨_, _, h1, .ifc t v _ h2, ?_, fun K' hK => k4 K' (h3 _ hK)⟩
  have hu := (TO t k1).1
  simp only [execOp, ho]
  refine run_v ?_
  simp only [Instr.makeInterface, Sem.run_bind, run_underlying hu, Result.andThen_ok]
  revert k2
  cases (T t).desc <;> intro k2 <;> first | rfl | exact absurd rfl (k2 _)
theorem bound_sound {x : Option AV} {y : Option Operand} (hx : (y = none ∧ x = none) ∨ ∃ z c, y = some z ∧ x = some c ∧ Cz T g w c (a.eval z)) (d : Int) (K : Int → Prop) (h : boundK d x K) :
    ∃ i, K i ∧ (∀ K' : Int → Prop, K' i → boundK d x K') ∧ ((y.map a.eval = none ∧ i = d) ∨ ∃ k, y.map a.eval = some (.int k i)) := by
  rcases hx with ⟨rfl, rfl⟩ | ⟨z, c, rfl, rfl, hc⟩
  · exact ⟨d, h, fun _ h => h, .inl ⟨rfl, rfl⟩⟩
  · cases c <;> first | exact h.elim | skip
    exact ⟨_, h, fun _ h => h, .inr ⟨_, by rw [Option.map_some, cz_int hc]⟩⟩
theorem run_bounds {lo hi : Option Value} {l h : Int} {len cap : Nat} (sl : Bool) (hl : (lo = none ∧ l = 0) ∨ ∃ k, lo = some (.int k l)) (hh : (hi = none ∧ h = len) ∨ ∃ k, hi = some (.int k h)) (h0 : 0 ≤ l) (h1 : l ≤ h) (h2 : h ≤ cap) (w : World) :
    (Instr.sliceBounds sl len cap lo hi none).run P w = .ok (l.toNat, h.toNat, cap) w := by
  have e1 : (0 : Int) ≤ h := by omega
  have e2 : (h.toNat : Int) = h := by omega
  have e4 : l ≤ (h.toNat : Int) := by omega
  rcases hl with ⟨rfl, rfl⟩ | ⟨k, rfl⟩ <;> rcases hh with ⟨rfl, rfl⟩ | ⟨k', rfl⟩ <;> simp_all [Instr.sliceBounds, Instr.sliceBound, asIntOf]
theorem slc_mk {e : TypeId} (els : List (List AV)) {p : Option Addr} {cap n : Nat} (F : Nat → Nat → Value) (hn : n = els.length) (hc : els.length ≤ cap) (hm : cap ≤ maxLen) (hs : ∀ cells ∈ els, cells.length = (T e).cells)
    (hp : 0 < els.length → ∃ b off, p = some ⟨b, off, none⟩ ∧ ∀ (i : Nat) (cells : List AV), els[i]? = some cells → ∀ j, j < (T e).cells → g.frz b (off + (i * (T e).cells + j)) ∧ w.cell? ⟨b, off + (i * (T e).cells + j), none⟩ = some (F i j) ∧ (F i j).oneCell' = true)
    (hd : ∀ (i : Nat) (cells : List AV), els[i]? = some cells → ∀ (j : Nat) (x : AV), cells[j]? = some x → Dz T g w x (F i j)) : Dz T g w (.slc e els) (.slice p n cap) := by
  subst hn; exact .slc e els p cap F hc hm hs hp hd
theorem slc_sub {e : TypeId} {els : List (List AV)} {p : Option Addr} {cap : Nat} (h : Dz T g w (.slc e els) (.slice p els.length cap)) (l h' : Nat) (h1 : l ≤ h') (h2 : h' ≤ els.length) :
    Dz T g w (.slc e ((els.drop l).take (h' - l))) (.slice (if cap = l then p else p.map (·.add (l * (T e).cells))) (h' - l) (cap - l)) := by
  obtain ⟨p', cap', e1, q2, q3, q4, q5⟩ := slc_cells h
  simp only [Value.slice.injEq, true_and] at e1
  obtain ⟨rfl, rfl⟩ := e1
  have hlen : ((els.drop l).take (h' - l)).length = h' - l := by simp; omega
  by_cases hpos : 0 < els.length
  · obtain ⟨b, off, F, rfl, hF⟩ := q5 hpos
    refine slc_mk _ (fun i j => F (l + i) j) hlen.symm (by rw [hlen]; omega) (by omega) (fun cells hc => q4 cells ?_) (fun h0 => ?_) (fun i cells hi j x hj => ?_)
    · exact List.mem_of_mem_drop (List.mem_of_mem_take hc)
    · rw [hlen] at h0
      refine ⟨b, off + l * (T e).cells, by rw [if_neg (by omega)]; simp [addr_add], fun i cells hi j hj => ?_⟩
      have hil := (List.getElem?_eq_some_iff.1 hi).1
      rw [hlen] at hil
      rw [List.getElem?_take_of_lt (by omega), List.getElem?_drop] at hi
      obtain ⟨f1, f2, f3, _⟩ := hF (l + i) cells hi j hj
      rw [show off + l * (T e).cells + (i * (T e).cells + j) = off + ((l + i) * (T e).cells + j) by rw [Nat.add_mul]; omega]
      exact ⟨f1, f2, f3⟩
    · have hil := (List.getElem?_eq_some_iff.1 hi).1
      rw [hlen] at hil
      rw [List.getElem?_take_of_lt (by omega), List.getElem?_drop] at hi
      have hjl : j < (T e).cells := by have := (List.getElem?_eq_some_iff.1 hj).1; rw [q4 cells (List.mem_of_getElem? hi)] at this; exact this
      exact (hF (l + i) cells hi j hjl).2.2.2 x hj
  · have h0 : h' - l = 0 := by omega
    rw [h0]
    exact slc_mk _ (fun _ _ => undef) (by simp) (by simp) (by omega) (fun c hc => by simp at hc) (fun h => by simp at h) (fun i c hi => by simp at hi)
theorem q_slice (TO : TOk P T) (he : EnvR T g w env a) (t : TypeId) (x : Operand) (lo hi : Option Operand) (ho : o.op = .slice t x lo hi none) : QS P T g w a o (qOp T L G env o.op) := by
  intro K h
  rw [ho] at h ⊢
  obtain ⟨v, h1, h2, h3⟩ := opd_sound he x _ h
  obtain ⟨l, h4, h5, h6⟩ := oopd_sound he lo _ h1
  obtain ⟨hh, h7, h8, h9⟩ := oopd_sound he hi _ h4
  have back : ∀ K' : AV → Prop, sliceK T t v l hh K' → qOp T L G env (.slice t x lo hi none) K' := fun K' hK => h3 _ (h5 _ (h8 _ hK))
  cases hk : (T t).desc <;> simp only [sliceK, hk] at h7 <;> first | exact h7.elim | skip
  case string =>
    have hv := und TO hk (by simp [kindD])
    cases v <;> first | exact h7.elim | skip
    rename_i s
    have e1 := cz_str h2
    obtain ⟨i, g1, g2, g3⟩ := bound_sound h9 _ _ h7
    obtain ⟨j, g4, g5, g6⟩ := bound_sound h6 _ _ g1
    obtain ⟨⟨b0, b1, b2⟩, hK⟩ := g4
    refine ⟨_, _, hK, .dz _ _ (.str _), ?_, fun K' hK' => back K' (by simp only [sliceK, hk]; exact g2 _ (g5 _ ⟨⟨b0, b1, b2⟩, hK'⟩))⟩
    simp only [execOp, ho, e1]
    have hr := run_bounds (P := P) (len := s.size) (cap := s.size) false g6 g3 b0 b1 b2 w
    exact run_v (by simp [Instr.sliceAt, run_underlying hv, Instr.slice, hr])
  case slice el =>
    have hv := und TO hk (by simp [kindD])
    cases hke : kindD (T el).desc with
    | none => simp only [hke] at h7
    | some kb =>
      simp only [hke] at h7
      obtain ⟨e', els, g0, g1, g2⟩ := els_sound h2 _ h7
      by_cases hee : el = e'
      · subst hee
        simp only [decide_true] at g0
        obtain ⟨i, q1, q2, q3⟩ := bound_sound h9 _ _ g0
        obtain ⟨j, q4, q5, q6⟩ := bound_sound h6 _ _ q1
        obtain ⟨⟨b0, b1, b2⟩, hK⟩ := q4
        obtain ⟨p, cap, e1, c1, c2, c3, _⟩ := slc_cells g1
        obtain ⟨_, i', hi', hs, _⟩ := TO el (by rw [hke]; simp)
        rw [e1] at g1
        have hsub := slc_sub g1 j.toNat i.toNat (by omega) (by omega)
        refine ⟨_, _, hK, .dz _ _ hsub, ?_, fun K' hK' => back K' (by simp only [sliceK, hk, hke]; exact g2 _ (by simp only [decide_true]; exact q2 _ (q5 _ ⟨⟨b0, b1, b2⟩, hK'⟩)))⟩
        simp only [execOp, ho, e1]
        have hr := run_bounds (P := P) (len := els.length) (cap := cap) true q6 q3 b0 b1 (by omega) w
        exact run_v (by simp [Instr.sliceAt, run_underlying hv, Instr.slice, hr, sizeOf, typeInfo, hi', hs])
      · rw [decide_eq_false hee] at g0; exact g0.elim
theorem len_sound (TO : TOk P T) {t : TypeId} {v : AV} {u : Value} (hc : Cz T g w v u) (K : Int → Prop) (h : lenK T t v K) : ∃ n, K n ∧ (Builtin.len_ #[t] o.type #[u]).run P w = .ok (.int .i64 n) w ∧ ∀ K' : Int → Prop, K' n → lenK T t v K' := by
  unfold lenK at h ⊢
  cases hd : (T t).desc <;> rw [hd] at h <;> first | exact h.elim | skip
  case string =>
    have hv := und TO hd (by simp [kindD])
    cases v <;> first | exact h.elim | skip
    have e := cz_str hc; subst e
    exact ⟨_, h, by simp [Builtin.len_, run_underlying hv, goInt], fun _ h => h⟩
  case slice el =>
    have hv := und TO hd (by simp [kindD])
    cases v <;> first | exact h.elim | skip
    · have e := cz_nils hc; subst e
      exact ⟨_, h, by simp [Builtin.len_, run_underlying hv, goInt], fun _ h => h⟩
    · obtain ⟨p, cap, rfl, _⟩ := slc_cells (cz_slc hc)
      exact ⟨_, h, by simp [Builtin.len_, run_underlying hv, goInt], fun _ h => h⟩
    · obtain ⟨p, cap, rfl, _⟩ := slc_cells ((cz_own hc).2.slc (fun n i hi => hi))
      exact ⟨_, h, by simp [Builtin.len_, run_underlying hv, goInt], fun _ h => h⟩
theorem q_len (TO : TOk P T) (he : EnvR T g w env a) (args : Array Operand) (ts : Array TypeId) (ho : o.op = .call { callee := .builtin .len, args := args, argTypes := ts }) : QS P T g w a o (qOp T L G env o.op) := by
  intro K h
  rw [ho] at h ⊢
  simp only [qOp] at h ⊢
  obtain ⟨l⟩ := args
  obtain ⟨l2⟩ := ts
  match l, l2, h with
  | [x], [t], h =>
    obtain ⟨v, h1, h2, h3⟩ := opd_sound he x _ h
    obtain ⟨n, h4, h5, h6⟩ := len_sound (o := o) TO h2 _ h1
    refine ⟨_, _, h4, .dz _ _ (.int _ _), ?_, fun K' hK => h3 _ (h6 _ hK)⟩
    simp [execOp, ho, resolve, invoke, builtin, h5]
theorem mm_sound {f : Int → Int → Int} {run2 : Value → Value → Sem Value} (hf : ∀ k x k' y, run2 (.int k x) (.int k' y) = pure (.int k (f x y))) : ∀ (vs : List AV) (xs : List Value) (k : IntKind) (n : Int) (K : AV → Prop), vs.length = xs.length →
    (∀ (i : Nat) (v : AV) (x : Value), vs[i]? = some v → xs[i]? = some x → Cz T g w v x) → minmax f vs k n K → ∃ m, K (.int k m) ∧ (xs.foldlM run2 (.int k n) : Sem Value).run P w = .ok (.int k m) w ∧ ∀ K' : AV → Prop, K' (.int k m) → minmax f vs k n K'
  | [], [], k, n, K, _, _, h => ⟨n, h, rfl, fun _ h => h⟩
  | v :: vs, x :: xs, k, n, K, hl, hp, h => by
    cases v <;> first | exact h.elim | skip
    have e := cz_int (hp 0 _ _ rfl rfl)
    subst e
    obtain ⟨m, h1, h2, h3⟩ := mm_sound hf vs xs k _ K (by simpa using hl) (fun i v x hv hx => hp (i + 1) v x (by simpa using hv) (by simpa using hx)) h
    refine ⟨m, h1, ?_, h3⟩
    simp only [List.foldlM_cons, Sem.run_bind, hf, Sem.run_pure, Result.andThen_ok]
    exact h2
theorem q_mm (he : EnvR T g w env a) (b : Builtin) (f : Int → Int → Int) (run2 : Value → Value → Sem Value) (hf : ∀ k x k' y, run2 (.int k x) (.int k' y) = pure (.int k (f x y))) (args : Array Operand) (ts : Array TypeId) (ho : o.op = .call { callee := .builtin b, args := args, argTypes := ts })
    (hb : ∀ consts x xs, builtin b ts o.type consts (x :: xs : List Value).toArray = (do pure (.value (← (xs.foldlM run2 x : Sem Value))))) :
    QS P T g w a o (fun K => opdsK env args.toList fun | .int k n :: r => minmax f r k n K | _ => False) := by
  intro K h
  obtain ⟨vs, h1, h2, h3, h4⟩ := opds_sound he _ _ h
  match vs, h1, h2, h3, h4 with
  | v :: vs, h1, h2, h3, h4 =>
    cases v <;> first | exact h1.elim | skip
    rename_i k n
    obtain ⟨l⟩ := args
    match l, h3, h4 with
    | x :: xs, h3, h4 =>
      have e := cz_int (h4 0 _ _ rfl rfl)
      obtain ⟨m, q1, q2, q3⟩ := mm_sound (P := P) hf vs (xs.map a.eval) k n K (by simpa using h3) (fun i v y hv hy => by
        simp at hy
        obtain ⟨z, hz, rfl⟩ := hy
        exact h4 (i + 1) v z (by simpa using hv) (by simpa using hz)) h1
      refine ⟨_, _, q1, .dz _ _ (.int _ _), ?_, fun K' hK => h2 _ (q3 _ hK)⟩
      simp only [execOp, ho, resolve, invoke, Sem.run_bind, Sem.run_pure, Result.andThen_ok, List.map_toArray, List.map_cons, e]
      rw [hb]
      exact run_v q2
/-- parts laid into cells -/
theorem cellsOf_sound {v : AV} {u : Value} (hc : Cz T g w v u) (K : List AV → Prop) (h : cellsOfV v K) : ∃ cs, K cs ∧ (∀ K' : List AV → Prop, K' cs → cellsOfV v K') ∧ cs.length = u.cells.size ∧ (∀ x ∈ u.cells, x.oneCell' = true) ∧ ∀ (i : Nat) (c : AV) (x : Value), cs[i]? = some c → u.cells[i]? = some x → Cz T g w c x := by
  have one : ∀ x : AV, (∀ us, x ≠ .agg us) → x ≠ .top → (∀ us, x ≠ .tup us) → Cz T g w x u → u.oneCell' = true ∧ u.cells = #[u] := by
    intro x h1 h2 h3 hx
    cases hx with
    | dz _ _ hx => cases hx <;> first | exact ⟨rfl, rfl⟩ | exact absurd rfl h2 | exact absurd rfl (h1 _) | exact absurd rfl (h3 _)
    | any => exact absurd rfl h2
    | own _ _ _ _ _ hx => obtain ⟨xs, hx, _⟩ := hx; rcases hx.2 with ⟨rfl, _⟩ | ⟨_, _, _, rfl, _⟩ <;> exact ⟨rfl, rfl⟩
    | lptr => exact ⟨rfl, rfl⟩
    | agg => exact absurd rfl (h1 _)
    | tup => exact absurd rfl (h3 _)
    | fn => exact ⟨rfl, rfl⟩
    | ifc => exact ⟨rfl, rfl⟩
  have single : ∀ (_ : ∀ us, v ≠ .agg us) (_ : v ≠ .top) (_ : ∀ us, v ≠ .tup us), (∀ K' : List AV → Prop, cellsOfV v K' ↔ K' [v]) → ∃ cs, K cs ∧ (∀ K' : List AV → Prop, K' cs → cellsOfV v K') ∧ cs.length = u.cells.size ∧ (∀ x ∈ u.cells, x.oneCell' = true) ∧ ∀ (i : Nat) (c : AV) (x : Value), cs[i]? = some c → u.cells[i]? = some x → Cz T g w c x := by
    intro h1 h2 h3 hk
    obtain ⟨o1, o2⟩ := one v h1 h2 h3 hc
    refine ⟨[v], (hk K).1 h, fun K' hK => (hk K').2 hK, by rw [o2]; rfl, fun x hx => by rw [o2] at hx; simp at hx; rw [hx]; exact o1, fun i c x hc' hx => ?_⟩
    rw [o2] at hx
    cases i with
    | zero => simp at hc' hx; subst hc'; subst hx; exact hc
    | succ i => simp at hc'
  cases v with
  | agg cs =>
    obtain ⟨us, rfl, hl, h1, h2⟩ := cz_agg hc
    exact ⟨cs, h, fun _ h => h, hl, h1, h2⟩
  | top => exact h.elim
  | tup vs => exact h.elim
  | _ => exact single (fun _ h => by cases h) (fun h => by cases h) (fun _ h => by cases h) (fun _ => Iff.rfl)
theorem puts_at {α : Type} (l xs : List α) (n : Nat) (h : n + xs.length ≤ l.length) (i : Nat) : (l.take n ++ xs ++ l.drop (n + xs.length))[i]? = if n ≤ i ∧ i < n + xs.length then xs[i - n]? else l[i]? := by
  rw [List.append_assoc]
  have hl : (l.take n).length = n := by simp; omega
  by_cases h1 : i < n
  · rw [if_neg (by omega), List.getElem?_append_left (by omega), List.getElem?_take_of_lt h1]
  · rw [List.getElem?_append_right (by omega), hl]
    by_cases h2 : i < n + xs.length
    · rw [if_pos ⟨by omega, h2⟩, List.getElem?_append_left (by omega)]
    · rw [if_neg (by omega), List.getElem?_append_right (by omega), List.getElem?_drop]
      congr 1
      omega
theorem fold_puts (vs : List Value) : ∀ (j : Nat) (cells : Array Value) (off : Nat), off + j + vs.length ≤ cells.size → ((vs.zipIdx j).foldl (fun cs (c, j) => cs.setIfInBounds (off + j) c) cells).toList = cells.toList.take (off + j) ++ vs ++ cells.toList.drop (off + j + vs.length) := by
  induction vs with
  | nil => intro j cells off _; simp
  | cons v r ih =>
    intro j cells off h
    simp only [List.length_cons] at h
    rw [List.zipIdx_cons, List.foldl_cons, ih (j + 1) _ off (by simp; omega)]
    apply List.ext_getElem?
    intro i
    have hA := puts_at (cells.setIfInBounds (off + j) v).toList r (off + (j + 1)) (by simp; omega) i
    have hB := puts_at cells.toList (v :: r) (off + j) (by simp; omega) i
    simp only [List.length_cons] at hB ⊢
    rw [hA, hB]
    simp only [Array.toList_setIfInBounds]
    by_cases h1 : off + (j + 1) ≤ i ∧ i < off + (j + 1) + r.length
    · rw [if_pos h1, if_pos (by omega), show i - (off + j) = (i - (off + (j + 1))) + 1 by omega]; simp
    · rw [if_neg h1]
      by_cases h2 : i = off + j
      · subst h2
        rw [if_pos (by omega), List.getElem?_set_self (by simp; omega), Nat.sub_self]
        rfl
      · rw [if_neg (by omega), List.getElem?_set_ne (by omega)]
theorem fill_sound (he : EnvR T g w env a) (place : Nat → Option (Nat × Nat)) : ∀ (parts : List (Nat × Operand)) (cells : List AV) (us : Array Value) (K : List AV → Prop), cells.length = us.size → (∀ x ∈ us, x.oneCell' = true) → (∀ (i : Nat) (c : AV) (x : Value), cells[i]? = some c → us[i]? = some x → Cz T g w c x) →
    fillK place parts env cells K → ∃ cs xs, K cs ∧ (∀ K' : List AV → Prop, K' cs → fillK place parts env cells K') ∧ Instr.fill place us (parts.map fun p => (p.1, a.eval p.2)) = some xs ∧ cs.length = xs.size ∧ xs.size = us.size ∧ (∀ x ∈ xs, x.oneCell' = true) ∧ ∀ (i : Nat) (c : AV) (x : Value), cs[i]? = some c → xs[i]? = some x → Cz T g w c x
  | [], cells, us, K, hl, h1, h2, h => ⟨cells, us, h, fun _ h => h, rfl, hl, rfl, h1, h2⟩
  | (i, x) :: r, cells, us, K, hl, h1, h2, h => by
    unfold fillK at h
    cases hp : place i with
    | none => rw [hp] at h; exact h.elim
    | some os =>
      obtain ⟨off, size⟩ := os
      rw [hp] at h
      simp only at h
      obtain ⟨v, g1, g2, g3⟩ := opd_sound he x _ h
      obtain ⟨cs, g4, g5, g6, g7, g8⟩ := cellsOf_sound g2 _ g1
      by_cases hsz : cs.length = size
      · rw [show (cs.length == size) = true by simpa using hsz] at g4
        obtain ⟨p1, p2⟩ := (putsK_iff _ _ _ _).1 g4
        have hput : ((a.eval x).cells.zipIdx.foldl (fun cs (c, j) => cs.setIfInBounds (off + j) c) us).toList = us.toList.take off ++ (a.eval x).cells.toList ++ us.toList.drop (off + (a.eval x).cells.size) := by
          have := fold_puts (a.eval x).cells.toList 0 us off (by simp; omega)
          simp only [Nat.add_zero, Array.length_toList] at this
          rw [← this, ← Array.foldl_toList]
          simp
        generalize hX : ((a.eval x).cells.zipIdx.foldl (fun cs (c, j) => cs.setIfInBounds (off + j) c) us) = X at hput
        have hXs : X.size = us.size := by rw [← hX]; exact (by
          have h0 := congrArg List.length hput
          rw [hX]
          simp at h0
          omega)
        have hget : ∀ j, X[j]? = if off ≤ j ∧ j < off + (a.eval x).cells.size then (a.eval x).cells[j - off]? else us[j]? := by
          intro j
          have h0 := puts_at us.toList (a.eval x).cells.toList off (by simp; omega) j
          simp only [Array.length_toList, Array.getElem?_toList] at h0
          rw [← h0, ← hput, Array.getElem?_toList]
        obtain ⟨ds, xs, q1, q2, q3, q4, q5, q6, q7⟩ := fill_sound he place r _ X K (by simp; omega) (fun y hy => by
            obtain ⟨j, hj, rfl⟩ := Array.mem_iff_getElem.1 hy
            have h0 := hget j
            rw [Array.getElem?_eq_getElem hj] at h0
            split at h0
            · exact g7 _ (Array.mem_of_getElem? h0.symm)
            · exact h1 _ (Array.mem_of_getElem? h0.symm)) (fun j c y hc hy => by
            rw [hget] at hy
            rw [puts_at cells cs off p1 j, g6] at hc
            split at hc
            · rename_i hin; rw [if_pos hin] at hy; exact g8 _ _ _ hc hy
            · rename_i hin; rw [if_neg hin] at hy; exact h2 _ _ _ hc hy) p2
        refine ⟨ds, xs, q1, fun K' hK => ?_, ?_, q4, by rw [q5, hXs], q6, q7⟩
        · unfold fillK
          rw [hp]
          refine g3 _ (g5 _ ?_)
          rw [show (cs.length == size) = true by simpa using hsz]
          exact (putsK_iff _ _ _ _).2 ⟨p1, q2 _ hK⟩
        · simp only [List.map_cons, Instr.fill, hp]
          rw [if_neg (by simp; omega), hX]
          exact q3
      · rw [show (cs.length == size) = false by simpa using hsz] at g4; exact g4.elim
theorem zero_sound (TO : TOk P T) {t : TypeId} (hk : kindD (T t).desc ≠ none) (K : List AV → Prop) (h : zeroK T t K) : ∃ cs, K cs ∧ (∀ K' : List AV → Prop, K' cs → zeroK T t K') ∧ (zeroValue t).run P w = .ok (T t).zero w ∧ cs.length = (T t).zero.cells.size ∧ (∀ x ∈ (T t).zero.cells, x.oneCell' = true) ∧ ∀ (i : Nat) (c : AV) (x : Value), cs[i]? = some c → (T t).zero.cells[i]? = some x → Dz T g w c x := by
  obtain ⟨l, h1, h2, h3, h4, h5⟩ := ofVs_is (T := T) (g := g) (w := w) _ K h
  obtain ⟨_, i, hi, _, _, hz, _⟩ := TO t hk
  exact ⟨l, h1, h2, by simp [zeroValue, typeInfo, hi, hz], by simpa using h3, fun x hx => h4 x (by simpa using hx), fun i c x hc hx => h5 i c x hc (by simpa using hx)⟩
theorem places_some (TO : TOk P T) : ∀ fs : List Field, fs.all (fun f => (kindD (T f.type).desc).isSome) = true → fs.mapM (fun f => (P.info? f.type).map fun i => (f.offset, i.size)) = some (fs.map fun f => (f.offset, (T f.type).cells))
  | [], _ => rfl
  | f :: r, h => by
    simp only [List.all_cons, Bool.and_eq_true] at h
    obtain ⟨_, i, hi, hs, _⟩ := TO f.type (by intro hk; rw [hk] at h; simp at h)
    simp [List.mapM_cons, hi, hs, places_some TO r h.2]
theorem q_build (TO : TOk P T) (he : EnvR T g w env a) (t : TypeId) (parts : Array (Nat × Operand)) (ho : o.op = .build t parts) : QS P T g w a o (qOp T L G env o.op) := by
  intro K h
  rw [ho] at h ⊢
  simp only [qOp] at h ⊢
  have pl : (parts.map fun (i, x) => (i, a.eval x)).toList = parts.toList.map fun p => (p.1, a.eval p.2) := by simp
  cases hd : (T t).desc <;> simp only [hd] at h <;> first | exact h.elim | skip
  case array n el =>
    have hv := und TO hd (by simp [kindD])
    cases hk : kindD (T el).desc with
    | none => simp only [hk] at h
    | some kb =>
      simp only [hk] at h ⊢
      obtain ⟨_, i', hi', hs', _⟩ := TO el (by rw [hk]; simp)
      obtain ⟨z, g1, g2, g3, g4, g5, g6⟩ := zero_sound (w := w) (g := g) TO (t := t) (by rw [hd]; simp [kindD]) _ h
      obtain ⟨cs, xs, q1, q2, q3, q4, _, q6, q7⟩ := fill_sound he _ _ z _ _ g4 g5 (fun i c x hc hx => .dz _ _ (g6 i c x hc hx)) g1
      refine ⟨_, .agg xs, q1, .agg _ _ q4 q6 q7, ?_, fun K' hK => g2 _ (q2 _ hK)⟩
      simp only [execOp, ho]
      exact run_v (by simp only [Instr.build, Sem.run_bind, g3, Result.andThen_ok, run_underlying hv, sizeOf, typeInfo, run_program, hi', Sem.run_pure, hs', pl, q3])
  case struct fs =>
    have hv := und TO hd (by simp [kindD])
    by_cases hall : fs.toList.all (fun f => (kindD (T f.type).desc).isSome) = true
    · simp only [hall] at h ⊢
      obtain ⟨z, g1, g2, g3, g4, g5, g6⟩ := zero_sound (w := w) (g := g) TO (t := t) (by rw [hd]; simp [kindD]) _ h
      obtain ⟨cs, xs, q1, q2, q3, q4, _, q6, q7⟩ := fill_sound he _ _ z _ _ g4 g5 (fun i c x hc hx => .dz _ _ (g6 i c x hc hx)) g1
      refine ⟨_, .agg xs, q1, .agg _ _ q4 q6 q7, ?_, fun K' hK => g2 _ (q2 _ hK)⟩
      simp only [execOp, ho]
      have hpl := run_places (P := P) w _ _ (places_some TO fs.toList hall)
      have hplace : (fun i => (fs.toList.map fun f => (f.offset, (T f.type).cells))[i]?) = places T fs := by
        funext i
        unfold places
        rw [List.getElem?_map, Array.getElem?_toList]
        cases fs[i]? <;> rfl
      refine run_v ?_
      have q3' := q3
      rw [← hplace] at q3'
      simp [Instr.build, g3, run_underlying hv, Array.mapM_eq_mapM_toList, hpl]
      simp at q3'
      rw [q3']
      rfl
    · rw [Bool.not_eq_true] at hall; simp only [hall] at h
theorem q_lookup (TO : TOk P T) (hr : Rel T g L nl nt G w) (he : EnvR T g w env a) (t : TypeId) (x k : Operand) (ok : Bool) (ho : o.op = .lookup t x k ok) : QS P T g w a o (qOp T L G env o.op) := by
  intro K h
  rw [ho] at h ⊢
  obtain ⟨kv, h1, h2, h3⟩ := opd_sound he k _ h
  obtain ⟨xv, h4, h5, h6⟩ := opd_sound he x _ h1
  obtain ⟨z, y, q1, q2, q3, q4⟩ := look_sound TO hr h5 h2 ok K h4
  refine ⟨z, y, q1, q2, ?_, fun K' hK => h3 _ (h6 _ (q4 K' hK))⟩
  simp only [execOp, ho]
  exact run_v q3
theorem fail_sound (TO : TOk P T) {t : TypeId} {K : AV → Prop} (h : failK T t K) : ∃ z, K (.tup [z, .bool false]) ∧ (zeroValue t).run P w = .ok (T t).zero w ∧ Cz T g w (.tup [z, .bool false]) (.tuple #[(T t).zero, .bool false]) ∧ ∀ K' : AV → Prop, K' (.tup [z, .bool false]) → failK T t K' := by
  unfold failK at h ⊢
  cases hk : kindD (T t).desc with
  | none => simp only [hk] at h
  | some kb =>
    simp only [hk] at h ⊢
    obtain ⟨z, q1, q2, q3⟩ := ofV_sound (T := T) (g := g) (w := w) _ _ h
    refine ⟨z, q1, run_zero TO (by rw [hk]; simp), .tup _ _ rfl (fun i c u hc hu => ?_), fun K' hK' => q3 _ hK'⟩
    match i with
    | 0 => simp at hc hu; subst hc hu; exact q2
    | 1 => simp at hc hu; subst hc hu; exact .dz _ _ (.bool _)
    | i + 2 => simp at hc
theorem run_assert {xt t : TypeId} {d : TypeDesc} (hd : notIfc d = true) (hu : P.underlying t = some d) (t' : TypeId) (u : Value) (ok : Bool) {z : Value} (hz : (zeroValue t).run P w = .ok z w ∨ t' = t) (hok : ok = true ∨ t' = t) :
    (Instr.typeAssert (.iface t' u) xt t ok).run P w = .ok (if t' = t then (if ok = true then .tuple #[u, .bool true] else u) else .tuple #[z, .bool false]) w := by
  by_cases ht : t' = t
  · cases d <;> first | (simp [Instr.typeAssert, run_underlying hu, ht, Result.andThen]; done) | (cases ok <;> simp [Instr.typeAssert, run_underlying hu, ht, Result.andThen]; done) | (simp [notIfc] at hd; done)
  · have hz := hz.resolve_right ht
    have hok := hok.resolve_right ht
    cases d <;> first | (simp [Instr.typeAssert, run_underlying hu, ht, hok, hz, Result.andThen]; done) | (simp [notIfc] at hd; done)
theorem run_assert_nil {xt t : TypeId} {d : TypeDesc} (hd : notIfc d = true) (hu : P.underlying t = some d) {z : Value} (hz : (zeroValue t).run P w = .ok z w) : (Instr.typeAssert .nilIface xt t true).run P w = .ok (.tuple #[z, .bool false]) w := by
  cases d <;> first | (simp [Instr.typeAssert, run_underlying hu, hz, Result.andThen]; done) | (simp [notIfc] at hd; done)
theorem assert_sound (TO : TOk P T) {xt t : TypeId} {v : AV} {u : Value} (hn : notIfc (T t).desc = true) (hc : Cz T g w v u) (ok : Bool) {K : AV → Prop} (h : assertK T t v ok K) : ∃ z y, K z ∧ Cz T g w z y ∧ (Instr.typeAssert u xt t ok).run P w = .ok y w ∧ ∀ K' : AV → Prop, K' z → assertK T t v ok K' := by
  have hu := und TO (t := t) rfl (by revert hn; cases (T t).desc <;> simp [notIfc, kindD])
  cases v <;> first | exact h.elim | skip
  case ifc t' y =>
    obtain ⟨x, rfl, hx⟩ := cz_ifc hc
    unfold assertK at h ⊢
    by_cases ht : t' = t
    · simp only [decide_eq_true ht] at h ⊢
      have hr := run_assert (P := P) (w := w) (xt := xt) (z := undef) hn hu t' x ok (.inr ht) (.inr ht)
      rw [if_pos ht] at hr
      cases ok with
      | true =>
        refine ⟨_, _, h, .tup _ #[x, .bool true] rfl (fun i c u' hc' hu' => ?_), hr, fun K' hK => hK⟩
        match i with
        | 0 => simp at hc' hu'; subst hc' hu'; exact hx
        | 1 => simp at hc' hu'; subst hc' hu'; exact .dz _ _ (.bool _)
        | i + 2 => simp at hc'
      | false => exact ⟨_, _, h, hx, hr, fun K' hK => hK⟩
    · simp only [decide_eq_false ht] at h ⊢
      cases ok with
      | true =>
        obtain ⟨z, q1, q2, q3, q4⟩ := fail_sound (g := g) (w := w) TO h
        have hr := run_assert (P := P) (w := w) (xt := xt) hn hu t' x true (.inl q2) (.inl rfl)
        rw [if_neg ht] at hr
        exact ⟨_, _, q1, q3, hr, fun K' hK => q4 K' hK⟩
      | false => exact h.elim
  case nili =>
    cases cz_nili hc
    cases ok with
    | true =>
      obtain ⟨z, q1, q2, q3, q4⟩ := fail_sound (g := g) (w := w) TO h
      exact ⟨_, _, q1, q3, run_assert_nil hn hu q2, fun K' hK => q4 K' hK⟩
    | false => exact h.elim
theorem q_typeAssert (TO : TOk P T) (he : EnvR T g w env a) (x : Operand) (xt t : TypeId) (ok : Bool) (ho : o.op = .typeAssert x xt t ok) : QS P T g w a o (qOp T L G env o.op) := by
  intro K h
  rw [ho] at h ⊢
  obtain ⟨v, h1, h2, h3⟩ := opd_sound he x _ h
  cases hn : notIfc (T t).desc with
  | false => simp only [hn] at h1
  | true =>
    simp only [hn] at h1
    obtain ⟨z, y, q1, q2, q3, q4⟩ := assert_sound (xt := xt) TO hn h2 ok h1
    refine ⟨z, y, q1, q2, ?_, fun K' hK => h3 _ (by simp only [hn]; exact q4 K' hK)⟩
    simp only [execOp, ho]
    exact run_v q3
theorem qOp_sound (TO : TOk P T) (hr : Rel T g L nl nt G w) (he : EnvR T g w env a) (o : Oper) : QS P T g w a o (qOp T L G env o.op) := by
  cases hop : o.op
  case move x => exact q_move he x (by simp [execOp, hop])
  case assign x => exact q_move he x (by simp [execOp, hop])
  case pick c x y => rw [← hop]; exact q_pick he c x y hop
  case nilCheck x => rw [← hop]; exact q_nilCheck he x hop
  case load t x => rw [← hop]; exact q_load TO hr he t x hop
  case binOp op t x y t' => rw [← hop]; exact q_bin TO he op t x y t' hop
  case unOp op t x => rw [← hop]; exact q_un he op t x hop
  case convert s d x => rw [← hop]; exact q_conv TO he s d x hop
  case field t x i => rw [← hop]; exact q_field TO he t x i hop
  case fieldAddr t x i => rw [← hop]; exact q_fieldAddr TO he t x i hop
  case indexAddr t x i => rw [← hop]; exact q_indexAddr TO he t x i hop
  case index t x i => rw [← hop]; exact q_index TO he t x i hop
  case slice t x lo hi mx =>
    cases mx with
    | none => rw [← hop]; exact q_slice TO he t x lo hi hop
    | some m => intro K h; exact h.elim
  case extract x i => rw [← hop]; exact q_extract he x i hop
  case makeFunc f x y => rw [← hop]; exact q_makeFunc he f x y hop
  case makeInterface t x => rw [← hop]; exact q_makeInterface TO he t x hop
  case build t parts => rw [← hop]; exact q_build TO he t parts hop
  case lookup t x k ok => rw [← hop]; exact q_lookup TO hr he t x k ok hop
  case typeAssert x xt t ok => rw [← hop]; exact q_typeAssert TO he x xt t ok hop
  case call c =>
    obtain ⟨callee, args, ts⟩ := c
    cases callee with
    | builtin b =>
      cases b <;> first | (intro K h; exact h.elim) | skip
      case len => rw [← hop]; exact q_len TO he args ts hop
      case max => exact q_mm he .max (fun a b => if b > a then b else a) Builtin.max2 (fun _ _ _ _ => rfl) args ts hop (fun _ _ _ => by simp [builtin, Builtin.max_])
      case min => exact q_mm he .min (fun a b => if b < a then b else a) Builtin.min2 (fun _ _ _ _ => rfl) args ts hop (fun _ _ _ => by simp [builtin, Builtin.min_])
    | value f => intro K h; exact h.elim
    | invoke r m => intro K h; exact h.elim
  all_goals (intro K h; exact h.elim)
end
end Go.Proofs.Ytmmmaekaoanceaa
