/- Maps: what stands under a key, in the abstract list and in the block's entries. -/
import Derived.Test.YtmmmaekaoanceaaAu
import Derived.MapKept
namespace Go.Proofs.Ytmmmaekaoanceaa
open Go Go.RowKit Go.MapKept

def kdD : Option IntKind → TypeDesc
  | none => .string
  | some q => .int q
theorem keyAt_isKey {kd : Option IntKind} {k : AV} {u : Value} (h : keyAt kd k u) : IsKey (kdD kd) u := by
  cases kd <;> cases k <;> cases u <;> first | exact h.elim | exact trivial | exact h.2.1
theorem keyAt_same {kd : Option IntKind} {k x : AV} {u v : Value} (h : keyAt kd k u) (h' : keyAt kd x v) : (keyB k x = true ↔ u = v) := by
  cases kd <;> cases k <;> cases u <;> first | exact h.elim | skip
  all_goals cases x <;> cases v <;> first | exact h'.elim | skip
  · simp only [keyAt] at h h'; subst h h'; simp [keyB]
  · simp only [keyAt] at h h'
    obtain ⟨rfl, h2, rfl⟩ := h
    obtain ⟨rfl, h3, rfl⟩ := h'
    subst h2 h3
    simp [keyB]
/-- a key's place, if it is there: in the list, and among the entries -/
theorem mfind {kd : Option IntKind} {k : AV} {u : Value} (hk : keyAt kd k u) : ∀ (m : List (AV × AV)) (es : List MapEntry) (i : Nat), es.length = m.length → (∀ (i : Nat) (x : AV × AV) (y : MapEntry), m[i]? = some x → es[i]? = some y → keyAt kd x.1 y.key) →
    (mget m k = none ∧ (∀ v, mput m k v = m ++ [(k, v)]) ∧ mdel m k = m ∧ Instr.findNow (kdD kd) u es i = some none ∧ ∀ e ∈ es, e.key ≠ u) ∨
    ∃ j x e, m[j]? = some x ∧ es[j]? = some e ∧ mget m k = some x.2 ∧ (∀ v, mput m k v = m.set j (k, v)) ∧ mdel m k = m.eraseIdx j ∧ Instr.findNow (kdD kd) u es i = some (some (i + j, e.val)) ∧ e.key = u
  | [], [], i, _, _ => .inl ⟨rfl, fun _ => rfl, rfl, rfl, fun e h => by cases h⟩
  | [], _ :: _, i, h, _ => by simp at h
  | _ :: _, [], i, h, _ => by simp at h
  | (k0, v0) :: m, e :: es, i, hl, hp => by
    have h0 : keyAt kd k0 e.key := hp 0 _ _ rfl rfl
    obtain ⟨r, hr, hiff⟩ := sameNow_of_keys (keyAt_isKey hk) (keyAt_isKey h0)
    have hs := keyAt_same hk h0
    have hrb : keyB k k0 = r := by
      rw [Bool.eq_iff_iff, hs, hiff]
    cases r with
    | true =>
      refine .inr ⟨0, (k0, v0), e, rfl, rfl, ?_, fun v => ?_, ?_, ?_, (hiff.1 rfl).symm⟩
      · simp only [mget, hrb]
      · simp only [mput, hrb]; rfl
      · simp only [mdel, hrb]; rfl
      · simp [Instr.findNow, hr]
    | false =>
      have hne : e.key ≠ u := fun q => by have := hiff.2 q.symm; cases this
      rcases mfind hk m es (i + 1) (by simpa using hl) (fun i x y hx hy => hp (i + 1) x y (by simpa using hx) (by simpa using hy)) with ⟨h1, h2, h3, h4, h5⟩ | ⟨j, x, e', h1, h2, h3, h4, h5, h6, h7⟩
      · refine .inl ⟨?_, fun v => ?_, ?_, ?_, fun y hy => ?_⟩
        · simp only [mget, hrb]; exact h1
        · simp only [mput, hrb, h2]; rfl
        · simp only [mdel, hrb, h3]
        · simp [Instr.findNow, hr, h4]
        · rcases List.mem_cons.1 hy with rfl | hy
          · exact hne
          · exact h5 y hy
      · refine .inr ⟨j + 1, x, e', by simpa using h1, by simpa using h2, ?_, fun v => ?_, ?_, ?_, h7⟩
        · simp only [mget, hrb]; exact h3
        · simp only [mput, hrb, h4]; rfl
        · simp only [mdel, hrb, h5]; rfl
        · simp [Instr.findNow, hr, h6]; omega
section
variable {P : Program} {T : TypeId → TR} {g : Gh} {w : World}
theorem key_sound (TO : TOk P T) {kt : TypeId} {k : AV} {u : Value} (hc : Cz T g w k u) (K : Option IntKind → Prop) (h : keyKd T kt k K) : ∃ kd, K kd ∧ (∀ K' : Option IntKind → Prop, K' kd → keyKd T kt k K') ∧ P.underlying kt = some (kdD kd) ∧ keyAt kd k u := by
  unfold keyKd at h ⊢
  cases hd : (T kt).desc <;> simp only [hd] at h ⊢ <;> first | exact h.elim | skip
  · rename_i q
    cases k <;> simp only at h ⊢ <;> first | exact h.elim | skip
    rename_i q' n
    by_cases hq : q = q'
    · subst hq
      rw [decide_eq_true rfl] at h
      refine ⟨some q, h, fun K' hK => ?_, show P.underlying kt = some (.int q) from und TO hd (by simp [kindD]), ?_⟩
      · rw [decide_eq_true rfl]; exact hK
      · rw [cz_int hc]; exact ⟨rfl, rfl, rfl⟩
    · rw [decide_eq_false hq] at h; exact h.elim
  · cases k <;> simp only at h ⊢ <;> first | exact h.elim | skip
    refine ⟨none, h, fun _ h => h, show P.underlying kt = some .string from und TO hd (by simp [kindD]), ?_⟩
    rw [cz_str hc]; exact rfl
theorem map_shape {b : Nat} {kd : Option IntKind} {m : List (AV × AV)} (h : BoxAt T g w b (.map kd m)) : ∃ es clock, w.heap[g.beta b]? = some (.map es clock) ∧ Stamped es clock ∧ es.toList.length = m.length ∧
    (∀ (i : Nat) (x : AV × AV) (y : MapEntry), m[i]? = some x → es.toList[i]? = some y → keyAt kd x.1 y.key) ∧ ∀ (i : Nat) (x : AV × AV) (y : MapEntry), m[i]? = some x → es.toList[i]? = some y → Dz T g w x.2 y.val := by
  obtain ⟨es, clock, h1, h2, h3, h4⟩ := h
  exact ⟨es, clock, h1, h2, by simpa using h3, fun i x y hx hy => (h4 i x y hx (by simpa using hy)).1, fun i x y hx hy => (h4 i x y hx (by simpa using hy)).2⟩
theorem run_zero (TO : TOk P T) {t : TypeId} (hk : kindD (T t).desc ≠ none) : (zeroValue t).run P w = .ok (T t).zero w := by
  obtain ⟨_, i, hi, _, _, hz, _⟩ := TO t hk
  simp [zeroValue, typeInfo, hi, hz]
theorem look_sound (TO : TOk P T) {L : List LB} {nl nt : Nat} {G : Glob} (hr : Rel T g L nl nt G w) {t : TypeId} {x k : AV} {u v : Value} (hx : Cz T g w x u) (hk : Cz T g w k v) (ok : Bool) (K : AV → Prop) (h : lookK T t G x k ok K) :
    ∃ z y, K z ∧ Cz T g w z y ∧ (Instr.lookup t u v ok).run P w = .ok y w ∧ ∀ K' : AV → Prop, K' z → lookK T t G x k ok K' := by
  unfold lookK at h ⊢
  cases hd : (T t).desc <;> simp only [hd] at h ⊢ <;> first | exact h.elim | skip
  rename_i kt et
  have hu := und TO hd (by simp [kindD])
  obtain ⟨kd, h1, h2, h3, h4⟩ := key_sound TO hk _ h
  have ik := keyAt_isKey h4
  cases he : kindD (T et).desc with
  | none => simp only [he] at h1
  | some kb =>
    simp only [he] at h1 h2 ⊢
    have hz := run_zero (w := w) TO (t := et) (by rw [he]; simp)
    -- nothing stands there
    have none_ok : ∀ (K : AV → Prop), (ofVK (T et).zero fun z => okK ok z false K) → ∃ z y, K z ∧ Cz T g w z y ∧ y = (if ok = true then .tuple #[(T et).zero, .bool false] else (T et).zero) ∧
        ∀ K' : AV → Prop, K' z → (ofVK (T et).zero fun z => okK ok z false K') := fun K hK => by
      obtain ⟨z, q1, q2, q3⟩ := ofV_sound (T := T) (g := g) (w := w) _ _ hK
      cases ok with
      | true =>
        refine ⟨_, _, q1, .tup _ #[(T et).zero, .bool false] rfl (fun i c u hc hu => ?_), rfl, fun K' hK' => q3 _ hK'⟩
        match i with
        | 0 => simp at hc hu; subst hc hu; exact q2
        | 1 => simp at hc hu; subst hc hu; exact .dz _ _ (.bool _)
        | i + 2 => simp at hc
      | false => exact ⟨_, _, q1, q2, rfl, fun K' hK' => q3 _ hK'⟩
    cases x <;> simp only at h1 <;> first | exact h1.elim | skip
    · obtain ⟨z, y, q1, q2, q3, q4⟩ := none_ok K h1
      refine ⟨z, y, q1, q2, ?_, fun K' hK => h2 _ (by simp only; exact q4 K' hK)⟩
      rw [cz_nilm hx, q3]
      have hf : (Instr.findKey kt v []).run P w = .ok none w := run_findKey h3 rfl
      simp [Instr.lookup, run_underlying hu, run_checkKey h3 ik, hf, hz, Result.andThen]
    · rename_i b
      obtain ⟨m, hG, r, hr0, h1⟩ := h1
      obtain ⟨hbn, rfl⟩ := cz_mp hx
      obtain ⟨es, clock, g1, g2, g3, g4, g5⟩ := map_shape (hr.glob b _ hG).2.2
      rcases mfind h4 m es.toList 0 g3 g4 with ⟨p1, _, _, p4, _⟩ | ⟨j, x0, e0, p1, p2, p3, _, _, p6, _⟩
      · rw [p1] at hr0
        subst hr0
        obtain ⟨z, y, q1, q2, q3, q4⟩ := none_ok K h1
        refine ⟨z, y, q1, q2, ?_, fun K' hK => h2 _ (by simp only; exact ⟨m, hG, none, p1, q4 K' hK⟩)⟩
        rw [q3]
        simp [Instr.lookup, run_underlying hu, MapKept.run_getObj_map g1, run_checkKey h3 ik, run_findKey h3 p4, hz, Result.andThen]
      · rw [p3] at hr0
        subst hr0
        simp only at h1
        have hv : Cz T g w x0.2 e0.val := .dz _ _ (g5 j x0 e0 p1 p2)
        rw [Nat.zero_add] at p6
        have run : (Instr.lookup t (.map (some (g.beta b))) v ok).run P w = .ok (if ok = true then .tuple #[e0.val, .bool true] else e0.val) w := by
          simp [Instr.lookup, run_underlying hu, MapKept.run_getObj_map g1, run_checkKey h3 ik, run_findKey h3 p6, Result.andThen]
        cases ok with
        | true =>
          refine ⟨_, _, h1, .tup _ #[e0.val, .bool true] rfl (fun i c u hc hu => ?_), by rw [run]; rfl, fun K' hK => h2 _ (by simp only; exact ⟨m, hG, _, p3, hK⟩)⟩
          match i with
          | 0 => simp at hc hu; subst hc hu; exact hv
          | 1 => simp at hc hu; subst hc hu; exact .dz _ _ (.bool _)
          | i + 2 => simp at hc
        | false => exact ⟨_, _, h1, hv, by rw [run]; rfl, fun K' hK => h2 _ (by simp only; exact ⟨m, hG, _, p3, hK⟩)⟩
end
end Go.Proofs.Ytmmmaekaoanceaa
