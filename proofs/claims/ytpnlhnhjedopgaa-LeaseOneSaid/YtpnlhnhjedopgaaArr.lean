/- Arguments that are arrays by value, each element of one cell. -/
import Derived.Test.YtpnlhnhjedopgaaOpen
namespace Go.Proofs.Ytpnlhnhjedopgaa
open Go Go.RowKit Go.ChangeShapes Go.WideShapes Go.ChangeAt Go.Deep

section
variable {H : Type} {enc : TypeId × Value → H} {P : Program} {w : World} {base : Nat} {spare : Nat → Bool} {held : Bool}
theorem array_arg {r : Reach} {b0 : Nat} {t e : TypeId} {n : Nat} {v : Value} {d : DataW H} {p : List MemPlace} (hs : P.underlying t = some (.array n e)) (hone : P.cellsOf e = 1) (hC : P.cellsOf t = n)
    (hv : Value.okWide P w r b0 t v) (h : DataW.Trod enc P w base spare held t v d p) :
    ∃ (l : List Value) (ys : List (DataW H × List MemPlace)) (m : Nat), v = .agg l.toArray ∧ l.length = n ∧ ys.length = n ∧ d = .agg (ys.map (·.1)) ∧ p = ys.flatMap (·.2) ∧
      ∀ (j : Nat) (v : Value), l[j]? = some v → DataW.trod enc P w base spare held m e [v] = ys[j]? := by
  simp only [Value.okWide, hs] at hv
  obtain ⟨cs, rfl, hsz, _⟩ := hv
  obtain ⟨fuel, hf⟩ := h
  obtain ⟨ys, m, _, hx, hl, hyl, hg⟩ := DataW.trod_array hs (by simpa [Value.cells] using hf)
  simp only [Prod.mk.injEq] at hx
  refine ⟨cs.toList, ys, m, by simp, by rw [hl, hC], hyl, hx.1, hx.2, fun j v hj => ?_⟩
  obtain ⟨hjl, rfl⟩ := List.getElem?_eq_some_iff.1 hj
  have h2 := hg j (by rw [← hC, ← hl]; exact hjl)
  rw [hone, Nat.mul_one, List.drop_eq_getElem_cons hjl] at h2
  simpa using h2
end
theorem bounds_byte {n : Int} (w : (Lit.int .u8 n).wf = true) : 0 ≤ n ∧ n ≤ 255 := by
  simpa [Lit.wf, IntKind.min, IntKind.max, IntKind.signed, IntKind.bits] using w
theorem bounds_word {n : Int} (w : (Lit.int .u16 n).wf = true) : 0 ≤ n ∧ n ≤ 65535 := by
  simpa [Lit.wf, IntKind.min, IntKind.max, IntKind.signed, IntKind.bits] using w
/-- the reach bounds each element of an array -/
theorem sized_arr {H : Type} {P : Program} {ts : List TypeId} {ds : List (DataW H)} (h : (DataW.weightsEach P ts ds).all (· ≤ reachBytes) = true) {j : Nat} {t e : TypeId} {n : Nat} {parts : List (DataW H)} (ht : ts[j]? = some t)
    (hd : ds[j]? = some (.agg parts)) (hu : P.underlying t = some (.array n e)) {i : Nat} {y : DataW H} (hy : parts[i]? = some y) : (y.weights P e).all (· ≤ reachBytes) = true := by
  have hmem : ∀ (l : List (DataW H)) (y : DataW H), y ∈ l → ∀ x ∈ y.weights P e, x ∈ DataW.weightsAll P e l := by
    intro l
    induction l with
    | nil => intro y hy; cases hy
    | cons d r ih =>
      intro y hy x hx
      rw [DataW.weightsAll]
      rcases List.mem_cons.1 hy with rfl | hy
      · exact List.mem_append_left _ hx
      · exact List.mem_append_right _ (ih y hy x hx)
  refine List.all_eq_true.2 fun x hx => ?_
  exact List.all_eq_true.1 h x (DataW.weights_mem_each ht hd x (by
    simp only [DataW.weights, hu]
    exact hmem parts y (List.mem_of_getElem? hy) x hx))
end Go.Proofs.Ytpnlhnhjedopgaa
