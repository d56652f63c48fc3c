/- Boxes that hold a map of texts and a number: what stands under a text, in lists. -/
import Derived.Test.YtpihanlillbhkaaGreatDoorLaw
import Derived.Test.YtpihanlillbhkaaGreatDoorGe
set_option maxRecDepth 100000
set_option linter.unusedSimpArgs false
namespace Go.Proofs.YtpihanlillbhkaaGreatDoor
open Go Go.RowKit Go.Proofs

theorem bl_inj {a b : ByteArray} (h : a.toList = b.toList) : a = b := by
  rw [ByteArray.toList_eq, ByteArray.toList_eq] at h
  exact ByteArray.ext (Array.ext' h)
theorem bl_eq (a b : ByteArray) : (a.toList == b.toList) = decide (a = b) := by
  by_cases h : a = b
  · simp [h]
  · have : a.toList ≠ b.toList := fun e => h (bl_inj e)
    simp [h, this]
def lget {α : Type} : List (ByteArray × α) → ByteArray → Option α
  | [], _ => none
  | (k, v) :: r, x => match decide (x = k) with | true => some v | false => lget r x
def lput {α : Type} : List (ByteArray × α) → ByteArray → α → List (ByteArray × α)
  | [], x, y => [(x, y)]
  | (k, v) :: r, x, y => match decide (x = k) with | true => (x, y) :: r | false => (k, v) :: lput r x y
def ldel {α : Type} : List (ByteArray × α) → ByteArray → List (ByteArray × α)
  | [], _ => []
  | (k, v) :: r, x => match decide (x = k) with | true => r | false => (k, v) :: ldel r x
def bk {α : Type} (f : α → AV) (l : List (ByteArray × α)) : List (AV × AV) := l.map fun x => (.str x.1, f x.2)
theorem bk_get {α : Type} (f : α → AV) (k : ByteArray) : ∀ l, mget (bk f l) (.str k) = (lget l k).map f
  | [] => rfl
  | (x, y) :: r => by
    show (match decide (k = x) with | true => some (f y) | false => mget (bk f r) (.str k)) = _
    rw [bk_get f k r]
    rw [show lget ((x, y) :: r) k = (match decide (k = x) with | true => some y | false => lget r k) from rfl]
    cases decide (k = x) <;> rfl
theorem bk_put {α : Type} (f : α → AV) (k : ByteArray) (v : α) : ∀ l, mput (bk f l) (.str k) (f v) = bk f (lput l k v)
  | [] => rfl
  | (x, y) :: r => by
    show (match decide (k = x) with | true => (AV.str k, f v) :: bk f r | false => (AV.str x, f y) :: mput (bk f r) (.str k) (f v)) = _
    rw [bk_put f k v r]
    rw [show lput ((x, y) :: r) k v = (match decide (k = x) with | true => (k, v) :: r | false => (x, y) :: lput r k v) from rfl]
    cases decide (k = x) <;> rfl
theorem bk_del {α : Type} (f : α → AV) (k : ByteArray) : ∀ l, mdel (bk f l) (.str k) = bk f (ldel l k)
  | [] => rfl
  | (x, y) :: r => by
    show (match decide (k = x) with | true => bk f r | false => (AV.str x, f y) :: mdel (bk f r) (.str k)) = _
    rw [bk_del f k r]
    rw [show ldel ((x, y) :: r) k = (match decide (k = x) with | true => r | false => (x, y) :: ldel r k) from rfl]
    cases decide (k = x) <;> rfl
theorem lget_put_same {α : Type} (k : ByteArray) (v : α) : ∀ l, lget (lput l k v) k = some v
  | [] => by simp [lput, lget]
  | (x, y) :: r => by
    unfold lput
    by_cases h : k = x
    · simp [h, lget]
    · simp [h, lget, lget_put_same k v r]
theorem lget_put_ne {α : Type} {k z : ByteArray} (hz : z ≠ k) (v : α) : ∀ l, lget (lput l k v) z = lget l z
  | [] => by simp [lput, lget, hz]
  | (x, y) :: r => by
    unfold lput
    by_cases h : k = x
    · subst h; simp [lget, hz]
    · simp only [h, decide_false, lget]
      rw [lget_put_ne hz v r]
theorem mget_put_same (k v : AV) (hk : keyB k k = true) : ∀ m : List (AV × AV), mget (mput m k v) k = some v := by
  intro m
  induction m with
  | nil => simp [mput, mget, hk]
  | cons a r ih =>
    obtain ⟨x, y⟩ := a
    cases h : keyB k x with
    | true => simp [mput, mget, h, hk]
    | false => simp [mput, mget, h, ih]
theorem keyB_str (s : ByteArray) : keyB (.str s) (.str s) = true := by simp [keyB]
theorem lget_mem {α : Type} {k : ByteArray} {x : α} : ∀ {l : List (ByteArray × α)}, lget l k = some x → (k, x) ∈ l
  | [], h => by cases h
  | (z, y) :: r, h => by
    by_cases hz : k = z
    · subst hz
      simp [lget] at h
      simp [h]
    · simp only [lget, hz, decide_false] at h
      exact List.mem_cons_of_mem _ (lget_mem h)
theorem lget_none {α : Type} {k : ByteArray} : ∀ {l : List (ByteArray × α)}, lget l k = none → ∀ e ∈ l, e.1 ≠ k
  | [], _, e, he => by cases he
  | (z, y) :: r, h, e, he => by
    by_cases hz : k = z
    · simp [lget, hz] at h
    · simp only [lget, hz, decide_false] at h
      rcases List.mem_cons.1 he with rfl | he
      · exact fun q => hz q.symm
      · exact lget_none h e he
theorem mem_lput {α : Type} {k : ByteArray} {x : α} {e : ByteArray × α} : ∀ (l : List (ByteArray × α)), (l.map (·.1)).Nodup → e ∈ lput l k x → e = (k, x) ∨ e ∈ l ∧ e.1 ≠ k
  | [], _, h => by simp [lput] at h; exact .inl h
  | (z, y) :: r, hn, h => by
    simp only [List.map_cons, List.nodup_cons] at hn
    by_cases hz : k = z
    · subst hz
      simp only [lput, decide_true] at h
      rcases List.mem_cons.1 h with rfl | h
      · exact .inl rfl
      · exact .inr ⟨List.mem_cons_of_mem _ h, fun q => hn.1 (List.mem_map.2 ⟨e, h, q⟩)⟩
    · simp only [lput, hz, decide_false] at h
      rcases List.mem_cons.1 h with rfl | h
      · exact .inr ⟨by simp, fun q => hz q.symm⟩
      · rcases mem_lput r hn.2 h with h | ⟨h, hk⟩
        · exact .inl h
        · exact .inr ⟨List.mem_cons_of_mem _ h, hk⟩
theorem keys_lput {α : Type} {z k : ByteArray} {x : α} : ∀ (l : List (ByteArray × α)), z ∈ (lput l k x).map (·.1) → z = k ∨ z ∈ l.map (·.1)
  | [], h => by simp [lput] at h; exact .inl h
  | (y, u) :: r, h => by
    by_cases hz : k = y
    · subst hz
      simp only [lput, decide_true, List.map_cons, List.mem_cons] at h ⊢
      rcases h with h | h
      · exact .inl h
      · exact .inr (.inr h)
    · simp only [lput, hz, decide_false, List.map_cons, List.mem_cons] at h ⊢
      rcases h with h | h
      · exact .inr (.inl h)
      · rcases keys_lput r h with h | h
        · exact .inl h
        · exact .inr (.inr h)
theorem nodup_lput {α : Type} (k : ByteArray) (x : α) : ∀ (l : List (ByteArray × α)), (l.map (·.1)).Nodup → ((lput l k x).map (·.1)).Nodup
  | [], _ => by simp [lput]
  | (z, y) :: r, hn => by
    simp only [List.map_cons, List.nodup_cons] at hn
    by_cases hz : k = z
    · subst hz
      simp only [lput, decide_true, List.map_cons, List.nodup_cons]
      exact hn
    · simp only [lput, hz, decide_false, List.map_cons, List.nodup_cons]
      refine ⟨fun h => ?_, nodup_lput k x r hn.2⟩
      rcases keys_lput r h with h | h
      · exact hz h.symm
      · exact hn.1 h
theorem mem_ldel {α : Type} {k : ByteArray} {e : ByteArray × α} : ∀ (l : List (ByteArray × α)), (l.map (·.1)).Nodup → e ∈ ldel l k → e ∈ l ∧ e.1 ≠ k
  | [], _, h => by simp [ldel] at h
  | (z, y) :: r, hn, h => by
    simp only [List.map_cons, List.nodup_cons] at hn
    by_cases hz : k = z
    · subst hz
      simp only [ldel, decide_true] at h
      exact ⟨List.mem_cons_of_mem _ h, fun q => hn.1 (List.mem_map.2 ⟨e, h, q⟩)⟩
    · simp only [ldel, hz, decide_false] at h
      rcases List.mem_cons.1 h with rfl | h
      · exact ⟨by simp, fun q => hz q.symm⟩
      · obtain ⟨h, hk⟩ := mem_ldel r hn.2 h
        exact ⟨List.mem_cons_of_mem _ h, hk⟩
theorem ldel_sub {α : Type} (k : ByteArray) : ∀ (l : List (ByteArray × α)), (ldel l k).Sublist l
  | [] => .refl _
  | (z, y) :: r => by
    by_cases hz : k = z
    · simp [ldel, hz]
    · simp only [ldel, hz, decide_false]
      exact (ldel_sub k r).cons_cons _
theorem nodup_ldel {α : Type} (k : ByteArray) (l : List (ByteArray × α)) (h : (l.map (·.1)).Nodup) : ((ldel l k).map (·.1)).Nodup :=
  h.sublist ((ldel_sub k l).map _)
/-- a map of texts: its value, and what stands in it -/
def MapG (G : Glob) (mv : AV) (m : List (AV × AV)) : Prop := (mv = .nilm ∧ m = []) ∨ ∃ mb, mv = .mp mb ∧ G mb = some (.map none m)
/-- a box that holds a map and a number -/
def StG (G : Glob) (b : Nat) (mv : AV) (n : Int) (m : List (AV × AV)) : Prop := G b = some (.cells [mv, .int .i64 n]) ∧ MapG G mv m
/-- nothing but a box and its map has turned -/
def Kept (G G' : Glob) (b : Nat) (mv mv' : AV) : Prop := (mv' = mv ∨ (mv = .nilm ∧ ∃ mb, G mb = none ∧ mv' = .mp mb)) ∧ ∀ i x, G i = some x → i ≠ b → mv ≠ .mp i → G' i = some x
/-- the reach bounds what stands in each element of a slice of structs -/
theorem row_sized {α H : Type} {P : Program} {ts : List TypeId} {ds : List (DataW H)} {l : List α} {d : DataW H} {R : α → DataW H → Prop} {j : Nat} {t e : TypeId} {fs : Array Field} (hsz : (DataW.weightsEach P ts ds).all (· ≤ reachBytes) = true) (ht : ts[j]? = some t) (hd : ds[j]? = some d)
    (hu : P.underlying t = some (.slice e)) (he : P.underlying e = some (.struct fs))
    (h : (d = .nil ∧ l = []) ∨ ∃ elems sp : List (DataW H), d = .slice elems sp ∧ elems.length = l.length ∧ ∀ (i : Nat) (x : α) (y : DataW H), l[i]? = some x → elems[i]? = some y → R x y)
    (parts : α → List (DataW H)) (hR : ∀ x y, R x y → y = .agg (parts x)) : ∀ x ∈ l, (DataW.weightsEach P (fs.toList.map (·.type)) (parts x)).all (· ≤ reachBytes) = true := by
  intro x hx
  rcases h with ⟨_, rfl⟩ | ⟨elems, sp, rfl, hl, hh⟩
  · cases hx
  · obtain ⟨i, hi, rfl⟩ := List.mem_iff_getElem.1 hx
    have hy : elems[i]? = some (elems[i]'(by omega)) := List.getElem?_eq_getElem (by omega)
    have h1 := sized_elem hsz ht hd hu hy
    rw [hR _ _ (hh i _ _ (List.getElem?_eq_getElem hi) hy)] at h1
    simpa only [DataW.weights, he] using h1
end Go.Proofs.YtpihanlillbhkaaGreatDoor
