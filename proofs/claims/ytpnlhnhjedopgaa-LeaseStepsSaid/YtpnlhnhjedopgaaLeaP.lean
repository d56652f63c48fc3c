/- Leases: the plain law: what they weigh, what is left when time goes by. -/
import Derived.Test.YtpnlhnhjedopgaaRisA
import Derived.Test.YtpnlhnhjedopgaaLeaA
set_option maxRecDepth 100000
set_option linter.unusedSimpArgs false
namespace Go.Proofs.Ytpnlhnhjedopgaa
open Go Go.RowKit Go.Proofs

def sizeL (r : LeL) : Nat := (r.map fun x => 24 + x.1.size + x.2.1.size).sum
theorem sizeL_perm {m r : LeL} (h : m.Perm r) : sizeL m = sizeL r := (h.map _).sum_nat
theorem sizeL_take (r : LeL) (k : Nat) : sizeL (r.take k) ≤ sizeL r := by
  have : sizeL r = sizeL (r.take k) + sizeL (r.drop k) := by
    unfold sizeL
    rw [← List.sum_append_nat, ← List.map_append, List.take_append_drop]
  omega
theorem sizeL_filter (p : ByteArray × (ByteArray × Int) → Bool) : ∀ r : LeL, sizeL (r.filter p) ≤ sizeL r
  | [] => Nat.le_refl _
  | x :: r => by
    have := sizeL_filter p r
    rw [List.filter_cons]
    unfold sizeL at this ⊢
    split <;> simp only [List.map_cons, List.sum_cons] <;> omega
theorem sizeL_lput (k v : ByteArray) (t : Int) : ∀ m : LeL, (∀ x u, lget m k = some (x, u) → x = v) → ((sizeL (lput m k (v, t)) : Nat) : Int) = sizeL m + lgrow m k v
  | [], _ => by simp [sizeL, lput, lgrow, lget]
  | (z, y) :: r, h => by
    by_cases hz : k = z
    · subst hz
      obtain ⟨y1, y2⟩ := y
      have := h y1 y2 (by simp [lget])
      subst this
      simp [sizeL, lput, lgrow, lget]
    · have := sizeL_lput k v t r (fun x u hx => h x u (by simpa [lget, hz] using hx))
      simp only [sizeL, lput, hz, decide_false, List.map_cons, List.sum_cons, lgrow, lget] at this ⊢
      omega
theorem sizeL_ldel (k : ByteArray) {w : ByteArray × Int} : ∀ {m : LeL}, lget m k = some w → sizeL (ldel m k) + (24 + k.size + w.1.size) = sizeL m
  | [], h => by cases h
  | (z, y) :: r, h => by
    by_cases hz : k = z
    · subst hz
      simp only [lget, decide_true, Option.some.injEq] at h
      subst h
      simp [sizeL, ldel]; omega
    · simp only [lget, hz, decide_false] at h
      have := sizeL_ldel k h
      simp only [sizeL, ldel, hz, decide_false, List.map_cons, List.sum_cons] at this ⊢
      omega
theorem AInv.filter {α : Type} {m r : List (ByteArray × α)} (h : AInv m r) (p : ByteArray × α → Bool) : AInv (m.filter p) (r.filter p) :=
  ⟨(List.Sublist.map _ (List.filter_sublist)).nodup h.nd, h.pm.filter p, h.ri.filter p⟩
/-- what is left of leases at a tick -/
def liveL (now : Int) (r : LeL) : LeL := r.filter fun x => decide (x.2.2 > now)
def goneB (m : LeL) (now : Int) (i : Nat) (x : ByteArray × (ByteArray × Int)) : Bool := !(decide (x.2.2 ≤ now) && decide (x.1.data.toList ∈ (keyL m).take i))
/-- what is left when the first of the names have been looked at -/
def goneL (m : LeL) (now : Int) (i : Nat) : LeL := m.filter (goneB m now i)
theorem keyL_nodup {α : Type} {m : List (ByteArray × α)} (h : (m.map (·.1)).Nodup) : (keyL m).Nodup := by
  unfold keyL
  refine (List.mergeSort_perm _ _).nodup_iff.2 ?_
  refine List.pairwise_map.2 ((List.pairwise_map.1 h).imp fun {a b} hne e => hne ?_)
  rw [← S_of a.1, ← S_of b.1, e]
theorem S_data (s : List UInt8) : (S s).data.toList = s := by simp [S]
theorem goneL_start (m : LeL) (now : Int) : goneL m now 0 = m := by
  unfold goneL
  refine List.filter_eq_self.2 fun x _ => ?_
  simp [goneB]
theorem goneL_end (m : LeL) (now : Int) : goneL m now (keyL m).length = liveL now m := by
  unfold goneL liveL
  refine List.filter_congr fun x hx => ?_
  have : x.1.data.toList ∈ keyL m := by
    unfold keyL
    rw [List.mem_mergeSort]
    exact List.mem_map.2 ⟨x, hx, rfl⟩
  unfold goneB
  rw [List.take_length]
  simp only [this, decide_true, Bool.and_true]
  by_cases h : x.2.2 ≤ now
  · have h' : ¬ x.2.2 > now := by omega
    simp [h, h']
  · have h' : x.2.2 > now := by omega
    simp [h, h']
theorem key_there {m : LeL} (h : (m.map (·.1)).Nodup) {i : Nat} {s : List UInt8} (hs : (keyL m)[i]? = some s) : ∃ v, lget m (S s) = some v := by
  have h1 : s ∈ keyL m := List.mem_of_getElem? hs
  unfold keyL at h1
  rw [List.mem_mergeSort] at h1
  obtain ⟨x, hx, rfl⟩ := List.mem_map.1 h1
  refine ⟨x.2, ?_⟩
  rw [S_of]
  exact lget_ofA h hx
theorem take_next {s : List UInt8} {l : List (List UInt8)} {i : Nat} (hs : l[i]? = some s) : l.take (i + 1) = l.take i ++ [s] := by rw [List.take_add_one, hs]; rfl
theorem not_before {l : List (List UInt8)} (hn : l.Nodup) {i : Nat} {s : List UInt8} (hs : l[i]? = some s) : s ∉ l.take i := by
  intro hm
  obtain ⟨hi, rfl⟩ := List.getElem?_eq_some_iff.1 hs
  obtain ⟨j, hj, e⟩ := List.getElem_of_mem hm
  rw [List.length_take] at hj
  rw [List.getElem_take] at e
  have := (List.getElem_inj hn).1 e
  omega
theorem goneL_get {m : LeL} (h : (m.map (·.1)).Nodup) (now : Int) {i : Nat} {s : List UInt8} (hs : (keyL m)[i]? = some s) {v : ByteArray × Int} (hv : lget m (S s) = some v) : lget (goneL m now i) (S s) = some v := by
  refine lget_ofA ((List.Sublist.map _ (List.filter_sublist)).nodup h) ?_
  unfold goneL
  refine List.mem_filter.2 ⟨lget_mem hv, ?_⟩
  have := not_before (keyL_nodup h) hs
  unfold goneB
  simp [this, S_data]
theorem goneL_del {m : LeL} (h : (m.map (·.1)).Nodup) (now : Int) {i : Nat} {s : List UInt8} (hs : (keyL m)[i]? = some s) {v : ByteArray × Int} (hv : lget m (S s) = some v) (ht : v.2 ≤ now) : ldel (goneL m now i) (S s) = goneL m now (i + 1) := by
  have e0 := ldel_eqA (S s) (goneL m now i) ((List.Sublist.map _ (List.filter_sublist)).nodup h)
  rw [e0]
  unfold delA goneL
  rw [List.filter_filter]
  refine List.filter_congr fun x hx => ?_
  unfold goneB
  rw [take_next hs]
  by_cases he : x.1 = S s
  · have h1 : lget m (S s) = some x.2 := lget_ofA h (by rw [← he]; exact hx)
    rw [hv] at h1
    cases h1
    simp [he, ht, S_data]
  · have h2 : ¬ x.1.data.toList = s := fun e => he (by rw [← e, S_of])
    simp [he, h2]
theorem goneL_stay {m : LeL} (h : (m.map (·.1)).Nodup) (now : Int) {i : Nat} {s : List UInt8} (hs : (keyL m)[i]? = some s) {v : ByteArray × Int} (hv : lget m (S s) = some v) (ht : ¬ v.2 ≤ now) : goneL m now (i + 1) = goneL m now i := by
  unfold goneL
  refine List.filter_congr fun x hx => ?_
  unfold goneB
  rw [take_next hs]
  by_cases he : x.1.data.toList = s
  · have h1 : lget m (S s) = some x.2 := lget_ofA h (by rw [← he, S_of]; exact hx)
    rw [hv] at h1
    cases h1
    simp [ht]
  · simp [he]
end Go.Proofs.Ytpnlhnhjedopgaa
