/- One text out of several: LnaA, RisA, LeaA, LeaP, LeaF, LeaC, LeaG, LeaH, PtnN, PtnL. -/
import Derived.Shelf.SlIter.Nil
import Derived.Shelf.AbstractIn
import Derived.Test.YtpihanlillbhkaaGreatDoorGl
import Derived.Test.YtpihanlillbhkaaGreatDoorMapA
import Derived.Test.YtpihanlillbhkaaGreatDoorGf
import Derived.Test.YtpihanlillbhkaaGreatDoorGz
import Derived.Test.YtpihanlillbhkaaGreatDoorGm

section
/- slices.Sorted(maps.Keys(m)) at a map of leases: their names, in order (lease.Names). -/
set_option maxRecDepth 100000
namespace Go.Proofs.YtpihanlillbhkaaGreatDoor
open Go Go.RowKit Go.Proofs Go.Maps Go.Sort Go.Shelf

def keysLe_ren : Go.Shelf.Ren := ⟨fun | 7 => 76 | 10 => 102 | n => n, fun | 23 => 61 | 26 => 9 | 3 => 107 | 28 => 145 | 0 => 0 | 27 => 144 | 33 => 151 | 4 => 4 | n => n, fun | n => n⟩
theorem keysLe : Go.Proofs.SlLaysZ.n7 Tryz.prog keysLe_ren := {
  mixed := by kernel_rfl
  f7 := ⟨Tryz.f76.name, by kernel_rfl, Tryz.func76.trans (congrArg some (by kernel_rfl))⟩
  f10 := ⟨Tryz.f102.name, by kernel_rfl, Tryz.func102.trans (congrArg some (by kernel_rfl))⟩
  t0 := Tryz.underlying0
  a0 := Tryz.isAgg0
  z0 := Tryz.sizeOf0
  v0 := Tryz.zeroValue0
  t4 := Tryz.underlying4
  a4 := Tryz.isAgg4
  z4 := Tryz.sizeOf4
  v4 := Tryz.zeroValue4
  t23 := Tryz.underlying61
  a23 := Tryz.isAgg61
  z23 := Tryz.sizeOf61
  v23 := Tryz.zeroValue61
  t26 := Tryz.underlying9
  a26 := Tryz.isAgg9
  z26 := Tryz.sizeOf9
  v26 := Tryz.zeroValue9
  t27 := Tryz.underlying144
  a27 := Tryz.isAgg144
  z27 := Tryz.sizeOf144
  v27 := Tryz.zeroValue144
  t28 := Tryz.underlying145
  a28 := Tryz.isAgg145
  z28 := Tryz.sizeOf145
  v28 := Tryz.zeroValue145
  t33 := Tryz.underlying151
  a33 := Tryz.isAgg151
  z33 := Tryz.sizeOf151
  v33 := Tryz.zeroValue151
}
def sortedLe_ren : Go.Shelf.Ren := ⟨fun | 6 => 75 | 8 => 101 | 9 => 70 | 11 => 122 | 13 => 96 | 12 => 95 | 23 => 116 | 24 => 117 | 14 => 107 | 15 => 108 | 16 => 109 | 17 => 110 | 18 => 111 | 19 => 112 | 20 => 113 | 21 => 114 | 22 => 115 | 25 => 123 | 26 => 124 | 27 => 125 | 28 => 126 | 29 => 127 | 30 => 128 | 31 => 131 | n => n, fun | 26 => 9 | 28 => 145 | 24 => 80 | 0 => 0 | 3 => 3 | 37 => 137 | 48 => 173 | 50 => 33 | 4 => 4 | 40 => 166 | 39 => 165 | 45 => 170 | 5 => 5 | 9 => 9 | 51 => 182 | 55 => 186 | 57 => 188 | 58 => 189 | 33 => 151 | n => n, fun | n => n⟩
theorem sortedLe : Go.Proofs.SlLaysZ.n6 Tryz.prog sortedLe_ren := {
  mixed := by kernel_rfl
  f6 := ⟨Tryz.f75.name, by kernel_rfl, Tryz.func75.trans (congrArg some (by kernel_rfl))⟩
  f8 := ⟨Tryz.f101.name, by kernel_rfl, Tryz.func101.trans (congrArg some (by kernel_rfl))⟩
  f11 := ⟨Tryz.f122.name, by kernel_rfl, Tryz.func122.trans (congrArg some (by kernel_rfl))⟩
  t0 := Tryz.underlying0
  a0 := Tryz.isAgg0
  z0 := Tryz.sizeOf0
  v0 := Tryz.zeroValue0
  t24 := Tryz.underlying80
  a24 := Tryz.isAgg80
  z24 := Tryz.sizeOf80
  v24 := Tryz.zeroValue80
  t26 := Tryz.underlying9
  a26 := Tryz.isAgg9
  z26 := Tryz.sizeOf9
  v26 := Tryz.zeroValue9
  t28 := Tryz.underlying145
  a28 := Tryz.isAgg145
  z28 := Tryz.sizeOf145
  v28 := Tryz.zeroValue145
  i26 := by kernel_rfl
}
theorem sortsLe (m : Nat) : AnyZ.SortsIn Tryz.prog sortedLe_ren Fence.wide m :=
  ⟨fun blk off cap ss W hH hblk hsz => callsIn_wide.2 (AnyM.slices_Sort_string sortS blk off cap ss W hH hblk hsz),
   fun p cap W => callsIn_wide.2 (AnyM.slices_Sort_string_none sortS p cap W)⟩
end Go.Proofs.YtpihanlillbhkaaGreatDoor
end

section
/- Maps of texts and rising rows of names, whatever stands beside: the plain law. -/
set_option maxRecDepth 100000
set_option linter.unusedSimpArgs false
namespace Go.Proofs.YtpihanlillbhkaaGreatDoor
open Go Go.RowKit Go.Proofs

def leA (a b : ByteArray) : Bool := !(Op.bytesLess b.toList a.toList)
theorem leA_iff (a b : ByteArray) : leA a b = true ↔ ¬ ltB b a := by
  unfold leA ltB
  rw [ByteArray.toList_eq, ByteArray.toList_eq, bytesLess_eq]
  simp
section
variable {α : Type}
def delA (r : List (ByteArray × α)) (z : ByteArray) : List (ByteArray × α) := r.filter fun x => !decide (x.1 = z)
def putA (k : ByteArray) (v : α) : List (ByteArray × α) → Bool → List (ByteArray × α)
  | [], done => if done then [] else [(k, v)]
  | x :: r, done => (if (!done && leA k x.1) = true then [(k, v)] else []) ++ ((if x.1 = k then [] else [x]) ++ putA k v r (done || leA k x.1))
/-- strictly rising -/
def RiseA (r : List (ByteArray × α)) : Prop := r.Pairwise fun x y => ltB x.1 y.1
theorem rise_nodupA {r : List (ByteArray × α)} (h : RiseA r) : (r.map (·.1)).Nodup := List.pairwise_map.2 (h.imp fun hl e => by rw [e] at hl; exact ltB_irr _ hl)
theorem putK_doneA (k : ByteArray) (v : α) : ∀ r : List (ByteArray × α), putA k v r true = delA r k
  | [] => rfl
  | x :: r => by
    have := putK_doneA k v r
    unfold delA at this ⊢
    by_cases h : x.1 = k <;> simp [putA, h, this]
theorem putK_permA (k : ByteArray) (v : α) : ∀ r : List (ByteArray × α), (putA k v r false).Perm ((k, v) :: delA r k)
  | [] => by simp [putA, delA]
  | x :: r => by
    by_cases hle : leA k x.1 = true
    · simp only [putA, hle, Bool.not_false, Bool.true_and, if_true, Bool.or_true, putK_doneA]
      unfold delA
      by_cases h : x.1 = k <;> simp [h]
    · have ih := putK_permA k v r
      have hle' : leA k x.1 = false := by simpa using hle
      simp only [putA, hle', Bool.and_false, Bool.or_false, if_false, Bool.false_eq_true, List.nil_append]
      unfold delA at ih ⊢
      by_cases h : x.1 = k
      · simp only [h, if_true, List.nil_append, decide_true, Bool.not_true, List.filter_cons_of_neg, Bool.false_eq_true, not_false_eq_true]
        exact ih
      · simp only [h, if_false, decide_false, Bool.not_false, List.filter_cons_of_pos, List.cons_append, List.nil_append]
        exact (ih.cons x).trans (.swap _ _ _)
theorem delR_riseA {r : List (ByteArray × α)} (h : RiseA r) (k : ByteArray) : RiseA (delA r k) := h.filter _
theorem delR_neA {r : List (ByteArray × α)} {k : ByteArray} {x : ByteArray × α} (h : x ∈ delA r k) : x ∈ r ∧ x.1 ≠ k := by
  unfold delA at h
  rw [List.mem_filter] at h
  exact ⟨h.1, by simpa using h.2⟩
theorem putK_riseA {r : List (ByteArray × α)} (h : RiseA r) (k : ByteArray) (v : α) : RiseA (putA k v r false) := by
  induction r with
  | nil => simp [putA, RiseA]
  | cons x r ih =>
    have hx := List.pairwise_cons.1 h
    have hr : RiseA r := hx.2
    by_cases hle : leA k x.1 = true
    · simp only [putA, hle, Bool.not_false, Bool.true_and, if_true, Bool.or_true, putK_doneA]
      have e : ((if x.1 = k then [] else [x]) ++ delA r k) = delA (x :: r) k := by
        unfold delA
        by_cases h : x.1 = k <;> simp [h]
      rw [e]
      refine List.pairwise_cons.2 ⟨fun y hy => ?_, delR_riseA h k⟩
      obtain ⟨hy, hne⟩ := delR_neA hy
      have hkx := (leA_iff k x.1).1 hle
      rcases List.mem_cons.1 hy with rfl | hy
      · exact Classical.byContradiction fun hh => hne (ltB_tri hkx hh)
      · have hxy := hx.1 y hy
        by_cases hk : ltB k x.1
        · exact ltB_trans hk hxy
        · rw [ltB_tri hk hkx]; exact hxy
    · have hle' : leA k x.1 = false := by simpa using hle
      have hxk : ltB x.1 k := Classical.byContradiction fun hh => hle ((leA_iff k x.1).2 hh)
      have hne : x.1 ≠ k := fun e => by rw [e] at hxk; exact ltB_irr _ hxk
      simp only [putA, hle', Bool.and_false, Bool.or_false, if_false, Bool.false_eq_true, List.nil_append, hne, List.cons_append]
      refine List.pairwise_cons.2 ⟨fun y hy => ?_, ih hr⟩
      rcases List.mem_cons.1 ((putK_permA k v r).mem_iff.1 hy) with rfl | hy
      · exact hxk
      · exact hx.1 y (delR_neA hy).1
theorem lput_permA (k : ByteArray) (v : α) : ∀ m : List (ByteArray × α), (m.map (·.1)).Nodup → (lput m k v).Perm ((k, v) :: delA m k)
  | [], _ => by simp [lput, delA]
  | (z, y) :: r, hn => by
    simp only [List.map_cons, List.nodup_cons] at hn
    by_cases hz : k = z
    · subst hz
      have : delA r k = r := List.filter_eq_self.2 fun x hx => by
        have : x.1 ≠ k := fun e => hn.1 (List.mem_map.2 ⟨x, hx, e⟩)
        simp [this]
      simp only [lput, decide_true]
      unfold delA at this ⊢
      simp [this]
    · have hz' : ¬ z = k := fun e => hz e.symm
      have ih := lput_permA k v r hn.2
      simp only [lput, hz, decide_false]
      unfold delA at ih ⊢
      simp only [hz', decide_false, Bool.not_false, List.filter_cons_of_pos]
      exact (ih.cons _).trans (.swap _ _ _)
theorem ldel_eqA (k : ByteArray) : ∀ m : List (ByteArray × α), (m.map (·.1)).Nodup → ldel m k = delA m k
  | [], _ => rfl
  | (z, y) :: r, hn => by
    simp only [List.map_cons, List.nodup_cons] at hn
    by_cases hz : k = z
    · subst hz
      have : delA r k = r := List.filter_eq_self.2 fun x hx => by
        have : x.1 ≠ k := fun e => hn.1 (List.mem_map.2 ⟨x, hx, e⟩)
        simp [this]
      simp only [ldel, decide_true]
      unfold delA at this ⊢
      simp [this]
    · have hz' : ¬ z = k := fun e => hz e.symm
      have ih := ldel_eqA k r hn.2
      simp only [ldel, hz, decide_false]
      unfold delA at ih ⊢
      simp [hz', ih]
theorem lget_ofA {k : ByteArray} {v : α} : ∀ {m : List (ByteArray × α)}, (m.map (·.1)).Nodup → (k, v) ∈ m → lget m k = some v
  | [], _, h => by cases h
  | (z, y) :: r, hn, h => by
    simp only [List.map_cons, List.nodup_cons] at hn
    rcases List.mem_cons.1 h with h | h
    · cases h; simp [lget]
    · have hz : ¬ k = z := fun e => hn.1 (List.mem_map.2 ⟨_, h, e⟩)
      simp only [lget, hz, decide_false]
      exact lget_ofA hn.2 h
theorem lget_permA {m r : List (ByteArray × α)} (hm : (m.map (·.1)).Nodup) (h : m.Perm r) (z : ByteArray) : lget m z = lget r z := by
  have hr : (r.map (·.1)).Nodup := (h.map _).nodup_iff.1 hm
  cases hz : lget r z with
  | some v => exact lget_ofA hm (h.mem_iff.2 (lget_mem hz))
  | none =>
    cases hz' : lget m z with
    | none => rfl
    | some v => exact absurd rfl (lget_none hz _ (h.mem_iff.1 (lget_mem hz')))
/-- a map and the document's rows -/
structure AInv (m r : List (ByteArray × α)) : Prop where
  nd : (m.map (·.1)).Nodup
  pm : m.Perm r
  ri : RiseA r
theorem AInv.get {m r : List (ByteArray × α)} (h : AInv m r) (z : ByteArray) : lget m z = lget r z := lget_permA h.nd h.pm z
theorem AInv.put {m r : List (ByteArray × α)} (h : AInv m r) (k : ByteArray) (v : α) : AInv (lput m k v) (putA k v r false) :=
  ⟨nodup_lput _ _ _ h.nd, (lput_permA k v m h.nd).trans (((h.pm.filter _).cons _).trans (putK_permA k v r).symm), putK_riseA h.ri k v⟩
theorem AInv.del {m r : List (ByteArray × α)} (h : AInv m r) (k : ByteArray) : AInv (ldel m k) (delA r k) :=
  ⟨nodup_ldel _ _ h.nd, by rw [ldel_eqA k m h.nd]; exact h.pm.filter _, delR_riseA h.ri k⟩
theorem AInv.keys {m r : List (ByteArray × α)} (h : AInv m r) : keysE m = r.map fun x => [AV.str x.1] := by
  have e1 : keyL m = r.map fun x => x.1.data.toList := by
    unfold keyL
    rw [Go.mergeSort_of_perm (h.pm.map fun x => x.1.data.toList)]
    refine List.mergeSort_of_pairwise ?_
    refine List.pairwise_map.2 (h.ri.imp fun {x y} hl => ?_)
    simp only [leB, decide_eq_true_eq]
    exact List.le_of_lt hl
  rw [keysE, e1, List.map_map]
  refine List.map_congr_left fun x _ => ?_
  show [AV.str (S x.1.data.toList)] = _
  rw [S_of]
end
end Go.Proofs.YtpihanlillbhkaaGreatDoor
end

section
/- lease in the abstract run. -/
set_option maxRecDepth 100000
set_option linter.unusedSimpArgs false
namespace Go.Proofs.YtpihanlillbhkaaGreatDoor
open Go Go.RowKit Go.Proofs

def lav (x : ByteArray × Int) : AV := .agg [.str x.1, .int .i64 x.2]
abbrev LeL := List (ByteArray × (ByteArray × Int))
theorem lbk_nil {l : LeL} (h : bk lav l = []) : l = [] := by simpa [bk] using h
def hold (l : LeL) (k : ByteArray) : AV := match lget l k with | some (x, t) => .tup [.str x, .int .i64 t, .bool true] | none => .tup [.str ⟨#[]⟩, .int .i64 0, .bool false]
def lgrow (l : LeL) (k v : ByteArray) : Int := match lget l k with | some _ => 0 | none => 24 + k.size + v.size
def tillOf (t n : Int) : Int := (if (if 1099511627776 < n then 1099511627776 else n) > 0 then (if 1099511627776 < n then 1099511627776 else n) else 0) + (if (if 1048576 < t then 1048576 else t) > 1 then (if 1048576 < t then 1048576 else t) else 1)
theorem tillOf_in (t n : Int) : 1 ≤ tillOf t n ∧ tillOf t n ≤ 1099512676352 := by unfold tillOf; constructor <;> (repeat' split) <;> omega
theorem tillOf_wrap (t n : Int) : IntKind.i64.wrap (tillOf t n) = tillOf t n := IntWalk.i64_in _ (by have := tillOf_in t n; omega)
theorem lput_bk (l : LeL) (k v : ByteArray) (t n : Int) : mput (bk lav l) (.str k) (.agg [.str v, .int .i64 (IntKind.i64.wrap (tillOf t n))]) = bk lav (lput l k (v, tillOf t n)) :=
  (congrArg (fun z => mput (bk lav l) (.str k) (.agg [.str v, .int .i64 z])) (tillOf_wrap t n)).trans (bk_put lav k (v, tillOf t n) l)
end Go.Proofs.YtpihanlillbhkaaGreatDoor
end

section
/- Leases: the plain law: what they weigh, what is left when time goes by. -/
set_option maxRecDepth 100000
set_option linter.unusedSimpArgs false
namespace Go.Proofs.YtpihanlillbhkaaGreatDoor
open Go Go.RowKit Go.Proofs

def sizeL (r : LeL) : Nat := (r.map fun x => 24 + x.1.size + x.2.1.size).sum
theorem sizeL_perm {m r : LeL} (h : m.Perm r) : sizeL m = sizeL r := (h.map _).sum_nat
theorem sizeL_take (r : LeL) (k : Nat) : sizeL (r.take k) ≤ sizeL r := by
  have : sizeL r = sizeL (r.take k) + sizeL (r.drop k) := by
    unfold sizeL
    rw [← List.sum_append_nat, ← List.map_append, List.take_append_drop]
  omega
theorem sizeL_filter (p : ByteArray × (ByteArray × Int) → Bool) : ∀ r : LeL, sizeL (r.filter p) ≤ sizeL r
  | [] => Nat.le_refl _
  | x :: r => by
    have := sizeL_filter p r
    rw [List.filter_cons]
    unfold sizeL at this ⊢
    split <;> simp only [List.map_cons, List.sum_cons] <;> omega
theorem sizeL_lput (k v : ByteArray) (t : Int) : ∀ m : LeL, (∀ x u, lget m k = some (x, u) → x = v) → ((sizeL (lput m k (v, t)) : Nat) : Int) = sizeL m + lgrow m k v
  | [], _ => by simp [sizeL, lput, lgrow, lget]
  | (z, y) :: r, h => by
    by_cases hz : k = z
    · subst hz
      obtain ⟨y1, y2⟩ := y
      have := h y1 y2 (by simp [lget])
      subst this
      simp [sizeL, lput, lgrow, lget]
    · have := sizeL_lput k v t r (fun x u hx => h x u (by simpa [lget, hz] using hx))
      simp only [sizeL, lput, hz, decide_false, List.map_cons, List.sum_cons, lgrow, lget] at this ⊢
      omega
theorem sizeL_ldel (k : ByteArray) {w : ByteArray × Int} : ∀ {m : LeL}, lget m k = some w → sizeL (ldel m k) + (24 + k.size + w.1.size) = sizeL m
  | [], h => by cases h
  | (z, y) :: r, h => by
    by_cases hz : k = z
    · subst hz
      simp only [lget, decide_true, Option.some.injEq] at h
      subst h
      simp [sizeL, ldel]; omega
    · simp only [lget, hz, decide_false] at h
      have := sizeL_ldel k h
      simp only [sizeL, ldel, hz, decide_false, List.map_cons, List.sum_cons] at this ⊢
      omega
theorem AInv.filter {α : Type} {m r : List (ByteArray × α)} (h : AInv m r) (p : ByteArray × α → Bool) : AInv (m.filter p) (r.filter p) :=
  ⟨(List.Sublist.map _ (List.filter_sublist)).nodup h.nd, h.pm.filter p, h.ri.filter p⟩
/-- what is left of leases at a tick -/
def liveL (now : Int) (r : LeL) : LeL := r.filter fun x => decide (x.2.2 > now)
def goneB (m : LeL) (now : Int) (i : Nat) (x : ByteArray × (ByteArray × Int)) : Bool := !(decide (x.2.2 ≤ now) && decide (x.1.data.toList ∈ (keyL m).take i))
/-- what is left when the first of the names have been looked at -/
def goneL (m : LeL) (now : Int) (i : Nat) : LeL := m.filter (goneB m now i)
theorem keyL_nodup {α : Type} {m : List (ByteArray × α)} (h : (m.map (·.1)).Nodup) : (keyL m).Nodup := by
  unfold keyL
  refine (List.mergeSort_perm _ _).nodup_iff.2 ?_
  refine List.pairwise_map.2 ((List.pairwise_map.1 h).imp fun {a b} hne e => hne ?_)
  rw [← S_of a.1, ← S_of b.1, e]
theorem S_data (s : List UInt8) : (S s).data.toList = s := by simp [S]
theorem goneL_start (m : LeL) (now : Int) : goneL m now 0 = m := by
  unfold goneL
  refine List.filter_eq_self.2 fun x _ => ?_
  simp [goneB]
theorem goneL_end (m : LeL) (now : Int) : goneL m now (keyL m).length = liveL now m := by
  unfold goneL liveL
  refine List.filter_congr fun x hx => ?_
  have : x.1.data.toList ∈ keyL m := by
    unfold keyL
    rw [List.mem_mergeSort]
    exact List.mem_map.2 ⟨x, hx, rfl⟩
  unfold goneB
  rw [List.take_length]
  simp only [this, decide_true, Bool.and_true]
  by_cases h : x.2.2 ≤ now
  · have h' : ¬ x.2.2 > now := by omega
    simp [h, h']
  · have h' : x.2.2 > now := by omega
    simp [h, h']
theorem key_there {m : LeL} (h : (m.map (·.1)).Nodup) {i : Nat} {s : List UInt8} (hs : (keyL m)[i]? = some s) : ∃ v, lget m (S s) = some v := by
  have h1 : s ∈ keyL m := List.mem_of_getElem? hs
  unfold keyL at h1
  rw [List.mem_mergeSort] at h1
  obtain ⟨x, hx, rfl⟩ := List.mem_map.1 h1
  refine ⟨x.2, ?_⟩
  rw [S_of]
  exact lget_ofA h hx
theorem take_next {s : List UInt8} {l : List (List UInt8)} {i : Nat} (hs : l[i]? = some s) : l.take (i + 1) = l.take i ++ [s] := by rw [List.take_add_one, hs]; rfl
theorem not_before {l : List (List UInt8)} (hn : l.Nodup) {i : Nat} {s : List UInt8} (hs : l[i]? = some s) : s ∉ l.take i := by
  intro hm
  obtain ⟨hi, rfl⟩ := List.getElem?_eq_some_iff.1 hs
  obtain ⟨j, hj, e⟩ := List.getElem_of_mem hm
  rw [List.length_take] at hj
  rw [List.getElem_take] at e
  have := (List.getElem_inj hn).1 e
  omega
theorem goneL_get {m : LeL} (h : (m.map (·.1)).Nodup) (now : Int) {i : Nat} {s : List UInt8} (hs : (keyL m)[i]? = some s) {v : ByteArray × Int} (hv : lget m (S s) = some v) : lget (goneL m now i) (S s) = some v := by
  refine lget_ofA ((List.Sublist.map _ (List.filter_sublist)).nodup h) ?_
  unfold goneL
  refine List.mem_filter.2 ⟨lget_mem hv, ?_⟩
  have := not_before (keyL_nodup h) hs
  unfold goneB
  simp [this, S_data]
theorem goneL_del {m : LeL} (h : (m.map (·.1)).Nodup) (now : Int) {i : Nat} {s : List UInt8} (hs : (keyL m)[i]? = some s) {v : ByteArray × Int} (hv : lget m (S s) = some v) (ht : v.2 ≤ now) : ldel (goneL m now i) (S s) = goneL m now (i + 1) := by
  have e0 := ldel_eqA (S s) (goneL m now i) ((List.Sublist.map _ (List.filter_sublist)).nodup h)
  rw [e0]
  unfold delA goneL
  rw [List.filter_filter]
  refine List.filter_congr fun x hx => ?_
  unfold goneB
  rw [take_next hs]
  by_cases he : x.1 = S s
  · have h1 : lget m (S s) = some x.2 := lget_ofA h (by rw [← he]; exact hx)
    rw [hv] at h1
    cases h1
    simp [he, ht, S_data]
  · have h2 : ¬ x.1.data.toList = s := fun e => he (by rw [← e, S_of])
    simp [he, h2]
theorem goneL_stay {m : LeL} (h : (m.map (·.1)).Nodup) (now : Int) {i : Nat} {s : List UInt8} (hs : (keyL m)[i]? = some s) {v : ByteArray × Int} (hv : lget m (S s) = some v) (ht : ¬ v.2 ≤ now) : goneL m now (i + 1) = goneL m now i := by
  unfold goneL
  refine List.filter_congr fun x hx => ?_
  unfold goneB
  rw [take_next hs]
  by_cases he : x.1.data.toList = s
  · have h1 : lget m (S s) = some x.2 := lget_ofA h (by rw [← he, S_of]; exact hx)
    rw [hv] at h1
    cases h1
    simp [ht]
  · simp [he]
end Go.Proofs.YtpihanlillbhkaaGreatDoor
end

section
/- The document's layer 29, Find and Free. -/
set_option maxRecDepth 100000
set_option linter.unusedSimpArgs false
namespace Go.Proofs.YtpihanlillbhkaaGreatDoor
open Go Go.RowKit Go.Proofs

def leR (x : ByteArray × (ByteArray × Int)) : List AV := [.str x.1, .str x.2.1, .int .i64 x.2.2]
def leV (x : ByteArray × (ByteArray × Int)) : List Value := [.string x.1, .string x.2.1, .int .i64 x.2.2]
/-- the place of a name -/
def findN : LeL → ByteArray → Option Nat
  | [], _ => none
  | x :: r, z => if x.1 = z then some 0 else (findN r z).map (· + 1)
def findI (r : LeL) (z : ByteArray) : Int := match findN r z with | some k => (k : Int) | none => -1
theorem findN_none : ∀ {l : LeL} {z : ByteArray}, (∀ y ∈ l, y.1 ≠ z) → findN l z = none
  | [], _, _ => rfl
  | x :: r, z, h => by
    have h1 := h x (by simp)
    have h2 := findN_none (l := r) (z := z) fun y hy => h y (List.mem_cons_of_mem _ hy)
    simp [findN, h1, h2]
theorem findN_some : ∀ {l : LeL} {z : ByteArray} {i : Nat} {x : ByteArray × (ByteArray × Int)}, l[i]? = some x → x.1 = z → (∀ y ∈ l.take i, y.1 ≠ z) → findN l z = some i
  | [], _, _, _, h, _, _ => by simp at h
  | y :: r, z, 0, x, h, hz, _ => by
    simp only [List.getElem?_cons_zero, Option.some.injEq] at h
    subst h
    simp [findN, hz]
  | y :: r, z, i + 1, x, h, hz, hn => by
    have h1 := hn y (by simp)
    have h2 := findN_some (l := r) (i := i) (x := x) (by simpa using h) hz fun u hu => hn u (by simp [hu])
    simp [findN, h1, h2]
theorem findN_is : ∀ {l : LeL} {z : ByteArray} {i : Nat}, findN l z = some i → ∃ v, l[i]? = some (z, v) ∧ lget l z = some v ∧ ∀ y ∈ l.take i, y.1 ≠ z
  | [], _, _, h => by cases h
  | (a, v) :: r, z, i, h => by
    unfold findN at h
    by_cases hz : a = z
    · subst hz
      simp only [if_true, Option.some.injEq] at h
      subst h
      exact ⟨v, rfl, by simp [lget], by simp⟩
    · rw [if_neg hz] at h
      obtain ⟨j, hj, rfl⟩ := Option.map_eq_some_iff.1 h
      obtain ⟨w, h1, h2, h3⟩ := findN_is hj
      have hz' : ¬ z = a := fun e => hz e.symm
      refine ⟨w, by simpa using h1, by rw [← h2]; simp only [lget, hz', decide_false], fun y hy => ?_⟩
      simp only [List.take_succ_cons, List.mem_cons] at hy
      rcases hy with rfl | hy
      · exact hz
      · exact h3 y hy
theorem findN_not : ∀ {l : LeL} {z : ByteArray}, findN l z = none → lget l z = none
  | [], _, _ => rfl
  | (a, v) :: r, z, h => by
    unfold findN at h
    by_cases hz : a = z
    · subst hz; simp at h
    · rw [if_neg hz] at h
      have := findN_not (Option.map_eq_none_iff.1 h)
      have hz' : ¬ z = a := fun e => hz e.symm
      simp only [lget, hz', decide_false, this]
theorem find29_ok (r : LeL) (z : ByteArray) (G : Glob) (hl : r.length ≤ 1048576) : CallOk Tryz.prog TT 92 [.slc 99 (r.map leR), .str z] G (fun v G' => v = .int .i64 (findI r z) ∧ G' = G) := by
  refine call_sem tt_ok Tryz.func92 rfl (by kernel_rfl) Tryz.ntmps92 Tryz.results92 ?_; conv => whnf
  repeat' (first | ((first | refine Sem.st tt_ok rfl ?_ | refine BS_t (by assumption) ?_ | refine BS_f (by assumption) ?_ | refine nthKi (by assumption) ?_ | refine ⟨_, ⟨(by omega), (by assumption)⟩, ?_⟩ | refine And.intro (by first | decide | omega) ?_); conv => whnf) | refine Sem.seqS ?_ | refine Sem.block ?_)
  refine Sem.loop (ι := {k : Nat // k ≤ r.length ∧ ∀ y ∈ r.take k, y.1 ≠ z}) (fun x => ⟨(.slc 99 (r.map leR) :: .str z :: .top :: .top :: .top :: .int .i64 (x.1 : Nat) :: .top :: .top :: .top :: .top :: .top :: .top :: .top :: .top :: .top :: .top :: .top :: .top :: .top :: .top :: []), [], 0, 0, G⟩) (fun x => r.length - x.1) ⟨0, Nat.zero_le _, by simp⟩ ?_ (fun x => ?_)
  · refine weak_by [] ?_; (conv => whnf); repeat (refine And.intro rfl ?_; conv => whnf)
    exact ⟨fun i x hx => hx, rfl, Nat.zero_le _, rfl, rfl⟩
  obtain ⟨k, hk0, hg⟩ := x
  repeat' (first | ((first | refine Sem.st tt_ok rfl ?_ | refine BS_t (by assumption) ?_ | refine BS_f (by assumption) ?_ | refine nthKi (by assumption) ?_ | refine ⟨_, ⟨(by omega), (by assumption)⟩, ?_⟩ | refine And.intro (by first | decide | omega) ?_); conv => whnf) | refine Sem.seqS ?_ | refine Sem.block ?_)
  refine BS_intro (fun hk => ?_) (fun hk => ?_) <;> conv => whnf
  · have hks : k < r.length := by simp at hk; omega
    clear hk
    obtain ⟨v, hv⟩ : ∃ v, r[k]? = some v := ⟨_, List.getElem?_eq_getElem hks⟩
    have hsm : (r.map leR)[((k : Nat) : Int).toNat]? = some (leR v) := by rw [Int.toNat_natCast, List.getElem?_map, hv]; rfl
    have ht : r.take (k + 1) = r.take k ++ [v] := by rw [List.take_add_one, hv]; rfl
    obtain ⟨a, b⟩ := v
    repeat' (first | ((first | refine Sem.st tt_ok rfl ?_ | refine BS_t (by assumption) ?_ | refine BS_f (by assumption) ?_ | refine nthKi (by assumption) ?_ | refine ⟨_, ⟨(by omega), (by assumption)⟩, ?_⟩ | refine And.intro (by first | decide | omega) ?_); conv => whnf) | refine Sem.seqS ?_ | refine Sem.block ?_)
    refine BS_intro (fun he => ?_) (fun he => ?_) <;> conv => whnf
    · have hz : a = z := by simpa [bl_eq] using he
      repeat' (first | ((first | refine Sem.st tt_ok rfl ?_ | refine BS_t (by assumption) ?_ | refine BS_f (by assumption) ?_ | refine nthKi (by assumption) ?_ | refine ⟨_, ⟨(by omega), (by assumption)⟩, ?_⟩ | refine And.intro (by first | decide | omega) ?_); conv => whnf) | refine Sem.seqS ?_ | refine Sem.block ?_)
      refine ⟨_, fun _ _ h => h, ?_, rfl⟩
      unfold findI
      rw [findN_some hv hz hg]
    · have hne : a ≠ z := by rintro rfl; simp at he
      repeat' (first | ((first | refine Sem.st tt_ok rfl ?_ | refine BS_t (by assumption) ?_ | refine BS_f (by assumption) ?_ | refine nthKi (by assumption) ?_ | refine ⟨_, ⟨(by omega), (by assumption)⟩, ?_⟩ | refine And.intro (by first | decide | omega) ?_); conv => whnf) | refine Sem.seqS ?_ | refine Sem.block ?_)
      refine ⟨⟨k + 1, by omega, fun y hy => ?_⟩, by show r.length - (k + 1) < r.length - k; omega, ?_⟩
      · rw [ht] at hy
        rcases List.mem_append.1 hy with h | h
        · exact hg y h
        · simp at h; subst h; exact hne
      refine weak_by [] ?_; (conv => whnf); repeat (refine And.intro rfl ?_; conv => whnf)
      have hw : IntKind.i64.wrap ((k : Int) + 1) = ((k + 1 : Nat) : Int) := by rw [IntWalk.i64_in _ (by omega)]; omega
      refine And.intro hw ?_
      (conv => whnf); repeat (refine And.intro rfl ?_; conv => whnf)
      exact ⟨fun i y hy => hy, rfl, Nat.zero_le _, rfl, rfl⟩
  · have hk' : k = r.length := by simp at hk; omega
    subst hk'
    repeat' (first | ((first | refine Sem.st tt_ok rfl ?_ | refine BS_t (by assumption) ?_ | refine BS_f (by assumption) ?_ | refine nthKi (by assumption) ?_ | refine ⟨_, ⟨(by omega), (by assumption)⟩, ?_⟩ | refine And.intro (by first | decide | omega) ?_); conv => whnf) | refine Sem.seqS ?_ | refine Sem.block ?_)
    refine ⟨_, fun _ _ h => h, ?_, rfl⟩
    unfold findI
    rw [findN_none (fun y hy => hg y (by rw [List.take_length]; exact hy))]
theorem row29le : Row1 Tryz.prog 30 99 (.agg #[.string ⟨#[]⟩, .string ⟨#[]⟩, .int .i64 0]) 3 40 := ⟨by kernel_rfl, by kernel_rfl, rfl, by decide⟩
theorem lerow_dz {w : World} {v : Value} {l : LeL} (hr : Row w v l 3 leV) : Dz TT gh0 w (.slc 99 (l.map leR)) v := by
  refine row_dz hr leR rfl fun x hx => ⟨rfl, rfl, fun j c u hc hu => ?_⟩
  match j with
  | 0 => simp [leR] at hc; simp [leV] at hu; subst hc hu; exact ⟨rfl, .str _⟩
  | 1 => simp [leR] at hc; simp [leV] at hu; subst hc hu; exact ⟨rfl, .str _⟩
  | 2 => simp [leR] at hc; simp [leV] at hu; subst hc hu; exact ⟨rfl, .int _ _⟩
  | j + 3 => simp [leR] at hc
theorem find29_any (v : Value) (l : LeL) (z : ByteArray) (w : World) (hr : Row w v l 3 leV) (hl : l.length ≤ 1048576) : Calls Tryz.prog 92 #[v, .string z] w (Gives w (.int .i64 (findI l z))) := by
  refine ((find29_ok l z (fun _ => none) hl).calls gh0 #[v, .string z] w (fun b bx hb => by cases hb) rfl fun i a u ha hu => ?_).mono fun e w' he => ?_
  · match i with
    | 0 => simp at ha hu; subst ha hu; exact lerow_dz hr
    | 1 => simp at ha hu; subst ha hu; exact .str _
    | i + 2 => simp at ha
  · obtain ⟨u, g', G', v', rfl, ⟨rfl, _⟩, _, hx, hz⟩ := he
    cases hz
    exact ⟨rfl, hx.up fun _ => trivial⟩
set_option maxHeartbeats 4000000 in
theorem free29_yes (v : Value) (l : LeL) (z h : ByteArray) (w : World) (hr : Row w v l 3 leV) (hl : l.length ≤ 1048576) (k : Nat) (t : Int) (hx : l[k]? = some (z, h, t)) (hf : findI l z = (k : Int)) :
    Calls Tryz.prog 67 #[v, .string z, .string h] w (fun e w' => ∃ u, e = .returned (.tuple #[u, .bool true]) ∧ w'.ownsRow w.heap.size 99 3 u ((l.take k).length + (l.drop (k + 1)).length) ((l.take k).flatMap leV ++ (l.drop (k + 1)).flatMap leV) ∧ Up w w') := by
  have hF := find29_any v l z w hr hl
  rw [hf] at hF
  have hlt : k < l.length := (List.getElem?_eq_some_iff.1 hx).1
  obtain ⟨p, cap, rfl, hlc, hm, hrow⟩ := id hr
  unfold maxLen at hm
  obtain ⟨b, o, rfl, hb, hc⟩ := hrow (by omega)
  have HR := Lib.hid hr
  clear hr hf hrow
  have c2' := hc k _ hx 1 _ rfl
  clear hc
  have d0 : ((k : Int) < 0) = False := by simp
  have d1 : (h.toList == h.toList) = true := beq_self_eq_true _
  go_enter Tryz.func67, Tryz.ntmps67
  clear hx
  go_wp2_with (go_at_call 92; refine hF.mono ?_; rintro e wr ⟨rfl, hup⟩; have c2 : wr.cell? ⟨b, o + (k * 3 + 1), none⟩ = some (.string h) := by { rw [hup.cell hb]; exact c2' }; have hw1 : b < wr.heap.size := Nat.lt_of_lt_of_le hb hup.size; have c1 := c2; have c3 : wr.cell? ⟨b, o + k * 3 + 1, none⟩ = some (.string h) := by { rw [Nat.add_assoc]; exact c2 }; have hk : k ≤ l.length := Nat.le_of_lt hlt)
  have hmade := Lib.hid (World.ownsRow_made (base := wr.heap.size) (e := 99) (size := 3) wr.drew #[] 0 (Nat.le_refl _) (by decide) (by decide))
  have hA := Lib.hid ((row_take HR.out k hk).up hup)
  obtain ⟨q, hB, hq8⟩ : ∃ q, Row wr (.slice q (l.length - (k + 1)) (cap - (k + 1))) (l.drop (k + 1)) 3 leV ∧ ((cap = k + 1 ∧ q = some ⟨b, o, none⟩) ∨ (¬ cap = k + 1 ∧ q = some ⟨b, o + (k + 1) * 3, none⟩)) := by
    by_cases hcap : cap = k + 1
    · refine ⟨_, ⟨_, _, by rw [List.length_drop], by rw [List.length_drop]; omega, by unfold maxLen; omega, fun h => ?_⟩, .inl ⟨hcap, rfl⟩⟩
      rw [List.length_drop] at h
      omega
    · exact ⟨_, (row_drop HR.out (k + 1) hlt).up hup, .inr ⟨hcap, rfl⟩⟩
  have i1 : IntKind.i64.wrap ((k : Int) + 1) = (k : Int) + 1 := by rw [IntWalk.i64_in _ (by omega)]
  have t1 : (l.take k).length = k := by rw [List.length_take]; omega
  have t2 : (l.drop (k + 1)).length = l.length - (k + 1) := by rw [List.length_drop]
  have i2 : (0 : Int) ≤ (k : Int) := by omega
  have i3 : (k : Int) ≤ (cap : Int) := by omega
  have i4 : (k : Int) ≤ (l.length : Int) := by omega
  have i5 : (0 : Int) ≤ (k : Int) + 1 := by omega
  have i6 : (k : Int) + 1 ≤ (l.length : Int) := by omega
  have i7 : (k : Int) + 1 ≤ (cap : Int) := by omega
  have i8 : (l.length : Int) ≤ (cap : Int) := by omega
  clear c1
  refine wp_region_held_drew (S := fun w' => Up wr w') (by kernel_rfl) ((Up.refl _).drew) fun hS0 => ?_
  refine wpAnyH_take (i := 1) (v := .slice (some ⟨b, o, none⟩) l.length cap) rfl (by kernel_rfl) (by kernel_rfl) (by kernel_rfl) (fun _ _ _ h => h) (.inl ⟨rfl, fun w' hw' => ?_⟩) (by assumption) ?_
  · go_simp
  simp only [Act.put, List.setIfInBounds_toArray, List.set_cons_zero, List.set_cons_succ]
  refine wpAnyH_take (i := 2) (v := .int .i64 k) rfl (by kernel_rfl) (by kernel_rfl) (by kernel_rfl) (fun _ _ _ h => h) (.inl ⟨rfl, fun w' hw' => ?_⟩) (by assumption) ?_
  · go_simp
  simp only [Act.put, List.setIfInBounds_toArray, List.set_cons_zero, List.set_cons_succ]
  refine wpAnyH_take (i := 3) (v := .slice (some ⟨b, o, none⟩) k cap) rfl (by kernel_rfl) (by kernel_rfl) (by kernel_rfl) (fun _ _ _ h => h) (.inl ⟨rfl, fun w' hw' => ?_⟩) (by assumption) ?_
  · go_simp
  simp only [Act.put, List.setIfInBounds_toArray, List.set_cons_zero, List.set_cons_succ]
  refine wpAnyH_take (i := 5) (v := .slice (some ⟨b, o, none⟩) l.length cap) rfl (by kernel_rfl) (by kernel_rfl) (by kernel_rfl) (fun _ _ _ h => h) (.inl ⟨rfl, fun w' hw' => ?_⟩) (by assumption) ?_
  · go_simp
  simp only [Act.put, List.setIfInBounds_toArray, List.set_cons_zero, List.set_cons_succ]
  refine wpAnyH_take (i := 6) (v := .int .i64 k) rfl (by kernel_rfl) (by kernel_rfl) (by kernel_rfl) (fun _ _ _ h => h) (.inl ⟨rfl, fun w' hw' => ?_⟩) (by assumption) ?_
  · go_simp
  simp only [Act.put, List.setIfInBounds_toArray, List.set_cons_zero, List.set_cons_succ]
  refine wpAnyH_take (i := 7) (v := .int .i64 ((k : Int) + 1)) rfl (by kernel_rfl) (by kernel_rfl) (by kernel_rfl) (fun _ _ _ h => h) (.inl ⟨rfl, fun w' hw' => ?_⟩) (by assumption) ?_
  · go_simp
  simp only [Act.put, List.setIfInBounds_toArray, List.set_cons_zero, List.set_cons_succ]
  refine wpAnyH_take (i := 8) (v := .slice q (l.length - (k + 1)) (cap - (k + 1))) rfl (by kernel_rfl) (by kernel_rfl) (by kernel_rfl) (fun _ _ _ h => h) (.inl ⟨rfl, fun w' hw' => ?_⟩) (by assumption) ?_
  · (rcases hq8 with ⟨hc8, rfl⟩ | ⟨hc8, rfl⟩ <;> go_simp)
  simp only [Act.put, List.setIfInBounds_toArray, List.set_cons_zero, List.set_cons_succ]
  refine wpAnyH_ready (rs := [0]) (by kernel_rfl) (by simp) (.cons rfl (fun K' hK => ?_) .nil)
  refine step_go rfl ?_
  go_simp
  refine hK.out _ _ (by repeat (first | with_reducible exact Up.refl _ | with_reducible exact hS0 | assumption | with_reducible refine Up.drew ?_ | with_reducible refine Up.alloc ?_ _)) fun hS1 => ?_
  refine wpAnyH_ready (rs := [4]) (by kernel_rfl) (by simp) (.cons rfl (fun K' hK => ?_) .nil)
  refine step_apps rfl (.tmp 24) (.tmp 27) 30 99 rfl row29le (base := wr.heap.size) (by simp) (v := .slice (some ⟨wr.heap.size, 0, none⟩) 0 0) (n := 0) (xs := []) (by rfl) hmade.out (l := l.take k) (cells := leV) (vx := .slice (some ⟨b, o, none⟩) k cap) (by rfl) (hA.out.up hS1) (fun x hx => rfl) (fun x hx u hu => by simp [leV] at hu; rcases hu with rfl | rfl | rfl <;> rfl) (by unfold maxLen; omega) (by omega) fun v1 wA hoA => ?_
  have hU1 : Up wr wA := hoA.up wr (Nat.le_refl _) hS1
  refine hK.out _ _ hU1 fun hS2 => ?_
  simp only [Act.put, List.setIfInBounds_toArray, List.set_cons_zero, List.set_cons_succ]
  refine wpAnyH_ready (rs := [9]) (by kernel_rfl) (by simp) (.cons rfl (fun K' hK => ?_) .nil)
  refine step_apps rfl (.tmp 28) (.tmp 32) 30 99 rfl row29le (base := wr.heap.size) hU1.size (v := v1) (n := _) (xs := _) (by rfl) hoA.own (l := l.drop (k + 1)) (cells := leV) (vx := .slice q (l.length - (k + 1)) (cap - (k + 1))) (by rfl) (hB.up hU1) (fun x hx => rfl) (fun x hx u hu => by simp [leV] at hu; rcases hu with rfl | rfl | rfl <;> rfl) (by unfold maxLen; omega) (by omega) fun v2 wB hoB => ?_
  have hU2 : Up wr wB := hoB.up wr (Nat.le_refl _) hU1
  refine hK.out _ _ hU2 fun hS3 => ?_
  simp only [Act.put, List.setIfInBounds_toArray, List.set_cons_zero, List.set_cons_succ]
  refine wpAnyH_take (i := 10) (oi := { dst := some 6, op := _, type := _, pos := _, after := _, guard := _ }) (v := v2) rfl (by kernel_rfl) (by kernel_rfl) (by kernel_rfl) (fun _ _ _ h => h) (.inl ⟨rfl, fun w' hw' => ?_⟩) (by assumption) ?_
  · go_simp
  simp only [Act.put, List.setIfInBounds_toArray, List.set_cons_zero, List.set_cons_succ]
  refine wpAnyH_take (i := 11) (oi := { dst := some 7, op := _, type := _, pos := _, after := _, guard := _ }) (v := .bool true) rfl (by kernel_rfl) (by kernel_rfl) (by kernel_rfl) (fun _ _ _ h => h) (.inl ⟨rfl, fun w' hw' => ?_⟩) (by assumption) ?_
  · go_simp
  simp only [Act.put, List.setIfInBounds_toArray, List.set_cons_zero, List.set_cons_succ]
  refine wpAnyH_done (by kernel_rfl) ?_ _
  go_wp2_with fail
  refine bodyPost_ret (v := .tuple #[v2, .bool true]) (by simp [results, Tryz.results67, go_sem]) rfl ?_
  refine ⟨v2, rfl, ?_, hup.trans hU2⟩
  have h1 := hoB.own
  rw [Nat.zero_add, List.nil_append] at h1
  have h2 := own_lower hup.size h1
  rw [t1, t2] at h2
  exact h2
end Go.Proofs.YtpihanlillbhkaaGreatDoor
end

section
/- The document's layer 29 in the abstract run: Expire, Put, Size, Names. -/
set_option maxRecDepth 100000
set_option linter.unusedSimpArgs false
namespace Go.Proofs.YtpihanlillbhkaaGreatDoor
open Go Go.RowKit Go.Proofs

theorem size29_ok (r : LeL) (G : Glob) (hl : r.length ≤ 1048576) (hz : sizeL r ≤ 4611686018427387904) : CallOk Tryz.prog TT 26 [.slc 99 (r.map leR)] G (fun v G' => v = .int .i64 (sizeL r : Nat) ∧ G' = G) := by
  refine call_sem tt_ok Tryz.func26 rfl (by kernel_rfl) Tryz.ntmps26 Tryz.results26 ?_; conv => whnf
  repeat' (first | ((first | refine Sem.st tt_ok rfl ?_ | refine BS_t (by assumption) ?_ | refine BS_f (by assumption) ?_ | refine nthKi (by assumption) ?_ | refine ⟨_, ⟨(by omega), (by assumption)⟩, ?_⟩ | refine And.intro (by first | decide | omega) ?_); conv => whnf) | refine Sem.seqS ?_ | refine Sem.block ?_)
  refine Sem.loop (ι := {k : Nat // k ≤ r.length}) (fun x => ⟨(.slc 99 (r.map leR) :: .top :: .top :: .int .i64 (sizeL (r.take x.1) : Nat) :: .int .i64 (x.1 : Nat) :: .top :: .top :: .top :: .top :: .top :: .top :: .top :: .top :: .top :: .top :: .top :: .top :: .top :: .top :: .top :: .top :: .top :: .top :: .top :: .top :: .top :: .top :: .top :: []), [], 0, 0, G⟩) (fun x => r.length - x.1) ⟨0, Nat.zero_le _⟩ ?_ (fun x => ?_)
  · refine weak_by [] ?_; (conv => whnf); repeat (refine And.intro rfl ?_; conv => whnf)
    exact ⟨fun i x hx => hx, rfl, Nat.zero_le _, rfl, rfl⟩
  obtain ⟨k, hk0⟩ := x
  repeat' (first | ((first | refine Sem.st tt_ok rfl ?_ | refine BS_t (by assumption) ?_ | refine BS_f (by assumption) ?_ | refine nthKi (by assumption) ?_ | refine ⟨_, ⟨(by omega), (by assumption)⟩, ?_⟩ | refine And.intro (by first | decide | omega) ?_); conv => whnf) | refine Sem.seqS ?_ | refine Sem.block ?_)
  refine BS_intro (fun hk => ?_) (fun hk => ?_) <;> conv => whnf
  · have hks : k < r.length := by simp at hk; omega
    clear hk
    obtain ⟨v, hv⟩ : ∃ v, r[k]? = some v := ⟨_, List.getElem?_eq_getElem hks⟩
    have hsm : (r.map leR)[((k : Nat) : Int).toNat]? = some (leR v) := by rw [Int.toNat_natCast, List.getElem?_map, hv]; rfl
    have ht : r.take (k + 1) = r.take k ++ [v] := by rw [List.take_add_one, hv]; rfl
    have hs1 : sizeL (r.take (k + 1)) = sizeL (r.take k) + (24 + v.1.size + v.2.1.size) := by rw [ht]; simp [sizeL]
    have hs2 := sizeL_take r (k + 1)
    obtain ⟨a, b, c⟩ := v
    simp only at hs1
    repeat' (first | ((first | refine Sem.st tt_ok rfl ?_ | refine BS_t (by assumption) ?_ | refine BS_f (by assumption) ?_ | refine nthKi (by assumption) ?_ | refine ⟨_, ⟨(by omega), (by assumption)⟩, ?_⟩ | refine And.intro (by first | decide | omega) ?_); conv => whnf) | refine Sem.seqS ?_ | refine Sem.block ?_)
    refine draw_sound (eff := []) tt_ok (by kernel_rfl) (by kernel_rfl) ?_; conv => whnf
    repeat' (first | ((first | refine BS_t (by assumption) ?_ | refine BS_f (by assumption) ?_ | refine nthKi (by assumption) ?_ | refine ⟨_, ⟨(by omega), (by assumption)⟩, ?_⟩ | refine And.intro (by first | decide | omega) ?_); conv => whnf) | fail)
    repeat' (first | ((first | refine Sem.st tt_ok rfl ?_ | refine BS_t (by assumption) ?_ | refine BS_f (by assumption) ?_ | refine nthKi (by assumption) ?_ | refine ⟨_, ⟨(by omega), (by assumption)⟩, ?_⟩ | refine And.intro (by first | decide | omega) ?_); conv => whnf) | refine Sem.seqS ?_ | refine Sem.block ?_)
    refine ⟨⟨k + 1, by omega⟩, by show r.length - (k + 1) < r.length - k; omega, ?_⟩
    refine weak_by [] ?_; (conv => whnf); repeat (refine And.intro rfl ?_; conv => whnf)
    have hw : IntKind.i64.wrap ((k : Int) + 1) = ((k + 1 : Nat) : Int) := by rw [IntWalk.i64_in _ (by omega)]; omega
    refine And.intro (by
      show IntKind.i64.wrap ((sizeL (r.take k) : Nat) + IntKind.i64.wrap (IntKind.i64.wrap (24 + (a.size : Int)) + b.size)) = ((sizeL (r.take (k + 1)) : Nat) : Int)
      rw [IntWalk.i64_in (24 + (a.size : Int)) (by omega), IntWalk.i64_in (24 + (a.size : Int) + b.size) (by omega), IntWalk.i64_in _ (by omega)]
      omega) ?_
    (conv => whnf); repeat (refine And.intro rfl ?_; conv => whnf)
    refine And.intro hw ?_
    (conv => whnf); repeat (refine And.intro rfl ?_; conv => whnf)
    exact ⟨fun i y hy => hy, rfl, Nat.zero_le _, rfl, rfl⟩
  · have hk' : k = r.length := by simp at hk; omega
    subst hk'
    rw [List.take_length]
    repeat' (first | ((first | refine Sem.st tt_ok rfl ?_ | refine BS_t (by assumption) ?_ | refine BS_f (by assumption) ?_ | refine nthKi (by assumption) ?_ | refine ⟨_, ⟨(by omega), (by assumption)⟩, ?_⟩ | refine And.intro (by first | decide | omega) ?_); conv => whnf) | refine Sem.seqS ?_ | refine Sem.block ?_)
    exact ⟨_, fun _ _ h => h, rfl, rfl⟩
theorem expire29_ok (r : LeL) (now : Int) (G : Glob) (hl : r.length ≤ 1048576) : CallOk Tryz.prog TT 17 [.slc 99 (r.map leR), .int .i64 now] G (fun v G' => v = .slc 99 ((liveL now r).map leR) ∧ G' = G) := by
  refine call_sem tt_ok Tryz.func17 rfl (by kernel_rfl) Tryz.ntmps17 Tryz.results17 ?_; conv => whnf
  repeat' (first | ((first | refine Sem.st tt_ok rfl ?_ | refine BS_t (by assumption) ?_ | refine BS_f (by assumption) ?_ | refine nthKi (by assumption) ?_ | refine ⟨_, ⟨(by omega), (by assumption)⟩, ?_⟩ | refine And.intro (by first | decide | omega) ?_); conv => whnf) | refine Sem.seqS ?_ | refine Sem.block ?_)
  refine Sem.loop (ι := {k : Nat // k ≤ r.length}) (fun x => ⟨(.slc 99 (r.map leR) :: .int .i64 now :: .top :: .top :: .top :: .own 0 99 ((liveL now (r.take x.1)).map leR) :: .int .i64 (x.1 : Nat) :: .top :: .top :: .top :: .top :: .top :: .top :: .top :: .top :: .top :: .top :: .top :: .top :: .top :: .top :: .top :: .top :: .top :: .top :: .top :: .top :: .top :: []), [], 0, 1, G⟩) (fun x => r.length - x.1) ⟨0, Nat.zero_le _⟩ ?_ (fun x => ?_)
  · refine weak_by [none] ?_; (conv => whnf); repeat (refine And.intro rfl ?_; conv => whnf)
    exact ⟨fun i x hx => hx, rfl, Nat.zero_le _, rfl, rfl⟩
  obtain ⟨k, hk0⟩ := x
  repeat' (first | ((first | refine Sem.st tt_ok rfl ?_ | refine BS_t (by assumption) ?_ | refine BS_f (by assumption) ?_ | refine nthKi (by assumption) ?_ | refine ⟨_, ⟨(by omega), (by assumption)⟩, ?_⟩ | refine And.intro (by first | decide | omega) ?_); conv => whnf) | refine Sem.seqS ?_ | refine Sem.block ?_)
  refine BS_intro (fun hk => ?_) (fun hk => ?_) <;> conv => whnf
  · have hks : k < r.length := by simp at hk; omega
    clear hk
    obtain ⟨v, hv⟩ : ∃ v, r[k]? = some v := ⟨_, List.getElem?_eq_getElem hks⟩
    have hsm : (r.map leR)[((k : Nat) : Int).toNat]? = some (leR v) := by rw [Int.toNat_natCast, List.getElem?_map, hv]; rfl
    have ht : r.take (k + 1) = r.take k ++ [v] := by rw [List.take_add_one, hv]; rfl
    have hlen : (liveL now (r.take k)).length ≤ k := by
      have := List.length_filter_le (fun x => decide (x.2.2 > now)) (r.take k)
      rw [List.length_take] at this
      unfold liveL
      omega
    have hw : IntKind.i64.wrap ((k : Int) + 1) = ((k + 1 : Nat) : Int) := by rw [IntWalk.i64_in _ (by omega)]; omega
    obtain ⟨a, b, c⟩ := v
    repeat' (first | ((first | refine Sem.st tt_ok rfl ?_ | refine BS_t (by assumption) ?_ | refine BS_f (by assumption) ?_ | refine nthKi (by assumption) ?_ | refine ⟨_, ⟨(by omega), (by assumption)⟩, ?_⟩ | refine And.intro (by first | decide | omega) ?_); conv => whnf) | refine Sem.seqS ?_ | refine Sem.block ?_)
    refine BS_intro (fun he => ?_) (fun he => ?_) <;> conv => whnf
    · have hne : c > now := by simpa using he
      repeat' (first | ((first | refine Sem.st tt_ok rfl ?_ | refine BS_t (by assumption) ?_ | refine BS_f (by assumption) ?_ | refine nthKi (by assumption) ?_ | refine ⟨_, ⟨(by omega), (by assumption)⟩, ?_⟩ | refine And.intro (by first | decide | omega) ?_); conv => whnf) | refine Sem.seqS ?_ | refine Sem.block ?_)
      refine And.intro (app_le (by simp only [List.length_map, List.length_cons, List.length_nil]; omega) (by decide)) ?_; conv => whnf
      repeat' (first | ((first | refine Sem.st tt_ok rfl ?_ | refine BS_t (by assumption) ?_ | refine BS_f (by assumption) ?_ | refine nthKi (by assumption) ?_ | refine ⟨_, ⟨(by omega), (by assumption)⟩, ?_⟩ | refine And.intro (by first | decide | omega) ?_); conv => whnf) | refine Sem.seqS ?_ | refine Sem.block ?_)
      refine ⟨⟨k + 1, by omega⟩, by show r.length - (k + 1) < r.length - k; omega, ?_⟩
      refine weak_by [some 0] ?_; (conv => whnf); repeat (refine And.intro rfl ?_; conv => whnf)
      refine And.intro (by
        show _ = (liveL now (r.take (k + 1))).map leR
        rw [ht]
        unfold liveL
        simp [hne]; rfl) ?_
      (conv => whnf); repeat (refine And.intro rfl ?_; conv => whnf)
      refine And.intro hw ?_
      (conv => whnf); repeat (refine And.intro rfl ?_; conv => whnf)
      exact ⟨fun i y hy => hy, rfl, Nat.zero_le _, rfl, rfl⟩
    · have hne : ¬ c > now := by simpa using he
      repeat' (first | ((first | refine Sem.st tt_ok rfl ?_ | refine BS_t (by assumption) ?_ | refine BS_f (by assumption) ?_ | refine nthKi (by assumption) ?_ | refine ⟨_, ⟨(by omega), (by assumption)⟩, ?_⟩ | refine And.intro (by first | decide | omega) ?_); conv => whnf) | refine Sem.seqS ?_ | refine Sem.block ?_)
      refine ⟨⟨k + 1, by omega⟩, by show r.length - (k + 1) < r.length - k; omega, ?_⟩
      refine weak_by [some 0] ?_; (conv => whnf); repeat (refine And.intro rfl ?_; conv => whnf)
      refine And.intro (by
        show (liveL now (r.take k)).map leR = (liveL now (r.take (k + 1))).map leR
        rw [ht]
        unfold liveL
        simp [hne]) ?_
      (conv => whnf); repeat (refine And.intro rfl ?_; conv => whnf)
      refine And.intro hw ?_
      (conv => whnf); repeat (refine And.intro rfl ?_; conv => whnf)
      exact ⟨fun i y hy => hy, rfl, Nat.zero_le _, rfl, rfl⟩
  · have hk' : k = r.length := by simp at hk; omega
    subst hk'
    rw [List.take_length]
    repeat' (first | ((first | refine Sem.st tt_ok rfl ?_ | refine BS_t (by assumption) ?_ | refine BS_f (by assumption) ?_ | refine nthKi (by assumption) ?_ | refine ⟨_, ⟨(by omega), (by assumption)⟩, ?_⟩ | refine And.intro (by first | decide | omega) ?_); conv => whnf) | refine Sem.seqS ?_ | refine Sem.block ?_)
    exact ⟨_, fun _ _ h => h, rfl, rfl⟩
structure PIL (k : ByteArray) (v : ByteArray × Int) (r : LeL) where
  i : Nat
  hi : i ≤ r.length
  out : LeL
  done : Bool
  h : putA k v r false = out ++ putA k v (r.drop i) done
  hl : out.length ≤ 2 * i
set_option maxHeartbeats 1000000 in
theorem put29_ok (r : LeL) (k : ByteArray) (v : ByteArray × Int) (G : Glob) (hl : r.length ≤ 1048576) : CallOk Tryz.prog TT 93 [.slc 99 (r.map leR), .agg [.str k, .str v.1, .int .i64 v.2]] G (fun x G' => x = .slc 99 ((putA k v r false).map leR) ∧ G' = G) := by
  obtain ⟨v1, v2⟩ := v
  simp only
  refine call_sem tt_ok Tryz.func93 rfl (by kernel_rfl) Tryz.ntmps93 Tryz.results93 ?_; conv => whnf
  repeat' (first | ((first | refine Sem.st tt_ok rfl ?_ | refine BS_t (by assumption) ?_ | refine BS_f (by assumption) ?_ | refine nthKi (by assumption) ?_ | refine ⟨_, ⟨(by omega), (by assumption)⟩, ?_⟩ | refine And.intro (by first | decide | omega) ?_); conv => whnf) | refine Sem.seqS ?_ | refine Sem.block ?_)
  refine Sem.loop (ι := PIL k (v1, v2) r) (fun x => ⟨(.slc 99 (r.map leR) :: .top :: .top :: .lptr 0 0 :: .top :: .own 0 99 (x.out.map leR) :: .bool x.done :: .int .i64 (x.i : Nat) :: .top :: .top :: .top :: .top :: .top :: .top :: .top :: .top :: .top :: .top :: .top :: .top :: .top :: .top :: .top :: .top :: .top :: .top :: .top :: .top :: .top :: .top :: .top :: .top :: .top :: .top :: .top :: .top :: .top :: .top :: .top :: .top :: .top :: .top :: .top :: .top :: .top :: .top :: .top :: .top :: .top :: .top :: .top :: .top :: []), [.live none [.str k, .str v1, .int .i64 v2]], 1, 1, G⟩) (fun x => r.length - x.i) ⟨0, Nat.zero_le _, [], false, rfl, Nat.zero_le _⟩ ?_ (fun x => ?_)
  · refine weak_by [none] ?_; (conv => whnf); repeat (refine And.intro rfl ?_; conv => whnf)
    exact ⟨fun i x hx => hx, rfl, Nat.le_refl _, rfl, rfl⟩
  obtain ⟨i, hi, out, done, h, hol⟩ := x
  repeat' (first | ((first | refine Sem.st tt_ok rfl ?_ | refine BS_t (by assumption) ?_ | refine BS_f (by assumption) ?_ | refine nthKi (by assumption) ?_ | refine ⟨_, ⟨(by omega), (by assumption)⟩, ?_⟩ | refine And.intro (by first | decide | omega) ?_); conv => whnf) | refine Sem.seqS ?_ | refine Sem.block ?_)
  refine BS_intro (fun hk => ?_) (fun hk => ?_) <;> conv => whnf
  · have hks : i < r.length := by simp at hk; omega
    clear hk
    obtain ⟨x, hx⟩ : ∃ v, r[i]? = some v := ⟨_, List.getElem?_eq_getElem hks⟩
    have hsm : (r.map leR)[((i : Nat) : Int).toNat]? = some (leR x) := by rw [Int.toNat_natCast, List.getElem?_map, hx]; rfl
    have hd : r.drop i = x :: r.drop (i + 1) := by
      obtain ⟨h1, rfl⟩ := List.getElem?_eq_some_iff.1 hx
      exact List.drop_eq_getElem_cons h1
    have hw : IntKind.i64.wrap ((i : Int) + 1) = ((i + 1 : Nat) : Int) := by rw [IntWalk.i64_in _ (by omega)]; omega
    rw [hd] at h
    obtain ⟨a, b, c⟩ := x
    cases done with
    | true =>
      repeat' (first | ((first | refine Sem.st tt_ok rfl ?_ | refine BS_t (by assumption) ?_ | refine BS_f (by assumption) ?_ | refine nthKi (by assumption) ?_ | refine ⟨_, ⟨(by omega), (by assumption)⟩, ?_⟩ | refine And.intro (by first | decide | omega) ?_); conv => whnf) | refine Sem.seqS ?_ | refine Sem.block ?_)
      refine draw_sound (eff := []) tt_ok (by kernel_rfl) (by kernel_rfl) ?_; conv => whnf
      repeat' (first | ((first | refine BS_t (by assumption) ?_ | refine BS_f (by assumption) ?_ | refine nthKi (by assumption) ?_ | refine ⟨_, ⟨(by omega), (by assumption)⟩, ?_⟩ | refine And.intro (by first | decide | omega) ?_); conv => whnf) | fail)
      repeat' (first | ((first | refine Sem.st tt_ok rfl ?_ | refine BS_t (by assumption) ?_ | refine BS_f (by assumption) ?_ | refine nthKi (by assumption) ?_ | refine ⟨_, ⟨(by omega), (by assumption)⟩, ?_⟩ | refine And.intro (by first | decide | omega) ?_); conv => whnf) | refine Sem.seqS ?_ | refine Sem.block ?_)
      refine draw_sound (eff := []) tt_ok (by kernel_rfl) (by kernel_rfl) ?_; conv => whnf
      repeat' (first | ((first | refine BS_t (by assumption) ?_ | refine BS_f (by assumption) ?_ | refine nthKi (by assumption) ?_ | refine ⟨_, ⟨(by omega), (by assumption)⟩, ?_⟩ | refine And.intro (by first | decide | omega) ?_); conv => whnf) | fail)
      repeat' (first | ((first | refine Sem.st tt_ok rfl ?_ | refine BS_t (by assumption) ?_ | refine BS_f (by assumption) ?_ | refine nthKi (by assumption) ?_ | refine ⟨_, ⟨(by omega), (by assumption)⟩, ?_⟩ | refine And.intro (by first | decide | omega) ?_); conv => whnf) | refine Sem.seqS ?_ | refine Sem.block ?_)
      refine BS_intro (fun he => ?_) (fun he => ?_) <;> conv => whnf
      · have hne : a ≠ k := by simpa [bl_eq] using he
        repeat' (first | ((first | refine Sem.st tt_ok rfl ?_ | refine BS_t (by assumption) ?_ | refine BS_f (by assumption) ?_ | refine nthKi (by assumption) ?_ | refine ⟨_, ⟨(by omega), (by assumption)⟩, ?_⟩ | refine And.intro (by first | decide | omega) ?_); conv => whnf) | refine Sem.seqS ?_ | refine Sem.block ?_)
        refine And.intro (app_le (by simp only [List.length_map, List.length_append, List.length_cons, List.length_nil]; omega) (by decide)) ?_; conv => whnf
        repeat' (first | ((first | refine Sem.st tt_ok rfl ?_ | refine BS_t (by assumption) ?_ | refine BS_f (by assumption) ?_ | refine nthKi (by assumption) ?_ | refine ⟨_, ⟨(by omega), (by assumption)⟩, ?_⟩ | refine And.intro (by first | decide | omega) ?_); conv => whnf) | refine Sem.seqS ?_ | refine Sem.block ?_)
        refine ⟨⟨i + 1, by omega, out ++ [(a, b, c)], true, by rw [h]; simp [putA, leA, hne], by first | omega | (simp only [List.length_append, List.length_cons, List.length_nil]; omega)⟩, by show r.length - (i + 1) < r.length - i; omega, ?_⟩
        refine weak_by [some 0] ?_; (conv => whnf); repeat (refine And.intro rfl ?_; conv => whnf)
        try (refine And.intro (show _ = List.map leR _ by simp only [List.map_append]; rfl) ?_; conv => whnf)
        (conv => whnf); repeat (refine And.intro rfl ?_; conv => whnf)
        refine And.intro hw ?_
        (conv => whnf); repeat (refine And.intro rfl ?_; conv => whnf)
        exact ⟨fun i y hy => hy, rfl, Nat.le_refl _, rfl, rfl⟩
      · have hne : a = k := by simpa [bl_eq] using he
        repeat' (first | ((first | refine Sem.st tt_ok rfl ?_ | refine BS_t (by assumption) ?_ | refine BS_f (by assumption) ?_ | refine nthKi (by assumption) ?_ | refine ⟨_, ⟨(by omega), (by assumption)⟩, ?_⟩ | refine And.intro (by first | decide | omega) ?_); conv => whnf) | refine Sem.seqS ?_ | refine Sem.block ?_)
        refine ⟨⟨i + 1, by omega, out, true, by rw [h]; simp [putA, leA, hne], by first | omega | (simp only [List.length_append, List.length_cons, List.length_nil]; omega)⟩, by show r.length - (i + 1) < r.length - i; omega, ?_⟩
        refine weak_by [some 0] ?_; (conv => whnf); repeat (refine And.intro rfl ?_; conv => whnf)
        try (refine And.intro (show _ = List.map leR _ by simp only [List.map_append]; rfl) ?_; conv => whnf)
        (conv => whnf); repeat (refine And.intro rfl ?_; conv => whnf)
        refine And.intro hw ?_
        (conv => whnf); repeat (refine And.intro rfl ?_; conv => whnf)
        exact ⟨fun i y hy => hy, rfl, Nat.le_refl _, rfl, rfl⟩
    | false =>
      repeat' (first | ((first | refine Sem.st tt_ok rfl ?_ | refine BS_t (by assumption) ?_ | refine BS_f (by assumption) ?_ | refine nthKi (by assumption) ?_ | refine ⟨_, ⟨(by omega), (by assumption)⟩, ?_⟩ | refine And.intro (by first | decide | omega) ?_); conv => whnf) | refine Sem.seqS ?_ | refine Sem.block ?_)
      refine draw_sound (eff := []) tt_ok (by kernel_rfl) (by kernel_rfl) ?_; conv => whnf
      repeat' (first | ((first | refine BS_t (by assumption) ?_ | refine BS_f (by assumption) ?_ | refine nthKi (by assumption) ?_ | refine ⟨_, ⟨(by omega), (by assumption)⟩, ?_⟩ | refine And.intro (by first | decide | omega) ?_); conv => whnf) | fail)
      repeat' (first | ((first | refine Sem.st tt_ok rfl ?_ | refine BS_t (by assumption) ?_ | refine BS_f (by assumption) ?_ | refine nthKi (by assumption) ?_ | refine ⟨_, ⟨(by omega), (by assumption)⟩, ?_⟩ | refine And.intro (by first | decide | omega) ?_); conv => whnf) | refine Sem.seqS ?_ | refine Sem.block ?_)
      refine BS_intro (fun hge => ?_) (fun hge => ?_) <;> conv => whnf
      · have hge' : Op.bytesLess a.toList k.toList = false := by simpa using hge
        repeat' (first | ((first | refine Sem.st tt_ok rfl ?_ | refine BS_t (by assumption) ?_ | refine BS_f (by assumption) ?_ | refine nthKi (by assumption) ?_ | refine ⟨_, ⟨(by omega), (by assumption)⟩, ?_⟩ | refine And.intro (by first | decide | omega) ?_); conv => whnf) | refine Sem.seqS ?_ | refine Sem.block ?_)
        refine And.intro (app_le (by simp only [List.length_map, List.length_append, List.length_cons, List.length_nil]; omega) (by decide)) ?_; conv => whnf
        repeat' (first | ((first | refine Sem.st tt_ok rfl ?_ | refine BS_t (by assumption) ?_ | refine BS_f (by assumption) ?_ | refine nthKi (by assumption) ?_ | refine ⟨_, ⟨(by omega), (by assumption)⟩, ?_⟩ | refine And.intro (by first | decide | omega) ?_); conv => whnf) | refine Sem.seqS ?_ | refine Sem.block ?_)
        refine draw_sound (eff := []) tt_ok (by kernel_rfl) (by kernel_rfl) ?_; conv => whnf
        repeat' (first | ((first | refine BS_t (by assumption) ?_ | refine BS_f (by assumption) ?_ | refine nthKi (by assumption) ?_ | refine ⟨_, ⟨(by omega), (by assumption)⟩, ?_⟩ | refine And.intro (by first | decide | omega) ?_); conv => whnf) | fail)
        repeat' (first | ((first | refine Sem.st tt_ok rfl ?_ | refine BS_t (by assumption) ?_ | refine BS_f (by assumption) ?_ | refine nthKi (by assumption) ?_ | refine ⟨_, ⟨(by omega), (by assumption)⟩, ?_⟩ | refine And.intro (by first | decide | omega) ?_); conv => whnf) | refine Sem.seqS ?_ | refine Sem.block ?_)
        refine BS_intro (fun he => ?_) (fun he => ?_) <;> conv => whnf
        · have hne : a ≠ k := by simpa [bl_eq] using he
          repeat' (first | ((first | refine Sem.st tt_ok rfl ?_ | refine BS_t (by assumption) ?_ | refine BS_f (by assumption) ?_ | refine nthKi (by assumption) ?_ | refine ⟨_, ⟨(by omega), (by assumption)⟩, ?_⟩ | refine And.intro (by first | decide | omega) ?_); conv => whnf) | refine Sem.seqS ?_ | refine Sem.block ?_)
          refine And.intro (app_le (by simp only [List.length_map, List.length_append, List.length_cons, List.length_nil]; omega) (by decide)) ?_; conv => whnf
          repeat' (first | ((first | refine Sem.st tt_ok rfl ?_ | refine BS_t (by assumption) ?_ | refine BS_f (by assumption) ?_ | refine nthKi (by assumption) ?_ | refine ⟨_, ⟨(by omega), (by assumption)⟩, ?_⟩ | refine And.intro (by first | decide | omega) ?_); conv => whnf) | refine Sem.seqS ?_ | refine Sem.block ?_)
          refine ⟨⟨i + 1, by omega, out ++ [(k, v1, v2)] ++ [(a, b, c)], true, by rw [h]; simp [putA, leA, hne, hge'], by first | omega | (simp only [List.length_append, List.length_cons, List.length_nil]; omega)⟩, by show r.length - (i + 1) < r.length - i; omega, ?_⟩
          refine weak_by [some 0] ?_; (conv => whnf); repeat (refine And.intro rfl ?_; conv => whnf)
          try (refine And.intro (show _ = List.map leR _ by simp only [List.map_append]; rfl) ?_; conv => whnf)
          (conv => whnf); repeat (refine And.intro rfl ?_; conv => whnf)
          refine And.intro hw ?_
          (conv => whnf); repeat (refine And.intro rfl ?_; conv => whnf)
          exact ⟨fun i y hy => hy, rfl, Nat.le_refl _, rfl, rfl⟩
        · have hne : a = k := by simpa [bl_eq] using he
          rw [hne] at hge'
          repeat' (first | ((first | refine Sem.st tt_ok rfl ?_ | refine BS_t (by assumption) ?_ | refine BS_f (by assumption) ?_ | refine nthKi (by assumption) ?_ | refine ⟨_, ⟨(by omega), (by assumption)⟩, ?_⟩ | refine And.intro (by first | decide | omega) ?_); conv => whnf) | refine Sem.seqS ?_ | refine Sem.block ?_)
          refine ⟨⟨i + 1, by omega, out ++ [(k, v1, v2)], true, by rw [h]; simp [putA, leA, hne, hge'], by first | omega | (simp only [List.length_append, List.length_cons, List.length_nil]; omega)⟩, by show r.length - (i + 1) < r.length - i; omega, ?_⟩
          refine weak_by [some 0] ?_; (conv => whnf); repeat (refine And.intro rfl ?_; conv => whnf)
          try (refine And.intro (show _ = List.map leR _ by simp only [List.map_append]; rfl) ?_; conv => whnf)
          (conv => whnf); repeat (refine And.intro rfl ?_; conv => whnf)
          refine And.intro hw ?_
          (conv => whnf); repeat (refine And.intro rfl ?_; conv => whnf)
          exact ⟨fun i y hy => hy, rfl, Nat.le_refl _, rfl, rfl⟩
      · have hge' : Op.bytesLess a.toList k.toList = true := by simpa using hge
        repeat' (first | ((first | refine Sem.st tt_ok rfl ?_ | refine BS_t (by assumption) ?_ | refine BS_f (by assumption) ?_ | refine nthKi (by assumption) ?_ | refine ⟨_, ⟨(by omega), (by assumption)⟩, ?_⟩ | refine And.intro (by first | decide | omega) ?_); conv => whnf) | refine Sem.seqS ?_ | refine Sem.block ?_)
        refine draw_sound (eff := []) tt_ok (by kernel_rfl) (by kernel_rfl) ?_; conv => whnf
        repeat' (first | ((first | refine BS_t (by assumption) ?_ | refine BS_f (by assumption) ?_ | refine nthKi (by assumption) ?_ | refine ⟨_, ⟨(by omega), (by assumption)⟩, ?_⟩ | refine And.intro (by first | decide | omega) ?_); conv => whnf) | fail)
        repeat' (first | ((first | refine Sem.st tt_ok rfl ?_ | refine BS_t (by assumption) ?_ | refine BS_f (by assumption) ?_ | refine nthKi (by assumption) ?_ | refine ⟨_, ⟨(by omega), (by assumption)⟩, ?_⟩ | refine And.intro (by first | decide | omega) ?_); conv => whnf) | refine Sem.seqS ?_ | refine Sem.block ?_)
        refine BS_intro (fun he => ?_) (fun he => ?_) <;> conv => whnf
        · have hne : a ≠ k := by simpa [bl_eq] using he
          repeat' (first | ((first | refine Sem.st tt_ok rfl ?_ | refine BS_t (by assumption) ?_ | refine BS_f (by assumption) ?_ | refine nthKi (by assumption) ?_ | refine ⟨_, ⟨(by omega), (by assumption)⟩, ?_⟩ | refine And.intro (by first | decide | omega) ?_); conv => whnf) | refine Sem.seqS ?_ | refine Sem.block ?_)
          refine And.intro (app_le (by simp only [List.length_map, List.length_append, List.length_cons, List.length_nil]; omega) (by decide)) ?_; conv => whnf
          repeat' (first | ((first | refine Sem.st tt_ok rfl ?_ | refine BS_t (by assumption) ?_ | refine BS_f (by assumption) ?_ | refine nthKi (by assumption) ?_ | refine ⟨_, ⟨(by omega), (by assumption)⟩, ?_⟩ | refine And.intro (by first | decide | omega) ?_); conv => whnf) | refine Sem.seqS ?_ | refine Sem.block ?_)
          refine ⟨⟨i + 1, by omega, out ++ [(a, b, c)], false, by rw [h]; simp [putA, leA, hne, hge'], by first | omega | (simp only [List.length_append, List.length_cons, List.length_nil]; omega)⟩, by show r.length - (i + 1) < r.length - i; omega, ?_⟩
          refine weak_by [some 0] ?_; (conv => whnf); repeat (refine And.intro rfl ?_; conv => whnf)
          try (refine And.intro (show _ = List.map leR _ by simp only [List.map_append]; rfl) ?_; conv => whnf)
          (conv => whnf); repeat (refine And.intro rfl ?_; conv => whnf)
          refine And.intro hw ?_
          (conv => whnf); repeat (refine And.intro rfl ?_; conv => whnf)
          exact ⟨fun i y hy => hy, rfl, Nat.le_refl _, rfl, rfl⟩
        · have hne : a = k := by simpa [bl_eq] using he
          rw [hne] at hge'
          repeat' (first | ((first | refine Sem.st tt_ok rfl ?_ | refine BS_t (by assumption) ?_ | refine BS_f (by assumption) ?_ | refine nthKi (by assumption) ?_ | refine ⟨_, ⟨(by omega), (by assumption)⟩, ?_⟩ | refine And.intro (by first | decide | omega) ?_); conv => whnf) | refine Sem.seqS ?_ | refine Sem.block ?_)
          refine ⟨⟨i + 1, by omega, out, false, by rw [h]; simp [putA, leA, hne, hge'], by first | omega | (simp only [List.length_append, List.length_cons, List.length_nil]; omega)⟩, by show r.length - (i + 1) < r.length - i; omega, ?_⟩
          refine weak_by [some 0] ?_; (conv => whnf); repeat (refine And.intro rfl ?_; conv => whnf)
          try (refine And.intro (show _ = List.map leR _ by simp only [List.map_append]; rfl) ?_; conv => whnf)
          (conv => whnf); repeat (refine And.intro rfl ?_; conv => whnf)
          refine And.intro hw ?_
          (conv => whnf); repeat (refine And.intro rfl ?_; conv => whnf)
          exact ⟨fun i y hy => hy, rfl, Nat.le_refl _, rfl, rfl⟩
  · have hk' : i = r.length := by simp at hk; omega
    subst hk'
    rw [List.drop_length] at h
    cases done with
    | true =>
      repeat' (first | ((first | refine Sem.st tt_ok rfl ?_ | refine BS_t (by assumption) ?_ | refine BS_f (by assumption) ?_ | refine nthKi (by assumption) ?_ | refine ⟨_, ⟨(by omega), (by assumption)⟩, ?_⟩ | refine And.intro (by first | decide | omega) ?_); conv => whnf) | refine Sem.seqS ?_ | refine Sem.block ?_)
      refine ⟨_, fun _ _ h => h, ?_, rfl⟩
      rw [h]; simp [putA]
    | false =>
      repeat' (first | ((first | refine Sem.st tt_ok rfl ?_ | refine BS_t (by assumption) ?_ | refine BS_f (by assumption) ?_ | refine nthKi (by assumption) ?_ | refine ⟨_, ⟨(by omega), (by assumption)⟩, ?_⟩ | refine And.intro (by first | decide | omega) ?_); conv => whnf) | refine Sem.seqS ?_ | refine Sem.block ?_)
      refine And.intro (app_le (by simp only [List.length_map, List.length_append, List.length_cons, List.length_nil]; omega) (by decide)) ?_; conv => whnf
      repeat' (first | ((first | refine Sem.st tt_ok rfl ?_ | refine BS_t (by assumption) ?_ | refine BS_f (by assumption) ?_ | refine nthKi (by assumption) ?_ | refine ⟨_, ⟨(by omega), (by assumption)⟩, ?_⟩ | refine And.intro (by first | decide | omega) ?_); conv => whnf) | refine Sem.seqS ?_ | refine Sem.block ?_)
      refine ⟨_, fun _ _ h => h, ?_, rfl⟩
      rw [h]; simp [putA]; rfl
end Go.Proofs.YtpihanlillbhkaaGreatDoor
end

section
/- lease's drop, Free and Expire in the abstract run. -/
set_option maxRecDepth 100000
set_option linter.unusedSimpArgs false
namespace Go.Proofs.YtpihanlillbhkaaGreatDoor
open Go Go.RowKit Go.Proofs

structure EI (G0 : Glob) (b : Nat) (mv : AV) (m : LeL) (now : Int) where
  i : Nat
  hi : i ≤ (keyL m).length
  G : Glob
  H : StG G b mv (sizeL (goneL m now i)) (bk lav (goneL m now i))
  K : Kept G0 G b mv mv
theorem Kept.trans1 {G G1 G2 : Glob} {b : Nat} {mv : AV} (h : Kept G G1 b mv mv) (h' : Kept G1 G2 b mv mv) : Kept G G2 b mv mv :=
  ⟨.inl rfl, fun i x hi hb hm => h'.2 i x (h.2 i x hi hb hm) hb hm⟩
end Go.Proofs.YtpihanlillbhkaaGreatDoor
end

section
/- lease and the document's layer 29: Take, Free; the steps that are much. -/
set_option maxRecDepth 100000
set_option linter.unusedSimpArgs false
namespace Go.Proofs.YtpihanlillbhkaaGreatDoor
open Go Go.RowKit Go.Proofs

theorem BS_dec {p : Prop} [Decidable p] {A B : Prop} (ha : p → A) (hb : ¬ p → B) : BS (decide p) A B := BS_intro (fun h => ha (of_decide_eq_true h)) (fun h => hb (of_decide_eq_false h))
theorem lerow_in {g : Gh} {w : World} {u : Value} {l : LeL} (h : Dz TT g w (.slc 99 (l.map leR)) u) : Row w u l 3 leV := by
  refine dz_row h rfl (by decide) fun x _ => ⟨rfl, fun j c y z hc hy hz => ?_⟩
  match j with
  | 0 => simp only [leR, leV, List.getElem?_cons_zero, Option.some.injEq] at hc hy; subst hc hy; cases hz; rfl
  | 1 => simp only [leR, leV, List.getElem?_cons_zero, List.getElem?_cons_succ, Option.some.injEq] at hc hy; subst hc hy; cases hz; rfl
  | 2 => simp only [leR, leV, List.getElem?_cons_zero, List.getElem?_cons_succ, Option.some.injEq] at hc hy; subst hc hy; cases hz; rfl
  | j + 3 => simp [leR] at hc
theorem lerow_out {g : Gh} {w w' : World} {v : Value} {l : LeL} (h : w'.ownsRow w.heap.size 99 3 v l.length (l.flatMap leV)) : Dz TT (g.still w) w' (.slc 99 (l.map leR)) v := by
  refine own_dz h rfl (by simp) fun i cells hi => ?_
  rw [List.getElem?_map] at hi
  cases hx : l[i]? with
  | none => rw [hx] at hi; cases hi
  | some x =>
    rw [hx] at hi
    simp only [Option.map_some, Option.some.injEq] at hi
    subst hi
    refine ⟨rfl, fun j c hj => ?_⟩
    have key : ∀ j y, (leV x)[j]? = some y → (l.flatMap leV)[i * 3 + j]? = some y := fun j y hy => by
      exact flat_get l i x j y (fun _ _ => rfl) hx hy
    match j with
    | 0 => simp only [leR, List.getElem?_cons_zero, Option.some.injEq] at hj; subst hj; exact ⟨_, key 0 _ rfl, rfl, .str _⟩
    | 1 => simp only [leR, List.getElem?_cons_zero, List.getElem?_cons_succ, Option.some.injEq] at hj; subst hj; exact ⟨_, key 1 _ rfl, rfl, .str _⟩
    | 2 => simp only [leR, List.getElem?_cons_zero, List.getElem?_cons_succ, Option.some.injEq] at hj; subst hj; exact ⟨_, key 2 _ rfl, rfl, .int _ _⟩
    | j + 3 => simp [leR] at hj
theorem delA_split {α : Type} {l : List (ByteArray × α)} (hn : (l.map (·.1)).Nodup) {k : Nat} {z : ByteArray} {v : α} (hx : l[k]? = some (z, v)) : l.take k ++ l.drop (k + 1) = delA l z := by
  obtain ⟨hk, he⟩ := List.getElem?_eq_some_iff.1 hx
  have hs : l = l.take k ++ (z, v) :: l.drop (k + 1) := by
    rw [← he, ← List.drop_eq_getElem_cons hk, List.take_append_drop]
  have hn' := hn
  rw [hs, List.map_append, List.map_cons] at hn'
  have h1 : ∀ x ∈ l.take k, x.1 ≠ z := fun x hx e => by
    have := (List.nodup_append.1 hn').2.2 x.1 (List.mem_map.2 ⟨x, hx, rfl⟩) z (by simp)
    exact this e
  have h2 : ∀ x ∈ l.drop (k + 1), x.1 ≠ z := fun x hx e => by
    have := (List.nodup_cons.1 (List.nodup_append.1 hn').2.1).1
    exact this (List.mem_map.2 ⟨x, hx, e⟩)
  have e1 : (l.take k).filter (fun x => !decide (x.1 = z)) = l.take k := List.filter_eq_self.2 fun x hx => by simp [h1 x hx]
  have e2 : (l.drop (k + 1)).filter (fun x => !decide (x.1 = z)) = l.drop (k + 1) := List.filter_eq_self.2 fun x hx => by simp [h2 x hx]
  unfold delA
  rw [hs, List.filter_append, List.filter_cons_of_neg (by simp)]
  simp only [← hs]
  rw [e1, e2]
def freeV (r : LeL) (z h : ByteArray) : AV := match lget r z with
  | some (x, _) => if x = h then .tup [.slc 99 ((delA r z).map leR), .bool true] else .tup [.slc 99 (r.map leR), .bool false]
  | none => .tup [.slc 99 (r.map leR), .bool false]
theorem free29_ok (r : LeL) (z h : ByteArray) (G : Glob) (hl : r.length ≤ 1048576) (hn : (r.map (·.1)).Nodup) : CallOk Tryz.prog TT 67 [.slc 99 (r.map leR), .str z, .str h] G (fun v G' => v = freeV r z h ∧ G' = G) := by
  have hf := find29_ok r z G hl
  unfold freeV
  cases hk : findN r z with
  | none =>
    have hg := findN_not hk
    rw [hg]
    have hI : findI r z = -1 := by unfold findI; rw [hk]
    rw [hI] at hf
    refine call_sem tt_ok Tryz.func67 rfl (by kernel_rfl) Tryz.ntmps67 Tryz.results67 ?_; conv => whnf
    repeat' (first | ((first | refine Sem.st tt_ok rfl ?_ | refine BS_t (by assumption) ?_ | refine BS_f (by assumption) ?_ | refine atG (by repeat (first | assumption | exact setG_same _ _ _ | refine atNe (by first | assumption | exact Ne.symm (by assumption)) ?_)) ?_ | refine nthKi (by assumption) ?_ | refine ⟨_, ⟨(by omega), (by assumption)⟩, ?_⟩ | refine And.intro (by first | decide | omega) ?_); conv => whnf) | refine Sem.seqS ?_ | refine Sem.block ?_)
    refine hf.on ?_; conv => whnf
    repeat' (first | ((first | refine Sem.st tt_ok rfl ?_ | refine BS_t (by assumption) ?_ | refine BS_f (by assumption) ?_ | refine atG (by repeat (first | assumption | exact setG_same _ _ _ | refine atNe (by first | assumption | exact Ne.symm (by assumption)) ?_)) ?_ | refine nthKi (by assumption) ?_ | refine ⟨_, ⟨(by omega), (by assumption)⟩, ?_⟩ | refine And.intro (by first | decide | omega) ?_); conv => whnf) | refine Sem.seqS ?_ | refine Sem.block ?_)
    exact ⟨_, fun _ _ h => h, rfl, rfl⟩
  | some k =>
    obtain ⟨⟨x, u⟩, hx, hg, -⟩ := findN_is hk
    rw [hg]
    have hI : findI r z = (k : Int) := by unfold findI; rw [hk]
    by_cases he : x = h
    · subst he
      simp only [if_true]
      refine CallOk.of_up ⟨_, Tryz.func67, by decide, rfl⟩ fun g us w hu hd => ?_
      obtain ⟨us⟩ := us
      match us, hu with
      | [u0, u1, u2], _ =>
        have h0 := lerow_in (hd 0 _ _ rfl rfl)
        cases hd 1 _ _ rfl rfl
        cases hd 2 _ _ rfl rfl
        refine (free29_yes _ r z x w h0 hl k u hx hI).mono fun e w' he => ?_
        obtain ⟨u', rfl, h4, h5⟩ := he
        refine ⟨_, rfl, h5, ?_⟩
        rw [← List.length_append, ← List.flatMap_append, delA_split hn hx] at h4
        have h6 := lerow_out (g := g) h4
        refine .tup _ _ rfl fun i c u hc hu => ?_
        match i with
        | 0 => simp at hc hu; subst hc hu; simpa using h6
        | 1 => simp at hc hu; subst hc hu; exact .bool _
        | i + 2 => simp at hc
    · simp only [if_neg he]
      rw [hI] at hf
      have hsm : (r.map leR)[((k : Nat) : Int).toNat]? = some (leR (z, x, u)) := by rw [Int.toNat_natCast, List.getElem?_map, hx]; rfl
      have e0 : decide ((k : Int) < 0) = false := by simp
      have e1 : (!(x.toList == h.toList)) = true := by rw [bl_eq]; simp [he]
      refine call_sem tt_ok Tryz.func67 rfl (by kernel_rfl) Tryz.ntmps67 Tryz.results67 ?_; conv => whnf
      repeat' (first | ((first | refine Sem.st tt_ok rfl ?_ | refine BS_t (by assumption) ?_ | refine BS_f (by assumption) ?_ | refine atG (by repeat (first | assumption | exact setG_same _ _ _ | refine atNe (by first | assumption | exact Ne.symm (by assumption)) ?_)) ?_ | refine nthKi (by assumption) ?_ | refine ⟨_, ⟨(by omega), (by assumption)⟩, ?_⟩ | refine And.intro (by first | decide | omega) ?_); conv => whnf) | refine Sem.seqS ?_ | refine Sem.block ?_)
      refine hf.on ?_; conv => whnf
      repeat' (first | ((first | refine Sem.st tt_ok rfl ?_ | refine BS_t (by assumption) ?_ | refine BS_f (by assumption) ?_ | refine atG (by repeat (first | assumption | exact setG_same _ _ _ | refine atNe (by first | assumption | exact Ne.symm (by assumption)) ?_)) ?_ | refine nthKi (by assumption) ?_ | refine ⟨_, ⟨(by omega), (by assumption)⟩, ?_⟩ | refine And.intro (by first | decide | omega) ?_); conv => whnf) | refine Sem.seqS ?_ | refine Sem.block ?_)
      exact ⟨_, fun _ _ h => h, rfl, rfl⟩
def takeVL (r : LeL) (z h : ByteArray) (t now : Int) : AV := match lget r z with
  | some (x, _) => if x = h then .tup [.slc 99 ((putA z (h, tillOf t now) r false).map leR), .bool true] else .tup [.slc 99 (r.map leR), .bool false]
  | none => .tup [.slc 99 ((putA z (h, tillOf t now) r false).map leR), .bool true]
set_option maxHeartbeats 2000000 in
theorem take29_ok (r : LeL) (z h : ByteArray) (t now : Int) (G : Glob) (hl : r.length ≤ 1048576) : CallOk Tryz.prog TT 66 [.slc 99 (r.map leR), .str z, .str h, .int .i64 t, .int .i64 now] G (fun v G' => v = takeVL r z h t now ∧ G' = G) := by
  have hf := find29_ok r z G hl
  unfold takeVL
  cases hk : findN r z with
  | none =>
    have hg := findN_not hk
    rw [hg]
    have hI : findI r z = -1 := by unfold findI; rw [hk]
    rw [hI] at hf
    refine call_sem tt_ok Tryz.func66 rfl (by kernel_rfl) Tryz.ntmps66 Tryz.results66 ?_; conv => whnf
    repeat' (first | ((first | refine Sem.st tt_ok rfl ?_ | refine BS_t (by assumption) ?_ | refine BS_f (by assumption) ?_ | refine nthKi (by assumption) ?_ | refine ⟨_, ⟨(by omega), (by assumption)⟩, ?_⟩ | refine And.intro (by first | decide | omega) ?_); conv => whnf) | refine Sem.seqS ?_ | refine Sem.block ?_)
    refine hf.on ?_; conv => whnf
    repeat' (first | ((first | refine Sem.st tt_ok rfl ?_ | refine BS_t (by assumption) ?_ | refine BS_f (by assumption) ?_ | refine nthKi (by assumption) ?_ | refine ⟨_, ⟨(by omega), (by assumption)⟩, ?_⟩ | refine And.intro (by first | decide | omega) ?_); conv => whnf) | refine Sem.seqS ?_ | refine Sem.block ?_)
    iterate 4 (all_goals (try (refine BS_dec (fun _ => ?_) (fun _ => ?_) <;> conv => whnf)); all_goals repeat' (first | ((first | refine Sem.st tt_ok rfl ?_ | refine BS_t (by assumption) ?_ | refine BS_f (by assumption) ?_ | refine nthKi (by assumption) ?_ | refine ⟨_, ⟨(by omega), (by assumption)⟩, ?_⟩ | refine And.intro (by first | decide | omega) ?_); conv => whnf) | refine Sem.seqS ?_ | refine Sem.block ?_))
    all_goals
      generalize hT : IntKind.i64.wrap _ = T
      have hT : T = tillOf t now := by
        rw [← hT, IntWalk.i64_in _ (by omega)]
        unfold tillOf
        (repeat' split) <;> omega
      subst hT
      refine (put29_ok r z (h, tillOf t now) G hl).on ?_
      conv => whnf
      repeat' (first | ((first | refine Sem.st tt_ok rfl ?_ | refine BS_t (by assumption) ?_ | refine BS_f (by assumption) ?_ | refine nthKi (by assumption) ?_ | refine ⟨_, ⟨(by omega), (by assumption)⟩, ?_⟩ | refine And.intro (by first | decide | omega) ?_); conv => whnf) | refine Sem.seqS ?_ | refine Sem.block ?_)
      exact ⟨_, fun _ _ h => h, rfl, rfl⟩
  | some k =>
    obtain ⟨⟨x, u⟩, hx, hg, -⟩ := findN_is hk
    rw [hg]
    have hI : findI r z = (k : Int) := by unfold findI; rw [hk]
    rw [hI] at hf
    have hsm : (r.map leR)[((k : Nat) : Int).toNat]? = some (leR (z, x, u)) := by rw [Int.toNat_natCast, List.getElem?_map, hx]; rfl
    have e0 : decide ((k : Int) ≥ 0) = true := by simp
    by_cases he : x = h
    · subst he
      simp only [if_true]
      have e1 : (!(x.toList == x.toList)) = false := by simp
      refine call_sem tt_ok Tryz.func66 rfl (by kernel_rfl) Tryz.ntmps66 Tryz.results66 ?_; conv => whnf
      repeat' (first | ((first | refine Sem.st tt_ok rfl ?_ | refine BS_t (by assumption) ?_ | refine BS_f (by assumption) ?_ | refine nthKi (by assumption) ?_ | refine ⟨_, ⟨(by omega), (by assumption)⟩, ?_⟩ | refine And.intro (by first | decide | omega) ?_); conv => whnf) | refine Sem.seqS ?_ | refine Sem.block ?_)
      refine hf.on ?_; conv => whnf
      repeat' (first | ((first | refine Sem.st tt_ok rfl ?_ | refine BS_t (by assumption) ?_ | refine BS_f (by assumption) ?_ | refine nthKi (by assumption) ?_ | refine ⟨_, ⟨(by omega), (by assumption)⟩, ?_⟩ | refine And.intro (by first | decide | omega) ?_); conv => whnf) | refine Sem.seqS ?_ | refine Sem.block ?_)
      iterate 4 (all_goals (try (refine BS_dec (fun _ => ?_) (fun _ => ?_) <;> conv => whnf)); all_goals repeat' (first | ((first | refine Sem.st tt_ok rfl ?_ | refine BS_t (by assumption) ?_ | refine BS_f (by assumption) ?_ | refine nthKi (by assumption) ?_ | refine ⟨_, ⟨(by omega), (by assumption)⟩, ?_⟩ | refine And.intro (by first | decide | omega) ?_); conv => whnf) | refine Sem.seqS ?_ | refine Sem.block ?_))
      all_goals
        generalize hT : IntKind.i64.wrap _ = T
        have hT : T = tillOf t now := by
          rw [← hT, IntWalk.i64_in _ (by omega)]
          unfold tillOf
          (repeat' split) <;> omega
        subst hT
        refine (put29_ok r z (x, tillOf t now) G hl).on ?_
        conv => whnf
        repeat' (first | ((first | refine Sem.st tt_ok rfl ?_ | refine BS_t (by assumption) ?_ | refine BS_f (by assumption) ?_ | refine nthKi (by assumption) ?_ | refine ⟨_, ⟨(by omega), (by assumption)⟩, ?_⟩ | refine And.intro (by first | decide | omega) ?_); conv => whnf) | refine Sem.seqS ?_ | refine Sem.block ?_)
        exact ⟨_, fun _ _ h => h, rfl, rfl⟩
    · simp only [if_neg he]
      have e1 : (!(x.toList == h.toList)) = true := by rw [bl_eq]; simp [he]
      refine call_sem tt_ok Tryz.func66 rfl (by kernel_rfl) Tryz.ntmps66 Tryz.results66 ?_; conv => whnf
      repeat' (first | ((first | refine Sem.st tt_ok rfl ?_ | refine BS_t (by assumption) ?_ | refine BS_f (by assumption) ?_ | refine nthKi (by assumption) ?_ | refine ⟨_, ⟨(by omega), (by assumption)⟩, ?_⟩ | refine And.intro (by first | decide | omega) ?_); conv => whnf) | refine Sem.seqS ?_ | refine Sem.block ?_)
      refine hf.on ?_; conv => whnf
      repeat' (first | ((first | refine Sem.st tt_ok rfl ?_ | refine BS_t (by assumption) ?_ | refine BS_f (by assumption) ?_ | refine nthKi (by assumption) ?_ | refine ⟨_, ⟨(by omega), (by assumption)⟩, ?_⟩ | refine And.intro (by first | decide | omega) ?_); conv => whnf) | refine Sem.seqS ?_ | refine Sem.block ?_)
      exact ⟨_, fun _ _ h => h, rfl, rfl⟩
structure LStp where
  kind : Int
  k : ByteArray
  v : ByteArray
  ticks : Int
  now : Int
def LStp.av (x : LStp) : List AV := [.int .i64 x.kind, .str x.k, .str x.v, .int .i64 x.ticks, .int .i64 x.now]
end Go.Proofs.YtpihanlillbhkaaGreatDoor
end

section
/- names, at its place within a partition. Printed by genpart2.py. -/
set_option maxRecDepth 100000
set_option linter.unusedSimpArgs false
set_option linter.unusedVariables false
namespace Go.Proofs.YtpihanlillbhkaaGreatDoor
open Go Go.RowKit Go.Proofs Go.Maps Go.Sort Go.Shelf

set_option maxHeartbeats 1000000 in
theorem Pcnames_any (bb bm n : Nat) (D0 : DataW Unit) (w : World) (hc0 : w.cell? ⟨bb, 2, none⟩ = some (.map (some bm))) (hown : w.ownsMap Tryz.prog 9 rdAny bm n D0) (hmax : Maps.size D0 ≤ 1000000) :
    Calls Tryz.prog 32 #[.pointer (some ⟨bb, 2, none⟩)] w fun e w' => ∃ (v : Value) (ss : List (List UInt8)), e = .returned v ∧ ss.Perm (strKeys D0) ∧
      w'.ownsRow w.heap.size 9 1 v ss.length ((ss.mergeSort (fun x y => decide (x ≤ y))).map encStr) ∧ Up w w' := by
  obtain ⟨hu, hi', hzs, hsz⟩ := rowTx
  obtain ⟨i0, hi, hz0, hz1, hz2⟩ := info_parts hi'
  have hbl := hown.lt
  go_enter Tryz.func32, Tryz.ntmps32
  go_wp2_with (first
    | (at_range; refine wpList_range_own _ rfl _ 55 rfl 9 2 lawTx Tryz.underlying55 _ bm n _ rfl hown ?_; intro w0 hrg0 hg0 hs0)
    | go_in)
  go_frame
  go_loopw [3] (fun v wr => ∃ (left : Lit → Bool) (cnt : Nat) (ss : List (List UInt8)), wr.ranges Tryz.prog 9 rdAny bm w.heap.size n D0 left cnt ∧ ss.length + cnt ≤ Maps.size D0 ∧
      wr.ownsRow w.heap.size 9 1 v ss.length (ss.map encStr) ∧ Collected D0 left ss ∧ Below w.heap.size w wr)
    (fun _ wr => wr.rangeLeft bm w.heap.size)
  case atStart =>
    exact ⟨_, _, [], hrg0, by simp, ⟨rfl, .inl ⟨rfl, rfl⟩⟩, Collected.start D0, (Below.refl _ _).grown hg0 (Nat.le_refl _) (fun j hj => by cases hj)⟩
  case round =>
    obtain ⟨left, cnt, ss, hrg, hcs, hrow, hC, hnx⟩ := hrel
    go_wp2_with (first
      | (at_next; refine wpList_next_ranges _ rfl _ rfl 9 lawTx rdAny encStr id (fun key kl hk => by obtain ⟨x, hx, _⟩ := Maps.keyOf_str Tryz.underlying9 hk; exact ⟨x, hx⟩) (fun v y hv => ⟨v, rfl⟩) bm w.heap.size n _ _ _ rfl hrg ?_ ?_)
      | go_in)
    · intro hc1 hl0
      have hP := hC.perm hown lawTx Tryz.underlying9 hl0
      rcases hrow.2 with ⟨hnil, hx0⟩ | ⟨g, cap, cur, rfl, hbase, hb, h1, h2, h3, h4⟩
      · have hss : ss = [] := by simpa using hx0
        subst hss hnil
        clear hrow
        go_wp2_with (go_at_call 70; refine (sort_none none 0 wr).mono ?_; rintro e w' ⟨rfl, rfl⟩)
        go_ret
        exact ⟨_, [], rfl, hP, ⟨by simp, .inl ⟨rfl, by simp⟩⟩, hnx⟩
      · have hH : Holds encStr wr g 0 ss.toArray := holds_of_block hb (by simpa using h4)
        have hgl : g < wr.heap.size := (Array.getElem?_eq_some_iff.1 hb).1
        have hc := sort_any g 0 cap ss wr hH hgl (by omega)
        go_wp2_with (go_at_call 70; refine hc.mono ?_; rintro e w' ⟨rfl, nn, os, rfl⟩)
        go_ret
        exact ⟨_, ss, rfl, hP, ownsRow_sorted (by simp) hbase hb h1 h2 h3, hnx.grown (grownBy_sorted _) hnx.size (fun j hj => by cases hj; exact hbase)⟩
    · intro x c kl yd yp w2 cnt2 hkey hlk hv hat hrg2 hlt hg2 hs2 hen
      obtain ⟨x', ex, rfl, _⟩ := Maps.keyOf_str Tryz.underlying9 hkey
      obtain rfl : x = x' := encStr_inj ex
      have hrow2 := hrow.kept hg2 (Or.inr (row_ne_iter hrow hrg).symm)
      clear hs2
      go_wp2_with (first
        | (at_builtin; refine wpList_append_own _ rfl _ _ 80 rfl w.heap.size 9 i0 (.string ⟨#[]⟩) 1 16 Tryz.underlying80 hi hz0 hz1 hz2 rfl (by decide) _ _ _ rfl (hrow2.alloc _) ⟨w2.heap.size, 0, none⟩ 1 1 [encStr x] rfl rfl (cell_one_new _ _ _) (by simp [Value.oneCell', encStr]) (by unfold maxLen at *; omega) (by omega) (by have := hnx.size; have := hg2.size; simp; omega) ?_; intro v' w3 hown' hg3 hnil3; go_frame)
        | go_in)
      have hrg3 := (hrg2.alloc _).kept hg3 (row_ne_low hrow2 hbl) (row_ne_iter hrow2 hrg2)
      go_roundw
      case rel =>
        refine ⟨_, cnt2, ss ++ [x], hrg3, by simp; omega, by simpa using hown', hC.step hlk hat, ?_⟩
        exact ((hnx.grown hg2 hnx.size (fun j hj => by cases hj; exact Nat.le_refl _)).alloc (by have := hnx.size; have := hg2.size; omega) _).grown hg3 (by have := hnx.size; have := hg2.size; simp; omega) (fun j hj => (hrow2.lt j hj).1)
      case measure => rw [hrg3.left_eq, hrg.left_eq]; exact hlt
theorem Pcnames_none (bb : Nat) (w : World) (hc0 : w.cell? ⟨bb, 2, none⟩ = some (.map none)) :
    Calls Tryz.prog 32 #[.pointer (some ⟨bb, 2, none⟩)] w fun e w' => e = .returned (.slice none 0 0) ∧ Up w w' := by
  have hrg := run_range_nilMap (P := Tryz.prog) w 55 9 2 Tryz.underlying55
  have hnx : ∀ ty, (Instr.next (.pointer (some ⟨w.heap.size, 0, none⟩)) false ty).run Tryz.prog (w.alloc (.mapIter none 0 #[] 0)) = _ := fun ty => run_next_nilMap _ ty 0 0 #[]
  go_enter Tryz.func32, Tryz.ntmps32
  go_wp2
  refine wp_loop_rounds 1 ?_
  rw [rounds_succ]
  go_wp2_with (go_at_call 70; refine (sort_none none 0 _).mono ?_; rintro e w' ⟨rfl, rfl⟩)
  go_ret
  exact ⟨rfl, (Up.refl _).alloc _⟩
set_option maxHeartbeats 1000000 in
theorem Pfnames_any (bb bm n : Nat) (D0 : DataW Unit) (w : World) (hc0 : w.cell? ⟨bb, 4, none⟩ = some (.map (some bm))) (hown : w.ownsMap Tryz.prog 9 rdAny bm n D0) (hmax : Maps.size D0 ≤ 1000000) :
    Calls Tryz.prog 36 #[.pointer (some ⟨bb, 4, none⟩)] w fun e w' => ∃ (v : Value) (ss : List (List UInt8)), e = .returned v ∧ ss.Perm (strKeys D0) ∧
      w'.ownsRow w.heap.size 9 1 v ss.length ((ss.mergeSort (fun x y => decide (x ≤ y))).map encStr) ∧ Up w w' := by
  obtain ⟨hu, hi', hzs, hsz⟩ := rowTx
  obtain ⟨i0, hi, hz0, hz1, hz2⟩ := info_parts hi'
  have hbl := hown.lt
  go_enter Tryz.func36, Tryz.ntmps36
  go_wp2_with (first
    | (at_range; refine wpList_range_own _ rfl _ 58 rfl 9 138 lawTx Tryz.underlying58 _ bm n _ rfl hown ?_; intro w0 hrg0 hg0 hs0)
    | go_in)
  go_frame
  go_loopw [3] (fun v wr => ∃ (left : Lit → Bool) (cnt : Nat) (ss : List (List UInt8)), wr.ranges Tryz.prog 9 rdAny bm w.heap.size n D0 left cnt ∧ ss.length + cnt ≤ Maps.size D0 ∧
      wr.ownsRow w.heap.size 9 1 v ss.length (ss.map encStr) ∧ Collected D0 left ss ∧ Below w.heap.size w wr)
    (fun _ wr => wr.rangeLeft bm w.heap.size)
  case atStart =>
    exact ⟨_, _, [], hrg0, by simp, ⟨rfl, .inl ⟨rfl, rfl⟩⟩, Collected.start D0, (Below.refl _ _).grown hg0 (Nat.le_refl _) (fun j hj => by cases hj)⟩
  case round =>
    obtain ⟨left, cnt, ss, hrg, hcs, hrow, hC, hnx⟩ := hrel
    go_wp2_with (first
      | (at_next; refine wpList_next_ranges _ rfl _ rfl 9 lawTx rdAny encStr id (fun key kl hk => by obtain ⟨x, hx, _⟩ := Maps.keyOf_str Tryz.underlying9 hk; exact ⟨x, hx⟩) (fun v y hv => ⟨v, rfl⟩) bm w.heap.size n _ _ _ rfl hrg ?_ ?_)
      | go_in)
    · intro hc1 hl0
      have hP := hC.perm hown lawTx Tryz.underlying9 hl0
      rcases hrow.2 with ⟨hnil, hx0⟩ | ⟨g, cap, cur, rfl, hbase, hb, h1, h2, h3, h4⟩
      · have hss : ss = [] := by simpa using hx0
        subst hss hnil
        clear hrow
        go_wp2_with (go_at_call 70; refine (sort_none none 0 wr).mono ?_; rintro e w' ⟨rfl, rfl⟩)
        go_ret
        exact ⟨_, [], rfl, hP, ⟨by simp, .inl ⟨rfl, by simp⟩⟩, hnx⟩
      · have hH : Holds encStr wr g 0 ss.toArray := holds_of_block hb (by simpa using h4)
        have hgl : g < wr.heap.size := (Array.getElem?_eq_some_iff.1 hb).1
        have hc := sort_any g 0 cap ss wr hH hgl (by omega)
        go_wp2_with (go_at_call 70; refine hc.mono ?_; rintro e w' ⟨rfl, nn, os, rfl⟩)
        go_ret
        exact ⟨_, ss, rfl, hP, ownsRow_sorted (by simp) hbase hb h1 h2 h3, hnx.grown (grownBy_sorted _) hnx.size (fun j hj => by cases hj; exact hbase)⟩
    · intro x c kl yd yp w2 cnt2 hkey hlk hv hat hrg2 hlt hg2 hs2 hen
      obtain ⟨x', ex, rfl, _⟩ := Maps.keyOf_str Tryz.underlying9 hkey
      obtain rfl : x = x' := encStr_inj ex
      have hrow2 := hrow.kept hg2 (Or.inr (row_ne_iter hrow hrg).symm)
      clear hs2
      go_wp2_with (first
        | (at_builtin; refine wpList_append_own _ rfl _ _ 80 rfl w.heap.size 9 i0 (.string ⟨#[]⟩) 1 16 Tryz.underlying80 hi hz0 hz1 hz2 rfl (by decide) _ _ _ rfl (hrow2.alloc _) ⟨w2.heap.size, 0, none⟩ 1 1 [encStr x] rfl rfl (cell_one_new _ _ _) (by simp [Value.oneCell', encStr]) (by unfold maxLen at *; omega) (by omega) (by have := hnx.size; have := hg2.size; simp; omega) ?_; intro v' w3 hown' hg3 hnil3; go_frame)
        | go_in)
      have hrg3 := (hrg2.alloc _).kept hg3 (row_ne_low hrow2 hbl) (row_ne_iter hrow2 hrg2)
      go_roundw
      case rel =>
        refine ⟨_, cnt2, ss ++ [x], hrg3, by simp; omega, by simpa using hown', hC.step hlk hat, ?_⟩
        exact ((hnx.grown hg2 hnx.size (fun j hj => by cases hj; exact Nat.le_refl _)).alloc (by have := hnx.size; have := hg2.size; omega) _).grown hg3 (by have := hnx.size; have := hg2.size; simp; omega) (fun j hj => (hrow2.lt j hj).1)
      case measure => rw [hrg3.left_eq, hrg.left_eq]; exact hlt
theorem Pfnames_none (bb : Nat) (w : World) (hc0 : w.cell? ⟨bb, 4, none⟩ = some (.map none)) :
    Calls Tryz.prog 36 #[.pointer (some ⟨bb, 4, none⟩)] w fun e w' => e = .returned (.slice none 0 0) ∧ Up w w' := by
  have hrg := run_range_nilMap (P := Tryz.prog) w 58 9 138 Tryz.underlying58
  have hnx : ∀ ty, (Instr.next (.pointer (some ⟨w.heap.size, 0, none⟩)) false ty).run Tryz.prog (w.alloc (.mapIter none 0 #[] 0)) = _ := fun ty => run_next_nilMap _ ty 0 0 #[]
  go_enter Tryz.func36, Tryz.ntmps36
  go_wp2
  refine wp_loop_rounds 1 ?_
  rw [rounds_succ]
  go_wp2_with (go_at_call 70; refine (sort_none none 0 _).mono ?_; rintro e w' ⟨rfl, rfl⟩)
  go_ret
  exact ⟨rfl, (Up.refl _).alloc _⟩
set_option maxHeartbeats 1000000 in
theorem Plnames_any (bb bm n : Nat) (D0 : DataW Unit) (w : World) (hc0 : w.cell? ⟨bb, 6, none⟩ = some (.map (some bm))) (hown : w.ownsMap Tryz.prog 9 rdAny bm n D0) (hmax : Maps.size D0 ≤ 1000000) :
    Calls Tryz.prog 40 #[.pointer (some ⟨bb, 6, none⟩)] w fun e w' => ∃ (v : Value) (ss : List (List UInt8)), e = .returned v ∧ ss.Perm (strKeys D0) ∧
      w'.ownsRow w.heap.size 9 1 v ss.length ((ss.mergeSort (fun x y => decide (x ≤ y))).map encStr) ∧ (v = .slice none 0 0 ↔ ss = []) ∧ Up w w' := by
  refine (callsIn_wide (n := 6)).1 ?_
  have hbl := hown.lt
  have hseq : SeqGives Fence.wide 2 Tryz.prog 102 #[.pointer (some ⟨w.heap.size, 0, none⟩)] encStr (fun ss => ss.Perm (strKeys D0)) (Maps.size D0) (w.alloc (.cells #[.map (some bm)] 61)) :=
    AnyZ.keys_gives (ρ := keysLe_ren) { keysLe with } Fence.wide _ trivial rfl (by omega) w.heap.size bm n D0 _ (by simp) (by simp) (by
      obtain ⟨es, clock, hb, Ft, hs, hD⟩ := hown
      exact ⟨es, clock, (Below.heap_alloc _ _ bm hbl).trans hb, Ft, hs, hD⟩)
  have cK : ∀ mb W, CallsIn Fence.wide 5 Tryz.prog 76 #[.map mb] W fun e w' => e = .returned (.func (.func 102) #[] #[.pointer (some ⟨W.heap.size, 0, none⟩)]) ∧ w' = W.alloc (.cells #[.map mb] 61) := fun mb W => AnyZ.keys_in keysLe Fence.wide 5 trivial rfl mb W
  have cS := AnyZ.sorted_in sortedLe Fence.wide 5 trivial trivial trivial trivial rfl (by omega) (sortsLe _) (enters_of Tryz.func70 (by kernel_rfl) rfl) 102 #[.pointer (some ⟨w.heap.size, 0, none⟩)] trivial (enters_of Tryz.func102 (by kernel_rfl) rfl) _ _ (by unfold maxLen; omega) (by omega) _ hseq
  change CallsIn _ _ Tryz.prog 75 _ _ _ at cS
  have hfK : Fence.wide.fn 76 := trivial
  have hfS : Fence.wide.fn 75 := trivial
  refine callsIn_of_wp Tryz.func40 rfl trivial ?_ rfl
  simp only [Tryz.ntmps40, List.size_toArray, List.length_cons, List.length_nil, Nat.reduceAdd, Nat.reduceSub, Array.replicate_succ, Array.replicate_zero, List.push_toArray, List.append_toArray, List.nil_append, List.cons_append]
  gi_wp2_with (first
    | (gi_at_call 76; refine (cK _ _).mono ?_; rintro e w' ⟨rfl, rfl⟩)
    | (gi_at_call 75; refine cS.mono ?_; rintro e w' ⟨v, ss, rfl, hS, hrow, hnil, hb⟩))
  go_ret
  exact ⟨v, ss, rfl, hS, ownsRow_base_a hrow (by simp), hnil, ((Below.refl _ w).alloc (Nat.le_refl _) _).trans (hb.mono (by simp))⟩
set_option maxHeartbeats 1000000 in
theorem Plnames_nomap (bb : Nat) (w : World) (hc0 : w.cell? ⟨bb, 6, none⟩ = some (.map none)) : Calls Tryz.prog 40 #[.pointer (some ⟨bb, 6, none⟩)] w fun e w' => e = .returned (.slice none 0 0) ∧ Up w w' := by
  refine (callsIn_wide (n := 6)).1 ?_
  have hseq : SeqGives Fence.wide 2 Tryz.prog 102 #[.pointer (some ⟨w.heap.size, 0, none⟩)] encStr (fun ss : List (List UInt8) => ss = []) 0 (w.alloc (.cells #[.map none] 61)) :=
    AnyZ.keys_gives_nil (ρ := keysLe_ren) { keysLe with } Fence.wide _ trivial rfl w.heap.size _ (by simp) (by simp)
  have cK : ∀ mb W, CallsIn Fence.wide 5 Tryz.prog 76 #[.map mb] W fun e w' => e = .returned (.func (.func 102) #[] #[.pointer (some ⟨W.heap.size, 0, none⟩)]) ∧ w' = W.alloc (.cells #[.map mb] 61) := fun mb W => AnyZ.keys_in keysLe Fence.wide 5 trivial rfl mb W
  have cS := AnyZ.sorted_in sortedLe Fence.wide 5 trivial trivial trivial trivial rfl (by omega) (sortsLe _) (enters_of Tryz.func70 (by kernel_rfl) rfl) 102 #[.pointer (some ⟨w.heap.size, 0, none⟩)] trivial (enters_of Tryz.func102 (by kernel_rfl) rfl) _ 0 (Nat.zero_le _) (by omega) _ hseq
  change CallsIn _ _ Tryz.prog 75 _ _ _ at cS
  have hfK : Fence.wide.fn 76 := trivial
  have hfS : Fence.wide.fn 75 := trivial
  refine callsIn_of_wp Tryz.func40 rfl trivial ?_ rfl
  simp only [Tryz.ntmps40, List.size_toArray, List.length_cons, List.length_nil, Nat.reduceAdd, Nat.reduceSub, Array.replicate_succ, Array.replicate_zero, List.push_toArray, List.append_toArray, List.nil_append, List.cons_append]
  gi_wp2_with (first
    | (gi_at_call 76; refine (cK _ _).mono ?_; rintro e w' ⟨rfl, rfl⟩)
    | (gi_at_call 75; refine cS.mono ?_; rintro e w' ⟨v, ss, rfl, rfl, hrow, hnil, hb⟩; obtain rfl : v = .slice none 0 0 := hnil.2 rfl))
  go_ret
  exact ⟨rfl, ((Below.refl _ w).alloc (Nat.le_refl _) _).trans (hb.mono (by simp))⟩
theorem names_bridgeK {s : Oth} {α : Type} {T : TypeId → TR} {fid : FuncId} (hs1 : (T 9).cells = 1) (he : ∃ fn, (Tryz.prog).funcs[fid]? = some fn ∧ (fn.name == "runtime.NumGoroutine") = false ∧ fn.body.isNone = false)
    (hA : ∀ (bb bm n : Nat) (D0 : DataW Unit) (w : World), w.cell? ⟨bb, 0, none⟩ = some (.map (some bm)) → w.ownsMap Tryz.prog 9 rdAny bm n D0 → Maps.size D0 ≤ 1000000 → Calls Tryz.prog fid #[.pointer (some ⟨bb, 0, none⟩)] w fun e w' => ∃ (v : Value) (ss : List (List UInt8)), e = .returned v ∧ ss.Perm (strKeys D0) ∧
      w'.ownsRow w.heap.size 9 1 v ss.length ((ss.mergeSort (fun x y => decide (x ≤ y))).map encStr) ∧ Up w w')
    (hN : ∀ (bb : Nat) (w : World), w.cell? ⟨bb, 0, none⟩ = some (.map none) → Calls Tryz.prog fid #[.pointer (some ⟨bb, 0, none⟩)] w fun e w' => e = .returned (.slice none 0 0) ∧ Up w w')
    (f : α → AV) (G : Glob) (b : Nat) (mv : AV) (n : Int) (l : List (ByteArray × α)) (h : StK s G b mv n (bk f l)) (hl : l.length ≤ 1000000) (hs : ∀ x ∈ l, x.1.size ≤ maxLen) :
    CallOk Tryz.prog T fid [.gptr b 0] G (fun v G' => v = .slc 9 (keysE l) ∧ G' = G) := by
  refine ⟨he, fun g us w hG hu hd => ?_⟩
  obtain ⟨h1, h2⟩ := h
  obtain ⟨u, rfl⟩ : ∃ u, us = #[u] := by
    obtain ⟨us⟩ := us
    match us, hu with
    | [u], _ => exact ⟨u, rfl⟩
  have hp := hd 0 _ u rfl rfl
  obtain ⟨hb1, hb2, cs, e0, hb3, hb4, hb5, hb6⟩ := hG b _ h1
  cases hp
  have c0 : ∃ u, cs[0]? = some u ∧ w.cell? ⟨g.beta b, 0, none⟩ = some u ∧ Dz T g w mv u := by
    simp only [List.length_cons, List.length_nil] at hb4
    have : 0 < cs.size := by omega
    refine ⟨cs[0], by simp [this], ?_, hb6 0 _ _ rfl (by simp [this])⟩
    simp [World.cell?, hb3, this]
  obtain ⟨u0, c1, c2, c3⟩ := c0
  rcases h2 with ⟨rfl, hnil⟩ | ⟨mb, rfl, h2⟩
  · have hl0 : l = [] := by simpa [bk] using hnil
    subst hl0
    cases c3
    refine (hN _ w c2).mono fun e w' hh => ?_
    obtain ⟨rfl, hup⟩ := hh
    exact ⟨_, g.still w, G, _, rfl, ⟨rfl, rfl⟩, still_rel hG hup, still_ext hup, by rw [show keysE ([] : List (ByteArray × α)) = [] by simp [keysE, keyL]]; exact nils_dz _ .nils⟩
  · obtain ⟨-, -, hm⟩ := hG mb _ h2
    cases c3
    obtain ⟨nn, D0, hown, hsz, hP⟩ := map_owns hm (by unfold maxLen; omega) hs
    refine (hA _ _ nn D0 w c2 hown (by omega)).mono fun e w' hh => ?_
    obtain ⟨v, ss, rfl, hperm, hrow, hup⟩ := hh
    refine ⟨v, g.still w, G, _, rfl, ⟨rfl, rfl⟩, still_rel hG hup, still_ext hup, ?_⟩
    have hsort : ss.mergeSort (fun x y => decide (x ≤ y)) = keyL l := mergeSort_of_perm (hperm.trans hP)
    rw [hsort] at hrow
    have hlen : ss.length = (keysE l).length := by rw [keysE, List.length_map, ← hsort, List.length_mergeSort]
    refine own_dz hrow hs1 hlen fun i cells hc => ?_
    simp only [keysE, List.getElem?_map, Option.map_eq_some_iff] at hc
    obtain ⟨s, hs', rfl⟩ := hc
    refine ⟨rfl, fun j x hx => ?_⟩
    match j with
    | 0 =>
      simp at hx
      subst hx
      exact ⟨encStr s, by simp [hs'], by simp [Value.oneCell'], .str _⟩
    | j + 1 => simp at hx
theorem names_bridgeC {s : Oth} {α : Type} {T : TypeId → TR} {fid : FuncId} (hs1 : (T 9).cells = 1) (he : ∃ fn, (Tryz.prog).funcs[fid]? = some fn ∧ (fn.name == "runtime.NumGoroutine") = false ∧ fn.body.isNone = false)
    (hA : ∀ (bb bm n : Nat) (D0 : DataW Unit) (w : World), w.cell? ⟨bb, 2, none⟩ = some (.map (some bm)) → w.ownsMap Tryz.prog 9 rdAny bm n D0 → Maps.size D0 ≤ 1000000 → Calls Tryz.prog fid #[.pointer (some ⟨bb, 2, none⟩)] w fun e w' => ∃ (v : Value) (ss : List (List UInt8)), e = .returned v ∧ ss.Perm (strKeys D0) ∧
      w'.ownsRow w.heap.size 9 1 v ss.length ((ss.mergeSort (fun x y => decide (x ≤ y))).map encStr) ∧ Up w w')
    (hN : ∀ (bb : Nat) (w : World), w.cell? ⟨bb, 2, none⟩ = some (.map none) → Calls Tryz.prog fid #[.pointer (some ⟨bb, 2, none⟩)] w fun e w' => e = .returned (.slice none 0 0) ∧ Up w w')
    (f : α → AV) (G : Glob) (b : Nat) (mv : AV) (n : Int) (l : List (ByteArray × α)) (h : StC s G b mv n (bk f l)) (hl : l.length ≤ 1000000) (hs : ∀ x ∈ l, x.1.size ≤ maxLen) :
    CallOk Tryz.prog T fid [.gptr b 2] G (fun v G' => v = .slc 9 (keysE l) ∧ G' = G) := by
  refine ⟨he, fun g us w hG hu hd => ?_⟩
  obtain ⟨h1, h2⟩ := h
  obtain ⟨u, rfl⟩ : ∃ u, us = #[u] := by
    obtain ⟨us⟩ := us
    match us, hu with
    | [u], _ => exact ⟨u, rfl⟩
  have hp := hd 0 _ u rfl rfl
  obtain ⟨hb1, hb2, cs, e0, hb3, hb4, hb5, hb6⟩ := hG b _ h1
  cases hp
  have c0 : ∃ u, cs[2]? = some u ∧ w.cell? ⟨g.beta b, 2, none⟩ = some u ∧ Dz T g w mv u := by
    simp only [List.length_cons, List.length_nil] at hb4
    have : 2 < cs.size := by omega
    refine ⟨cs[2], by simp [this], ?_, hb6 2 _ _ rfl (by simp [this])⟩
    simp [World.cell?, hb3, this]
  obtain ⟨u0, c1, c2, c3⟩ := c0
  rcases h2 with ⟨rfl, hnil⟩ | ⟨mb, rfl, h2⟩
  · have hl0 : l = [] := by simpa [bk] using hnil
    subst hl0
    cases c3
    refine (hN _ w c2).mono fun e w' hh => ?_
    obtain ⟨rfl, hup⟩ := hh
    exact ⟨_, g.still w, G, _, rfl, ⟨rfl, rfl⟩, still_rel hG hup, still_ext hup, by rw [show keysE ([] : List (ByteArray × α)) = [] by simp [keysE, keyL]]; exact nils_dz _ .nils⟩
  · obtain ⟨-, -, hm⟩ := hG mb _ h2
    cases c3
    obtain ⟨nn, D0, hown, hsz, hP⟩ := map_owns hm (by unfold maxLen; omega) hs
    refine (hA _ _ nn D0 w c2 hown (by omega)).mono fun e w' hh => ?_
    obtain ⟨v, ss, rfl, hperm, hrow, hup⟩ := hh
    refine ⟨v, g.still w, G, _, rfl, ⟨rfl, rfl⟩, still_rel hG hup, still_ext hup, ?_⟩
    have hsort : ss.mergeSort (fun x y => decide (x ≤ y)) = keyL l := mergeSort_of_perm (hperm.trans hP)
    rw [hsort] at hrow
    have hlen : ss.length = (keysE l).length := by rw [keysE, List.length_map, ← hsort, List.length_mergeSort]
    refine own_dz hrow hs1 hlen fun i cells hc => ?_
    simp only [keysE, List.getElem?_map, Option.map_eq_some_iff] at hc
    obtain ⟨s, hs', rfl⟩ := hc
    refine ⟨rfl, fun j x hx => ?_⟩
    match j with
    | 0 =>
      simp at hx
      subst hx
      exact ⟨encStr s, by simp [hs'], by simp [Value.oneCell'], .str _⟩
    | j + 1 => simp at hx
theorem names_bridgeQ {s : Oth} {α : Type} {T : TypeId → TR} {fid : FuncId} (hs1 : (T 9).cells = 1) (he : ∃ fn, (Tryz.prog).funcs[fid]? = some fn ∧ (fn.name == "runtime.NumGoroutine") = false ∧ fn.body.isNone = false)
    (hA : ∀ (bb bm n : Nat) (D0 : DataW Unit) (w : World), w.cell? ⟨bb, 4, none⟩ = some (.map (some bm)) → w.ownsMap Tryz.prog 9 rdAny bm n D0 → Maps.size D0 ≤ 1000000 → Calls Tryz.prog fid #[.pointer (some ⟨bb, 4, none⟩)] w fun e w' => ∃ (v : Value) (ss : List (List UInt8)), e = .returned v ∧ ss.Perm (strKeys D0) ∧
      w'.ownsRow w.heap.size 9 1 v ss.length ((ss.mergeSort (fun x y => decide (x ≤ y))).map encStr) ∧ Up w w')
    (hN : ∀ (bb : Nat) (w : World), w.cell? ⟨bb, 4, none⟩ = some (.map none) → Calls Tryz.prog fid #[.pointer (some ⟨bb, 4, none⟩)] w fun e w' => e = .returned (.slice none 0 0) ∧ Up w w')
    (f : α → AV) (G : Glob) (b : Nat) (mv : AV) (n : Int) (l : List (ByteArray × α)) (h : StQ s G b mv n (bk f l)) (hl : l.length ≤ 1000000) (hs : ∀ x ∈ l, x.1.size ≤ maxLen) :
    CallOk Tryz.prog T fid [.gptr b 4] G (fun v G' => v = .slc 9 (keysE l) ∧ G' = G) := by
  refine ⟨he, fun g us w hG hu hd => ?_⟩
  obtain ⟨h1, h2⟩ := h
  obtain ⟨u, rfl⟩ : ∃ u, us = #[u] := by
    obtain ⟨us⟩ := us
    match us, hu with
    | [u], _ => exact ⟨u, rfl⟩
  have hp := hd 0 _ u rfl rfl
  obtain ⟨hb1, hb2, cs, e0, hb3, hb4, hb5, hb6⟩ := hG b _ h1
  cases hp
  have c0 : ∃ u, cs[4]? = some u ∧ w.cell? ⟨g.beta b, 4, none⟩ = some u ∧ Dz T g w mv u := by
    simp only [List.length_cons, List.length_nil] at hb4
    have : 4 < cs.size := by omega
    refine ⟨cs[4], by simp [this], ?_, hb6 4 _ _ rfl (by simp [this])⟩
    simp [World.cell?, hb3, this]
  obtain ⟨u0, c1, c2, c3⟩ := c0
  rcases h2 with ⟨rfl, hnil⟩ | ⟨mb, rfl, h2⟩
  · have hl0 : l = [] := by simpa [bk] using hnil
    subst hl0
    cases c3
    refine (hN _ w c2).mono fun e w' hh => ?_
    obtain ⟨rfl, hup⟩ := hh
    exact ⟨_, g.still w, G, _, rfl, ⟨rfl, rfl⟩, still_rel hG hup, still_ext hup, by rw [show keysE ([] : List (ByteArray × α)) = [] by simp [keysE, keyL]]; exact nils_dz _ .nils⟩
  · obtain ⟨-, -, hm⟩ := hG mb _ h2
    cases c3
    obtain ⟨nn, D0, hown, hsz, hP⟩ := map_owns hm (by unfold maxLen; omega) hs
    refine (hA _ _ nn D0 w c2 hown (by omega)).mono fun e w' hh => ?_
    obtain ⟨v, ss, rfl, hperm, hrow, hup⟩ := hh
    refine ⟨v, g.still w, G, _, rfl, ⟨rfl, rfl⟩, still_rel hG hup, still_ext hup, ?_⟩
    have hsort : ss.mergeSort (fun x y => decide (x ≤ y)) = keyL l := mergeSort_of_perm (hperm.trans hP)
    rw [hsort] at hrow
    have hlen : ss.length = (keysE l).length := by rw [keysE, List.length_map, ← hsort, List.length_mergeSort]
    refine own_dz hrow hs1 hlen fun i cells hc => ?_
    simp only [keysE, List.getElem?_map, Option.map_eq_some_iff] at hc
    obtain ⟨s, hs', rfl⟩ := hc
    refine ⟨rfl, fun j x hx => ?_⟩
    match j with
    | 0 =>
      simp at hx
      subst hx
      exact ⟨encStr s, by simp [hs'], by simp [Value.oneCell'], .str _⟩
    | j + 1 => simp at hx
theorem names_bridgeL {s : Oth} {α : Type} {T : TypeId → TR} {fid : FuncId} (hs1 : (T 9).cells = 1) (he : ∃ fn, (Tryz.prog).funcs[fid]? = some fn ∧ (fn.name == "runtime.NumGoroutine") = false ∧ fn.body.isNone = false)
    (hA : ∀ (bb bm n : Nat) (D0 : DataW Unit) (w : World), w.cell? ⟨bb, 6, none⟩ = some (.map (some bm)) → w.ownsMap Tryz.prog 9 rdAny bm n D0 → Maps.size D0 ≤ 1000000 → Calls Tryz.prog fid #[.pointer (some ⟨bb, 6, none⟩)] w fun e w' => ∃ (v : Value) (ss : List (List UInt8)), e = .returned v ∧ ss.Perm (strKeys D0) ∧
      w'.ownsRow w.heap.size 9 1 v ss.length ((ss.mergeSort (fun x y => decide (x ≤ y))).map encStr) ∧ Up w w')
    (hN : ∀ (bb : Nat) (w : World), w.cell? ⟨bb, 6, none⟩ = some (.map none) → Calls Tryz.prog fid #[.pointer (some ⟨bb, 6, none⟩)] w fun e w' => e = .returned (.slice none 0 0) ∧ Up w w')
    (f : α → AV) (G : Glob) (b : Nat) (mv : AV) (n : Int) (l : List (ByteArray × α)) (h : StL s G b mv n (bk f l)) (hl : l.length ≤ 1000000) (hs : ∀ x ∈ l, x.1.size ≤ maxLen) :
    CallOk Tryz.prog T fid [.gptr b 6] G (fun v G' => v = .slc 9 (keysE l) ∧ G' = G) := by
  refine ⟨he, fun g us w hG hu hd => ?_⟩
  obtain ⟨h1, h2⟩ := h
  obtain ⟨u, rfl⟩ : ∃ u, us = #[u] := by
    obtain ⟨us⟩ := us
    match us, hu with
    | [u], _ => exact ⟨u, rfl⟩
  have hp := hd 0 _ u rfl rfl
  obtain ⟨hb1, hb2, cs, e0, hb3, hb4, hb5, hb6⟩ := hG b _ h1
  cases hp
  have c0 : ∃ u, cs[6]? = some u ∧ w.cell? ⟨g.beta b, 6, none⟩ = some u ∧ Dz T g w mv u := by
    simp only [List.length_cons, List.length_nil] at hb4
    have : 6 < cs.size := by omega
    refine ⟨cs[6], by simp [this], ?_, hb6 6 _ _ rfl (by simp [this])⟩
    simp [World.cell?, hb3, this]
  obtain ⟨u0, c1, c2, c3⟩ := c0
  rcases h2 with ⟨rfl, hnil⟩ | ⟨mb, rfl, h2⟩
  · have hl0 : l = [] := by simpa [bk] using hnil
    subst hl0
    cases c3
    refine (hN _ w c2).mono fun e w' hh => ?_
    obtain ⟨rfl, hup⟩ := hh
    exact ⟨_, g.still w, G, _, rfl, ⟨rfl, rfl⟩, still_rel hG hup, still_ext hup, by rw [show keysE ([] : List (ByteArray × α)) = [] by simp [keysE, keyL]]; exact nils_dz _ .nils⟩
  · obtain ⟨-, -, hm⟩ := hG mb _ h2
    cases c3
    obtain ⟨nn, D0, hown, hsz, hP⟩ := map_owns hm (by unfold maxLen; omega) hs
    refine (hA _ _ nn D0 w c2 hown (by omega)).mono fun e w' hh => ?_
    obtain ⟨v, ss, rfl, hperm, hrow, hup⟩ := hh
    refine ⟨v, g.still w, G, _, rfl, ⟨rfl, rfl⟩, still_rel hG hup, still_ext hup, ?_⟩
    have hsort : ss.mergeSort (fun x y => decide (x ≤ y)) = keyL l := mergeSort_of_perm (hperm.trans hP)
    rw [hsort] at hrow
    have hlen : ss.length = (keysE l).length := by rw [keysE, List.length_map, ← hsort, List.length_mergeSort]
    refine own_dz hrow hs1 hlen fun i cells hc => ?_
    simp only [keysE, List.getElem?_map, Option.map_eq_some_iff] at hc
    obtain ⟨s, hs', rfl⟩ := hc
    refine ⟨rfl, fun j x hx => ?_⟩
    match j with
    | 0 =>
      simp at hx
      subst hx
      exact ⟨encStr s, by simp [hs'], by simp [Value.oneCell'], .str _⟩
    | j + 1 => simp at hx
theorem Pknames_ok {s : Oth} (G : Glob) (b : Nat) (mv : AV) (n : Int) {α : Type} (f : α → AV) (l : List (ByteArray × α)) (h : StK s G b mv n (bk f l)) (hl : l.length ≤ 1000000) (hs : ∀ x ∈ l, x.1.size ≤ maxLen) :
    CallOk Tryz.prog TT 28 [.gptr b 0] G (fun v G' => v = .slc 9 (keysE l) ∧ G' = G) :=
  names_bridgeK rfl ⟨_, Tryz.func28, by decide, rfl⟩ knames_any knames_none f G b mv n l h hl hs
theorem Pcnames_ok {s : Oth} (G : Glob) (b : Nat) (mv : AV) (n : Int) {α : Type} (f : α → AV) (l : List (ByteArray × α)) (h : StC s G b mv n (bk f l)) (hl : l.length ≤ 1000000) (hs : ∀ x ∈ l, x.1.size ≤ maxLen) :
    CallOk Tryz.prog TT 32 [.gptr b 2] G (fun v G' => v = .slc 9 (keysE l) ∧ G' = G) :=
  names_bridgeC rfl ⟨_, Tryz.func32, by decide, rfl⟩ Pcnames_any Pcnames_none f G b mv n l h hl hs
theorem Pfnames_ok {s : Oth} (G : Glob) (b : Nat) (mv : AV) (n : Int) {α : Type} (f : α → AV) (l : List (ByteArray × α)) (h : StQ s G b mv n (bk f l)) (hl : l.length ≤ 1000000) (hs : ∀ x ∈ l, x.1.size ≤ maxLen) :
    CallOk Tryz.prog TT 36 [.gptr b 4] G (fun v G' => v = .slc 9 (keysE l) ∧ G' = G) :=
  names_bridgeQ rfl ⟨_, Tryz.func36, by decide, rfl⟩ Pfnames_any Pfnames_none f G b mv n l h hl hs
theorem Plnames_ok {s : Oth} (G : Glob) (b : Nat) (mv : AV) (n : Int) {α : Type} (f : α → AV) (l : List (ByteArray × α)) (h : StL s G b mv n (bk f l)) (hl : l.length ≤ 1000000) (hs : ∀ x ∈ l, x.1.size ≤ maxLen) :
    CallOk Tryz.prog TT 40 [.gptr b 6] G (fun v G' => v = .slc 9 (keysE l) ∧ G' = G) :=
  names_bridgeL rfl ⟨_, Tryz.func40, by decide, rfl⟩ (fun bb bm n D0 w h1 h2 h3 => (Plnames_any bb bm n D0 w h1 h2 h3).mono fun e w' hh => by obtain ⟨v, ss, e1, e2, e3, _, e4⟩ := hh; exact ⟨v, ss, e1, e2, e3, e4⟩) Plnames_nomap f G b mv n l h hl hs
end Go.Proofs.YtpihanlillbhkaaGreatDoor
end

section
/- lease, at its place within a partition. Printed by genpart2.py. -/
set_option maxRecDepth 100000
set_option linter.unusedSimpArgs false
set_option linter.unusedVariables false
namespace Go.Proofs.YtpihanlillbhkaaGreatDoor
open Go Go.RowKit Go.Proofs

theorem Plhold_ok {s : Oth} (G : Glob) (b : Nat) (mv : AV) (n : Int) (l : LeL) (k : ByteArray) (h : StL s G b mv n (bk lav l)) : CallOk Tryz.prog TT 42 [.gptr b 6, .str k] G (fun v G' => v = hold l k ∧ G' = G) := by
  obtain ⟨h1, ⟨rfl, hl⟩ | ⟨mb, rfl, h2⟩⟩ := h
  · cases lbk_nil hl
    refine call_sem tt_ok Tryz.func42 rfl (by kernel_rfl) Tryz.ntmps42 Tryz.results42 ?_; conv => whnf
    repeat' (first | ((first | refine Sem.st tt_ok rfl ?_ | refine BS_t (by assumption) ?_ | refine BS_f (by assumption) ?_ | refine atG (by repeat (first | assumption | exact setG_same _ _ _ | refine atNe (by first | assumption | exact Ne.symm (by assumption)) ?_)) ?_ | refine nthKi (by assumption) ?_ | refine ⟨_, ⟨(by omega), (by assumption)⟩, ?_⟩ | refine And.intro (by first | decide | omega) ?_); conv => whnf) | refine Sem.seqS ?_ | refine Sem.block ?_)
    refine draw_sound (eff := []) tt_ok (by kernel_rfl) (by kernel_rfl) ?_; conv => whnf
    repeat' (first | ((first | refine BS_t (by assumption) ?_ | refine BS_f (by assumption) ?_ | refine atG (by repeat (first | assumption | exact setG_same _ _ _ | refine atNe (by first | assumption | exact Ne.symm (by assumption)) ?_)) ?_ | refine nthKi (by assumption) ?_ | refine ⟨_, ⟨(by omega), (by assumption)⟩, ?_⟩ | refine And.intro (by first | decide | omega) ?_); conv => whnf) | fail)
    repeat' (first | ((first | refine Sem.st tt_ok rfl ?_ | refine BS_t (by assumption) ?_ | refine BS_f (by assumption) ?_ | refine atG (by repeat (first | assumption | exact setG_same _ _ _ | refine atNe (by first | assumption | exact Ne.symm (by assumption)) ?_)) ?_ | refine nthKi (by assumption) ?_ | refine ⟨_, ⟨(by omega), (by assumption)⟩, ?_⟩ | refine And.intro (by first | decide | omega) ?_); conv => whnf) | refine Sem.seqS ?_ | refine Sem.block ?_)
    exact ⟨_, fun _ _ h => h, rfl, rfl⟩
  · refine call_sem tt_ok Tryz.func42 rfl (by kernel_rfl) Tryz.ntmps42 Tryz.results42 ?_; conv => whnf
    repeat' (first | ((first | refine Sem.st tt_ok rfl ?_ | refine BS_t (by assumption) ?_ | refine BS_f (by assumption) ?_ | refine atG (by repeat (first | assumption | exact setG_same _ _ _ | refine atNe (by first | assumption | exact Ne.symm (by assumption)) ?_)) ?_ | refine nthKi (by assumption) ?_ | refine ⟨_, ⟨(by omega), (by assumption)⟩, ?_⟩ | refine And.intro (by first | decide | omega) ?_); conv => whnf) | refine Sem.seqS ?_ | refine Sem.block ?_)
    refine ⟨_, h2, _, bk_get lav k l, ?_⟩
    unfold hold
    cases lget l k with
    | some v =>
      obtain ⟨x, t⟩ := v
      repeat' (first | ((first | refine Sem.st tt_ok rfl ?_ | refine BS_t (by assumption) ?_ | refine BS_f (by assumption) ?_ | refine atG (by repeat (first | assumption | exact setG_same _ _ _ | refine atNe (by first | assumption | exact Ne.symm (by assumption)) ?_)) ?_ | refine nthKi (by assumption) ?_ | refine ⟨_, ⟨(by omega), (by assumption)⟩, ?_⟩ | refine And.intro (by first | decide | omega) ?_); conv => whnf) | refine Sem.seqS ?_ | refine Sem.block ?_)
      refine draw_sound (eff := []) tt_ok (by kernel_rfl) (by kernel_rfl) ?_; conv => whnf
      repeat' (first | ((first | refine BS_t (by assumption) ?_ | refine BS_f (by assumption) ?_ | refine atG (by repeat (first | assumption | exact setG_same _ _ _ | refine atNe (by first | assumption | exact Ne.symm (by assumption)) ?_)) ?_ | refine nthKi (by assumption) ?_ | refine ⟨_, ⟨(by omega), (by assumption)⟩, ?_⟩ | refine And.intro (by first | decide | omega) ?_); conv => whnf) | fail)
      repeat' (first | ((first | refine Sem.st tt_ok rfl ?_ | refine BS_t (by assumption) ?_ | refine BS_f (by assumption) ?_ | refine atG (by repeat (first | assumption | exact setG_same _ _ _ | refine atNe (by first | assumption | exact Ne.symm (by assumption)) ?_)) ?_ | refine nthKi (by assumption) ?_ | refine ⟨_, ⟨(by omega), (by assumption)⟩, ?_⟩ | refine And.intro (by first | decide | omega) ?_); conv => whnf) | refine Sem.seqS ?_ | refine Sem.block ?_)
      exact ⟨_, fun _ _ h => h, rfl, rfl⟩
    | none =>
      repeat' (first | ((first | refine Sem.st tt_ok rfl ?_ | refine BS_t (by assumption) ?_ | refine BS_f (by assumption) ?_ | refine atG (by repeat (first | assumption | exact setG_same _ _ _ | refine atNe (by first | assumption | exact Ne.symm (by assumption)) ?_)) ?_ | refine nthKi (by assumption) ?_ | refine ⟨_, ⟨(by omega), (by assumption)⟩, ?_⟩ | refine And.intro (by first | decide | omega) ?_); conv => whnf) | refine Sem.seqS ?_ | refine Sem.block ?_)
      refine draw_sound (eff := []) tt_ok (by kernel_rfl) (by kernel_rfl) ?_; conv => whnf
      repeat' (first | ((first | refine BS_t (by assumption) ?_ | refine BS_f (by assumption) ?_ | refine atG (by repeat (first | assumption | exact setG_same _ _ _ | refine atNe (by first | assumption | exact Ne.symm (by assumption)) ?_)) ?_ | refine nthKi (by assumption) ?_ | refine ⟨_, ⟨(by omega), (by assumption)⟩, ?_⟩ | refine And.intro (by first | decide | omega) ?_); conv => whnf) | fail)
      repeat' (first | ((first | refine Sem.st tt_ok rfl ?_ | refine BS_t (by assumption) ?_ | refine BS_f (by assumption) ?_ | refine atG (by repeat (first | assumption | exact setG_same _ _ _ | refine atNe (by first | assumption | exact Ne.symm (by assumption)) ?_)) ?_ | refine nthKi (by assumption) ?_ | refine ⟨_, ⟨(by omega), (by assumption)⟩, ?_⟩ | refine And.intro (by first | decide | omega) ?_); conv => whnf) | refine Sem.seqS ?_ | refine Sem.block ?_)
      exact ⟨_, fun _ _ h => h, rfl, rfl⟩
theorem Plgrows_ok {s : Oth} (G : Glob) (b : Nat) (mv : AV) (n : Int) (l : LeL) (k v : ByteArray) (hk : k.size ≤ 140737488351232) (hv : v.size ≤ 140737488351232) (h : StL s G b mv n (bk lav l)) : CallOk Tryz.prog TT 54 [.gptr b 6, .str k, .str v] G (fun x G' => x = .int .i64 (lgrow l k v) ∧ G' = G) := by
  have hg := Plhold_ok G b mv n l k h
  unfold hold at hg
  unfold lgrow
  cases hq : lget l k with
  | some w =>
    obtain ⟨x, t⟩ := w
    simp only [hq] at hg
    refine call_body tt_ok Tryz.func54 rfl (by kernel_rfl) Tryz.ntmps54 Tryz.results54 ?_; conv => whnf
    refine hg.on ?_; conv => whnf
    repeat' (first | ((first | refine BS_t (by assumption) ?_ | refine BS_f (by assumption) ?_ | refine atG (by repeat (first | assumption | exact setG_same _ _ _ | refine atNe (by first | assumption | exact Ne.symm (by assumption)) ?_)) ?_ | refine nthKi (by assumption) ?_ | refine ⟨_, ⟨(by omega), (by assumption)⟩, ?_⟩ | refine And.intro (by first | decide | omega) ?_); conv => whnf) | fail)
    exact ⟨_, fun _ _ h => h, rfl, rfl⟩
  | none =>
    simp only [hq] at hg
    refine call_body tt_ok Tryz.func54 rfl (by kernel_rfl) Tryz.ntmps54 Tryz.results54 ?_; conv => whnf
    refine hg.on ?_; conv => whnf
    repeat' (first | ((first | refine BS_t (by assumption) ?_ | refine BS_f (by assumption) ?_ | refine atG (by repeat (first | assumption | exact setG_same _ _ _ | refine atNe (by first | assumption | exact Ne.symm (by assumption)) ?_)) ?_ | refine nthKi (by assumption) ?_ | refine ⟨_, ⟨(by omega), (by assumption)⟩, ?_⟩ | refine And.intro (by first | decide | omega) ?_); conv => whnf) | fail)
    refine ⟨_, fun _ _ h => h, ?_, rfl⟩
    rw [IntWalk.i64_in (24 + (k.size : Int)) (by omega), IntWalk.i64_in _ (by omega)]
theorem Pltake_no {s : Oth} (G : Glob) (b : Nat) (mv : AV) (n : Int) (l : LeL) (k v : ByteArray) (t now : Int) (h : StL s G b mv n (bk lav l)) (x : ByteArray) (u : Int) (ho : lget l k = some (x, u)) (hu : 1 ≤ u) (hx : x ≠ v) :
    CallOk Tryz.prog TT 56 [.gptr b 6, .str k, .str v, .int .i64 t, .int .i64 now] G (fun x G' => x = .bool false ∧ G' = G) := by
  obtain ⟨h1, ⟨rfl, hl⟩ | ⟨mb, rfl, h2⟩⟩ := h
  · cases lbk_nil hl
    cases ho
  · refine call_sem tt_ok Tryz.func56 rfl (by kernel_rfl) Tryz.ntmps56 Tryz.results56 ?_; conv => whnf
    repeat' (first | ((first | refine Sem.st tt_ok rfl ?_ | refine BS_t (by assumption) ?_ | refine BS_f (by assumption) ?_ | refine atG (by repeat (first | assumption | exact setG_same _ _ _ | refine atNe (by first | assumption | exact Ne.symm (by assumption)) ?_)) ?_ | refine nthKi (by assumption) ?_ | refine ⟨_, ⟨(by omega), (by assumption)⟩, ?_⟩ | refine And.intro (by first | decide | omega) ?_); conv => whnf) | refine Sem.seqS ?_ | refine Sem.block ?_)
    refine ⟨_, h2, _, (bk_get lav k l).trans (congrArg _ ho), ?_⟩
    repeat' (first | ((first | refine Sem.st tt_ok rfl ?_ | refine BS_t (by assumption) ?_ | refine BS_f (by assumption) ?_ | refine atG (by repeat (first | assumption | exact setG_same _ _ _ | refine atNe (by first | assumption | exact Ne.symm (by assumption)) ?_)) ?_ | refine nthKi (by assumption) ?_ | refine ⟨_, ⟨(by omega), (by assumption)⟩, ?_⟩ | refine And.intro (by first | decide | omega) ?_); conv => whnf) | refine Sem.seqS ?_ | refine Sem.block ?_)
    have e1 : (!((x, u).fst.toList == (⟨#[]⟩ : ByteArray).toList && ((x, u).snd == 0 && true))) = true := by
      have : (u == 0) = false := by rw [beq_eq_false_iff_ne]; omega
      simp [this]
    rw [e1]
    conv => whnf
    repeat' (first | ((first | refine Sem.st tt_ok rfl ?_ | refine BS_t (by assumption) ?_ | refine BS_f (by assumption) ?_ | refine atG (by repeat (first | assumption | exact setG_same _ _ _ | refine atNe (by first | assumption | exact Ne.symm (by assumption)) ?_)) ?_ | refine nthKi (by assumption) ?_ | refine ⟨_, ⟨(by omega), (by assumption)⟩, ?_⟩ | refine And.intro (by first | decide | omega) ?_); conv => whnf) | refine Sem.seqS ?_ | refine Sem.block ?_)
    have e2 : (!((x, u).fst.toList == v.toList)) = true := by
      have : x.toList ≠ v.toList := fun e => hx (bl_inj e)
      simp [this]
    rw [e2]
    conv => whnf
    repeat' (first | ((first | refine Sem.st tt_ok rfl ?_ | refine BS_t (by assumption) ?_ | refine BS_f (by assumption) ?_ | refine atG (by repeat (first | assumption | exact setG_same _ _ _ | refine atNe (by first | assumption | exact Ne.symm (by assumption)) ?_)) ?_ | refine nthKi (by assumption) ?_ | refine ⟨_, ⟨(by omega), (by assumption)⟩, ?_⟩ | refine And.intro (by first | decide | omega) ?_); conv => whnf) | refine Sem.seqS ?_ | refine Sem.block ?_)
    exact ⟨_, fun _ _ h => h, rfl, rfl⟩
theorem Pltake_ok {s : Oth} (G : Glob) (b : Nat) (mv : AV) (n : Int) (l : LeL) (k v : ByteArray) (t now : Int) (hk : k.size ≤ 140737488351232) (hv : v.size ≤ 140737488351232) (n0 : 0 ≤ n) (n1 : n ≤ 4611686018427387904) (h : StL s G b mv n (bk lav l)) (ho : ∀ x u, lget l k = some (x, u) → 1 ≤ u ∧ x = v) :
    CallOk Tryz.prog TT 56 [.gptr b 6, .str k, .str v, .int .i64 t, .int .i64 now] G (fun x G' => x = .bool true ∧ ∃ mv', StL s G' b mv' (n + lgrow l k v) (bk lav (lput l k (v, tillOf t now))) ∧ Kept G G' b mv mv') := by
  have hg := Plgrows_ok G b mv n l k v hk hv h
  have hw : IntKind.i64.wrap (n + lgrow l k v) = n + lgrow l k v := IntWalk.i64_in _ (by
    unfold lgrow
    split <;> omega)
  obtain ⟨h1, ⟨rfl, hl⟩ | ⟨mb, rfl, h2⟩⟩ := h
  · cases lbk_nil hl
    refine call_sem tt_ok Tryz.func56 rfl (by kernel_rfl) Tryz.ntmps56 Tryz.results56 ?_; conv => whnf
    repeat' (first | ((first | refine Sem.st tt_ok rfl ?_ | refine BS_t (by assumption) ?_ | refine BS_f (by assumption) ?_ | refine atG (by repeat (first | assumption | exact setG_same _ _ _ | refine atNe (by first | assumption | exact Ne.symm (by assumption)) ?_)) ?_ | refine nthKi (by assumption) ?_ | refine ⟨_, ⟨(by omega), (by assumption)⟩, ?_⟩ | refine And.intro (by first | decide | omega) ?_); conv => whnf) | refine Sem.seqS ?_ | refine Sem.block ?_)
    have e1 : (!((⟨#[]⟩ : ByteArray).toList == (⟨#[]⟩ : ByteArray).toList && ((0 : Int) == 0 && true))) = false := by simp
    rw [e1]
    conv => whnf
    repeat' (first | ((first | refine Sem.st tt_ok rfl ?_ | refine BS_t (by assumption) ?_ | refine BS_f (by assumption) ?_ | refine atG (by repeat (first | assumption | exact setG_same _ _ _ | refine atNe (by first | assumption | exact Ne.symm (by assumption)) ?_)) ?_ | refine nthKi (by assumption) ?_ | refine ⟨_, ⟨(by omega), (by assumption)⟩, ?_⟩ | refine And.intro (by first | decide | omega) ?_); conv => whnf) | refine Sem.seqS ?_ | refine Sem.block ?_)
    refine draw_sound (eff := []) tt_ok (by kernel_rfl) (by kernel_rfl) ?_; conv => whnf
    repeat' (first | ((first | refine BS_t (by assumption) ?_ | refine BS_f (by assumption) ?_ | refine atG (by repeat (first | assumption | exact setG_same _ _ _ | refine atNe (by first | assumption | exact Ne.symm (by assumption)) ?_)) ?_ | refine nthKi (by assumption) ?_ | refine ⟨_, ⟨(by omega), (by assumption)⟩, ?_⟩ | refine And.intro (by first | decide | omega) ?_); conv => whnf) | fail)
    refine ⟨_, _, hg, ?_⟩; (conv => whnf); refine And.intro rfl ?_; conv => whnf
    repeat' (first | ((first | refine BS_t (by assumption) ?_ | refine BS_f (by assumption) ?_ | refine atG (by repeat (first | assumption | exact setG_same _ _ _ | refine atNe (by first | assumption | exact Ne.symm (by assumption)) ?_)) ?_ | refine nthKi (by assumption) ?_ | refine ⟨_, ⟨(by omega), (by assumption)⟩, ?_⟩ | refine And.intro (by first | decide | omega) ?_); conv => whnf) | fail)
    rw [hw]
    repeat' (first | ((first | refine Sem.st tt_ok rfl ?_ | refine BS_t (by assumption) ?_ | refine BS_f (by assumption) ?_ | refine atG (by repeat (first | assumption | exact setG_same _ _ _ | refine atNe (by first | assumption | exact Ne.symm (by assumption)) ?_)) ?_ | refine nthKi (by assumption) ?_ | refine ⟨_, ⟨(by omega), (by assumption)⟩, ?_⟩ | refine And.intro (by first | decide | omega) ?_); conv => whnf) | refine Sem.seqS ?_ | refine Sem.block ?_)
    intro mb hmb
    conv => whnf
    repeat' (first | ((first | refine Sem.st tt_ok rfl ?_ | refine BS_t (by assumption) ?_ | refine BS_f (by assumption) ?_ | refine atG (by repeat (first | assumption | exact setG_same _ _ _ | refine atNe (by first | assumption | exact Ne.symm (by assumption)) ?_)) ?_ | refine nthKi (by assumption) ?_ | refine ⟨_, ⟨(by omega), (by assumption)⟩, ?_⟩ | refine And.intro (by first | decide | omega) ?_); conv => whnf) | refine Sem.seqS ?_ | refine Sem.block ?_)
    have hne : mb ≠ b := by rintro rfl; simp [setG_same] at hmb
    repeat' (first | ((first | refine Sem.st tt_ok rfl ?_ | refine BS_t (by assumption) ?_ | refine BS_f (by assumption) ?_ | refine atG (by repeat (first | assumption | exact setG_same _ _ _ | refine atNe (by first | assumption | exact Ne.symm (by assumption)) ?_)) ?_ | refine nthKi (by assumption) ?_ | refine ⟨_, ⟨(by omega), (by assumption)⟩, ?_⟩ | refine And.intro (by first | decide | omega) ?_); conv => whnf) | refine Sem.seqS ?_ | refine Sem.block ?_)
    refine Exists.intro _ (And.intro (by repeat (first | assumption | exact setG_same _ _ _ | refine atNe (by first | assumption | exact Ne.symm (by assumption)) ?_)) ?_); conv => whnf
    repeat' (first | ((first | refine Sem.st tt_ok rfl ?_ | refine BS_t (by assumption) ?_ | refine BS_f (by assumption) ?_ | refine atG (by repeat (first | assumption | exact setG_same _ _ _ | refine atNe (by first | assumption | exact Ne.symm (by assumption)) ?_)) ?_ | refine nthKi (by assumption) ?_ | refine ⟨_, ⟨(by omega), (by assumption)⟩, ?_⟩ | refine And.intro (by first | decide | omega) ?_); conv => whnf) | refine Sem.seqS ?_ | refine Sem.block ?_)
    refine ⟨_, fun _ _ h => h, rfl, .mp mb, ⟨by repeat (first | assumption | exact setG_same _ _ _ | refine atNe (by first | assumption | exact Ne.symm (by assumption)) ?_), .inr ⟨mb, rfl, (setG_same _ _ _).trans (congrArg (fun z => some (GB.map none z)) (lput_bk [] k v t now))⟩⟩, .inr ⟨rfl, mb, by rwa [setG_ne _ _ hne] at hmb, rfl⟩, fun i x hi hb _ => ?_⟩
    have : i ≠ mb := by rintro rfl; rw [setG_ne _ _ hne] at hmb; simp [hmb] at hi
    simpa [setG, hb, this] using hi
  · have hne : mb ≠ b := by rintro rfl; simp [h1] at h2
    refine call_sem tt_ok Tryz.func56 rfl (by kernel_rfl) Tryz.ntmps56 Tryz.results56 ?_; conv => whnf
    repeat' (first | ((first | refine Sem.st tt_ok rfl ?_ | refine BS_t (by assumption) ?_ | refine BS_f (by assumption) ?_ | refine atG (by repeat (first | assumption | exact setG_same _ _ _ | refine atNe (by first | assumption | exact Ne.symm (by assumption)) ?_)) ?_ | refine nthKi (by assumption) ?_ | refine ⟨_, ⟨(by omega), (by assumption)⟩, ?_⟩ | refine And.intro (by first | decide | omega) ?_); conv => whnf) | refine Sem.seqS ?_ | refine Sem.block ?_)
    refine ⟨_, h2, _, bk_get lav k l, ?_⟩
    cases hq : lget l k with
    | some x =>
      obtain ⟨x, u⟩ := x
      obtain ⟨hu, rfl⟩ := ho x u hq
      repeat' (first | ((first | refine Sem.st tt_ok rfl ?_ | refine BS_t (by assumption) ?_ | refine BS_f (by assumption) ?_ | refine atG (by repeat (first | assumption | exact setG_same _ _ _ | refine atNe (by first | assumption | exact Ne.symm (by assumption)) ?_)) ?_ | refine nthKi (by assumption) ?_ | refine ⟨_, ⟨(by omega), (by assumption)⟩, ?_⟩ | refine And.intro (by first | decide | omega) ?_); conv => whnf) | refine Sem.seqS ?_ | refine Sem.block ?_)
      have e1 : (!((x, u).fst.toList == (⟨#[]⟩ : ByteArray).toList && ((x, u).snd == 0 && true))) = true := by
        have : (u == 0) = false := by rw [beq_eq_false_iff_ne]; omega
        simp [this]
      rw [e1]
      conv => whnf
      repeat' (first | ((first | refine Sem.st tt_ok rfl ?_ | refine BS_t (by assumption) ?_ | refine BS_f (by assumption) ?_ | refine atG (by repeat (first | assumption | exact setG_same _ _ _ | refine atNe (by first | assumption | exact Ne.symm (by assumption)) ?_)) ?_ | refine nthKi (by assumption) ?_ | refine ⟨_, ⟨(by omega), (by assumption)⟩, ?_⟩ | refine And.intro (by first | decide | omega) ?_); conv => whnf) | refine Sem.seqS ?_ | refine Sem.block ?_)
      have e2 : (!((x, u).fst.toList == x.toList)) = false := by simp
      rw [e2]
      conv => whnf
      repeat' (first | ((first | refine Sem.st tt_ok rfl ?_ | refine BS_t (by assumption) ?_ | refine BS_f (by assumption) ?_ | refine atG (by repeat (first | assumption | exact setG_same _ _ _ | refine atNe (by first | assumption | exact Ne.symm (by assumption)) ?_)) ?_ | refine nthKi (by assumption) ?_ | refine ⟨_, ⟨(by omega), (by assumption)⟩, ?_⟩ | refine And.intro (by first | decide | omega) ?_); conv => whnf) | refine Sem.seqS ?_ | refine Sem.block ?_)
      refine draw_sound (eff := []) tt_ok (by kernel_rfl) (by kernel_rfl) ?_; conv => whnf
      repeat' (first | ((first | refine BS_t (by assumption) ?_ | refine BS_f (by assumption) ?_ | refine atG (by repeat (first | assumption | exact setG_same _ _ _ | refine atNe (by first | assumption | exact Ne.symm (by assumption)) ?_)) ?_ | refine nthKi (by assumption) ?_ | refine ⟨_, ⟨(by omega), (by assumption)⟩, ?_⟩ | refine And.intro (by first | decide | omega) ?_); conv => whnf) | fail)
      refine ⟨_, _, hg, ?_⟩; (conv => whnf); refine And.intro rfl ?_; conv => whnf
      repeat' (first | ((first | refine BS_t (by assumption) ?_ | refine BS_f (by assumption) ?_ | refine atG (by repeat (first | assumption | exact setG_same _ _ _ | refine atNe (by first | assumption | exact Ne.symm (by assumption)) ?_)) ?_ | refine nthKi (by assumption) ?_ | refine ⟨_, ⟨(by omega), (by assumption)⟩, ?_⟩ | refine And.intro (by first | decide | omega) ?_); conv => whnf) | fail)
      rw [hw]
      repeat' (first | ((first | refine Sem.st tt_ok rfl ?_ | refine BS_t (by assumption) ?_ | refine BS_f (by assumption) ?_ | refine atG (by repeat (first | assumption | exact setG_same _ _ _ | refine atNe (by first | assumption | exact Ne.symm (by assumption)) ?_)) ?_ | refine nthKi (by assumption) ?_ | refine ⟨_, ⟨(by omega), (by assumption)⟩, ?_⟩ | refine And.intro (by first | decide | omega) ?_); conv => whnf) | refine Sem.seqS ?_ | refine Sem.block ?_)
      refine Exists.intro _ (And.intro (by repeat (first | assumption | exact setG_same _ _ _ | refine atNe (by first | assumption | exact Ne.symm (by assumption)) ?_)) ?_); conv => whnf
      repeat' (first | ((first | refine Sem.st tt_ok rfl ?_ | refine BS_t (by assumption) ?_ | refine BS_f (by assumption) ?_ | refine atG (by repeat (first | assumption | exact setG_same _ _ _ | refine atNe (by first | assumption | exact Ne.symm (by assumption)) ?_)) ?_ | refine nthKi (by assumption) ?_ | refine ⟨_, ⟨(by omega), (by assumption)⟩, ?_⟩ | refine And.intro (by first | decide | omega) ?_); conv => whnf) | refine Sem.seqS ?_ | refine Sem.block ?_)
      refine ⟨_, fun _ _ h => h, rfl, .mp mb, ⟨by repeat (first | assumption | exact setG_same _ _ _ | refine atNe (by first | assumption | exact Ne.symm (by assumption)) ?_), .inr ⟨mb, rfl, (setG_same _ _ _).trans (congrArg (fun z => some (GB.map none z)) (lput_bk l k _ t now))⟩⟩, .inl rfl, fun i x hi hb hm => ?_⟩
      have : i ≠ mb := by rintro rfl; exact hm rfl
      simpa [setG, hb, this] using hi
    | none =>
      repeat' (first | ((first | refine Sem.st tt_ok rfl ?_ | refine BS_t (by assumption) ?_ | refine BS_f (by assumption) ?_ | refine atG (by repeat (first | assumption | exact setG_same _ _ _ | refine atNe (by first | assumption | exact Ne.symm (by assumption)) ?_)) ?_ | refine nthKi (by assumption) ?_ | refine ⟨_, ⟨(by omega), (by assumption)⟩, ?_⟩ | refine And.intro (by first | decide | omega) ?_); conv => whnf) | refine Sem.seqS ?_ | refine Sem.block ?_)
      have e1 : (!((⟨#[]⟩ : ByteArray).toList == (⟨#[]⟩ : ByteArray).toList && ((0 : Int) == 0 && true))) = false := by simp
      rw [e1]
      conv => whnf
      repeat' (first | ((first | refine Sem.st tt_ok rfl ?_ | refine BS_t (by assumption) ?_ | refine BS_f (by assumption) ?_ | refine atG (by repeat (first | assumption | exact setG_same _ _ _ | refine atNe (by first | assumption | exact Ne.symm (by assumption)) ?_)) ?_ | refine nthKi (by assumption) ?_ | refine ⟨_, ⟨(by omega), (by assumption)⟩, ?_⟩ | refine And.intro (by first | decide | omega) ?_); conv => whnf) | refine Sem.seqS ?_ | refine Sem.block ?_)
      refine draw_sound (eff := []) tt_ok (by kernel_rfl) (by kernel_rfl) ?_; conv => whnf
      repeat' (first | ((first | refine BS_t (by assumption) ?_ | refine BS_f (by assumption) ?_ | refine atG (by repeat (first | assumption | exact setG_same _ _ _ | refine atNe (by first | assumption | exact Ne.symm (by assumption)) ?_)) ?_ | refine nthKi (by assumption) ?_ | refine ⟨_, ⟨(by omega), (by assumption)⟩, ?_⟩ | refine And.intro (by first | decide | omega) ?_); conv => whnf) | fail)
      refine ⟨_, _, hg, ?_⟩; (conv => whnf); refine And.intro rfl ?_; conv => whnf
      repeat' (first | ((first | refine BS_t (by assumption) ?_ | refine BS_f (by assumption) ?_ | refine atG (by repeat (first | assumption | exact setG_same _ _ _ | refine atNe (by first | assumption | exact Ne.symm (by assumption)) ?_)) ?_ | refine nthKi (by assumption) ?_ | refine ⟨_, ⟨(by omega), (by assumption)⟩, ?_⟩ | refine And.intro (by first | decide | omega) ?_); conv => whnf) | fail)
      rw [hw]
      repeat' (first | ((first | refine Sem.st tt_ok rfl ?_ | refine BS_t (by assumption) ?_ | refine BS_f (by assumption) ?_ | refine atG (by repeat (first | assumption | exact setG_same _ _ _ | refine atNe (by first | assumption | exact Ne.symm (by assumption)) ?_)) ?_ | refine nthKi (by assumption) ?_ | refine ⟨_, ⟨(by omega), (by assumption)⟩, ?_⟩ | refine And.intro (by first | decide | omega) ?_); conv => whnf) | refine Sem.seqS ?_ | refine Sem.block ?_)
      refine Exists.intro _ (And.intro (by repeat (first | assumption | exact setG_same _ _ _ | refine atNe (by first | assumption | exact Ne.symm (by assumption)) ?_)) ?_); conv => whnf
      repeat' (first | ((first | refine Sem.st tt_ok rfl ?_ | refine BS_t (by assumption) ?_ | refine BS_f (by assumption) ?_ | refine atG (by repeat (first | assumption | exact setG_same _ _ _ | refine atNe (by first | assumption | exact Ne.symm (by assumption)) ?_)) ?_ | refine nthKi (by assumption) ?_ | refine ⟨_, ⟨(by omega), (by assumption)⟩, ?_⟩ | refine And.intro (by first | decide | omega) ?_); conv => whnf) | refine Sem.seqS ?_ | refine Sem.block ?_)
      refine ⟨_, fun _ _ h => h, rfl, .mp mb, ⟨by repeat (first | assumption | exact setG_same _ _ _ | refine atNe (by first | assumption | exact Ne.symm (by assumption)) ?_), .inr ⟨mb, rfl, (setG_same _ _ _).trans (congrArg (fun z => some (GB.map none z)) (lput_bk l k _ t now))⟩⟩, .inl rfl, fun i x hi hb hm => ?_⟩
      have : i ≠ mb := by rintro rfl; exact hm rfl
      simpa [setG, hb, this] using hi
theorem Pldrop_ok {s : Oth} (G : Glob) (b : Nat) (mv : AV) (n : Int) (l : LeL) (k x : ByteArray) (u : Int) (hk : k.size ≤ 140737488351232) (hx : x.size ≤ 140737488351232) (n0 : 0 ≤ n) (n1 : n ≤ 4611686018427387904) (h : StL s G b mv n (bk lav l)) (hq : lget l k = some (x, u)) :
    CallOk Tryz.prog TT 61 [.gptr b 6, .str k] G (fun v G' => v = .tup [] ∧ StL s G' b mv (n - (24 + k.size + x.size)) (bk lav (ldel l k)) ∧ Kept G G' b mv mv) := by
  have i1 : IntKind.i64.wrap (24 + (k.size : Int)) = 24 + k.size := IntWalk.i64_in _ (by omega)
  have i2 : IntKind.i64.wrap (24 + (k.size : Int) + x.size) = 24 + k.size + x.size := IntWalk.i64_in _ (by omega)
  have i3 : IntKind.i64.wrap (n - (24 + (k.size : Int) + x.size)) = n - (24 + k.size + x.size) := IntWalk.i64_in _ (by omega)
  obtain ⟨h1, ⟨rfl, hl⟩ | ⟨mb, rfl, h2⟩⟩ := h
  · cases lbk_nil hl
    cases hq
  · have hne : mb ≠ b := by rintro rfl; simp [h1] at h2
    refine call_sem tt_ok Tryz.func61 rfl (by kernel_rfl) Tryz.ntmps61 Tryz.results61 ?_; conv => whnf
    repeat' (first | ((first | refine Sem.st tt_ok rfl ?_ | refine BS_t (by assumption) ?_ | refine BS_f (by assumption) ?_ | refine atG (by repeat (first | assumption | exact setG_same _ _ _ | refine atNe (by first | assumption | exact Ne.symm (by assumption)) ?_)) ?_ | refine nthKi (by assumption) ?_ | refine ⟨_, ⟨(by omega), (by assumption)⟩, ?_⟩ | refine And.intro (by first | decide | omega) ?_); conv => whnf) | refine Sem.seqS ?_ | refine Sem.block ?_)
    refine draw_sound (eff := []) tt_ok (by kernel_rfl) (by kernel_rfl) ?_; conv => whnf
    repeat' (first | ((first | refine BS_t (by assumption) ?_ | refine BS_f (by assumption) ?_ | refine atG (by repeat (first | assumption | exact setG_same _ _ _ | refine atNe (by first | assumption | exact Ne.symm (by assumption)) ?_)) ?_ | refine nthKi (by assumption) ?_ | refine ⟨_, ⟨(by omega), (by assumption)⟩, ?_⟩ | refine And.intro (by first | decide | omega) ?_); conv => whnf) | fail)
    refine ⟨_, h2, _, (bk_get lav k l).trans (congrArg _ hq), ?_⟩
    conv => whnf
    repeat' (first | ((first | refine BS_t (by assumption) ?_ | refine BS_f (by assumption) ?_ | refine atG (by repeat (first | assumption | exact setG_same _ _ _ | refine atNe (by first | assumption | exact Ne.symm (by assumption)) ?_)) ?_ | refine nthKi (by assumption) ?_ | refine ⟨_, ⟨(by omega), (by assumption)⟩, ?_⟩ | refine And.intro (by first | decide | omega) ?_); conv => whnf) | fail)
    rw [i1, i2, i3]
    repeat' (first | ((first | refine Sem.st tt_ok rfl ?_ | refine BS_t (by assumption) ?_ | refine BS_f (by assumption) ?_ | refine atG (by repeat (first | assumption | exact setG_same _ _ _ | refine atNe (by first | assumption | exact Ne.symm (by assumption)) ?_)) ?_ | refine nthKi (by assumption) ?_ | refine ⟨_, ⟨(by omega), (by assumption)⟩, ?_⟩ | refine And.intro (by first | decide | omega) ?_); conv => whnf) | refine Sem.seqS ?_ | refine Sem.block ?_)
    refine Exists.intro _ (And.intro (by repeat (first | assumption | exact setG_same _ _ _ | refine atNe (by first | assumption | exact Ne.symm (by assumption)) ?_)) ?_); conv => whnf
    repeat' (first | ((first | refine Sem.st tt_ok rfl ?_ | refine BS_t (by assumption) ?_ | refine BS_f (by assumption) ?_ | refine atG (by repeat (first | assumption | exact setG_same _ _ _ | refine atNe (by first | assumption | exact Ne.symm (by assumption)) ?_)) ?_ | refine nthKi (by assumption) ?_ | refine ⟨_, ⟨(by omega), (by assumption)⟩, ?_⟩ | refine And.intro (by first | decide | omega) ?_); conv => whnf) | refine Sem.seqS ?_ | refine Sem.block ?_)
    refine ⟨_, fun _ _ h => h, rfl, ⟨by repeat (first | assumption | exact setG_same _ _ _ | refine atNe (by first | assumption | exact Ne.symm (by assumption)) ?_), .inr ⟨mb, rfl, (setG_same _ _ _).trans (congrArg (fun z => some (GB.map none z)) (bk_del lav k l))⟩⟩, .inl rfl, fun i x hi hb hm => ?_⟩
    have : i ≠ mb := by rintro rfl; exact hm rfl
    simpa [setG, hb, this] using hi
theorem Plfree_none {s : Oth} (G : Glob) (b : Nat) (mv : AV) (n : Int) (l : LeL) (k v : ByteArray) (h : StL s G b mv n (bk lav l)) (hq : lget l k = none) :
    CallOk Tryz.prog TT 59 [.gptr b 6, .str k, .str v] G (fun v G' => v = .bool false ∧ G' = G) := by
  have hg := Plhold_ok G b mv n l k h
  unfold hold at hg
  simp only [hq] at hg
  refine call_sem tt_ok Tryz.func59 rfl (by kernel_rfl) Tryz.ntmps59 Tryz.results59 ?_; conv => whnf
  repeat' (first | ((first | refine Sem.st tt_ok rfl ?_ | refine BS_t (by assumption) ?_ | refine BS_f (by assumption) ?_ | refine atG (by repeat (first | assumption | exact setG_same _ _ _ | refine atNe (by first | assumption | exact Ne.symm (by assumption)) ?_)) ?_ | refine nthKi (by assumption) ?_ | refine ⟨_, ⟨(by omega), (by assumption)⟩, ?_⟩ | refine And.intro (by first | decide | omega) ?_); conv => whnf) | refine Sem.seqS ?_ | refine Sem.block ?_)
  refine hg.on ?_; conv => whnf
  repeat' (first | ((first | refine Sem.st tt_ok rfl ?_ | refine BS_t (by assumption) ?_ | refine BS_f (by assumption) ?_ | refine atG (by repeat (first | assumption | exact setG_same _ _ _ | refine atNe (by first | assumption | exact Ne.symm (by assumption)) ?_)) ?_ | refine nthKi (by assumption) ?_ | refine ⟨_, ⟨(by omega), (by assumption)⟩, ?_⟩ | refine And.intro (by first | decide | omega) ?_); conv => whnf) | refine Sem.seqS ?_ | refine Sem.block ?_)
  exact ⟨_, fun _ _ h => h, rfl, rfl⟩
theorem Plfree_no {s : Oth} (G : Glob) (b : Nat) (mv : AV) (n : Int) (l : LeL) (k v x : ByteArray) (u : Int) (h : StL s G b mv n (bk lav l)) (hq : lget l k = some (x, u)) (hx : x ≠ v) :
    CallOk Tryz.prog TT 59 [.gptr b 6, .str k, .str v] G (fun v G' => v = .bool false ∧ G' = G) := by
  have hg := Plhold_ok G b mv n l k h
  unfold hold at hg
  simp only [hq] at hg
  have e1 : (!(x.toList == v.toList)) = true := by rw [bl_eq]; simp [hx]
  refine call_sem tt_ok Tryz.func59 rfl (by kernel_rfl) Tryz.ntmps59 Tryz.results59 ?_; conv => whnf
  repeat' (first | ((first | refine Sem.st tt_ok rfl ?_ | refine BS_t (by assumption) ?_ | refine BS_f (by assumption) ?_ | refine atG (by repeat (first | assumption | exact setG_same _ _ _ | refine atNe (by first | assumption | exact Ne.symm (by assumption)) ?_)) ?_ | refine nthKi (by assumption) ?_ | refine ⟨_, ⟨(by omega), (by assumption)⟩, ?_⟩ | refine And.intro (by first | decide | omega) ?_); conv => whnf) | refine Sem.seqS ?_ | refine Sem.block ?_)
  refine hg.on ?_; conv => whnf
  repeat' (first | ((first | refine Sem.st tt_ok rfl ?_ | refine BS_t (by assumption) ?_ | refine BS_f (by assumption) ?_ | refine atG (by repeat (first | assumption | exact setG_same _ _ _ | refine atNe (by first | assumption | exact Ne.symm (by assumption)) ?_)) ?_ | refine nthKi (by assumption) ?_ | refine ⟨_, ⟨(by omega), (by assumption)⟩, ?_⟩ | refine And.intro (by first | decide | omega) ?_); conv => whnf) | refine Sem.seqS ?_ | refine Sem.block ?_)
  exact ⟨_, fun _ _ h => h, rfl, rfl⟩
theorem Plfree_ok {s : Oth} (G : Glob) (b : Nat) (mv : AV) (n : Int) (l : LeL) (k v : ByteArray) (u : Int) (hk : k.size ≤ 140737488351232) (hx : v.size ≤ 140737488351232) (n0 : 0 ≤ n) (n1 : n ≤ 4611686018427387904) (h : StL s G b mv n (bk lav l)) (hq : lget l k = some (v, u)) :
    CallOk Tryz.prog TT 59 [.gptr b 6, .str k, .str v] G (fun x G' => x = .bool true ∧ StL s G' b mv (n - (24 + k.size + v.size)) (bk lav (ldel l k)) ∧ Kept G G' b mv mv) := by
  have hg := Plhold_ok G b mv n l k h
  have hd := Pldrop_ok G b mv n l k v u hk hx n0 n1 h hq
  unfold hold at hg
  simp only [hq] at hg
  have e1 : (!(v.toList == v.toList)) = false := by simp
  refine call_sem tt_ok Tryz.func59 rfl (by kernel_rfl) Tryz.ntmps59 Tryz.results59 ?_; conv => whnf
  repeat' (first | ((first | refine Sem.st tt_ok rfl ?_ | refine BS_t (by assumption) ?_ | refine BS_f (by assumption) ?_ | refine atG (by repeat (first | assumption | exact setG_same _ _ _ | refine atNe (by first | assumption | exact Ne.symm (by assumption)) ?_)) ?_ | refine nthKi (by assumption) ?_ | refine ⟨_, ⟨(by omega), (by assumption)⟩, ?_⟩ | refine And.intro (by first | decide | omega) ?_); conv => whnf) | refine Sem.seqS ?_ | refine Sem.block ?_)
  refine hg.on ?_; conv => whnf
  repeat' (first | ((first | refine Sem.st tt_ok rfl ?_ | refine BS_t (by assumption) ?_ | refine BS_f (by assumption) ?_ | refine atG (by repeat (first | assumption | exact setG_same _ _ _ | refine atNe (by first | assumption | exact Ne.symm (by assumption)) ?_)) ?_ | refine nthKi (by assumption) ?_ | refine ⟨_, ⟨(by omega), (by assumption)⟩, ?_⟩ | refine And.intro (by first | decide | omega) ?_); conv => whnf) | refine Sem.seqS ?_ | refine Sem.block ?_)
  refine (hd).mono fun v G1 hv => ?_; obtain ⟨rfl, h1, k1⟩ := hv; conv => whnf
  repeat' (first | ((first | refine Sem.st tt_ok rfl ?_ | refine BS_t (by assumption) ?_ | refine BS_f (by assumption) ?_ | refine atG (by repeat (first | assumption | exact setG_same _ _ _ | refine atNe (by first | assumption | exact Ne.symm (by assumption)) ?_)) ?_ | refine nthKi (by assumption) ?_ | refine ⟨_, ⟨(by omega), (by assumption)⟩, ?_⟩ | refine And.intro (by first | decide | omega) ?_); conv => whnf) | refine Sem.seqS ?_ | refine Sem.block ?_)
  exact ⟨_, fun _ _ h => h, rfl, h1, k1⟩
structure PEI (s : Oth) (G0 : Glob) (b : Nat) (mv : AV) (m : LeL) (now : Int) where
  i : Nat
  hi : i ≤ (keyL m).length
  G : Glob
  H : StL s G b mv (sizeL (goneL m now i)) (bk lav (goneL m now i))
  K : Kept G0 G b mv mv
theorem Plexpire_ok {s : Oth} (G : Glob) (b : Nat) (mv : AV) (l : LeL) (now : Int) (hn : (l.map (·.1)).Nodup) (hl : l.length ≤ 1000000) (hs : ∀ x ∈ l, x.1.size ≤ 140737488351232 ∧ x.2.1.size ≤ 140737488351232) (n1 : sizeL l ≤ 4611686018427387904) (h : StL s G b mv (sizeL l) (bk lav l)) :
    CallOk Tryz.prog TT 16 [.gptr b 6, .int .i64 now] G (fun v G' => v = .tup [] ∧ StL s G' b mv (sizeL (liveL now l)) (bk lav (liveL now l)) ∧ Kept G G' b mv mv) := by
  have hnm := Plnames_ok G b mv (sizeL l) lav l h hl (fun x hx => by have := (hs x hx).1; unfold maxLen; omega)
  have hlen : (keysE l).length = (keyL l).length := by unfold keysE; simp
  have hkl : (keyL l).length ≤ 1000000 := by unfold keyL; simpa using hl
  refine call_sem tt_ok Tryz.func16 rfl (by kernel_rfl) Tryz.ntmps16 Tryz.results16 ?_; conv => whnf
  repeat' (first | ((first | refine Sem.st tt_ok rfl ?_ | refine BS_t (by assumption) ?_ | refine BS_f (by assumption) ?_ | refine atG (by repeat (first | assumption | exact setG_same _ _ _ | refine atNe (by first | assumption | exact Ne.symm (by assumption)) ?_)) ?_ | refine nthKi (by assumption) ?_ | refine ⟨_, ⟨(by omega), (by assumption)⟩, ?_⟩ | refine And.intro (by first | decide | omega) ?_); conv => whnf) | refine Sem.seqS ?_ | refine Sem.block ?_)
  refine hnm.on ?_; conv => whnf
  repeat' (first | ((first | refine Sem.st tt_ok rfl ?_ | refine BS_t (by assumption) ?_ | refine BS_f (by assumption) ?_ | refine atG (by repeat (first | assumption | exact setG_same _ _ _ | refine atNe (by first | assumption | exact Ne.symm (by assumption)) ?_)) ?_ | refine nthKi (by assumption) ?_ | refine ⟨_, ⟨(by omega), (by assumption)⟩, ?_⟩ | refine And.intro (by first | decide | omega) ?_); conv => whnf) | refine Sem.seqS ?_ | refine Sem.block ?_)
  refine Sem.loop (ι := PEI s G b mv l now) (fun x => ⟨(.gptr b 6 :: .int .i64 now :: .top :: .top :: .top :: .top :: .gptr b 6 :: .slc 9 (keysE l) :: .int .i64 ((keyL l).length : Nat) :: .int .i64 (x.i : Nat) :: .top :: .top :: .top :: .top :: .top :: .top :: .top :: .top :: .top :: .top :: .top :: .top :: .top :: .top :: .top :: .top :: []), [], 0, 0, x.G⟩) (fun x => (keyL l).length - x.i) ⟨0, Nat.zero_le _, G, by rw [goneL_start]; exact h, ⟨.inl rfl, fun i x hi _ _ => hi⟩⟩ ?_ (fun x => ?_)
  · refine weak_by [] ?_; (conv => whnf); repeat (refine And.intro rfl ?_; conv => whnf)
    refine And.intro (by rw [hlen]) ?_
    (conv => whnf); repeat (refine And.intro rfl ?_; conv => whnf)
    exact ⟨fun i x hx => hx, rfl, Nat.zero_le _, rfl, rfl⟩
  obtain ⟨i, hi, G1, H, K⟩ := x
  repeat' (first | ((first | refine Sem.st tt_ok rfl ?_ | refine BS_t (by assumption) ?_ | refine BS_f (by assumption) ?_ | refine atG (by repeat (first | assumption | exact setG_same _ _ _ | refine atNe (by first | assumption | exact Ne.symm (by assumption)) ?_)) ?_ | refine nthKi (by assumption) ?_ | refine ⟨_, ⟨(by omega), (by assumption)⟩, ?_⟩ | refine And.intro (by first | decide | omega) ?_); conv => whnf) | refine Sem.seqS ?_ | refine Sem.block ?_)
  refine BS_intro (fun hk => ?_) (fun hk => ?_) <;> conv => whnf
  · have hks : i < (keyL l).length := by simp at hk; omega
    clear hk
    obtain ⟨s, hv⟩ : ∃ v, (keyL l)[i]? = some v := ⟨_, List.getElem?_eq_getElem hks⟩
    have hsm : (keysE l)[((i : Nat) : Int).toNat]? = some [.str (S s)] := by rw [Int.toNat_natCast, keysE, List.getElem?_map, hv]; rfl
    have hw : IntKind.i64.wrap ((i : Int) + 1) = ((i + 1 : Nat) : Int) := by rw [IntWalk.i64_in _ (by omega)]; omega
    obtain ⟨⟨x, u⟩, hm⟩ := key_there hn hv
    have hg := goneL_get hn now hv hm
    have hz := hs _ (lget_mem hm)
    have hsz := sizeL_filter (goneB l now i) l
    have hd := Pldrop_ok G1 b mv _ _ (S s) x u hz.1 hz.2 (by omega) (by unfold goneL; omega) H hg
    have hdel := goneL_del hn now hv hm
    have hstay := goneL_stay hn now hv hm
    have hsd := sizeL_ldel (S s) hg
    obtain ⟨H1, ⟨rfl, hl0⟩ | ⟨mb, rfl, H2⟩⟩ := id H
    · have := lbk_nil hl0
      rw [this] at hg
      cases hg
    repeat' (first | ((first | refine Sem.st tt_ok rfl ?_ | refine BS_t (by assumption) ?_ | refine BS_f (by assumption) ?_ | refine atG (by repeat (first | assumption | exact setG_same _ _ _ | refine atNe (by first | assumption | exact Ne.symm (by assumption)) ?_)) ?_ | refine nthKi (by assumption) ?_ | refine ⟨_, ⟨(by omega), (by assumption)⟩, ?_⟩ | refine And.intro (by first | decide | omega) ?_); conv => whnf) | refine Sem.seqS ?_ | refine Sem.block ?_)
    refine ⟨_, H2, _, (bk_get lav _ _).trans (congrArg _ hg), ?_⟩
    conv => whnf
    repeat' (first | ((first | refine Sem.st tt_ok rfl ?_ | refine BS_t (by assumption) ?_ | refine BS_f (by assumption) ?_ | refine atG (by repeat (first | assumption | exact setG_same _ _ _ | refine atNe (by first | assumption | exact Ne.symm (by assumption)) ?_)) ?_ | refine nthKi (by assumption) ?_ | refine ⟨_, ⟨(by omega), (by assumption)⟩, ?_⟩ | refine And.intro (by first | decide | omega) ?_); conv => whnf) | refine Sem.seqS ?_ | refine Sem.block ?_)
    refine BS_intro (fun ht => ?_) (fun ht => ?_) <;> conv => whnf
    · have ht' : u ≤ now := by simpa using ht
      have hdel := hdel ht'
      repeat' (first | ((first | refine Sem.st tt_ok rfl ?_ | refine BS_t (by assumption) ?_ | refine BS_f (by assumption) ?_ | refine atG (by repeat (first | assumption | exact setG_same _ _ _ | refine atNe (by first | assumption | exact Ne.symm (by assumption)) ?_)) ?_ | refine nthKi (by assumption) ?_ | refine ⟨_, ⟨(by omega), (by assumption)⟩, ?_⟩ | refine And.intro (by first | decide | omega) ?_); conv => whnf) | refine Sem.seqS ?_ | refine Sem.block ?_)
      refine (hd).mono fun v G1 hv => ?_; obtain ⟨rfl, h1, k1⟩ := hv; conv => whnf
      repeat' (first | ((first | refine Sem.st tt_ok rfl ?_ | refine BS_t (by assumption) ?_ | refine BS_f (by assumption) ?_ | refine atG (by repeat (first | assumption | exact setG_same _ _ _ | refine atNe (by first | assumption | exact Ne.symm (by assumption)) ?_)) ?_ | refine nthKi (by assumption) ?_ | refine ⟨_, ⟨(by omega), (by assumption)⟩, ?_⟩ | refine And.intro (by first | decide | omega) ?_); conv => whnf) | refine Sem.seqS ?_ | refine Sem.block ?_)
      rw [hdel] at h1 hsd
      simp only at hsd
      refine ⟨⟨i + 1, by omega, G1, by rw [show ((sizeL (goneL l now (i + 1)) : Nat) : Int) = (sizeL (goneL l now i) : Nat) - (24 + (S s).size + x.size) by omega]; exact h1, K.trans1 k1⟩, by show (keyL l).length - (i + 1) < (keyL l).length - i; omega, ?_⟩
      refine weak_by [] ?_; (conv => whnf); repeat (refine And.intro rfl ?_; conv => whnf)
      refine And.intro hw ?_
      (conv => whnf); repeat (refine And.intro rfl ?_; conv => whnf)
      exact ⟨fun i y hy => hy, rfl, Nat.zero_le _, rfl, rfl⟩
    · have ht' : ¬ u ≤ now := by simpa using ht
      have hst := hstay ht'
      repeat' (first | ((first | refine Sem.st tt_ok rfl ?_ | refine BS_t (by assumption) ?_ | refine BS_f (by assumption) ?_ | refine atG (by repeat (first | assumption | exact setG_same _ _ _ | refine atNe (by first | assumption | exact Ne.symm (by assumption)) ?_)) ?_ | refine nthKi (by assumption) ?_ | refine ⟨_, ⟨(by omega), (by assumption)⟩, ?_⟩ | refine And.intro (by first | decide | omega) ?_); conv => whnf) | refine Sem.seqS ?_ | refine Sem.block ?_)
      refine ⟨⟨i + 1, by omega, G1, by rw [hst]; exact H, K⟩, by show (keyL l).length - (i + 1) < (keyL l).length - i; omega, ?_⟩
      refine weak_by [] ?_; (conv => whnf); repeat (refine And.intro rfl ?_; conv => whnf)
      refine And.intro hw ?_
      (conv => whnf); repeat (refine And.intro rfl ?_; conv => whnf)
      exact ⟨fun i y hy => hy, rfl, Nat.zero_le _, rfl, rfl⟩
  · have hk' : i = (keyL l).length := by simp at hk; omega
    subst hk'
    rw [goneL_end] at H
    repeat' (first | ((first | refine Sem.st tt_ok rfl ?_ | refine BS_t (by assumption) ?_ | refine BS_f (by assumption) ?_ | refine atG (by repeat (first | assumption | exact setG_same _ _ _ | refine atNe (by first | assumption | exact Ne.symm (by assumption)) ?_)) ?_ | refine nthKi (by assumption) ?_ | refine ⟨_, ⟨(by omega), (by assumption)⟩, ?_⟩ | refine And.intro (by first | decide | omega) ?_); conv => whnf) | refine Sem.seqS ?_ | refine Sem.block ?_)
    exact ⟨_, fun _ _ h => h, rfl, H, K⟩
/-- Take, in words of what all weigh -/
theorem PltakeS {s : Oth} (G : Glob) (b : Nat) (mv : AV) (l : LeL) (k v : ByteArray) (t now : Int) (hk : k.size ≤ 140737488351232) (hv : v.size ≤ 140737488351232) (n1 : sizeL l ≤ 4611686018427387904) (h : StL s G b mv (sizeL l) (bk lav l)) (ho : ∀ x u, lget l k = some (x, u) → 1 ≤ u ∧ x = v) :
    CallOk Tryz.prog TT 56 [.gptr b 6, .str k, .str v, .int .i64 t, .int .i64 now] G (fun x G' => x = .bool true ∧ ∃ mv', StL s G' b mv' (sizeL (lput l k (v, tillOf t now))) (bk lav (lput l k (v, tillOf t now))) ∧ Kept G G' b mv mv') := by
  have h1 := Pltake_ok G b mv _ l k v t now hk hv (by omega) (by omega) h ho
  rw [← sizeL_lput k v (tillOf t now) l (fun x u hx => (ho x u hx).2)] at h1
  exact h1
theorem PlfreeS {s : Oth} (G : Glob) (b : Nat) (mv : AV) (l : LeL) (k v : ByteArray) (u : Int) (hk : k.size ≤ 140737488351232) (hx : v.size ≤ 140737488351232) (n1 : sizeL l ≤ 4611686018427387904) (h : StL s G b mv (sizeL l) (bk lav l)) (hq : lget l k = some (v, u)) :
    CallOk Tryz.prog TT 59 [.gptr b 6, .str k, .str v] G (fun x G' => x = .bool true ∧ StL s G' b mv (sizeL (ldel l k)) (bk lav (ldel l k)) ∧ Kept G G' b mv mv) := by
  have h1 := Plfree_ok G b mv _ l k v u hk hx (by omega) (by omega) h hq
  have h2 := sizeL_ldel k hq
  rw [show ((sizeL l : Nat) : Int) - (24 + k.size + v.size) = (sizeL (ldel l k) : Nat) by simp only at h2; omega] at h1
  exact h1
end Go.Proofs.YtpihanlillbhkaaGreatDoor
end
