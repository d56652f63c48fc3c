/- One text out of several: KvA, SrtA, NamA, NamB, NamK, Txt, KvB, LtB, KvC, KvD, Ptn, PtnK. -/
import Derived.Test.YtpihanlillbhkaaGreatDoorMapA
import Derived.Shelf.SortM.Plain
import Derived.Shelf.SortM.SortNone
import Derived.Test.YtpihanlillbhkaaGreatDoorProg
import Derived.Sort.OwnSorted
import Derived.Sort.KeysCollected
import Derived.Maps.RangeWalk
import Derived.Test.YtpihanlillbhkaaGreatDoorLaw
import Derived.Sort.Walk0

section
/- kv in the abstract run. -/
set_option maxRecDepth 100000
set_option linter.unusedSimpArgs false
namespace Go.Proofs.YtpihanlillbhkaaGreatDoor
open Go Go.RowKit Go.Proofs

def kav (s : ByteArray) : AV := .agg [.str s]
abbrev KvL := List (ByteArray × ByteArray)
theorem kbk_nil {l : KvL} (h : bk kav l = []) : l = [] := by simpa [bk] using h
def kget (l : KvL) (k : ByteArray) : AV := match lget l k with | some x => .tup [.str x, .bool true] | none => .tup [.str ⟨#[]⟩, .bool false]
def kgrow (l : KvL) (k v : ByteArray) : Int := match lget l k with | some w => 16 + k.size + v.size - (16 + k.size + w.size) | none => 16 + k.size + v.size
end Go.Proofs.YtpihanlillbhkaaGreatDoor
end

section
/- slices.Sort of texts at this program: the shelf's closure, its numbers filled in. -/
set_option maxRecDepth 100000
namespace Go.Proofs.YtpihanlillbhkaaGreatDoor
open Go Go.RowKit Go.Proofs Go.Shelf Go.Sort

def sortS_ren : Go.Shelf.Ren := ⟨fun | 6 => 70 | 8 => 96 | 9 => 95 | 19 => 116 | 20 => 117 | 21 => 107 | 22 => 108 | 23 => 109 | 24 => 110 | 25 => 111 | 26 => 112 | 27 => 113 | 28 => 114 | 29 => 115 | 36 => 123 | 31 => 124 | 32 => 125 | 37 => 126 | 38 => 127 | 39 => 128 | 41 => 131 | n => n, fun | 27 => 80 | 29 => 9 | 3 => 3 | 32 => 137 | 26 => 80 | 0 => 0 | 44 => 173 | 46 => 33 | 4 => 4 | 36 => 166 | 35 => 165 | 41 => 170 | 5 => 5 | 9 => 9 | 53 => 182 | 57 => 186 | 63 => 188 | 64 => 189 | n => n, fun | n => n⟩
theorem sortS : Go.Proofs.SlLaysM.n6 Tryz.prog sortS_ren := {
  mixed := by kernel_rfl
  f6 := ⟨Tryz.f70.name, by kernel_rfl, Tryz.func70.trans (congrArg some (by kernel_rfl))⟩
  f8 := Tryz.func96.trans (congrArg some (by kernel_rfl))
  f9 := ⟨Tryz.f95.name, by kernel_rfl, Tryz.func95.trans (congrArg some (by kernel_rfl))⟩
  f19 := Tryz.func116.trans (congrArg some (by kernel_rfl))
  f20 := Tryz.func117.trans (congrArg some (by kernel_rfl))
  f21 := ⟨Tryz.f107.name, by kernel_rfl, Tryz.func107.trans (congrArg some (by kernel_rfl))⟩
  f22 := ⟨Tryz.f108.name, by kernel_rfl, Tryz.func108.trans (congrArg some (by kernel_rfl))⟩
  f23 := ⟨Tryz.f109.name, by kernel_rfl, Tryz.func109.trans (congrArg some (by kernel_rfl))⟩
  f24 := ⟨Tryz.f110.name, by kernel_rfl, Tryz.func110.trans (congrArg some (by kernel_rfl))⟩
  f25 := ⟨Tryz.f111.name, by kernel_rfl, Tryz.func111.trans (congrArg some (by kernel_rfl))⟩
  f26 := ⟨Tryz.f112.name, by kernel_rfl, Tryz.func112.trans (congrArg some (by kernel_rfl))⟩
  f27 := ⟨Tryz.f113.name, by kernel_rfl, Tryz.func113.trans (congrArg some (by kernel_rfl))⟩
  f28 := ⟨Tryz.f114.name, by kernel_rfl, Tryz.func114.trans (congrArg some (by kernel_rfl))⟩
  f29 := ⟨Tryz.f115.name, by kernel_rfl, Tryz.func115.trans (congrArg some (by kernel_rfl))⟩
  f31 := Tryz.func124.trans (congrArg some (by kernel_rfl))
  f32 := Tryz.func125.trans (congrArg some (by kernel_rfl))
  f36 := ⟨Tryz.f123.name, by kernel_rfl, Tryz.func123.trans (congrArg some (by kernel_rfl))⟩
  f37 := ⟨Tryz.f126.name, by kernel_rfl, Tryz.func126.trans (congrArg some (by kernel_rfl))⟩
  f38 := ⟨Tryz.f127.name, by kernel_rfl, Tryz.func127.trans (congrArg some (by kernel_rfl))⟩
  f39 := ⟨Tryz.f128.name, by kernel_rfl, Tryz.func128.trans (congrArg some (by kernel_rfl))⟩
  f41 := ⟨Tryz.f131.name, by kernel_rfl, Tryz.func131.trans (congrArg some (by kernel_rfl))⟩
  t0 := Tryz.underlying0
  a0 := Tryz.isAgg0
  z0 := Tryz.sizeOf0
  v0 := Tryz.zeroValue0
  t3 := Tryz.underlying3
  a3 := Tryz.isAgg3
  z3 := Tryz.sizeOf3
  v3 := Tryz.zeroValue3
  t4 := Tryz.underlying4
  a4 := Tryz.isAgg4
  z4 := Tryz.sizeOf4
  v4 := Tryz.zeroValue4
  t5 := Tryz.underlying5
  a5 := Tryz.isAgg5
  z5 := Tryz.sizeOf5
  v5 := Tryz.zeroValue5
  t9 := Tryz.underlying9
  a9 := Tryz.isAgg9
  z9 := Tryz.sizeOf9
  v9 := Tryz.zeroValue9
  t26 := Tryz.underlying80
  a26 := Tryz.isAgg80
  z26 := Tryz.sizeOf80
  v26 := Tryz.zeroValue80
  t27 := Tryz.underlying80
  a27 := Tryz.isAgg80
  z27 := Tryz.sizeOf80
  v27 := Tryz.zeroValue80
  t29 := Tryz.underlying9
  a29 := Tryz.isAgg9
  z29 := Tryz.sizeOf9
  v29 := Tryz.zeroValue9
  t32 := Tryz.underlying137
  a32 := Tryz.isAgg137
  z32 := Tryz.sizeOf137
  v32 := Tryz.zeroValue137
  t35 := Tryz.underlying165
  a35 := Tryz.isAgg165
  z35 := Tryz.sizeOf165
  v35 := Tryz.zeroValue165
  t36 := Tryz.underlying166
  a36 := Tryz.isAgg166
  z36 := Tryz.sizeOf166
  v36 := Tryz.zeroValue166
  t41 := Tryz.underlying170
  a41 := Tryz.isAgg170
  z41 := Tryz.sizeOf170
  v41 := Tryz.zeroValue170
  t44 := Tryz.underlying173
  a44 := Tryz.isAgg173
  z44 := Tryz.sizeOf173
  v44 := Tryz.zeroValue173
  t46 := Tryz.underlying33
  a46 := Tryz.isAgg33
  z46 := Tryz.sizeOf33
  v46 := Tryz.zeroValue33
  t53 := Tryz.underlying182
  a53 := Tryz.isAgg182
  z53 := Tryz.sizeOf182
  v53 := Tryz.zeroValue182
  t57 := Tryz.underlying186
  a57 := Tryz.isAgg186
  z57 := Tryz.sizeOf186
  v57 := Tryz.zeroValue186
  t63 := Tryz.underlying188
  a63 := Tryz.isAgg188
  z63 := Tryz.sizeOf188
  v63 := Tryz.zeroValue188
  t64 := Tryz.underlying189
  a64 := Tryz.isAgg189
  z64 := Tryz.sizeOf189
  v64 := Tryz.zeroValue189
}
theorem sort_any (blk off cap : Nat) (ss : List (List UInt8)) (w : World) (hH : Holds encStr w blk off ss.toArray) (hblk : blk < w.heap.size) (hsz : ss.length < 4611686018427387904) :
    Calls Tryz.prog 70 #[.slice (some ⟨blk, off, none⟩) ss.length cap] w fun e w' =>
      e = .returned (.tuple #[]) ∧ ∃ n os, w' = grow (putRow encStr (Sort.ahead w n) blk off (ss.mergeSort fun x y => decide (x ≤ y)).toArray) os :=
  AnyM.slices_Sort_string sortS blk off cap ss w hH hblk hsz
theorem sort_none (p : Option Addr) (cap : Nat) (w : World) : Calls Tryz.prog 70 #[.slice p 0 cap] w fun e w' => e = .returned (.tuple #[]) ∧ w' = w :=
  AnyM.slices_Sort_string_none sortS p cap w
end Go.Proofs.YtpihanlillbhkaaGreatDoor
end

section
/- The keys of a map of texts, in order: the loops of counter.Names, kv.Keys and fifo.Names in the model. -/
set_option maxRecDepth 100000
namespace Go.Proofs.YtpihanlillbhkaaGreatDoor
open Go Go.RowKit Go.Proofs Go.Maps Go.Sort

theorem rowTx : Row1 Tryz.prog 80 9 (.string ⟨#[]⟩) 1 16 := ⟨by kernel_rfl, by kernel_rfl, rfl, by decide⟩
theorem lawTx : Keyed Tryz.prog 9 := string_keyed Tryz.underlying9
/-- a value is not read -/
def rdAny : Value → Option (DataW Unit × List MemPlace) := fun _ => some (.nil, [])

end Go.Proofs.YtpihanlillbhkaaGreatDoor
end

section
/- The keys of a map of texts, in order: from the loop in the model to the abstract run. -/
set_option maxRecDepth 100000
namespace Go.Proofs.YtpihanlillbhkaaGreatDoor
open Go Go.RowKit Go.Proofs Go.Maps Go.Sort
open Go.WideElems (Fit rg)
open Go.WideShapes (sorted_perm)
open Go.WideMaps (keyOf_string_mk)
open Go.MapKept (Stamped)

/-- the texts of a map, in order -/
def keyL {α : Type} (l : List (ByteArray × α)) : List (List UInt8) := (l.map fun x => x.1.data.toList).mergeSort leB
def keysE {α : Type} (l : List (ByteArray × α)) : List (List AV) := (keyL l).map fun s => [.str (S s)]
theorem ext_list {α β γ : Type} {f : α → γ} {g : β → γ} : ∀ {l : List α} {m : List β}, l.length = m.length → (∀ (i : Nat) (x : α) (y : β), l[i]? = some x → m[i]? = some y → f x = g y) → l.map f = m.map g
  | [], [], _, _ => rfl
  | [], _ :: _, h, _ => by simp at h
  | _ :: _, [], h, _ => by simp at h
  | x :: l, y :: m, h, hp => by
    simp only [List.map_cons]
    rw [hp 0 x y rfl rfl, ext_list (l := l) (m := m) (by simpa using h) fun i x y hx hy => hp (i + 1) x y (by simpa using hx) (by simpa using hy)]
/-- a map of texts, as the kit's laws have it -/
theorem map_owns {α : Type} {T : TypeId → TR} {g : Gh} {w : World} {mb : Nat} {f : α → AV} {l : List (ByteArray × α)} (h : BoxAt T g w mb (.map none (bk f l))) (hl : l.length ≤ maxLen) (hs : ∀ x ∈ l, x.1.size ≤ maxLen) :
    ∃ (n : Nat) (D0 : DataW Unit), w.ownsMap Tryz.prog 9 rdAny (g.beta mb) n D0 ∧ Maps.size D0 = l.length ∧ (strKeys D0).Perm (l.map fun x => x.1.data.toList) := by
  obtain ⟨es, clock, hb, hst, hz, hp⟩ := h
  have hz' : es.toList.length = l.length := by simpa [bk] using hz
  have key : ∀ (i : Nat) (x : ByteArray × α) (y : MapEntry), l[i]? = some x → es.toList[i]? = some y → y.key = .string x.1 := fun i x y hx hy => by
    have hh := (hp i (.str x.1, f x.2) y (by simp [bk, hx]) (by simpa using hy)).1
    cases hk : y.key <;> rw [hk] at hh <;> first | exact hh.elim | skip
    simp only [keyAt] at hh
    rw [hh]
  have rd1 : ∀ (i : Nat) (x : ByteArray × α) (y : MapEntry), l[i]? = some x → es.toList[i]? = some y → Go.WideElems.rd Tryz.prog 9 rdAny y = some (.string x.1.data.toList, .nil) := fun i x y hx hy => by
    have := hs x (List.mem_of_getElem? hx)
    simp only [Go.WideElems.rd, key i x y hx hy, keyOf_string_mk Tryz.underlying9 this, rdAny]
    rfl
  have F : Fit Tryz.prog 9 rdAny es clock := by
    refine ⟨by rw [← Array.length_toList]; omega, hst, fun y hy => ?_⟩
    obtain ⟨i, hi⟩ := List.getElem?_of_mem hy
    have hlt : i < l.length := by rw [← hz']; exact (List.getElem?_eq_some_iff.1 hi).1
    exact ⟨_, rd1 i _ y (List.getElem?_eq_getElem hlt) hi⟩
  refine ⟨es.size, _, ⟨es, clock, hb, F, Nat.le_refl _, rfl⟩, ?_, ?_⟩
  · rw [size_eq, (sorted_perm _).length_eq]
    simp
    rw [← Array.length_toList]
    exact hz'
  · show (List.map _ _).Perm _
    refine ((sorted_perm _).map _).trans ?_
    rw [List.map_map]
    refine .of_eq (ext_list hz' fun i y x hy hx => ?_)
    show strOf (rg Tryz.prog 9 rdAny y).1 = _
    unfold rg
    rw [rd1 i x y hx hy]
    rfl
end Go.Proofs.YtpihanlillbhkaaGreatDoor
end

section
/- kv.Keys in the model and in the abstract run. -/
set_option maxRecDepth 100000
namespace Go.Proofs.YtpihanlillbhkaaGreatDoor
open Go Go.RowKit Go.Proofs Go.Maps Go.Sort

set_option maxHeartbeats 1000000 in
theorem knames_any (bb bm n : Nat) (D0 : DataW Unit) (w : World) (hc0 : w.cell? ⟨bb, 0, none⟩ = some (.map (some bm))) (hown : w.ownsMap Tryz.prog 9 rdAny bm n D0) (hmax : Maps.size D0 ≤ 1000000) :
    Calls Tryz.prog 28 #[.pointer (some ⟨bb, 0, none⟩)] w fun e w' => ∃ (v : Value) (ss : List (List UInt8)), e = .returned v ∧ ss.Perm (strKeys D0) ∧
      w'.ownsRow w.heap.size 9 1 v ss.length ((ss.mergeSort (fun x y => decide (x ≤ y))).map encStr) ∧ Up w w' := by
  obtain ⟨hu, hi', hzs, hsz⟩ := rowTx
  obtain ⟨i0, hi, hz0, hz1, hz2⟩ := info_parts hi'
  have hbl := hown.lt
  go_enter Tryz.func28, Tryz.ntmps28
  go_wp2_with (first
    | (at_range; refine wpList_range_own _ rfl _ 52 rfl 9 134 lawTx Tryz.underlying52 _ bm n _ rfl hown ?_; intro w0 hrg0 hg0 hs0)
    | go_in)
  go_frame
  go_loopw [3] (fun v wr => ∃ (left : Lit → Bool) (cnt : Nat) (ss : List (List UInt8)), wr.ranges Tryz.prog 9 rdAny bm w.heap.size n D0 left cnt ∧ ss.length + cnt ≤ Maps.size D0 ∧
      wr.ownsRow w.heap.size 9 1 v ss.length (ss.map encStr) ∧ Collected D0 left ss ∧ Below w.heap.size w wr)
    (fun _ wr => wr.rangeLeft bm w.heap.size)
  case atStart =>
    exact ⟨_, _, [], hrg0, by simp, ⟨rfl, .inl ⟨rfl, rfl⟩⟩, Collected.start D0, (Below.refl _ _).grown hg0 (Nat.le_refl _) (fun j hj => by cases hj)⟩
  case round =>
    obtain ⟨left, cnt, ss, hrg, hcs, hrow, hC, hnx⟩ := hrel
    go_wp2_with (first
      | (at_next; refine wpList_next_ranges _ rfl _ rfl 9 lawTx rdAny encStr id (fun key kl hk => by obtain ⟨x, hx, _⟩ := Maps.keyOf_str Tryz.underlying9 hk; exact ⟨x, hx⟩) (fun v y hv => ⟨v, rfl⟩) bm w.heap.size n _ _ _ rfl hrg ?_ ?_)
      | go_in)
    · intro hc1 hl0
      have hP := hC.perm hown lawTx Tryz.underlying9 hl0
      rcases hrow.2 with ⟨hnil, hx0⟩ | ⟨g, cap, cur, rfl, hbase, hb, h1, h2, h3, h4⟩
      · have hss : ss = [] := by simpa using hx0
        subst hss hnil
        clear hrow
        go_wp2_with (go_at_call 70; refine (sort_none none 0 wr).mono ?_; rintro e w' ⟨rfl, rfl⟩)
        go_ret
        exact ⟨_, [], rfl, hP, ⟨by simp, .inl ⟨rfl, by simp⟩⟩, hnx⟩
      · have hH : Holds encStr wr g 0 ss.toArray := holds_of_block hb (by simpa using h4)
        have hgl : g < wr.heap.size := (Array.getElem?_eq_some_iff.1 hb).1
        have hc := sort_any g 0 cap ss wr hH hgl (by omega)
        go_wp2_with (go_at_call 70; refine hc.mono ?_; rintro e w' ⟨rfl, nn, os, rfl⟩)
        go_ret
        exact ⟨_, ss, rfl, hP, ownsRow_sorted (by simp) hbase hb h1 h2 h3, hnx.grown (grownBy_sorted _) hnx.size (fun j hj => by cases hj; exact hbase)⟩
    · intro x c kl yd yp w2 cnt2 hkey hlk hv hat hrg2 hlt hg2 hs2 hen
      obtain ⟨x', ex, rfl, _⟩ := Maps.keyOf_str Tryz.underlying9 hkey
      obtain rfl : x = x' := encStr_inj ex
      have hrow2 := hrow.kept hg2 (Or.inr (row_ne_iter hrow hrg).symm)
      clear hs2
      go_wp2_with (first
        | (at_builtin; refine wpList_append_own _ rfl _ _ 80 rfl w.heap.size 9 i0 (.string ⟨#[]⟩) 1 16 Tryz.underlying80 hi hz0 hz1 hz2 rfl (by decide) _ _ _ rfl (hrow2.alloc _) ⟨w2.heap.size, 0, none⟩ 1 1 [encStr x] rfl rfl (cell_one_new _ _ _) (by simp [Value.oneCell', encStr]) (by unfold maxLen at *; omega) (by omega) (by have := hnx.size; have := hg2.size; simp; omega) ?_; intro v' w3 hown' hg3 hnil3; go_frame)
        | go_in)
      have hrg3 := (hrg2.alloc _).kept hg3 (row_ne_low hrow2 hbl) (row_ne_iter hrow2 hrg2)
      go_roundw
      case rel =>
        refine ⟨_, cnt2, ss ++ [x], hrg3, by simp; omega, by simpa using hown', hC.step hlk hat, ?_⟩
        exact ((hnx.grown hg2 hnx.size (fun j hj => by cases hj; exact Nat.le_refl _)).alloc (by have := hnx.size; have := hg2.size; omega) _).grown hg3 (by have := hnx.size; have := hg2.size; simp; omega) (fun j hj => (hrow2.lt j hj).1)
      case measure => rw [hrg3.left_eq, hrg.left_eq]; exact hlt
theorem knames_none (bb : Nat) (w : World) (hc0 : w.cell? ⟨bb, 0, none⟩ = some (.map none)) :
    Calls Tryz.prog 28 #[.pointer (some ⟨bb, 0, none⟩)] w fun e w' => e = .returned (.slice none 0 0) ∧ Up w w' := by
  have hrg := run_range_nilMap (P := Tryz.prog) w 52 9 134 Tryz.underlying52
  have hnx : ∀ ty, (Instr.next (.pointer (some ⟨w.heap.size, 0, none⟩)) false ty).run Tryz.prog (w.alloc (.mapIter none 0 #[] 0)) = _ := fun ty => run_next_nilMap _ ty 0 0 #[]
  go_enter Tryz.func28, Tryz.ntmps28
  go_wp2
  refine wp_loop_rounds 1 ?_
  rw [rounds_succ]
  go_wp2_with (go_at_call 70; refine (sort_none none 0 _).mono ?_; rintro e w' ⟨rfl, rfl⟩)
  go_ret
  exact ⟨rfl, (Up.refl _).alloc _⟩
end Go.Proofs.YtpihanlillbhkaaGreatDoor
end

section
/- The document's Texts at two like lists. -/
set_option maxRecDepth 100000
set_option linter.unusedSimpArgs false
namespace Go.Proofs.YtpihanlillbhkaaGreatDoor
open Go Go.RowKit Go.Proofs

end Go.Proofs.YtpihanlillbhkaaGreatDoor
end

section
/- The document's layer 26 in the abstract run: rows of keys and texts, rising. -/
set_option maxRecDepth 100000
set_option linter.unusedSimpArgs false
namespace Go.Proofs.YtpihanlillbhkaaGreatDoor
open Go Go.RowKit Go.Proofs

def kvR (x : ByteArray × ByteArray) : List AV := [.str x.1, .str x.2]
theorem lget_drop {α : Type} {l : List (ByteArray × α)} {z : ByteArray} {i : Nat} {x : ByteArray × α} (h : lget l z = lget (l.drop i) z) (hx : l[i]? = some x) (hne : x.1 ≠ z) : lget l z = lget (l.drop (i + 1)) z := by
  obtain ⟨hi, rfl⟩ := List.getElem?_eq_some_iff.1 hx
  rw [h, List.drop_eq_getElem_cons hi]
  have : ¬ z = l[i].1 := fun e => hne e.symm
  simp only [lget, this, decide_false]
theorem get26_ok (r : KvL) (z : ByteArray) (G : Glob) (hl : r.length ≤ 1048576) : CallOk Tryz.prog TT 62 [.slc 92 (r.map kvR), .str z] G (fun v G' => v = kget r z ∧ G' = G) := by
  refine call_sem tt_ok Tryz.func62 rfl (by kernel_rfl) Tryz.ntmps62 Tryz.results62 ?_; conv => whnf
  repeat' (first | ((first | refine Sem.st tt_ok rfl ?_ | refine BS_t (by assumption) ?_ | refine BS_f (by assumption) ?_ | refine nthKi (by assumption) ?_ | refine ⟨_, ⟨(by omega), (by assumption)⟩, ?_⟩ | refine And.intro (by first | decide | omega) ?_); conv => whnf) | refine Sem.seqS ?_ | refine Sem.block ?_)
  refine Sem.loop (ι := {k : Nat // k ≤ r.length ∧ lget r z = lget (r.drop k) z}) (fun x => ⟨(.slc 92 (r.map kvR) :: .str z :: .top :: .top :: .top :: .top :: .int .i64 (x.1 : Nat) :: .top :: .top :: .top :: .top :: .top :: .top :: .top :: .top :: .top :: .top :: .top :: .top :: .top :: .top :: .top :: .top :: .top :: .top :: []), [], 0, 0, G⟩) (fun x => r.length - x.1) ⟨0, Nat.zero_le _, rfl⟩ ?_ (fun x => ?_)
  · refine weak_by [] ?_; (conv => whnf); repeat (refine And.intro rfl ?_; conv => whnf)
    exact ⟨fun i x hx => hx, rfl, Nat.zero_le _, rfl, rfl⟩
  obtain ⟨k, hk0, hg⟩ := x
  repeat' (first | ((first | refine Sem.st tt_ok rfl ?_ | refine BS_t (by assumption) ?_ | refine BS_f (by assumption) ?_ | refine nthKi (by assumption) ?_ | refine ⟨_, ⟨(by omega), (by assumption)⟩, ?_⟩ | refine And.intro (by first | decide | omega) ?_); conv => whnf) | refine Sem.seqS ?_ | refine Sem.block ?_)
  refine BS_intro (fun hk => ?_) (fun hk => ?_) <;> conv => whnf
  · have hks : k < r.length := by simp at hk; omega
    clear hk
    obtain ⟨v, hv⟩ : ∃ v, r[k]? = some v := ⟨_, List.getElem?_eq_getElem hks⟩
    have hsm : (r.map kvR)[((k : Nat) : Int).toNat]? = some (kvR v) := by rw [Int.toNat_natCast, List.getElem?_map, hv]; rfl
    have hd : r.drop k = v :: r.drop (k + 1) := by
      obtain ⟨h1, rfl⟩ := List.getElem?_eq_some_iff.1 hv
      exact List.drop_eq_getElem_cons h1
    obtain ⟨a, b⟩ := v
    repeat' (first | ((first | refine Sem.st tt_ok rfl ?_ | refine BS_t (by assumption) ?_ | refine BS_f (by assumption) ?_ | refine nthKi (by assumption) ?_ | refine ⟨_, ⟨(by omega), (by assumption)⟩, ?_⟩ | refine And.intro (by first | decide | omega) ?_); conv => whnf) | refine Sem.seqS ?_ | refine Sem.block ?_)
    refine BS_intro (fun he => ?_) (fun he => ?_) <;> conv => whnf
    · have hz : z = a := (by simpa [bl_eq] using he : a = z).symm
      subst hz
      repeat' (first | ((first | refine Sem.st tt_ok rfl ?_ | refine BS_t (by assumption) ?_ | refine BS_f (by assumption) ?_ | refine nthKi (by assumption) ?_ | refine ⟨_, ⟨(by omega), (by assumption)⟩, ?_⟩ | refine And.intro (by first | decide | omega) ?_); conv => whnf) | refine Sem.seqS ?_ | refine Sem.block ?_)
      refine ⟨_, fun _ _ h => h, ?_, rfl⟩
      unfold kget
      rw [hg, hd]
      simp [lget]
    · have hne : a ≠ z := by rintro rfl; simp at he
      repeat' (first | ((first | refine Sem.st tt_ok rfl ?_ | refine BS_t (by assumption) ?_ | refine BS_f (by assumption) ?_ | refine nthKi (by assumption) ?_ | refine ⟨_, ⟨(by omega), (by assumption)⟩, ?_⟩ | refine And.intro (by first | decide | omega) ?_); conv => whnf) | refine Sem.seqS ?_ | refine Sem.block ?_)
      refine ⟨⟨k + 1, by omega, lget_drop hg hv hne⟩, by show r.length - (k + 1) < r.length - k; omega, ?_⟩
      refine weak_by [] ?_; (conv => whnf); repeat (refine And.intro rfl ?_; conv => whnf)
      have hw : IntKind.i64.wrap ((k : Int) + 1) = ((k + 1 : Nat) : Int) := by rw [IntWalk.i64_in _ (by omega)]; omega
      refine And.intro hw ?_
      (conv => whnf); repeat (refine And.intro rfl ?_; conv => whnf)
      exact ⟨fun i y hy => hy, rfl, Nat.zero_le _, rfl, rfl⟩
  · have hk' : k = r.length := by simp at hk; omega
    subst hk'
    repeat' (first | ((first | refine Sem.st tt_ok rfl ?_ | refine BS_t (by assumption) ?_ | refine BS_f (by assumption) ?_ | refine nthKi (by assumption) ?_ | refine ⟨_, ⟨(by omega), (by assumption)⟩, ?_⟩ | refine And.intro (by first | decide | omega) ?_); conv => whnf) | refine Sem.seqS ?_ | refine Sem.block ?_)
    refine ⟨_, fun _ _ h => h, ?_, rfl⟩
    unfold kget
    rw [hg, List.drop_length]
    rfl
def sizeR (r : KvL) : Nat := (r.map fun x => 16 + x.1.size + x.2.size).sum
theorem sizeR_take (r : KvL) (k : Nat) : sizeR (r.take k) ≤ sizeR r := by
  have : sizeR r = sizeR (r.take k) + sizeR (r.drop k) := by
    unfold sizeR
    rw [← List.sum_append_nat, ← List.map_append, List.take_append_drop]
  omega
theorem size26_ok (r : KvL) (G : Glob) (hl : r.length ≤ 1048576) (hz : sizeR r ≤ 4611686018427387904) : CallOk Tryz.prog TT 23 [.slc 92 (r.map kvR)] G (fun v G' => v = .int .i64 (sizeR r : Nat) ∧ G' = G) := by
  refine call_sem tt_ok Tryz.func23 rfl (by kernel_rfl) Tryz.ntmps23 Tryz.results23 ?_; conv => whnf
  repeat' (first | ((first | refine Sem.st tt_ok rfl ?_ | refine BS_t (by assumption) ?_ | refine BS_f (by assumption) ?_ | refine nthKi (by assumption) ?_ | refine ⟨_, ⟨(by omega), (by assumption)⟩, ?_⟩ | refine And.intro (by first | decide | omega) ?_); conv => whnf) | refine Sem.seqS ?_ | refine Sem.block ?_)
  refine Sem.loop (ι := {k : Nat // k ≤ r.length}) (fun x => ⟨(.slc 92 (r.map kvR) :: .top :: .top :: .int .i64 (sizeR (r.take x.1) : Nat) :: .int .i64 (x.1 : Nat) :: .top :: .top :: .top :: .top :: .top :: .top :: .top :: .top :: .top :: .top :: .top :: .top :: .top :: .top :: .top :: .top :: .top :: .top :: .top :: .top :: .top :: .top :: .top :: []), [], 0, 0, G⟩) (fun x => r.length - x.1) ⟨0, Nat.zero_le _⟩ ?_ (fun x => ?_)
  · refine weak_by [] ?_; (conv => whnf); repeat (refine And.intro rfl ?_; conv => whnf)
    exact ⟨fun i x hx => hx, rfl, Nat.zero_le _, rfl, rfl⟩
  obtain ⟨k, hk0⟩ := x
  repeat' (first | ((first | refine Sem.st tt_ok rfl ?_ | refine BS_t (by assumption) ?_ | refine BS_f (by assumption) ?_ | refine nthKi (by assumption) ?_ | refine ⟨_, ⟨(by omega), (by assumption)⟩, ?_⟩ | refine And.intro (by first | decide | omega) ?_); conv => whnf) | refine Sem.seqS ?_ | refine Sem.block ?_)
  refine BS_intro (fun hk => ?_) (fun hk => ?_) <;> conv => whnf
  · have hks : k < r.length := by simp at hk; omega
    clear hk
    obtain ⟨v, hv⟩ : ∃ v, r[k]? = some v := ⟨_, List.getElem?_eq_getElem hks⟩
    have hsm : (r.map kvR)[((k : Nat) : Int).toNat]? = some (kvR v) := by rw [Int.toNat_natCast, List.getElem?_map, hv]; rfl
    have ht : r.take (k + 1) = r.take k ++ [v] := by rw [List.take_add_one, hv]; rfl
    have hs1 : sizeR (r.take (k + 1)) = sizeR (r.take k) + (16 + v.1.size + v.2.size) := by rw [ht]; simp [sizeR]
    have hs2 := sizeR_take r (k + 1)
    obtain ⟨a, b⟩ := v
    simp only at hs1
    repeat' (first | ((first | refine Sem.st tt_ok rfl ?_ | refine BS_t (by assumption) ?_ | refine BS_f (by assumption) ?_ | refine nthKi (by assumption) ?_ | refine ⟨_, ⟨(by omega), (by assumption)⟩, ?_⟩ | refine And.intro (by first | decide | omega) ?_); conv => whnf) | refine Sem.seqS ?_ | refine Sem.block ?_)
    refine draw_sound (eff := []) tt_ok (by kernel_rfl) (by kernel_rfl) ?_; conv => whnf
    repeat' (first | ((first | refine BS_t (by assumption) ?_ | refine BS_f (by assumption) ?_ | refine nthKi (by assumption) ?_ | refine ⟨_, ⟨(by omega), (by assumption)⟩, ?_⟩ | refine And.intro (by first | decide | omega) ?_); conv => whnf) | fail)
    repeat' (first | ((first | refine Sem.st tt_ok rfl ?_ | refine BS_t (by assumption) ?_ | refine BS_f (by assumption) ?_ | refine nthKi (by assumption) ?_ | refine ⟨_, ⟨(by omega), (by assumption)⟩, ?_⟩ | refine And.intro (by first | decide | omega) ?_); conv => whnf) | refine Sem.seqS ?_ | refine Sem.block ?_)
    refine ⟨⟨k + 1, by omega⟩, by show r.length - (k + 1) < r.length - k; omega, ?_⟩
    refine weak_by [] ?_; (conv => whnf); repeat (refine And.intro rfl ?_; conv => whnf)
    have hw : IntKind.i64.wrap ((k : Int) + 1) = ((k + 1 : Nat) : Int) := by rw [IntWalk.i64_in _ (by omega)]; omega
    refine And.intro (by
      show IntKind.i64.wrap ((sizeR (r.take k) : Nat) + IntKind.i64.wrap (IntKind.i64.wrap (16 + (a.size : Int)) + b.size)) = ((sizeR (r.take (k + 1)) : Nat) : Int)
      rw [IntWalk.i64_in (16 + (a.size : Int)) (by omega), IntWalk.i64_in (16 + (a.size : Int) + b.size) (by omega), IntWalk.i64_in _ (by omega)]
      omega) ?_
    (conv => whnf); repeat (refine And.intro rfl ?_; conv => whnf)
    refine And.intro hw ?_
    (conv => whnf); repeat (refine And.intro rfl ?_; conv => whnf)
    exact ⟨fun i y hy => hy, rfl, Nat.zero_le _, rfl, rfl⟩
  · have hk' : k = r.length := by simp at hk; omega
    subst hk'
    rw [List.take_length]
    repeat' (first | ((first | refine Sem.st tt_ok rfl ?_ | refine BS_t (by assumption) ?_ | refine BS_f (by assumption) ?_ | refine nthKi (by assumption) ?_ | refine ⟨_, ⟨(by omega), (by assumption)⟩, ?_⟩ | refine And.intro (by first | decide | omega) ?_); conv => whnf) | refine Sem.seqS ?_ | refine Sem.block ?_)
    exact ⟨_, fun _ _ h => h, rfl, rfl⟩
def delR (r : KvL) (z : ByteArray) : KvL := r.filter fun x => !decide (x.1 = z)
theorem del26_ok (r : KvL) (z : ByteArray) (G : Glob) (hl : r.length ≤ 1048576) : CallOk Tryz.prog TT 64 [.slc 92 (r.map kvR), .str z] G (fun v G' => v = .slc 92 ((delR r z).map kvR) ∧ G' = G) := by
  refine call_sem tt_ok Tryz.func64 rfl (by kernel_rfl) Tryz.ntmps64 Tryz.results64 ?_; conv => whnf
  repeat' (first | ((first | refine Sem.st tt_ok rfl ?_ | refine BS_t (by assumption) ?_ | refine BS_f (by assumption) ?_ | refine nthKi (by assumption) ?_ | refine ⟨_, ⟨(by omega), (by assumption)⟩, ?_⟩ | refine And.intro (by first | decide | omega) ?_); conv => whnf) | refine Sem.seqS ?_ | refine Sem.block ?_)
  refine Sem.loop (ι := {k : Nat // k ≤ r.length}) (fun x => ⟨(.slc 92 (r.map kvR) :: .str z :: .top :: .top :: .top :: .own 0 92 ((delR (r.take x.1) z).map kvR) :: .int .i64 (x.1 : Nat) :: .top :: .top :: .top :: .top :: .top :: .top :: .top :: .top :: .top :: .top :: .top :: .top :: .top :: .top :: .top :: .top :: .top :: .top :: .top :: .top :: .top :: []), [], 0, 1, G⟩) (fun x => r.length - x.1) ⟨0, Nat.zero_le _⟩ ?_ (fun x => ?_)
  · refine weak_by [none] ?_; (conv => whnf); repeat (refine And.intro rfl ?_; conv => whnf)
    exact ⟨fun i x hx => hx, rfl, Nat.zero_le _, rfl, rfl⟩
  obtain ⟨k, hk0⟩ := x
  repeat' (first | ((first | refine Sem.st tt_ok rfl ?_ | refine BS_t (by assumption) ?_ | refine BS_f (by assumption) ?_ | refine nthKi (by assumption) ?_ | refine ⟨_, ⟨(by omega), (by assumption)⟩, ?_⟩ | refine And.intro (by first | decide | omega) ?_); conv => whnf) | refine Sem.seqS ?_ | refine Sem.block ?_)
  refine BS_intro (fun hk => ?_) (fun hk => ?_) <;> conv => whnf
  · have hks : k < r.length := by simp at hk; omega
    clear hk
    obtain ⟨v, hv⟩ : ∃ v, r[k]? = some v := ⟨_, List.getElem?_eq_getElem hks⟩
    have hsm : (r.map kvR)[((k : Nat) : Int).toNat]? = some (kvR v) := by rw [Int.toNat_natCast, List.getElem?_map, hv]; rfl
    have ht : r.take (k + 1) = r.take k ++ [v] := by rw [List.take_add_one, hv]; rfl
    have hlen : (delR (r.take k) z).length ≤ k := by
      have := List.length_filter_le (fun x => !decide (x.1 = z)) (r.take k)
      rw [List.length_take] at this
      unfold delR
      omega
    have hw : IntKind.i64.wrap ((k : Int) + 1) = ((k + 1 : Nat) : Int) := by rw [IntWalk.i64_in _ (by omega)]; omega
    obtain ⟨a, b⟩ := v
    repeat' (first | ((first | refine Sem.st tt_ok rfl ?_ | refine BS_t (by assumption) ?_ | refine BS_f (by assumption) ?_ | refine nthKi (by assumption) ?_ | refine ⟨_, ⟨(by omega), (by assumption)⟩, ?_⟩ | refine And.intro (by first | decide | omega) ?_); conv => whnf) | refine Sem.seqS ?_ | refine Sem.block ?_)
    refine BS_intro (fun he => ?_) (fun he => ?_) <;> conv => whnf
    · have hne : a ≠ z := by simpa [bl_eq] using he
      repeat' (first | ((first | refine Sem.st tt_ok rfl ?_ | refine BS_t (by assumption) ?_ | refine BS_f (by assumption) ?_ | refine nthKi (by assumption) ?_ | refine ⟨_, ⟨(by omega), (by assumption)⟩, ?_⟩ | refine And.intro (by first | decide | omega) ?_); conv => whnf) | refine Sem.seqS ?_ | refine Sem.block ?_)
      refine And.intro (app_le (by simp only [List.length_map, List.length_cons, List.length_nil]; omega) (by decide)) ?_; conv => whnf
      repeat' (first | ((first | refine Sem.st tt_ok rfl ?_ | refine BS_t (by assumption) ?_ | refine BS_f (by assumption) ?_ | refine nthKi (by assumption) ?_ | refine ⟨_, ⟨(by omega), (by assumption)⟩, ?_⟩ | refine And.intro (by first | decide | omega) ?_); conv => whnf) | refine Sem.seqS ?_ | refine Sem.block ?_)
      refine ⟨⟨k + 1, by omega⟩, by show r.length - (k + 1) < r.length - k; omega, ?_⟩
      refine weak_by [some 0] ?_; (conv => whnf); repeat (refine And.intro rfl ?_; conv => whnf)
      refine And.intro (by
        show _ = (delR (r.take (k + 1)) z).map kvR
        rw [ht]
        unfold delR
        simp [hne]; rfl) ?_
      (conv => whnf); repeat (refine And.intro rfl ?_; conv => whnf)
      refine And.intro hw ?_
      (conv => whnf); repeat (refine And.intro rfl ?_; conv => whnf)
      exact ⟨fun i y hy => hy, rfl, Nat.zero_le _, rfl, rfl⟩
    · have hne : a = z := by simpa [bl_eq] using he
      repeat' (first | ((first | refine Sem.st tt_ok rfl ?_ | refine BS_t (by assumption) ?_ | refine BS_f (by assumption) ?_ | refine nthKi (by assumption) ?_ | refine ⟨_, ⟨(by omega), (by assumption)⟩, ?_⟩ | refine And.intro (by first | decide | omega) ?_); conv => whnf) | refine Sem.seqS ?_ | refine Sem.block ?_)
      refine ⟨⟨k + 1, by omega⟩, by show r.length - (k + 1) < r.length - k; omega, ?_⟩
      refine weak_by [some 0] ?_; (conv => whnf); repeat (refine And.intro rfl ?_; conv => whnf)
      refine And.intro (by
        show (delR (r.take k) z).map kvR = (delR (r.take (k + 1)) z).map kvR
        rw [ht]
        unfold delR
        simp [hne]) ?_
      (conv => whnf); repeat (refine And.intro rfl ?_; conv => whnf)
      refine And.intro hw ?_
      (conv => whnf); repeat (refine And.intro rfl ?_; conv => whnf)
      exact ⟨fun i y hy => hy, rfl, Nat.zero_le _, rfl, rfl⟩
  · have hk' : k = r.length := by simp at hk; omega
    subst hk'
    rw [List.take_length]
    repeat' (first | ((first | refine Sem.st tt_ok rfl ?_ | refine BS_t (by assumption) ?_ | refine BS_f (by assumption) ?_ | refine nthKi (by assumption) ?_ | refine ⟨_, ⟨(by omega), (by assumption)⟩, ?_⟩ | refine And.intro (by first | decide | omega) ?_); conv => whnf) | refine Sem.seqS ?_ | refine Sem.block ?_)
    exact ⟨_, fun _ _ h => h, rfl, rfl⟩
def leB2 (a b : ByteArray) : Bool := !(Op.bytesLess b.toList a.toList)
def putK (k v : ByteArray) : KvL → Bool → KvL
  | [], done => if done then [] else [(k, v)]
  | x :: r, done => (if (!done && leB2 k x.1) = true then [(k, v)] else []) ++ ((if x.1 = k then [] else [x]) ++ putK k v r (done || leB2 k x.1))
structure PI (k v : ByteArray) (r : KvL) where
  i : Nat
  hi : i ≤ r.length
  out : KvL
  done : Bool
  h : putK k v r false = out ++ putK k v (r.drop i) done
  hl : out.length ≤ 2 * i
set_option maxHeartbeats 1000000 in
theorem put26_ok (r : KvL) (k v : ByteArray) (G : Glob) (hl : r.length ≤ 1048576) : CallOk Tryz.prog TT 63 [.slc 92 (r.map kvR), .str k, .str v] G (fun x G' => x = .slc 92 ((putK k v r false).map kvR) ∧ G' = G) := by
  refine call_sem tt_ok Tryz.func63 rfl (by kernel_rfl) Tryz.ntmps63 Tryz.results63 ?_; conv => whnf
  repeat' (first | ((first | refine Sem.st tt_ok rfl ?_ | refine BS_t (by assumption) ?_ | refine BS_f (by assumption) ?_ | refine nthKi (by assumption) ?_ | refine ⟨_, ⟨(by omega), (by assumption)⟩, ?_⟩ | refine And.intro (by first | decide | omega) ?_); conv => whnf) | refine Sem.seqS ?_ | refine Sem.block ?_)
  refine Sem.loop (ι := PI k v r) (fun x => ⟨(.slc 92 (r.map kvR) :: .str k :: .str v :: .top :: .top :: .top :: .top :: .own 0 92 (x.out.map kvR) :: .bool x.done :: .int .i64 (x.i : Nat) :: .top :: .top :: .top :: .top :: .top :: .top :: .top :: .top :: .top :: .top :: .top :: .top :: .top :: .top :: .top :: .top :: .top :: .top :: .top :: .top :: .top :: .top :: .top :: .top :: .top :: .top :: .top :: .top :: .top :: .top :: .top :: .top :: .top :: .top :: .top :: .top :: .top :: .top :: .top :: .top :: .top :: .top :: .top :: .top :: .top :: .top :: []), [], 0, 1, G⟩) (fun x => r.length - x.i) ⟨0, Nat.zero_le _, [], false, rfl, Nat.zero_le _⟩ ?_ (fun x => ?_)
  · refine weak_by [none] ?_; (conv => whnf); repeat (refine And.intro rfl ?_; conv => whnf)
    exact ⟨fun i x hx => hx, rfl, Nat.zero_le _, rfl, rfl⟩
  obtain ⟨i, hi, out, done, h, hol⟩ := x
  repeat' (first | ((first | refine Sem.st tt_ok rfl ?_ | refine BS_t (by assumption) ?_ | refine BS_f (by assumption) ?_ | refine nthKi (by assumption) ?_ | refine ⟨_, ⟨(by omega), (by assumption)⟩, ?_⟩ | refine And.intro (by first | decide | omega) ?_); conv => whnf) | refine Sem.seqS ?_ | refine Sem.block ?_)
  refine BS_intro (fun hk => ?_) (fun hk => ?_) <;> conv => whnf
  · have hks : i < r.length := by simp at hk; omega
    clear hk
    obtain ⟨x, hx⟩ : ∃ v, r[i]? = some v := ⟨_, List.getElem?_eq_getElem hks⟩
    have hsm : (r.map kvR)[((i : Nat) : Int).toNat]? = some (kvR x) := by rw [Int.toNat_natCast, List.getElem?_map, hx]; rfl
    have hd : r.drop i = x :: r.drop (i + 1) := by
      obtain ⟨h1, rfl⟩ := List.getElem?_eq_some_iff.1 hx
      exact List.drop_eq_getElem_cons h1
    have hw : IntKind.i64.wrap ((i : Int) + 1) = ((i + 1 : Nat) : Int) := by rw [IntWalk.i64_in _ (by omega)]; omega
    rw [hd] at h
    obtain ⟨a, b⟩ := x
    cases done with
    | true =>
      repeat' (first | ((first | refine Sem.st tt_ok rfl ?_ | refine BS_t (by assumption) ?_ | refine BS_f (by assumption) ?_ | refine nthKi (by assumption) ?_ | refine ⟨_, ⟨(by omega), (by assumption)⟩, ?_⟩ | refine And.intro (by first | decide | omega) ?_); conv => whnf) | refine Sem.seqS ?_ | refine Sem.block ?_)
      refine BS_intro (fun he => ?_) (fun he => ?_) <;> conv => whnf
      · have hne : a ≠ k := by simpa [bl_eq] using he
        repeat' (first | ((first | refine Sem.st tt_ok rfl ?_ | refine BS_t (by assumption) ?_ | refine BS_f (by assumption) ?_ | refine nthKi (by assumption) ?_ | refine ⟨_, ⟨(by omega), (by assumption)⟩, ?_⟩ | refine And.intro (by first | decide | omega) ?_); conv => whnf) | refine Sem.seqS ?_ | refine Sem.block ?_)
        refine And.intro (app_le (by simp only [List.length_map, List.length_append, List.length_cons, List.length_nil]; omega) (by decide)) ?_; conv => whnf
        repeat' (first | ((first | refine Sem.st tt_ok rfl ?_ | refine BS_t (by assumption) ?_ | refine BS_f (by assumption) ?_ | refine nthKi (by assumption) ?_ | refine ⟨_, ⟨(by omega), (by assumption)⟩, ?_⟩ | refine And.intro (by first | decide | omega) ?_); conv => whnf) | refine Sem.seqS ?_ | refine Sem.block ?_)
        refine ⟨⟨i + 1, by omega, out ++ [(a, b)], true, by rw [h]; simp [putK, leB2, hne], by first | omega | (simp only [List.length_append, List.length_cons, List.length_nil]; omega)⟩, by show r.length - (i + 1) < r.length - i; omega, ?_⟩
        refine weak_by [some 0] ?_; (conv => whnf); repeat (refine And.intro rfl ?_; conv => whnf)
        try (refine And.intro (show _ = List.map kvR _ by simp only [List.map_append]; rfl) ?_; conv => whnf)
        (conv => whnf); repeat (refine And.intro rfl ?_; conv => whnf)
        refine And.intro hw ?_
        (conv => whnf); repeat (refine And.intro rfl ?_; conv => whnf)
        exact ⟨fun i y hy => hy, rfl, Nat.zero_le _, rfl, rfl⟩
      · have hne : a = k := by simpa [bl_eq] using he
        repeat' (first | ((first | refine Sem.st tt_ok rfl ?_ | refine BS_t (by assumption) ?_ | refine BS_f (by assumption) ?_ | refine nthKi (by assumption) ?_ | refine ⟨_, ⟨(by omega), (by assumption)⟩, ?_⟩ | refine And.intro (by first | decide | omega) ?_); conv => whnf) | refine Sem.seqS ?_ | refine Sem.block ?_)
        refine ⟨⟨i + 1, by omega, out, true, by rw [h]; simp [putK, leB2, hne], by first | omega | (simp only [List.length_append, List.length_cons, List.length_nil]; omega)⟩, by show r.length - (i + 1) < r.length - i; omega, ?_⟩
        refine weak_by [some 0] ?_; (conv => whnf); repeat (refine And.intro rfl ?_; conv => whnf)
        try (refine And.intro (show _ = List.map kvR _ by simp only [List.map_append]; rfl) ?_; conv => whnf)
        (conv => whnf); repeat (refine And.intro rfl ?_; conv => whnf)
        refine And.intro hw ?_
        (conv => whnf); repeat (refine And.intro rfl ?_; conv => whnf)
        exact ⟨fun i y hy => hy, rfl, Nat.zero_le _, rfl, rfl⟩
    | false =>
      repeat' (first | ((first | refine Sem.st tt_ok rfl ?_ | refine BS_t (by assumption) ?_ | refine BS_f (by assumption) ?_ | refine nthKi (by assumption) ?_ | refine ⟨_, ⟨(by omega), (by assumption)⟩, ?_⟩ | refine And.intro (by first | decide | omega) ?_); conv => whnf) | refine Sem.seqS ?_ | refine Sem.block ?_)
      refine BS_intro (fun hge => ?_) (fun hge => ?_) <;> conv => whnf
      · have hge' : Op.bytesLess a.toList k.toList = false := by simpa using hge
        repeat' (first | ((first | refine Sem.st tt_ok rfl ?_ | refine BS_t (by assumption) ?_ | refine BS_f (by assumption) ?_ | refine nthKi (by assumption) ?_ | refine ⟨_, ⟨(by omega), (by assumption)⟩, ?_⟩ | refine And.intro (by first | decide | omega) ?_); conv => whnf) | refine Sem.seqS ?_ | refine Sem.block ?_)
        refine And.intro (app_le (by simp only [List.length_map, List.length_append, List.length_cons, List.length_nil]; omega) (by decide)) ?_; conv => whnf
        repeat' (first | ((first | refine Sem.st tt_ok rfl ?_ | refine BS_t (by assumption) ?_ | refine BS_f (by assumption) ?_ | refine nthKi (by assumption) ?_ | refine ⟨_, ⟨(by omega), (by assumption)⟩, ?_⟩ | refine And.intro (by first | decide | omega) ?_); conv => whnf) | refine Sem.seqS ?_ | refine Sem.block ?_)
        refine BS_intro (fun he => ?_) (fun he => ?_) <;> conv => whnf
        · have hne : a ≠ k := by simpa [bl_eq] using he
          repeat' (first | ((first | refine Sem.st tt_ok rfl ?_ | refine BS_t (by assumption) ?_ | refine BS_f (by assumption) ?_ | refine nthKi (by assumption) ?_ | refine ⟨_, ⟨(by omega), (by assumption)⟩, ?_⟩ | refine And.intro (by first | decide | omega) ?_); conv => whnf) | refine Sem.seqS ?_ | refine Sem.block ?_)
          refine And.intro (app_le (by simp only [List.length_map, List.length_append, List.length_cons, List.length_nil]; omega) (by decide)) ?_; conv => whnf
          repeat' (first | ((first | refine Sem.st tt_ok rfl ?_ | refine BS_t (by assumption) ?_ | refine BS_f (by assumption) ?_ | refine nthKi (by assumption) ?_ | refine ⟨_, ⟨(by omega), (by assumption)⟩, ?_⟩ | refine And.intro (by first | decide | omega) ?_); conv => whnf) | refine Sem.seqS ?_ | refine Sem.block ?_)
          refine ⟨⟨i + 1, by omega, out ++ [(k, v)] ++ [(a, b)], true, by rw [h]; simp [putK, leB2, hne, hge'], by first | omega | (simp only [List.length_append, List.length_cons, List.length_nil]; omega)⟩, by show r.length - (i + 1) < r.length - i; omega, ?_⟩
          refine weak_by [some 0] ?_; (conv => whnf); repeat (refine And.intro rfl ?_; conv => whnf)
          try (refine And.intro (show _ = List.map kvR _ by simp only [List.map_append]; rfl) ?_; conv => whnf)
          (conv => whnf); repeat (refine And.intro rfl ?_; conv => whnf)
          refine And.intro hw ?_
          (conv => whnf); repeat (refine And.intro rfl ?_; conv => whnf)
          exact ⟨fun i y hy => hy, rfl, Nat.zero_le _, rfl, rfl⟩
        · have hne : a = k := by simpa [bl_eq] using he
          rw [hne] at hge'
          repeat' (first | ((first | refine Sem.st tt_ok rfl ?_ | refine BS_t (by assumption) ?_ | refine BS_f (by assumption) ?_ | refine nthKi (by assumption) ?_ | refine ⟨_, ⟨(by omega), (by assumption)⟩, ?_⟩ | refine And.intro (by first | decide | omega) ?_); conv => whnf) | refine Sem.seqS ?_ | refine Sem.block ?_)
          refine ⟨⟨i + 1, by omega, out ++ [(k, v)], true, by rw [h]; simp [putK, leB2, hne, hge'], by first | omega | (simp only [List.length_append, List.length_cons, List.length_nil]; omega)⟩, by show r.length - (i + 1) < r.length - i; omega, ?_⟩
          refine weak_by [some 0] ?_; (conv => whnf); repeat (refine And.intro rfl ?_; conv => whnf)
          try (refine And.intro (show _ = List.map kvR _ by simp only [List.map_append]; rfl) ?_; conv => whnf)
          (conv => whnf); repeat (refine And.intro rfl ?_; conv => whnf)
          refine And.intro hw ?_
          (conv => whnf); repeat (refine And.intro rfl ?_; conv => whnf)
          exact ⟨fun i y hy => hy, rfl, Nat.zero_le _, rfl, rfl⟩
      · have hge' : Op.bytesLess a.toList k.toList = true := by simpa using hge
        repeat' (first | ((first | refine Sem.st tt_ok rfl ?_ | refine BS_t (by assumption) ?_ | refine BS_f (by assumption) ?_ | refine nthKi (by assumption) ?_ | refine ⟨_, ⟨(by omega), (by assumption)⟩, ?_⟩ | refine And.intro (by first | decide | omega) ?_); conv => whnf) | refine Sem.seqS ?_ | refine Sem.block ?_)
        refine BS_intro (fun he => ?_) (fun he => ?_) <;> conv => whnf
        · have hne : a ≠ k := by simpa [bl_eq] using he
          repeat' (first | ((first | refine Sem.st tt_ok rfl ?_ | refine BS_t (by assumption) ?_ | refine BS_f (by assumption) ?_ | refine nthKi (by assumption) ?_ | refine ⟨_, ⟨(by omega), (by assumption)⟩, ?_⟩ | refine And.intro (by first | decide | omega) ?_); conv => whnf) | refine Sem.seqS ?_ | refine Sem.block ?_)
          refine And.intro (app_le (by simp only [List.length_map, List.length_append, List.length_cons, List.length_nil]; omega) (by decide)) ?_; conv => whnf
          repeat' (first | ((first | refine Sem.st tt_ok rfl ?_ | refine BS_t (by assumption) ?_ | refine BS_f (by assumption) ?_ | refine nthKi (by assumption) ?_ | refine ⟨_, ⟨(by omega), (by assumption)⟩, ?_⟩ | refine And.intro (by first | decide | omega) ?_); conv => whnf) | refine Sem.seqS ?_ | refine Sem.block ?_)
          refine ⟨⟨i + 1, by omega, out ++ [(a, b)], false, by rw [h]; simp [putK, leB2, hne, hge'], by first | omega | (simp only [List.length_append, List.length_cons, List.length_nil]; omega)⟩, by show r.length - (i + 1) < r.length - i; omega, ?_⟩
          refine weak_by [some 0] ?_; (conv => whnf); repeat (refine And.intro rfl ?_; conv => whnf)
          try (refine And.intro (show _ = List.map kvR _ by simp only [List.map_append]; rfl) ?_; conv => whnf)
          (conv => whnf); repeat (refine And.intro rfl ?_; conv => whnf)
          refine And.intro hw ?_
          (conv => whnf); repeat (refine And.intro rfl ?_; conv => whnf)
          exact ⟨fun i y hy => hy, rfl, Nat.zero_le _, rfl, rfl⟩
        · have hne : a = k := by simpa [bl_eq] using he
          rw [hne] at hge'
          repeat' (first | ((first | refine Sem.st tt_ok rfl ?_ | refine BS_t (by assumption) ?_ | refine BS_f (by assumption) ?_ | refine nthKi (by assumption) ?_ | refine ⟨_, ⟨(by omega), (by assumption)⟩, ?_⟩ | refine And.intro (by first | decide | omega) ?_); conv => whnf) | refine Sem.seqS ?_ | refine Sem.block ?_)
          refine ⟨⟨i + 1, by omega, out, false, by rw [h]; simp [putK, leB2, hne, hge'], by first | omega | (simp only [List.length_append, List.length_cons, List.length_nil]; omega)⟩, by show r.length - (i + 1) < r.length - i; omega, ?_⟩
          refine weak_by [some 0] ?_; (conv => whnf); repeat (refine And.intro rfl ?_; conv => whnf)
          try (refine And.intro (show _ = List.map kvR _ by simp only [List.map_append]; rfl) ?_; conv => whnf)
          (conv => whnf); repeat (refine And.intro rfl ?_; conv => whnf)
          refine And.intro hw ?_
          (conv => whnf); repeat (refine And.intro rfl ?_; conv => whnf)
          exact ⟨fun i y hy => hy, rfl, Nat.zero_le _, rfl, rfl⟩
  · have hk' : i = r.length := by simp at hk; omega
    subst hk'
    rw [List.drop_length] at h
    cases done with
    | true =>
      repeat' (first | ((first | refine Sem.st tt_ok rfl ?_ | refine BS_t (by assumption) ?_ | refine BS_f (by assumption) ?_ | refine nthKi (by assumption) ?_ | refine ⟨_, ⟨(by omega), (by assumption)⟩, ?_⟩ | refine And.intro (by first | decide | omega) ?_); conv => whnf) | refine Sem.seqS ?_ | refine Sem.block ?_)
      refine ⟨_, fun _ _ h => h, ?_, rfl⟩
      rw [h]; simp [putK]
    | false =>
      repeat' (first | ((first | refine Sem.st tt_ok rfl ?_ | refine BS_t (by assumption) ?_ | refine BS_f (by assumption) ?_ | refine nthKi (by assumption) ?_ | refine ⟨_, ⟨(by omega), (by assumption)⟩, ?_⟩ | refine And.intro (by first | decide | omega) ?_); conv => whnf) | refine Sem.seqS ?_ | refine Sem.block ?_)
      refine And.intro (app_le (by simp only [List.length_map, List.length_append, List.length_cons, List.length_nil]; omega) (by decide)) ?_; conv => whnf
      repeat' (first | ((first | refine Sem.st tt_ok rfl ?_ | refine BS_t (by assumption) ?_ | refine BS_f (by assumption) ?_ | refine nthKi (by assumption) ?_ | refine ⟨_, ⟨(by omega), (by assumption)⟩, ?_⟩ | refine And.intro (by first | decide | omega) ?_); conv => whnf) | refine Sem.seqS ?_ | refine Sem.block ?_)
      refine ⟨_, fun _ _ h => h, ?_, rfl⟩
      rw [h]; simp [putK]; rfl
end Go.Proofs.YtpihanlillbhkaaGreatDoor
end

section
/- Texts in order; the names of a list, each once, rising. -/
set_option maxRecDepth 100000
set_option linter.unusedSimpArgs false
namespace Go.Proofs.YtpihanlillbhkaaGreatDoor
open Go Go.RowKit Go.Proofs

def ltB (a b : ByteArray) : Prop := a.data.toList < b.data.toList
instance (a b : ByteArray) : Decidable (ltB a b) := inferInstanceAs (Decidable (a.data.toList < b.data.toList))
theorem ltB_less (a b : ByteArray) : Op.bytesLess a.toList b.toList = decide (ltB a b) := by
  unfold ltB
  rw [ByteArray.toList_eq, ByteArray.toList_eq, bytesLess_eq]
  exact decide_eq_decide.2 Iff.rfl
theorem ltB_irr (a : ByteArray) : ¬ ltB a a := List.lt_irrefl _
theorem ltB_trans {a b c : ByteArray} (h : ltB a b) (h' : ltB b c) : ltB a c := List.lt_trans h h'
theorem ltB_tri {a b : ByteArray} (h : ¬ ltB a b) (h' : ¬ ltB b a) : a = b := by
  have := List.le_antisymm (List.not_lt.1 h') (List.not_lt.1 h)
  exact ByteArray.ext (Array.ext' this)
theorem ltB_gtr (a b : ByteArray) : (!(Op.bytesLess a.toList b.toList || a.toList == b.toList)) = decide (ltB b a) := by
  rw [ltB_less, bl_eq]
  by_cases h : ltB a b
  · have : ¬ ltB b a := fun h' => ltB_irr _ (ltB_trans h h')
    simp [h, this]
  · by_cases e : a = b
    · subst e; simp [ltB_irr]
    · have : ltB b a := Classical.byContradiction fun hh => e (ltB_tri h hh)
      simp [h, e, this]
def insN (x : ByteArray) : List ByteArray → List ByteArray
  | [] => [x]
  | y :: r => if ltB x y then x :: y :: r else if x = y then y :: r else y :: insN x r
def namesN : List ByteArray → List ByteArray
  | [] => []
  | x :: r => insN x (namesN r)
theorem mem_insN {z x : ByteArray} : ∀ {l : List ByteArray}, z ∈ insN x l ↔ z = x ∨ z ∈ l
  | [] => by simp [insN]
  | y :: r => by
    by_cases h1 : ltB x y
    · simp [insN, h1]
    · by_cases h2 : x = y
      · subst h2
        simp only [insN, h1, if_false, if_true, List.mem_cons]
        constructor
        · exact fun h => .inr h
        · rintro (h | h)
          · exact .inl h
          · exact h
      · simp only [insN, h1, h2, if_false, List.mem_cons, mem_insN (l := r)]
        constructor
        · rintro (h | h | h)
          · exact .inr (.inl h)
          · exact .inl h
          · exact .inr (.inr h)
        · rintro (h | h | h)
          · exact .inr (.inl h)
          · exact .inl h
          · exact .inr (.inr h)
theorem mem_namesN {z : ByteArray} : ∀ {l : List ByteArray}, z ∈ namesN l ↔ z ∈ l
  | [] => by simp [namesN]
  | x :: r => by rw [namesN, mem_insN, mem_namesN (l := r), List.mem_cons]
theorem insN_rise {x : ByteArray} : ∀ {l : List ByteArray}, l.Pairwise ltB → (insN x l).Pairwise ltB
  | [], _ => by simp [insN]
  | y :: r, h => by
    obtain ⟨h1, h2⟩ := List.pairwise_cons.1 h
    by_cases hx : ltB x y
    · simp only [insN, hx, if_true]
      refine List.pairwise_cons.2 ⟨fun z hz => ?_, h⟩
      rcases List.mem_cons.1 hz with rfl | hz
      · exact hx
      · exact ltB_trans hx (h1 z hz)
    · by_cases he : x = y
      · simp only [insN, hx, he, if_false, if_true]
        subst he
        simp only [ltB_irr, if_false]
        exact h
      · simp only [insN, hx, he, if_false]
        refine List.pairwise_cons.2 ⟨fun z hz => ?_, insN_rise h2⟩
        rcases mem_insN.1 hz with rfl | hz
        · exact Classical.byContradiction fun hh => he (ltB_tri hx hh)
        · exact h1 z hz
theorem namesN_rise : ∀ l : List ByteArray, (namesN l).Pairwise ltB
  | [] => by simp [namesN]
  | _ :: r => insN_rise (namesN_rise r)
theorem len_insN (x : ByteArray) : ∀ l : List ByteArray, (insN x l).length ≤ l.length + 1
  | [] => by simp [insN]
  | y :: r => by
    have := len_insN x r
    unfold insN
    split
    · simp
    · split
      · simp
      · simp only [List.length_cons]; omega
theorem len_namesN : ∀ l : List ByteArray, (namesN l).length ≤ l.length
  | [] => by simp [namesN]
  | x :: r => by
    have := len_insN x (namesN r)
    have := len_namesN r
    simp only [namesN, List.length_cons]
    omega
theorem rising_nodup {l : List ByteArray} (h : l.Pairwise ltB) : l.Nodup := h.imp fun hl e => by rw [e] at hl; exact ltB_irr _ hl
theorem namesN_perm {l m : List ByteArray} (hm : m.Nodup) (h : ∀ z, z ∈ m ↔ z ∈ l) : m.Perm (namesN l) :=
  (List.perm_ext_iff_of_nodup hm (rising_nodup (namesN_rise l))).2 fun z => (h z).trans mem_namesN.symm
theorem keysE_names {α : Type} {m : List (ByteArray × α)} {l : List ByteArray} (hm : (m.map (·.1)).Nodup) (h : ∀ z, z ∈ m.map (·.1) ↔ z ∈ l) : keysE m = (namesN l).map fun s => [AV.str s] := by
  have hp := (namesN_perm hm h).map fun s => s.data.toList
  rw [List.map_map] at hp
  have e1 : keyL m = (namesN l).map fun s => s.data.toList := by
    unfold keyL
    have e0 : (m.map fun x => x.1.data.toList) = m.map ((fun s : ByteArray => s.data.toList) ∘ fun x => x.1) := rfl
    rw [e0, Go.mergeSort_of_perm hp]
    refine List.mergeSort_of_pairwise ?_
    refine List.pairwise_map.2 ((namesN_rise l).imp fun {x y} hl => ?_)
    simp only [leB, decide_eq_true_eq]
    exact List.le_of_lt hl
  rw [keysE, e1, List.map_map]
  refine List.map_congr_left fun x _ => ?_
  show [AV.str (S x.data.toList)] = _
  rw [S_of]
/-- greater than the last one, or the first one -/
def GtO (out : List ByteArray) (x : ByteArray) : Prop := ∀ y, out.getLast? = some y → ltB y x
theorem gtO_rest {out rest : List ByteArray} {x : ByteArray} (h : (out ++ rest).Pairwise ltB) (hx : x ∈ rest) : GtO out x := fun _ hy => (List.pairwise_append.1 h).2.2 _ (List.mem_of_getLast? hy) _ hx
theorem gtO_out {out : List ByteArray} {x : ByteArray} (h : out.Pairwise ltB) (hx : x ∈ out) : ¬ GtO out x := by
  intro hg
  rcases List.eq_nil_or_concat out with rfl | ⟨pre, y, rfl⟩
  · cases hx
  · rw [List.concat_eq_append] at *
    have h1 := hg y (by simp)
    rcases List.mem_append.1 hx with hp | hp
    · exact ltB_irr _ (ltB_trans h1 ((List.pairwise_append.1 h).2.2 _ hp y (by simp)))
    · simp at hp
      subst hp
      exact ltB_irr _ h1
theorem names_none {l out rest : List ByteArray} (h : namesN l = out ++ rest) (hn : ∀ x ∈ l, ¬ GtO out x) : rest = [] := by
  cases rest with
  | nil => rfl
  | cons r0 rest =>
    have hr := namesN_rise l
    rw [h] at hr
    exact absurd (gtO_rest hr (by simp)) (hn r0 (mem_namesN.1 (by rw [h]; simp)))
theorem names_some {l out rest : List ByteArray} {x : ByteArray} (h : namesN l = out ++ rest) (hx : x ∈ l) (hg : GtO out x) (hm : ∀ y ∈ l, GtO out y → ¬ ltB y x) : ∃ rest', rest = x :: rest' := by
  have hr := namesN_rise l
  rw [h] at hr
  have hx' : x ∈ out ++ rest := by rw [← h]; exact mem_namesN.2 hx
  rcases List.mem_append.1 hx' with ho | ho
  · exact absurd hg (gtO_out (List.pairwise_append.1 hr).1 ho)
  · cases rest with
    | nil => cases ho
    | cons r0 rest =>
      have h0 := gtO_rest hr (List.mem_cons_self (a := r0) (l := rest))
      have hlt := hm r0 (mem_namesN.1 (by rw [h]; simp)) h0
      rcases List.mem_cons.1 ho with rfl | ho
      · exact ⟨_, rfl⟩
      · exact absurd ((List.pairwise_cons.1 (List.pairwise_append.1 hr).2.1).1 x ho) hlt
/-- what one round of the search keeps: the least one ahead that is greater than the last one -/
def Best (L out : List ByteArray) (i : Nat) : Option Nat → Prop
  | none => ∀ x ∈ L.take i, ¬ GtO out x
  | some n => ∃ x, L[n]? = some x ∧ GtO out x ∧ ∀ y ∈ L.take i, GtO out y → ¬ ltB y x
def nxI : Option Nat → Int
  | none => -1
  | some n => (n : Int)
theorem best_new {L out : List ByteArray} {i : Nat} {x : ByteArray} {nx : Option Nat} (h : Best L out i nx) (hx : L[i]? = some x) (hg : GtO out x) (hl : ∀ n z, nx = some n → L[n]? = some z → ltB x z) : Best L out (i + 1) (some i) := by
  refine ⟨x, hx, hg, fun y hy hy' => ?_⟩
  rw [List.take_add_one, hx] at hy
  rcases List.mem_append.1 hy with hy | hy
  · cases nx with
    | none => exact absurd hy' (h y hy)
    | some n =>
      obtain ⟨z, h1, -, h3⟩ := h
      exact fun hh => h3 y hy hy' (ltB_trans hh (hl n z rfl h1))
  · simp at hy
    subst hy
    exact ltB_irr _
theorem best_not {L out : List ByteArray} {i : Nat} {x : ByteArray} {nx : Option Nat} (h : Best L out i nx) (hx : L[i]? = some x) (hg : ¬ GtO out x) : Best L out (i + 1) nx := by
  cases nx with
  | none =>
    intro y hy
    rw [List.take_add_one, hx] at hy
    rcases List.mem_append.1 hy with hy | hy
    · exact h y hy
    · simp at hy
      subst hy
      exact hg
  | some n =>
    obtain ⟨z, h1, h2, h3⟩ := h
    refine ⟨z, h1, h2, fun y hy hy' => ?_⟩
    rw [List.take_add_one, hx] at hy
    rcases List.mem_append.1 hy with hy | hy
    · exact h3 y hy hy'
    · simp at hy
      subst hy
      exact absurd hy' hg
theorem best_old {L out : List ByteArray} {i n : Nat} {x z : ByteArray} (h : Best L out i (some n)) (hx : L[i]? = some x) (hz : L[n]? = some z) (hl : ¬ ltB x z) : Best L out (i + 1) (some n) := by
  obtain ⟨z', h1, h2, h3⟩ := h
  rw [hz] at h1
  cases h1
  refine ⟨z, hz, h2, fun y hy hy' => ?_⟩
  rw [List.take_add_one, hx] at hy
  rcases List.mem_append.1 hy with hy | hy
  · exact h3 y hy hy'
  · simp at hy
    subst hy
    exact hl
theorem gtO_nil (x : ByteArray) : GtO [] x := fun y hy => by cases hy
theorem gtO_snoc {pre : List ByteArray} {y x : ByteArray} : GtO (pre ++ [y]) x ↔ ltB y x :=
  ⟨fun h => h y (by simp), fun h z hz => by simp at hz; subst hz; exact h⟩
end Go.Proofs.YtpihanlillbhkaaGreatDoor
end

section
/- A store and the document's rows: the plain law; Del; what is much. -/
set_option maxRecDepth 100000
set_option linter.unusedSimpArgs false
namespace Go.Proofs.YtpihanlillbhkaaGreatDoor
open Go Go.RowKit Go.Proofs

theorem leB2_iff (a b : ByteArray) : leB2 a b = true ↔ ¬ ltB b a := by
  unfold leB2 ltB
  rw [ByteArray.toList_eq, ByteArray.toList_eq, bytesLess_eq]
  simp
/-- strictly rising -/
def Rise (r : KvL) : Prop := r.Pairwise fun x y => ltB x.1 y.1
theorem rise_nodup {r : KvL} (h : Rise r) : (r.map (·.1)).Nodup := List.pairwise_map.2 (h.imp fun hl e => by rw [e] at hl; exact ltB_irr _ hl)
theorem putK_done (k v : ByteArray) : ∀ r : KvL, putK k v r true = delR r k
  | [] => rfl
  | x :: r => by
    have := putK_done k v r
    unfold delR at this ⊢
    by_cases h : x.1 = k <;> simp [putK, h, this]
theorem putK_perm (k v : ByteArray) : ∀ r : KvL, (putK k v r false).Perm ((k, v) :: delR r k)
  | [] => by simp [putK, delR]
  | x :: r => by
    by_cases hle : leB2 k x.1 = true
    · simp only [putK, hle, Bool.not_false, Bool.true_and, if_true, Bool.or_true, putK_done]
      unfold delR
      by_cases h : x.1 = k <;> simp [h]
    · have ih := putK_perm k v r
      have hle' : leB2 k x.1 = false := by simpa using hle
      simp only [putK, hle', Bool.and_false, Bool.or_false, if_false, Bool.false_eq_true, List.nil_append]
      unfold delR at ih ⊢
      by_cases h : x.1 = k
      · simp only [h, if_true, List.nil_append, decide_true, Bool.not_true, List.filter_cons_of_neg, Bool.false_eq_true, not_false_eq_true]
        exact ih
      · simp only [h, if_false, decide_false, Bool.not_false, List.filter_cons_of_pos, List.cons_append, List.nil_append]
        exact (ih.cons x).trans (.swap _ _ _)
theorem delR_rise {r : KvL} (h : Rise r) (k : ByteArray) : Rise (delR r k) := h.filter _
theorem delR_ne {r : KvL} {k : ByteArray} {x : ByteArray × ByteArray} (h : x ∈ delR r k) : x ∈ r ∧ x.1 ≠ k := by
  unfold delR at h
  rw [List.mem_filter] at h
  exact ⟨h.1, by simpa using h.2⟩
theorem putK_rise {r : KvL} (h : Rise r) (k v : ByteArray) : Rise (putK k v r false) := by
  induction r with
  | nil => simp [putK, Rise]
  | cons x r ih =>
    have hx := List.pairwise_cons.1 h
    have hr : Rise r := hx.2
    by_cases hle : leB2 k x.1 = true
    · simp only [putK, hle, Bool.not_false, Bool.true_and, if_true, Bool.or_true, putK_done]
      have e : ((if x.1 = k then [] else [x]) ++ delR r k) = delR (x :: r) k := by
        unfold delR
        by_cases h : x.1 = k <;> simp [h]
      rw [e]
      refine List.pairwise_cons.2 ⟨fun y hy => ?_, delR_rise h k⟩
      obtain ⟨hy, hne⟩ := delR_ne hy
      have hkx := (leB2_iff k x.1).1 hle
      rcases List.mem_cons.1 hy with rfl | hy
      · exact Classical.byContradiction fun hh => hne (ltB_tri hkx hh)
      · have hxy := hx.1 y hy
        by_cases hk : ltB k x.1
        · exact ltB_trans hk hxy
        · rw [ltB_tri hk hkx]; exact hxy
    · have hle' : leB2 k x.1 = false := by simpa using hle
      have hxk : ltB x.1 k := Classical.byContradiction fun hh => hle ((leB2_iff k x.1).2 hh)
      have hne : x.1 ≠ k := fun e => by rw [e] at hxk; exact ltB_irr _ hxk
      simp only [putK, hle', Bool.and_false, Bool.or_false, if_false, Bool.false_eq_true, List.nil_append, hne, List.cons_append]
      refine List.pairwise_cons.2 ⟨fun y hy => ?_, ih hr⟩
      rcases List.mem_cons.1 ((putK_perm k v r).mem_iff.1 hy) with rfl | hy
      · exact hxk
      · exact hx.1 y (delR_ne hy).1
theorem lput_perm (k v : ByteArray) : ∀ m : KvL, (m.map (·.1)).Nodup → (lput m k v).Perm ((k, v) :: delR m k)
  | [], _ => by simp [lput, delR]
  | (z, y) :: r, hn => by
    simp only [List.map_cons, List.nodup_cons] at hn
    by_cases hz : k = z
    · subst hz
      have : delR r k = r := List.filter_eq_self.2 fun x hx => by
        have : x.1 ≠ k := fun e => hn.1 (List.mem_map.2 ⟨x, hx, e⟩)
        simp [this]
      simp only [lput, decide_true]
      unfold delR at this ⊢
      simp [this]
    · have hz' : ¬ z = k := fun e => hz e.symm
      have ih := lput_perm k v r hn.2
      simp only [lput, hz, decide_false]
      unfold delR at ih ⊢
      simp only [hz', decide_false, Bool.not_false, List.filter_cons_of_pos]
      exact (ih.cons _).trans (.swap _ _ _)
theorem ldel_eq (k : ByteArray) : ∀ m : KvL, (m.map (·.1)).Nodup → ldel m k = delR m k
  | [], _ => rfl
  | (z, y) :: r, hn => by
    simp only [List.map_cons, List.nodup_cons] at hn
    by_cases hz : k = z
    · subst hz
      have : delR r k = r := List.filter_eq_self.2 fun x hx => by
        have : x.1 ≠ k := fun e => hn.1 (List.mem_map.2 ⟨x, hx, e⟩)
        simp [this]
      simp only [ldel, decide_true]
      unfold delR at this ⊢
      simp [this]
    · have hz' : ¬ z = k := fun e => hz e.symm
      have ih := ldel_eq k r hn.2
      simp only [ldel, hz, decide_false]
      unfold delR at ih ⊢
      simp [hz', ih]
theorem lget_of {k v : ByteArray} : ∀ {m : KvL}, (m.map (·.1)).Nodup → (k, v) ∈ m → lget m k = some v
  | [], _, h => by cases h
  | (z, y) :: r, hn, h => by
    simp only [List.map_cons, List.nodup_cons] at hn
    rcases List.mem_cons.1 h with h | h
    · cases h; simp [lget]
    · have hz : ¬ k = z := fun e => hn.1 (List.mem_map.2 ⟨_, h, e⟩)
      simp only [lget, hz, decide_false]
      exact lget_of hn.2 h
theorem lget_perm {m r : KvL} (hm : (m.map (·.1)).Nodup) (h : m.Perm r) (z : ByteArray) : lget m z = lget r z := by
  have hr : (r.map (·.1)).Nodup := (h.map _).nodup_iff.1 hm
  cases hz : lget r z with
  | some v => exact lget_of hm (h.mem_iff.2 (lget_mem hz))
  | none =>
    cases hz' : lget m z with
    | none => rfl
    | some v => exact absurd rfl (lget_none hz _ (h.mem_iff.1 (lget_mem hz')))
theorem sizeR_perm {m r : KvL} (h : m.Perm r) : sizeR m = sizeR r := (h.map _).sum_nat
/-- a store's map and the document's rows -/
structure KInv (m r : KvL) : Prop where
  nd : (m.map (·.1)).Nodup
  pm : m.Perm r
  ri : Rise r
theorem KInv.get {m r : KvL} (h : KInv m r) (z : ByteArray) : lget m z = lget r z := lget_perm h.nd h.pm z
theorem KInv.put {m r : KvL} (h : KInv m r) (k v : ByteArray) : KInv (lput m k v) (putK k v r false) :=
  ⟨nodup_lput _ _ _ h.nd, (lput_perm k v m h.nd).trans (((h.pm.filter _).cons _).trans (putK_perm k v r).symm), putK_rise h.ri k v⟩
theorem KInv.del {m r : KvL} (h : KInv m r) (k : ByteArray) : KInv (ldel m k) (delR r k) :=
  ⟨nodup_ldel _ _ h.nd, by rw [ldel_eq k m h.nd]; exact h.pm.filter _, delR_rise h.ri k⟩
theorem KInv.keys {m r : KvL} (h : KInv m r) : keysE m = r.map fun x => [AV.str x.1] := by
  have e1 : keyL m = r.map fun x => x.1.data.toList := by
    unfold keyL
    rw [Go.mergeSort_of_perm (h.pm.map fun x => x.1.data.toList)]
    refine List.mergeSort_of_pairwise ?_
    refine List.pairwise_map.2 (h.ri.imp fun {x y} hl => ?_)
    simp only [leB, decide_eq_true_eq]
    exact List.le_of_lt hl
  rw [keysE, e1, List.map_map]
  refine List.map_congr_left fun x _ => ?_
  show [AV.str (S x.1.data.toList)] = _
  rw [S_of]
theorem sizeR_lput (k v : ByteArray) : ∀ m : KvL, ((sizeR (lput m k v) : Nat) : Int) = sizeR m + kgrow m k v
  | [] => by simp [sizeR, lput, kgrow, lget]
  | (z, y) :: r => by
    by_cases hz : k = z
    · subst hz
      simp [sizeR, lput, kgrow, lget]; omega
    · have := sizeR_lput k v r
      simp only [sizeR, lput, hz, decide_false, List.map_cons, List.sum_cons, kgrow, lget] at this ⊢
      omega
theorem sizeR_ldel (k : ByteArray) {w : ByteArray} : ∀ {m : KvL}, lget m k = some w → sizeR (ldel m k) + (16 + k.size + w.size) = sizeR m
  | [], h => by cases h
  | (z, y) :: r, h => by
    by_cases hz : k = z
    · subst hz
      simp only [lget, decide_true, Option.some.injEq] at h
      subst h
      simp [sizeR, ldel]; omega
    · simp only [lget, hz, decide_false] at h
      have := sizeR_ldel k h
      simp only [sizeR, ldel, hz, decide_false, List.map_cons, List.sum_cons] at this ⊢
      omega
end Go.Proofs.YtpihanlillbhkaaGreatDoor
end

section
/- kv.Del in the abstract run; the steps that are much. -/
set_option maxRecDepth 100000
set_option linter.unusedSimpArgs false
namespace Go.Proofs.YtpihanlillbhkaaGreatDoor
open Go Go.RowKit Go.Proofs

structure KStp where
  kind : Int
  k : ByteArray
  v : ByteArray
def KStp.av (x : KStp) : List AV := [.int .i64 x.kind, .str x.k, .str x.v]
end Go.Proofs.YtpihanlillbhkaaGreatDoor
end

section
/- A partition's box: four stores, each a map and a number. -/
set_option maxRecDepth 100000
namespace Go.Proofs.YtpihanlillbhkaaGreatDoor
open Go Go.RowKit Go.Proofs

/-- what else lies in the box -/
structure Oth where
  a : AV
  b : AV
  c : AV
  d : AV
  e : AV
  f : AV
def StK (s : Oth) (G : Glob) (b : Nat) (mv : AV) (n : Int) (m : List (AV × AV)) : Prop := G b = some (.cells [mv, .int .i64 n, s.a, s.b, s.c, s.d, s.e, s.f]) ∧ MapG G mv m
def StC (s : Oth) (G : Glob) (b : Nat) (mv : AV) (n : Int) (m : List (AV × AV)) : Prop := G b = some (.cells [s.a, s.b, mv, .int .i64 n, s.c, s.d, s.e, s.f]) ∧ MapG G mv m
def StQ (s : Oth) (G : Glob) (b : Nat) (mv : AV) (n : Int) (m : List (AV × AV)) : Prop := G b = some (.cells [s.a, s.b, s.c, s.d, mv, .int .i64 n, s.e, s.f]) ∧ MapG G mv m
def StL (s : Oth) (G : Glob) (b : Nat) (mv : AV) (n : Int) (m : List (AV × AV)) : Prop := G b = some (.cells [s.a, s.b, s.c, s.d, s.e, s.f, mv, .int .i64 n]) ∧ MapG G mv m
end Go.Proofs.YtpihanlillbhkaaGreatDoor
end

section
/- kv, at its place within a partition. Printed by genpart2.py. -/
set_option maxRecDepth 100000
set_option linter.unusedSimpArgs false
set_option linter.unusedVariables false
namespace Go.Proofs.YtpihanlillbhkaaGreatDoor
open Go Go.RowKit Go.Proofs

theorem Pkget_ok {s : Oth} (G : Glob) (b : Nat) (mv : AV) (n : Int) (l : KvL) (k : ByteArray) (h : StK s G b mv n (bk kav l)) : CallOk Tryz.prog TT 30 [.gptr b 0, .str k] G (fun v G' => v = kget l k ∧ G' = G) := by
  obtain ⟨h1, ⟨rfl, hl⟩ | ⟨mb, rfl, h2⟩⟩ := h
  · cases kbk_nil hl
    refine call_body tt_ok Tryz.func30 rfl (by kernel_rfl) Tryz.ntmps30 Tryz.results30 ?_; conv => whnf
    repeat' (first | ((first | refine BS_t (by assumption) ?_ | refine BS_f (by assumption) ?_ | refine atG (by repeat (first | assumption | exact setG_same _ _ _ | refine atNe (by first | assumption | exact Ne.symm (by assumption)) ?_)) ?_ | refine nthKi (by assumption) ?_ | refine ⟨_, ⟨(by omega), (by assumption)⟩, ?_⟩ | refine And.intro (by first | decide | omega) ?_); conv => whnf) | fail)
    exact ⟨_, fun _ _ h => h, rfl, rfl⟩
  · refine call_body tt_ok Tryz.func30 rfl (by kernel_rfl) Tryz.ntmps30 Tryz.results30 ?_; conv => whnf
    repeat' (first | ((first | refine BS_t (by assumption) ?_ | refine BS_f (by assumption) ?_ | refine atG (by repeat (first | assumption | exact setG_same _ _ _ | refine atNe (by first | assumption | exact Ne.symm (by assumption)) ?_)) ?_ | refine nthKi (by assumption) ?_ | refine ⟨_, ⟨(by omega), (by assumption)⟩, ?_⟩ | refine And.intro (by first | decide | omega) ?_); conv => whnf) | fail)
    refine ⟨_, h2, _, bk_get kav k l, ?_⟩
    unfold kget
    cases lget l k with
    | some v =>
      repeat' (first | ((first | refine BS_t (by assumption) ?_ | refine BS_f (by assumption) ?_ | refine atG (by repeat (first | assumption | exact setG_same _ _ _ | refine atNe (by first | assumption | exact Ne.symm (by assumption)) ?_)) ?_ | refine nthKi (by assumption) ?_ | refine ⟨_, ⟨(by omega), (by assumption)⟩, ?_⟩ | refine And.intro (by first | decide | omega) ?_); conv => whnf) | fail)
      exact ⟨_, fun _ _ h => h, rfl, rfl⟩
    | none =>
      repeat' (first | ((first | refine BS_t (by assumption) ?_ | refine BS_f (by assumption) ?_ | refine atG (by repeat (first | assumption | exact setG_same _ _ _ | refine atNe (by first | assumption | exact Ne.symm (by assumption)) ?_)) ?_ | refine nthKi (by assumption) ?_ | refine ⟨_, ⟨(by omega), (by assumption)⟩, ?_⟩ | refine And.intro (by first | decide | omega) ?_); conv => whnf) | fail)
      exact ⟨_, fun _ _ h => h, rfl, rfl⟩
theorem Pkgrows_ok {s : Oth} (G : Glob) (b : Nat) (mv : AV) (n : Int) (l : KvL) (k v : ByteArray) (hk : k.size ≤ 140737488351232) (hv : v.size ≤ 140737488351232) (hl : ∀ w, lget l k = some w → w.size ≤ 140737488351232) (h : StK s G b mv n (bk kav l)) : CallOk Tryz.prog TT 81 [.gptr b 0, .str k, .str v] G (fun x G' => x = .int .i64 (kgrow l k v) ∧ G' = G) := by
  have hg := Pkget_ok G b mv n l k h
  unfold kget at hg
  unfold kgrow
  have i1 : IntKind.i64.wrap (16 + (k.size : Int)) = 16 + k.size := IntWalk.i64_in _ (by omega)
  have i2 : IntKind.i64.wrap (16 + (k.size : Int) + v.size) = 16 + k.size + v.size := IntWalk.i64_in _ (by omega)
  cases hq : lget l k with
  | some w =>
    have hw := hl w hq
    have i3 : IntKind.i64.wrap (16 + (k.size : Int) + w.size) = 16 + k.size + w.size := IntWalk.i64_in _ (by omega)
    have i4 : IntKind.i64.wrap (16 + (k.size : Int) + v.size - (16 + k.size + w.size)) = 16 + k.size + v.size - (16 + k.size + w.size) := IntWalk.i64_in _ (by omega)
    simp only [hq] at hg
    refine call_body tt_ok Tryz.func81 rfl (by kernel_rfl) Tryz.ntmps81 Tryz.results81 ?_; conv => whnf
    refine hg.on ?_; conv => whnf
    repeat' (first | ((first | refine BS_t (by assumption) ?_ | refine BS_f (by assumption) ?_ | refine atG (by repeat (first | assumption | exact setG_same _ _ _ | refine atNe (by first | assumption | exact Ne.symm (by assumption)) ?_)) ?_ | refine nthKi (by assumption) ?_ | refine ⟨_, ⟨(by omega), (by assumption)⟩, ?_⟩ | refine And.intro (by first | decide | omega) ?_); conv => whnf) | fail)
    refine ⟨_, fun _ _ h => h, ?_, rfl⟩
    rw [i1, i2, i3, i4]
  | none =>
    simp only [hq] at hg
    refine call_body tt_ok Tryz.func81 rfl (by kernel_rfl) Tryz.ntmps81 Tryz.results81 ?_; conv => whnf
    refine hg.on ?_; conv => whnf
    repeat' (first | ((first | refine BS_t (by assumption) ?_ | refine BS_f (by assumption) ?_ | refine atG (by repeat (first | assumption | exact setG_same _ _ _ | refine atNe (by first | assumption | exact Ne.symm (by assumption)) ?_)) ?_ | refine nthKi (by assumption) ?_ | refine ⟨_, ⟨(by omega), (by assumption)⟩, ?_⟩ | refine And.intro (by first | decide | omega) ?_); conv => whnf) | fail)
    refine ⟨_, fun _ _ h => h, ?_, rfl⟩
    rw [i1, i2]
theorem Pkput_ok {s : Oth} (G : Glob) (b : Nat) (mv : AV) (n : Int) (l : KvL) (k v : ByteArray) (hk : k.size ≤ 140737488351232) (hv : v.size ≤ 140737488351232) (hl : ∀ w, lget l k = some w → w.size ≤ 140737488351232) (n0 : 0 ≤ n) (n1 : n ≤ 4611686018427387904) (h : StK s G b mv n (bk kav l)) :
    CallOk Tryz.prog TT 83 [.gptr b 0, .str k, .str v] G (fun x G' => x = .tup [] ∧ ∃ mv', StK s G' b mv' (n + kgrow l k v) (bk kav (lput l k v)) ∧ Kept G G' b mv mv') := by
  have hg := Pkgrows_ok G b mv n l k v hk hv hl h
  have hw : IntKind.i64.wrap (n + kgrow l k v) = n + kgrow l k v := IntWalk.i64_in _ (by
    unfold kgrow
    cases hq : lget l k with
    | some w => have := hl w hq; simp only; omega
    | none => simp only; omega)
  obtain ⟨h1, ⟨rfl, hl⟩ | ⟨mb, rfl, h2⟩⟩ := h
  · cases kbk_nil hl
    refine call_sem tt_ok Tryz.func83 rfl (by kernel_rfl) Tryz.ntmps83 Tryz.results83 ?_; conv => whnf
    repeat' (first | ((first | refine Sem.st tt_ok rfl ?_ | refine BS_t (by assumption) ?_ | refine BS_f (by assumption) ?_ | refine atG (by repeat (first | assumption | exact setG_same _ _ _ | refine atNe (by first | assumption | exact Ne.symm (by assumption)) ?_)) ?_ | refine nthKi (by assumption) ?_ | refine ⟨_, ⟨(by omega), (by assumption)⟩, ?_⟩ | refine And.intro (by first | decide | omega) ?_); conv => whnf) | refine Sem.seqS ?_ | refine Sem.block ?_)
    refine draw_sound (eff := []) tt_ok (by kernel_rfl) (by kernel_rfl) ?_; conv => whnf
    repeat' (first | ((first | refine BS_t (by assumption) ?_ | refine BS_f (by assumption) ?_ | refine atG (by repeat (first | assumption | exact setG_same _ _ _ | refine atNe (by first | assumption | exact Ne.symm (by assumption)) ?_)) ?_ | refine nthKi (by assumption) ?_ | refine ⟨_, ⟨(by omega), (by assumption)⟩, ?_⟩ | refine And.intro (by first | decide | omega) ?_); conv => whnf) | fail)
    refine ⟨_, _, hg, ?_⟩; (conv => whnf); refine And.intro rfl ?_; conv => whnf
    repeat' (first | ((first | refine BS_t (by assumption) ?_ | refine BS_f (by assumption) ?_ | refine atG (by repeat (first | assumption | exact setG_same _ _ _ | refine atNe (by first | assumption | exact Ne.symm (by assumption)) ?_)) ?_ | refine nthKi (by assumption) ?_ | refine ⟨_, ⟨(by omega), (by assumption)⟩, ?_⟩ | refine And.intro (by first | decide | omega) ?_); conv => whnf) | fail)
    rw [hw]
    repeat' (first | ((first | refine Sem.st tt_ok rfl ?_ | refine BS_t (by assumption) ?_ | refine BS_f (by assumption) ?_ | refine atG (by repeat (first | assumption | exact setG_same _ _ _ | refine atNe (by first | assumption | exact Ne.symm (by assumption)) ?_)) ?_ | refine nthKi (by assumption) ?_ | refine ⟨_, ⟨(by omega), (by assumption)⟩, ?_⟩ | refine And.intro (by first | decide | omega) ?_); conv => whnf) | refine Sem.seqS ?_ | refine Sem.block ?_)
    intro mb hmb
    conv => whnf
    repeat' (first | ((first | refine Sem.st tt_ok rfl ?_ | refine BS_t (by assumption) ?_ | refine BS_f (by assumption) ?_ | refine atG (by repeat (first | assumption | exact setG_same _ _ _ | refine atNe (by first | assumption | exact Ne.symm (by assumption)) ?_)) ?_ | refine nthKi (by assumption) ?_ | refine ⟨_, ⟨(by omega), (by assumption)⟩, ?_⟩ | refine And.intro (by first | decide | omega) ?_); conv => whnf) | refine Sem.seqS ?_ | refine Sem.block ?_)
    have hne : mb ≠ b := by rintro rfl; simp [setG_same] at hmb
    repeat' (first | ((first | refine Sem.st tt_ok rfl ?_ | refine BS_t (by assumption) ?_ | refine BS_f (by assumption) ?_ | refine atG (by repeat (first | assumption | exact setG_same _ _ _ | refine atNe (by first | assumption | exact Ne.symm (by assumption)) ?_)) ?_ | refine nthKi (by assumption) ?_ | refine ⟨_, ⟨(by omega), (by assumption)⟩, ?_⟩ | refine And.intro (by first | decide | omega) ?_); conv => whnf) | refine Sem.seqS ?_ | refine Sem.block ?_)
    refine Exists.intro _ (And.intro (by repeat (first | assumption | exact setG_same _ _ _ | refine atNe (by first | assumption | exact Ne.symm (by assumption)) ?_)) ?_); conv => whnf
    repeat' (first | ((first | refine Sem.st tt_ok rfl ?_ | refine BS_t (by assumption) ?_ | refine BS_f (by assumption) ?_ | refine atG (by repeat (first | assumption | exact setG_same _ _ _ | refine atNe (by first | assumption | exact Ne.symm (by assumption)) ?_)) ?_ | refine nthKi (by assumption) ?_ | refine ⟨_, ⟨(by omega), (by assumption)⟩, ?_⟩ | refine And.intro (by first | decide | omega) ?_); conv => whnf) | refine Sem.seqS ?_ | refine Sem.block ?_)
    refine ⟨_, fun _ _ h => h, rfl, .mp mb, ⟨by repeat (first | assumption | exact setG_same _ _ _ | refine atNe (by first | assumption | exact Ne.symm (by assumption)) ?_), .inr ⟨mb, rfl, setG_same _ _ _⟩⟩, .inr ⟨rfl, mb, by rwa [setG_ne _ _ hne] at hmb, rfl⟩, fun i x hi hb _ => ?_⟩
    have : i ≠ mb := by rintro rfl; rw [setG_ne _ _ hne] at hmb; simp [hmb] at hi
    simpa [setG, hb, this] using hi
  · have hne : mb ≠ b := by rintro rfl; simp [h1] at h2
    refine call_sem tt_ok Tryz.func83 rfl (by kernel_rfl) Tryz.ntmps83 Tryz.results83 ?_; conv => whnf
    repeat' (first | ((first | refine Sem.st tt_ok rfl ?_ | refine BS_t (by assumption) ?_ | refine BS_f (by assumption) ?_ | refine atG (by repeat (first | assumption | exact setG_same _ _ _ | refine atNe (by first | assumption | exact Ne.symm (by assumption)) ?_)) ?_ | refine nthKi (by assumption) ?_ | refine ⟨_, ⟨(by omega), (by assumption)⟩, ?_⟩ | refine And.intro (by first | decide | omega) ?_); conv => whnf) | refine Sem.seqS ?_ | refine Sem.block ?_)
    refine draw_sound (eff := []) tt_ok (by kernel_rfl) (by kernel_rfl) ?_; conv => whnf
    repeat' (first | ((first | refine BS_t (by assumption) ?_ | refine BS_f (by assumption) ?_ | refine atG (by repeat (first | assumption | exact setG_same _ _ _ | refine atNe (by first | assumption | exact Ne.symm (by assumption)) ?_)) ?_ | refine nthKi (by assumption) ?_ | refine ⟨_, ⟨(by omega), (by assumption)⟩, ?_⟩ | refine And.intro (by first | decide | omega) ?_); conv => whnf) | fail)
    refine ⟨_, _, hg, ?_⟩; (conv => whnf); refine And.intro rfl ?_; conv => whnf
    repeat' (first | ((first | refine BS_t (by assumption) ?_ | refine BS_f (by assumption) ?_ | refine atG (by repeat (first | assumption | exact setG_same _ _ _ | refine atNe (by first | assumption | exact Ne.symm (by assumption)) ?_)) ?_ | refine nthKi (by assumption) ?_ | refine ⟨_, ⟨(by omega), (by assumption)⟩, ?_⟩ | refine And.intro (by first | decide | omega) ?_); conv => whnf) | fail)
    rw [hw]
    repeat' (first | ((first | refine Sem.st tt_ok rfl ?_ | refine BS_t (by assumption) ?_ | refine BS_f (by assumption) ?_ | refine atG (by repeat (first | assumption | exact setG_same _ _ _ | refine atNe (by first | assumption | exact Ne.symm (by assumption)) ?_)) ?_ | refine nthKi (by assumption) ?_ | refine ⟨_, ⟨(by omega), (by assumption)⟩, ?_⟩ | refine And.intro (by first | decide | omega) ?_); conv => whnf) | refine Sem.seqS ?_ | refine Sem.block ?_)
    refine Exists.intro _ (And.intro (by repeat (first | assumption | exact setG_same _ _ _ | refine atNe (by first | assumption | exact Ne.symm (by assumption)) ?_)) ?_); conv => whnf
    repeat' (first | ((first | refine Sem.st tt_ok rfl ?_ | refine BS_t (by assumption) ?_ | refine BS_f (by assumption) ?_ | refine atG (by repeat (first | assumption | exact setG_same _ _ _ | refine atNe (by first | assumption | exact Ne.symm (by assumption)) ?_)) ?_ | refine nthKi (by assumption) ?_ | refine ⟨_, ⟨(by omega), (by assumption)⟩, ?_⟩ | refine And.intro (by first | decide | omega) ?_); conv => whnf) | refine Sem.seqS ?_ | refine Sem.block ?_)
    refine ⟨_, fun _ _ h => h, rfl, .mp mb, ⟨by repeat (first | assumption | exact setG_same _ _ _ | refine atNe (by first | assumption | exact Ne.symm (by assumption)) ?_), .inr ⟨mb, rfl, (setG_same _ _ _).trans (congrArg (fun z => some (GB.map none z)) (bk_put kav k v l))⟩⟩, .inl rfl, fun i x hi hb hm => ?_⟩
    have : i ≠ mb := by rintro rfl; exact hm rfl
    simpa [setG, hb, this] using hi
theorem Pkdel_none {s : Oth} (G : Glob) (b : Nat) (mv : AV) (n : Int) (l : KvL) (k : ByteArray) (h : StK s G b mv n (bk kav l)) (hq : lget l k = none) : CallOk Tryz.prog TT 85 [.gptr b 0, .str k] G (fun x G' => x = .bool false ∧ G' = G) := by
  have hg := Pkget_ok G b mv n l k h
  unfold kget at hg
  simp only [hq] at hg
  refine call_sem tt_ok Tryz.func85 rfl (by kernel_rfl) Tryz.ntmps85 Tryz.results85 ?_; conv => whnf
  repeat' (first | ((first | refine Sem.st tt_ok rfl ?_ | refine BS_t (by assumption) ?_ | refine BS_f (by assumption) ?_ | refine atG (by repeat (first | assumption | exact setG_same _ _ _ | refine atNe (by first | assumption | exact Ne.symm (by assumption)) ?_)) ?_ | refine nthKi (by assumption) ?_ | refine ⟨_, ⟨(by omega), (by assumption)⟩, ?_⟩ | refine And.intro (by first | decide | omega) ?_); conv => whnf) | refine Sem.seqS ?_ | refine Sem.block ?_)
  refine hg.on ?_; conv => whnf
  repeat' (first | ((first | refine Sem.st tt_ok rfl ?_ | refine BS_t (by assumption) ?_ | refine BS_f (by assumption) ?_ | refine atG (by repeat (first | assumption | exact setG_same _ _ _ | refine atNe (by first | assumption | exact Ne.symm (by assumption)) ?_)) ?_ | refine nthKi (by assumption) ?_ | refine ⟨_, ⟨(by omega), (by assumption)⟩, ?_⟩ | refine And.intro (by first | decide | omega) ?_); conv => whnf) | refine Sem.seqS ?_ | refine Sem.block ?_)
  exact ⟨_, fun _ _ h => h, rfl, rfl⟩
theorem Pkdel_ok {s : Oth} (G : Glob) (b : Nat) (mv : AV) (n : Int) (l : KvL) (k w : ByteArray) (hk : k.size ≤ 140737488351232) (hw : w.size ≤ 140737488351232) (n0 : 0 ≤ n) (n1 : n ≤ 4611686018427387904) (h : StK s G b mv n (bk kav l)) (hq : lget l k = some w) :
    CallOk Tryz.prog TT 85 [.gptr b 0, .str k] G (fun x G' => x = .bool true ∧ StK s G' b mv (n - (16 + k.size + w.size)) (bk kav (ldel l k)) ∧ Kept G G' b mv mv) := by
  have hg := Pkget_ok G b mv n l k h
  unfold kget at hg
  simp only [hq] at hg
  have i1 : IntKind.i64.wrap (16 + (k.size : Int)) = 16 + k.size := IntWalk.i64_in _ (by omega)
  have i2 : IntKind.i64.wrap (16 + (k.size : Int) + w.size) = 16 + k.size + w.size := IntWalk.i64_in _ (by omega)
  have i3 : IntKind.i64.wrap (n - (16 + (k.size : Int) + w.size)) = n - (16 + k.size + w.size) := IntWalk.i64_in _ (by omega)
  obtain ⟨h1, ⟨rfl, hl⟩ | ⟨mb, rfl, h2⟩⟩ := h
  · cases kbk_nil hl
    cases hq
  · have hne : mb ≠ b := by rintro rfl; simp [h1] at h2
    refine call_sem tt_ok Tryz.func85 rfl (by kernel_rfl) Tryz.ntmps85 Tryz.results85 ?_; conv => whnf
    repeat' (first | ((first | refine Sem.st tt_ok rfl ?_ | refine BS_t (by assumption) ?_ | refine BS_f (by assumption) ?_ | refine atG (by repeat (first | assumption | exact setG_same _ _ _ | refine atNe (by first | assumption | exact Ne.symm (by assumption)) ?_)) ?_ | refine nthKi (by assumption) ?_ | refine ⟨_, ⟨(by omega), (by assumption)⟩, ?_⟩ | refine And.intro (by first | decide | omega) ?_); conv => whnf) | refine Sem.seqS ?_ | refine Sem.block ?_)
    refine hg.on ?_; conv => whnf
    repeat' (first | ((first | refine Sem.st tt_ok rfl ?_ | refine BS_t (by assumption) ?_ | refine BS_f (by assumption) ?_ | refine atG (by repeat (first | assumption | exact setG_same _ _ _ | refine atNe (by first | assumption | exact Ne.symm (by assumption)) ?_)) ?_ | refine nthKi (by assumption) ?_ | refine ⟨_, ⟨(by omega), (by assumption)⟩, ?_⟩ | refine And.intro (by first | decide | omega) ?_); conv => whnf) | refine Sem.seqS ?_ | refine Sem.block ?_)
    rw [i1, i2, i3]
    refine Exists.intro _ (And.intro (by repeat (first | assumption | exact setG_same _ _ _ | refine atNe (by first | assumption | exact Ne.symm (by assumption)) ?_)) ?_); conv => whnf
    repeat' (first | ((first | refine Sem.st tt_ok rfl ?_ | refine BS_t (by assumption) ?_ | refine BS_f (by assumption) ?_ | refine atG (by repeat (first | assumption | exact setG_same _ _ _ | refine atNe (by first | assumption | exact Ne.symm (by assumption)) ?_)) ?_ | refine nthKi (by assumption) ?_ | refine ⟨_, ⟨(by omega), (by assumption)⟩, ?_⟩ | refine And.intro (by first | decide | omega) ?_); conv => whnf) | refine Sem.seqS ?_ | refine Sem.block ?_)
    refine ⟨_, fun _ _ h => h, rfl, ⟨by repeat (first | assumption | exact setG_same _ _ _ | refine atNe (by first | assumption | exact Ne.symm (by assumption)) ?_), .inr ⟨mb, rfl, (setG_same _ _ _).trans (congrArg (fun z => some (GB.map none z)) (bk_del kav k l))⟩⟩, .inl rfl, fun i x hi hb hm => ?_⟩
    have : i ≠ mb := by rintro rfl; exact hm rfl
    simpa [setG, hb, this] using hi
end Go.Proofs.YtpihanlillbhkaaGreatDoor
end
