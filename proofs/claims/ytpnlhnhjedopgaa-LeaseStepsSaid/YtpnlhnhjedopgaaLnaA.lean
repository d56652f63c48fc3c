/- slices.Sorted(maps.Keys(m)) at a map of leases: their names, in order (lease.Names). -/
import Derived.Shelf.SlIter.Nil
import Derived.Shelf.AbstractIn
import Derived.Test.YtpnlhnhjedopgaaNamB
set_option maxRecDepth 100000
namespace Go.Proofs.Ytpnlhnhjedopgaa
open Go Go.RowKit Go.Proofs Go.Maps Go.Sort Go.Shelf

def keysLe_ren : Go.Shelf.Ren := ⟨fun | 7 => 113 | 10 => 138 | n => n, fun | 23 => 120 | 26 => 9 | 3 => 174 | 28 => 178 | 0 => 0 | 27 => 177 | 33 => 74 | 4 => 4 | n => n, fun | n => n⟩
theorem keysLe : Go.Proofs.SlLaysZ.n7 Try.prog keysLe_ren := {
  mixed := by kernel_rfl
  f7 := ⟨Try.f113.name, by kernel_rfl, Try.func113.trans (congrArg some (by kernel_rfl))⟩
  f10 := ⟨Try.f138.name, by kernel_rfl, Try.func138.trans (congrArg some (by kernel_rfl))⟩
  t0 := Try.underlying0
  a0 := Try.isAgg0
  z0 := Try.sizeOf0
  v0 := Try.zeroValue0
  t4 := Try.underlying4
  a4 := Try.isAgg4
  z4 := Try.sizeOf4
  v4 := Try.zeroValue4
  t23 := Try.underlying120
  a23 := Try.isAgg120
  z23 := Try.sizeOf120
  v23 := Try.zeroValue120
  t26 := Try.underlying9
  a26 := Try.isAgg9
  z26 := Try.sizeOf9
  v26 := Try.zeroValue9
  t27 := Try.underlying177
  a27 := Try.isAgg177
  z27 := Try.sizeOf177
  v27 := Try.zeroValue177
  t28 := Try.underlying178
  a28 := Try.isAgg178
  z28 := Try.sizeOf178
  v28 := Try.zeroValue178
  t33 := Try.underlying74
  a33 := Try.isAgg74
  z33 := Try.sizeOf74
  v33 := Try.zeroValue74
}
def sortedLe_ren : Go.Shelf.Ren := ⟨fun | 6 => 112 | 8 => 137 | 9 => 106 | 11 => 155 | 13 => 136 | 12 => 135 | 23 => 153 | 24 => 154 | 14 => 144 | 15 => 145 | 16 => 146 | 17 => 147 | 18 => 148 | 19 => 149 | 20 => 150 | 21 => 151 | 22 => 152 | 25 => 160 | 26 => 161 | 27 => 162 | 28 => 163 | 29 => 164 | 30 => 165 | 31 => 175 | n => n, fun | 26 => 9 | 28 => 178 | 24 => 52 | 0 => 0 | 3 => 3 | 37 => 195 | 48 => 236 | 50 => 22 | 4 => 4 | 40 => 229 | 39 => 228 | 45 => 233 | 5 => 5 | 9 => 9 | 51 => 245 | 55 => 222 | 57 => 255 | 58 => 256 | 33 => 74 | n => n, fun | n => n⟩
theorem sortedLe : Go.Proofs.SlLaysZ.n6 Try.prog sortedLe_ren := {
  mixed := by kernel_rfl
  f6 := ⟨Try.f112.name, by kernel_rfl, Try.func112.trans (congrArg some (by kernel_rfl))⟩
  f8 := ⟨Try.f137.name, by kernel_rfl, Try.func137.trans (congrArg some (by kernel_rfl))⟩
  f11 := ⟨Try.f155.name, by kernel_rfl, Try.func155.trans (congrArg some (by kernel_rfl))⟩
  t0 := Try.underlying0
  a0 := Try.isAgg0
  z0 := Try.sizeOf0
  v0 := Try.zeroValue0
  t24 := Try.underlying52
  a24 := Try.isAgg52
  z24 := Try.sizeOf52
  v24 := Try.zeroValue52
  t26 := Try.underlying9
  a26 := Try.isAgg9
  z26 := Try.sizeOf9
  v26 := Try.zeroValue9
  t28 := Try.underlying178
  a28 := Try.isAgg178
  z28 := Try.sizeOf178
  v28 := Try.zeroValue178
  i26 := by kernel_rfl
}
theorem sortsLe (m : Nat) : AnyZ.SortsIn Try.prog sortedLe_ren Fence.wide m :=
  ⟨fun blk off cap ss W hH hblk hsz => callsIn_wide.2 (AnyM.slices_Sort_string sortS blk off cap ss W hH hblk hsz),
   fun p cap W => callsIn_wide.2 (AnyM.slices_Sort_string_none sortS p cap W)⟩
set_option maxHeartbeats 1000000 in
theorem lnames_any (bb bm n : Nat) (D0 : DataW Unit) (w : World) (hc0 : w.cell? ⟨bb, 0, none⟩ = some (.map (some bm))) (hown : w.ownsMap Try.prog 9 rdAny bm n D0) (hmax : Maps.size D0 ≤ 1000000) :
    Calls Try.prog 77 #[.pointer (some ⟨bb, 0, none⟩)] w fun e w' => ∃ (v : Value) (ss : List (List UInt8)), e = .returned v ∧ ss.Perm (strKeys D0) ∧
      w'.ownsRow w.heap.size 9 1 v ss.length ((ss.mergeSort (fun x y => decide (x ≤ y))).map encStr) ∧ (v = .slice none 0 0 ↔ ss = []) ∧ Up w w' := by
  refine (callsIn_wide (n := 6)).1 ?_
  have hbl := hown.lt
  have hseq : SeqGives Fence.wide 2 Try.prog 138 #[.pointer (some ⟨w.heap.size, 0, none⟩)] encStr (fun ss => ss.Perm (strKeys D0)) (Maps.size D0) (w.alloc (.cells #[.map (some bm)] 120)) :=
    AnyZ.keys_gives (ρ := keysLe_ren) { keysLe with } Fence.wide _ trivial rfl (by omega) w.heap.size bm n D0 _ (by simp) (by simp) (by
      obtain ⟨es, clock, hb, Ft, hs, hD⟩ := hown
      exact ⟨es, clock, (Below.heap_alloc _ _ bm hbl).trans hb, Ft, hs, hD⟩)
  have cK : ∀ mb W, CallsIn Fence.wide 5 Try.prog 113 #[.map mb] W fun e w' => e = .returned (.func (.func 138) #[] #[.pointer (some ⟨W.heap.size, 0, none⟩)]) ∧ w' = W.alloc (.cells #[.map mb] 120) := fun mb W => AnyZ.keys_in keysLe Fence.wide 5 trivial rfl mb W
  have cS := AnyZ.sorted_in sortedLe Fence.wide 5 trivial trivial trivial trivial rfl (by omega) (sortsLe _) (enters_of Try.func106 (by kernel_rfl) rfl) 138 #[.pointer (some ⟨w.heap.size, 0, none⟩)] trivial (enters_of Try.func138 (by kernel_rfl) rfl) _ _ (by unfold maxLen; omega) (by omega) _ hseq
  change CallsIn _ _ Try.prog 112 _ _ _ at cS
  have hfK : Fence.wide.fn 113 := trivial
  have hfS : Fence.wide.fn 112 := trivial
  refine callsIn_of_wp Try.func77 rfl trivial ?_ rfl
  simp only [Try.ntmps77, List.size_toArray, List.length_cons, List.length_nil, Nat.reduceAdd, Nat.reduceSub, Array.replicate_succ, Array.replicate_zero, List.push_toArray, List.append_toArray, List.nil_append, List.cons_append]
  gi_wp2_with (first
    | (gi_at_call 113; refine (cK _ _).mono ?_; rintro e w' ⟨rfl, rfl⟩)
    | (gi_at_call 112; refine cS.mono ?_; rintro e w' ⟨v, ss, rfl, hS, hrow, hnil, hb⟩))
  go_ret
  exact ⟨v, ss, rfl, hS, ownsRow_base_a hrow (by simp), hnil, ((Below.refl _ w).alloc (Nat.le_refl _) _).trans (hb.mono (by simp))⟩
set_option maxHeartbeats 1000000 in
theorem lnames_nomap (bb : Nat) (w : World) (hc0 : w.cell? ⟨bb, 0, none⟩ = some (.map none)) : Calls Try.prog 77 #[.pointer (some ⟨bb, 0, none⟩)] w fun e w' => e = .returned (.slice none 0 0) ∧ Up w w' := by
  refine (callsIn_wide (n := 6)).1 ?_
  have hseq : SeqGives Fence.wide 2 Try.prog 138 #[.pointer (some ⟨w.heap.size, 0, none⟩)] encStr (fun ss : List (List UInt8) => ss = []) 0 (w.alloc (.cells #[.map none] 120)) :=
    AnyZ.keys_gives_nil (ρ := keysLe_ren) { keysLe with } Fence.wide _ trivial rfl w.heap.size _ (by simp) (by simp)
  have cK : ∀ mb W, CallsIn Fence.wide 5 Try.prog 113 #[.map mb] W fun e w' => e = .returned (.func (.func 138) #[] #[.pointer (some ⟨W.heap.size, 0, none⟩)]) ∧ w' = W.alloc (.cells #[.map mb] 120) := fun mb W => AnyZ.keys_in keysLe Fence.wide 5 trivial rfl mb W
  have cS := AnyZ.sorted_in sortedLe Fence.wide 5 trivial trivial trivial trivial rfl (by omega) (sortsLe _) (enters_of Try.func106 (by kernel_rfl) rfl) 138 #[.pointer (some ⟨w.heap.size, 0, none⟩)] trivial (enters_of Try.func138 (by kernel_rfl) rfl) _ 0 (Nat.zero_le _) (by omega) _ hseq
  change CallsIn _ _ Try.prog 112 _ _ _ at cS
  have hfK : Fence.wide.fn 113 := trivial
  have hfS : Fence.wide.fn 112 := trivial
  refine callsIn_of_wp Try.func77 rfl trivial ?_ rfl
  simp only [Try.ntmps77, List.size_toArray, List.length_cons, List.length_nil, Nat.reduceAdd, Nat.reduceSub, Array.replicate_succ, Array.replicate_zero, List.push_toArray, List.append_toArray, List.nil_append, List.cons_append]
  gi_wp2_with (first
    | (gi_at_call 113; refine (cK _ _).mono ?_; rintro e w' ⟨rfl, rfl⟩)
    | (gi_at_call 112; refine cS.mono ?_; rintro e w' ⟨v, ss, rfl, rfl, hrow, hnil, hb⟩; obtain rfl : v = .slice none 0 0 := hnil.2 rfl))
  go_ret
  exact ⟨rfl, ((Below.refl _ w).alloc (Nat.le_refl _) _).trans (hb.mono (by simp))⟩
theorem lnames_ok (G : Glob) (b : Nat) (mv : AV) (n : Int) {α : Type} (f : α → AV) (l : List (ByteArray × α)) (h : StG G b mv n (bk f l)) (hl : l.length ≤ 1000000) (hs : ∀ x ∈ l, x.1.size ≤ maxLen) :
    CallOk Try.prog TT 77 [.gptr b 0] G (fun v G' => v = .slc 9 (keysE l) ∧ G' = G) :=
  names_bridge rfl ⟨_, Try.func77, by decide, rfl⟩ (fun bb bm n D0 w h1 h2 h3 => (lnames_any bb bm n D0 w h1 h2 h3).mono fun e w' hh => by obtain ⟨v, ss, e1, e2, e3, _, e4⟩ := hh; exact ⟨v, ss, e1, e2, e3, e4⟩) lnames_nomap f G b mv n l h hl hs
end Go.Proofs.Ytpnlhnhjedopgaa
