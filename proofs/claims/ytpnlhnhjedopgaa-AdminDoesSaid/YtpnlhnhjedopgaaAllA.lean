/- slices.Sorted(maps.Keys(m)) at a map of tenants: the numbers that live, in order (admin.All). -/
import Derived.Shelf.SlIterI.Nil
import Derived.Shelf.SortM.Plain
import Derived.Shelf.SortM.SortNone
import Derived.Shelf.AbstractIn
import Derived.Test.YtpnlhnhjedopgaaLaw
set_option maxRecDepth 100000
namespace Go.Proofs.Ytpnlhnhjedopgaa
open Go Go.RowKit Go.Proofs Go.Maps Go.Sort Go.Shelf

def keysI_ren : Go.Shelf.Ren := ⟨fun | 7 => 119 | 10 => 141 | n => n, fun | 23 => 137 | 26 => 3 | 3 => 184 | 28 => 191 | 0 => 0 | 27 => 190 | 33 => 140 | 4 => 4 | n => n, fun | n => n⟩
theorem keysI : Go.Proofs.SlLaysZI.n7 Try.prog keysI_ren := {
  mixed := by kernel_rfl
  f7 := ⟨Try.f119.name, by kernel_rfl, Try.func119.trans (congrArg some (by kernel_rfl))⟩
  f10 := ⟨Try.f141.name, by kernel_rfl, Try.func141.trans (congrArg some (by kernel_rfl))⟩
  t0 := Try.underlying0
  a0 := Try.isAgg0
  z0 := Try.sizeOf0
  v0 := Try.zeroValue0
  t4 := Try.underlying4
  a4 := Try.isAgg4
  z4 := Try.sizeOf4
  v4 := Try.zeroValue4
  t23 := Try.underlying137
  a23 := Try.isAgg137
  z23 := Try.sizeOf137
  v23 := Try.zeroValue137
  t26 := Try.underlying3
  a26 := Try.isAgg3
  z26 := Try.sizeOf3
  v26 := Try.zeroValue3
  t27 := Try.underlying190
  a27 := Try.isAgg190
  z27 := Try.sizeOf190
  v27 := Try.zeroValue190
  t28 := Try.underlying191
  a28 := Try.isAgg191
  z28 := Try.sizeOf191
  v28 := Try.zeroValue191
  t33 := Try.underlying140
  a33 := Try.isAgg140
  z33 := Try.sizeOf140
  v33 := Try.zeroValue140
}
def sortedI_ren : Go.Shelf.Ren := ⟨fun | 6 => 118 | 8 => 139 | 9 => 140 | 11 => 156 | 13 => 136 | 12 => 157 | 23 => 153 | 24 => 154 | 14 => 166 | 15 => 167 | 16 => 168 | 17 => 169 | 18 => 170 | 19 => 171 | 20 => 172 | 21 => 173 | 22 => 174 | 25 => 176 | 26 => 161 | 27 => 162 | 28 => 177 | 29 => 178 | 30 => 179 | 31 => 180 | n => n, fun | 26 => 3 | 28 => 191 | 24 => 142 | 0 => 0 | 3 => 3 | 37 => 195 | 48 => 236 | 50 => 22 | 4 => 4 | 40 => 229 | 39 => 228 | 45 => 233 | 5 => 5 | 9 => 9 | 51 => 245 | 55 => 222 | 57 => 255 | 58 => 256 | 33 => 140 | n => n, fun | n => n⟩
theorem sortedI : Go.Proofs.SlLaysZI.n6 Try.prog sortedI_ren := {
  mixed := by kernel_rfl
  f6 := ⟨Try.f118.name, by kernel_rfl, Try.func118.trans (congrArg some (by kernel_rfl))⟩
  f8 := ⟨Try.f139.name, by kernel_rfl, Try.func139.trans (congrArg some (by kernel_rfl))⟩
  f11 := ⟨Try.f156.name, by kernel_rfl, Try.func156.trans (congrArg some (by kernel_rfl))⟩
  t0 := Try.underlying0
  a0 := Try.isAgg0
  z0 := Try.sizeOf0
  v0 := Try.zeroValue0
  t24 := Try.underlying142
  a24 := Try.isAgg142
  z24 := Try.sizeOf142
  v24 := Try.zeroValue142
  t26 := Try.underlying3
  a26 := Try.isAgg3
  z26 := Try.sizeOf3
  v26 := Try.zeroValue3
  t28 := Try.underlying191
  a28 := Try.isAgg191
  z28 := Try.sizeOf191
  v28 := Try.zeroValue191
  i26 := by kernel_rfl
}
def sortI_ren : Go.Shelf.Ren := ⟨fun | 5 => 140 | 8 => 136 | 7 => 157 | 19 => 153 | 20 => 154 | 10 => 166 | 11 => 167 | 12 => 168 | 13 => 169 | 14 => 170 | 15 => 171 | 16 => 172 | 17 => 173 | 18 => 174 | 30 => 176 | 31 => 161 | 32 => 162 | 33 => 177 | 34 => 178 | 35 => 179 | 40 => 180 | n => n, fun | 23 => 142 | 25 => 3 | 3 => 3 | 32 => 195 | 22 => 142 | 0 => 0 | 44 => 236 | 46 => 22 | 4 => 4 | 36 => 229 | 35 => 228 | 41 => 233 | 5 => 5 | 9 => 9 | 53 => 245 | 57 => 222 | 63 => 255 | 64 => 256 | n => n, fun | n => n⟩
theorem sortI : Go.Proofs.SlLaysM.n5 Try.prog sortI_ren := {
  mixed := by kernel_rfl
  f5 := ⟨Try.f140.name, by kernel_rfl, Try.func140.trans (congrArg some (by kernel_rfl))⟩
  f7 := ⟨Try.f157.name, by kernel_rfl, Try.func157.trans (congrArg some (by kernel_rfl))⟩
  f8 := Try.func136.trans (congrArg some (by kernel_rfl))
  f10 := ⟨Try.f166.name, by kernel_rfl, Try.func166.trans (congrArg some (by kernel_rfl))⟩
  f11 := ⟨Try.f167.name, by kernel_rfl, Try.func167.trans (congrArg some (by kernel_rfl))⟩
  f12 := ⟨Try.f168.name, by kernel_rfl, Try.func168.trans (congrArg some (by kernel_rfl))⟩
  f13 := ⟨Try.f169.name, by kernel_rfl, Try.func169.trans (congrArg some (by kernel_rfl))⟩
  f14 := ⟨Try.f170.name, by kernel_rfl, Try.func170.trans (congrArg some (by kernel_rfl))⟩
  f15 := ⟨Try.f171.name, by kernel_rfl, Try.func171.trans (congrArg some (by kernel_rfl))⟩
  f16 := ⟨Try.f172.name, by kernel_rfl, Try.func172.trans (congrArg some (by kernel_rfl))⟩
  f17 := ⟨Try.f173.name, by kernel_rfl, Try.func173.trans (congrArg some (by kernel_rfl))⟩
  f18 := ⟨Try.f174.name, by kernel_rfl, Try.func174.trans (congrArg some (by kernel_rfl))⟩
  f19 := Try.func153.trans (congrArg some (by kernel_rfl))
  f20 := Try.func154.trans (congrArg some (by kernel_rfl))
  f30 := ⟨Try.f176.name, by kernel_rfl, Try.func176.trans (congrArg some (by kernel_rfl))⟩
  f31 := Try.func161.trans (congrArg some (by kernel_rfl))
  f32 := Try.func162.trans (congrArg some (by kernel_rfl))
  f33 := ⟨Try.f177.name, by kernel_rfl, Try.func177.trans (congrArg some (by kernel_rfl))⟩
  f34 := ⟨Try.f178.name, by kernel_rfl, Try.func178.trans (congrArg some (by kernel_rfl))⟩
  f35 := ⟨Try.f179.name, by kernel_rfl, Try.func179.trans (congrArg some (by kernel_rfl))⟩
  f40 := ⟨Try.f180.name, by kernel_rfl, Try.func180.trans (congrArg some (by kernel_rfl))⟩
  t0 := Try.underlying0
  a0 := Try.isAgg0
  z0 := Try.sizeOf0
  v0 := Try.zeroValue0
  t3 := Try.underlying3
  a3 := Try.isAgg3
  z3 := Try.sizeOf3
  v3 := Try.zeroValue3
  t4 := Try.underlying4
  a4 := Try.isAgg4
  z4 := Try.sizeOf4
  v4 := Try.zeroValue4
  t5 := Try.underlying5
  a5 := Try.isAgg5
  z5 := Try.sizeOf5
  v5 := Try.zeroValue5
  t9 := Try.underlying9
  a9 := Try.isAgg9
  z9 := Try.sizeOf9
  v9 := Try.zeroValue9
  t22 := Try.underlying142
  a22 := Try.isAgg142
  z22 := Try.sizeOf142
  v22 := Try.zeroValue142
  t23 := Try.underlying142
  a23 := Try.isAgg142
  z23 := Try.sizeOf142
  v23 := Try.zeroValue142
  t25 := Try.underlying3
  a25 := Try.isAgg3
  z25 := Try.sizeOf3
  v25 := Try.zeroValue3
  t32 := Try.underlying195
  a32 := Try.isAgg195
  z32 := Try.sizeOf195
  v32 := Try.zeroValue195
  t35 := Try.underlying228
  a35 := Try.isAgg228
  z35 := Try.sizeOf228
  v35 := Try.zeroValue228
  t36 := Try.underlying229
  a36 := Try.isAgg229
  z36 := Try.sizeOf229
  v36 := Try.zeroValue229
  t41 := Try.underlying233
  a41 := Try.isAgg233
  z41 := Try.sizeOf233
  v41 := Try.zeroValue233
  t44 := Try.underlying236
  a44 := Try.isAgg236
  z44 := Try.sizeOf236
  v44 := Try.zeroValue236
  t46 := Try.underlying22
  a46 := Try.isAgg22
  z46 := Try.sizeOf22
  v46 := Try.zeroValue22
  t53 := Try.underlying245
  a53 := Try.isAgg245
  z53 := Try.sizeOf245
  v53 := Try.zeroValue245
  t57 := Try.underlying222
  a57 := Try.isAgg222
  z57 := Try.sizeOf222
  v57 := Try.zeroValue222
  t63 := Try.underlying255
  a63 := Try.isAgg255
  z63 := Try.sizeOf255
  v63 := Try.zeroValue255
  t64 := Try.underlying256
  a64 := Try.isAgg256
  z64 := Try.sizeOf256
  v64 := Try.zeroValue256
}
theorem sortsI (m : Nat) : AnyZI.SortsIn Try.prog sortedI_ren Fence.wide m :=
  ⟨fun blk off cap ss W hH hblk hsz => callsIn_wide.2 (AnyM.slices_Sort_int sortI blk off cap ss W hH hblk hsz),
   fun p cap W => callsIn_wide.2 (AnyM.slices_Sort_int_none sortI p cap W)⟩
/-- a value is not read -/
def rdAnyI : Value → Option (DataW Unit × List MemPlace) := fun _ => some (.nil, [])
set_option maxHeartbeats 1000000 in
theorem aall_any (bb bm n : Nat) (D0 : DataW Unit) (w : World) (hc0 : w.cell? ⟨bb, 0, none⟩ = some (.map (some bm))) (hown : w.ownsMap Try.prog 3 rdAnyI bm n D0) (hmax : Maps.size D0 ≤ 1000000) :
    Calls Try.prog 89 #[.pointer (some ⟨bb, 0, none⟩)] w fun e w' => ∃ (v : Value) (ss : List Int), e = .returned v ∧ ss.Perm (intKeys D0) ∧
      w'.ownsRow w.heap.size 3 1 v ss.length ((ss.mergeSort (fun x y => decide (x ≤ y))).map encZ) ∧ (v = .slice none 0 0 ↔ ss = []) ∧ Up w w' := by
  refine (callsIn_wide (n := 6)).1 ?_
  have hbl := hown.lt
  have hseq : SeqGives Fence.wide 2 Try.prog 141 #[.pointer (some ⟨w.heap.size, 0, none⟩)] encZ (fun ss => ss.Perm (intKeys D0)) (Maps.size D0) (w.alloc (.cells #[.map (some bm)] 137)) :=
    AnyZI.keys_gives (ρ := keysI_ren) { keysI with } Fence.wide _ trivial rfl (by omega) w.heap.size bm n D0 _ (by simp) (by simp) (by
      obtain ⟨es, clock, hb, Ft, hs, hD⟩ := hown
      exact ⟨es, clock, (Below.heap_alloc _ _ bm hbl).trans hb, Ft, hs, hD⟩)
  have cK : ∀ mb W, CallsIn Fence.wide 5 Try.prog 119 #[.map mb] W fun e w' => e = .returned (.func (.func 141) #[] #[.pointer (some ⟨W.heap.size, 0, none⟩)]) ∧ w' = W.alloc (.cells #[.map mb] 137) := fun mb W => AnyZI.keys_in keysI Fence.wide 5 trivial rfl mb W
  have cS := AnyZI.sorted_in sortedI Fence.wide 5 trivial trivial trivial trivial rfl (by omega) (sortsI _) (enters_of Try.func140 (by kernel_rfl) rfl) 141 #[.pointer (some ⟨w.heap.size, 0, none⟩)] trivial (enters_of Try.func141 (by kernel_rfl) rfl) _ _ (by unfold maxLen; omega) (by omega) _ hseq
  change CallsIn _ _ Try.prog 118 _ _ _ at cS
  have hfK : Fence.wide.fn 119 := trivial
  have hfS : Fence.wide.fn 118 := trivial
  refine callsIn_of_wp Try.func89 rfl trivial ?_ rfl
  simp only [Try.ntmps89, List.size_toArray, List.length_cons, List.length_nil, Nat.reduceAdd, Nat.reduceSub, Array.replicate_succ, Array.replicate_zero, List.push_toArray, List.append_toArray, List.nil_append, List.cons_append]
  gi_wp2_with (first
    | (gi_at_call 119; refine (cK _ _).mono ?_; rintro e w' ⟨rfl, rfl⟩)
    | (gi_at_call 118; refine cS.mono ?_; rintro e w' ⟨v, ss, rfl, hS, hrow, hnil, hb⟩))
  go_ret
  exact ⟨v, ss, rfl, hS, ownsRow_base_a hrow (by simp), hnil, ((Below.refl _ w).alloc (Nat.le_refl _) _).trans (hb.mono (by simp))⟩
set_option maxHeartbeats 1000000 in
theorem aall_none (bb : Nat) (w : World) (hc0 : w.cell? ⟨bb, 0, none⟩ = some (.map none)) : Calls Try.prog 89 #[.pointer (some ⟨bb, 0, none⟩)] w fun e w' => e = .returned (.slice none 0 0) ∧ Up w w' := by
  refine (callsIn_wide (n := 6)).1 ?_
  have hseq : SeqGives Fence.wide 2 Try.prog 141 #[.pointer (some ⟨w.heap.size, 0, none⟩)] encZ (fun ss : List Int => ss = []) 0 (w.alloc (.cells #[.map none] 137)) :=
    AnyZI.keys_gives_nil (ρ := keysI_ren) { keysI with } Fence.wide _ trivial rfl w.heap.size _ (by simp) (by simp)
  have cK : ∀ mb W, CallsIn Fence.wide 5 Try.prog 119 #[.map mb] W fun e w' => e = .returned (.func (.func 141) #[] #[.pointer (some ⟨W.heap.size, 0, none⟩)]) ∧ w' = W.alloc (.cells #[.map mb] 137) := fun mb W => AnyZI.keys_in keysI Fence.wide 5 trivial rfl mb W
  have cS := AnyZI.sorted_in sortedI Fence.wide 5 trivial trivial trivial trivial rfl (by omega) (sortsI _) (enters_of Try.func140 (by kernel_rfl) rfl) 141 #[.pointer (some ⟨w.heap.size, 0, none⟩)] trivial (enters_of Try.func141 (by kernel_rfl) rfl) _ 0 (Nat.zero_le _) (by omega) _ hseq
  change CallsIn _ _ Try.prog 118 _ _ _ at cS
  have hfK : Fence.wide.fn 119 := trivial
  have hfS : Fence.wide.fn 118 := trivial
  refine callsIn_of_wp Try.func89 rfl trivial ?_ rfl
  simp only [Try.ntmps89, List.size_toArray, List.length_cons, List.length_nil, Nat.reduceAdd, Nat.reduceSub, Array.replicate_succ, Array.replicate_zero, List.push_toArray, List.append_toArray, List.nil_append, List.cons_append]
  gi_wp2_with (first
    | (gi_at_call 119; refine (cK _ _).mono ?_; rintro e w' ⟨rfl, rfl⟩)
    | (gi_at_call 118; refine cS.mono ?_; rintro e w' ⟨v, ss, rfl, rfl, hrow, hnil, hb⟩; obtain rfl : v = .slice none 0 0 := hnil.2 rfl))
  go_ret
  exact ⟨rfl, ((Below.refl _ w).alloc (Nat.le_refl _) _).trans (hb.mono (by simp))⟩
end Go.Proofs.Ytpnlhnhjedopgaa
