/- slices.Sort of texts at this program: the shelf's closure, its numbers filled in. -/
import Derived.Shelf.SortM.Plain
import Derived.Shelf.SortM.SortNone
import Derived.Test.YtpnlhnhjedopgaaProg
set_option maxRecDepth 100000
namespace Go.Proofs.Ytpnlhnhjedopgaa
open Go Go.RowKit Go.Proofs Go.Shelf Go.Sort

def sortS_ren : Go.Shelf.Ren := ⟨fun | 6 => 106 | 8 => 136 | 9 => 135 | 19 => 153 | 20 => 154 | 21 => 144 | 22 => 145 | 23 => 146 | 24 => 147 | 25 => 148 | 26 => 149 | 27 => 150 | 28 => 151 | 29 => 152 | 36 => 160 | 31 => 161 | 32 => 162 | 37 => 163 | 38 => 164 | 39 => 165 | 41 => 175 | n => n, fun | 27 => 52 | 29 => 9 | 3 => 3 | 32 => 195 | 26 => 52 | 0 => 0 | 44 => 236 | 46 => 22 | 4 => 4 | 36 => 229 | 35 => 228 | 41 => 233 | 5 => 5 | 9 => 9 | 53 => 245 | 57 => 222 | 63 => 255 | 64 => 256 | n => n, fun | n => n⟩
theorem sortS : Go.Proofs.SlLaysM.n6 Try.prog sortS_ren := {
  mixed := by kernel_rfl
  f6 := ⟨Try.f106.name, by kernel_rfl, Try.func106.trans (congrArg some (by kernel_rfl))⟩
  f8 := Try.func136.trans (congrArg some (by kernel_rfl))
  f9 := ⟨Try.f135.name, by kernel_rfl, Try.func135.trans (congrArg some (by kernel_rfl))⟩
  f19 := Try.func153.trans (congrArg some (by kernel_rfl))
  f20 := Try.func154.trans (congrArg some (by kernel_rfl))
  f21 := ⟨Try.f144.name, by kernel_rfl, Try.func144.trans (congrArg some (by kernel_rfl))⟩
  f22 := ⟨Try.f145.name, by kernel_rfl, Try.func145.trans (congrArg some (by kernel_rfl))⟩
  f23 := ⟨Try.f146.name, by kernel_rfl, Try.func146.trans (congrArg some (by kernel_rfl))⟩
  f24 := ⟨Try.f147.name, by kernel_rfl, Try.func147.trans (congrArg some (by kernel_rfl))⟩
  f25 := ⟨Try.f148.name, by kernel_rfl, Try.func148.trans (congrArg some (by kernel_rfl))⟩
  f26 := ⟨Try.f149.name, by kernel_rfl, Try.func149.trans (congrArg some (by kernel_rfl))⟩
  f27 := ⟨Try.f150.name, by kernel_rfl, Try.func150.trans (congrArg some (by kernel_rfl))⟩
  f28 := ⟨Try.f151.name, by kernel_rfl, Try.func151.trans (congrArg some (by kernel_rfl))⟩
  f29 := ⟨Try.f152.name, by kernel_rfl, Try.func152.trans (congrArg some (by kernel_rfl))⟩
  f31 := Try.func161.trans (congrArg some (by kernel_rfl))
  f32 := Try.func162.trans (congrArg some (by kernel_rfl))
  f36 := ⟨Try.f160.name, by kernel_rfl, Try.func160.trans (congrArg some (by kernel_rfl))⟩
  f37 := ⟨Try.f163.name, by kernel_rfl, Try.func163.trans (congrArg some (by kernel_rfl))⟩
  f38 := ⟨Try.f164.name, by kernel_rfl, Try.func164.trans (congrArg some (by kernel_rfl))⟩
  f39 := ⟨Try.f165.name, by kernel_rfl, Try.func165.trans (congrArg some (by kernel_rfl))⟩
  f41 := ⟨Try.f175.name, by kernel_rfl, Try.func175.trans (congrArg some (by kernel_rfl))⟩
  t0 := Try.underlying0
  a0 := Try.isAgg0
  z0 := Try.sizeOf0
  v0 := Try.zeroValue0
  t3 := Try.underlying3
  a3 := Try.isAgg3
  z3 := Try.sizeOf3
  v3 := Try.zeroValue3
  t4 := Try.underlying4
  a4 := Try.isAgg4
  z4 := Try.sizeOf4
  v4 := Try.zeroValue4
  t5 := Try.underlying5
  a5 := Try.isAgg5
  z5 := Try.sizeOf5
  v5 := Try.zeroValue5
  t9 := Try.underlying9
  a9 := Try.isAgg9
  z9 := Try.sizeOf9
  v9 := Try.zeroValue9
  t26 := Try.underlying52
  a26 := Try.isAgg52
  z26 := Try.sizeOf52
  v26 := Try.zeroValue52
  t27 := Try.underlying52
  a27 := Try.isAgg52
  z27 := Try.sizeOf52
  v27 := Try.zeroValue52
  t29 := Try.underlying9
  a29 := Try.isAgg9
  z29 := Try.sizeOf9
  v29 := Try.zeroValue9
  t32 := Try.underlying195
  a32 := Try.isAgg195
  z32 := Try.sizeOf195
  v32 := Try.zeroValue195
  t35 := Try.underlying228
  a35 := Try.isAgg228
  z35 := Try.sizeOf228
  v35 := Try.zeroValue228
  t36 := Try.underlying229
  a36 := Try.isAgg229
  z36 := Try.sizeOf229
  v36 := Try.zeroValue229
  t41 := Try.underlying233
  a41 := Try.isAgg233
  z41 := Try.sizeOf233
  v41 := Try.zeroValue233
  t44 := Try.underlying236
  a44 := Try.isAgg236
  z44 := Try.sizeOf236
  v44 := Try.zeroValue236
  t46 := Try.underlying22
  a46 := Try.isAgg22
  z46 := Try.sizeOf22
  v46 := Try.zeroValue22
  t53 := Try.underlying245
  a53 := Try.isAgg245
  z53 := Try.sizeOf245
  v53 := Try.zeroValue245
  t57 := Try.underlying222
  a57 := Try.isAgg222
  z57 := Try.sizeOf222
  v57 := Try.zeroValue222
  t63 := Try.underlying255
  a63 := Try.isAgg255
  z63 := Try.sizeOf255
  v63 := Try.zeroValue255
  t64 := Try.underlying256
  a64 := Try.isAgg256
  z64 := Try.sizeOf256
  v64 := Try.zeroValue256
}
theorem sort_any (blk off cap : Nat) (ss : List (List UInt8)) (w : World) (hH : Holds encStr w blk off ss.toArray) (hblk : blk < w.heap.size) (hsz : ss.length < 4611686018427387904) :
    Calls Try.prog 106 #[.slice (some ⟨blk, off, none⟩) ss.length cap] w fun e w' =>
      e = .returned (.tuple #[]) ∧ ∃ n os, w' = grow (putRow encStr (Sort.ahead w n) blk off (ss.mergeSort fun x y => decide (x ≤ y)).toArray) os :=
  AnyM.slices_Sort_string sortS blk off cap ss w hH hblk hsz
theorem sort_none (p : Option Addr) (cap : Nat) (w : World) : Calls Try.prog 106 #[.slice p 0 cap] w fun e w' => e = .returned (.tuple #[]) ∧ w' = w :=
  AnyM.slices_Sort_string_none sortS p cap w
end Go.Proofs.Ytpnlhnhjedopgaa
