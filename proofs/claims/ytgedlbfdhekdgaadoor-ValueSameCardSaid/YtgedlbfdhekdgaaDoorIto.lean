/- strconv.Itoa in the abstract run: the library's table of powers of ten is pinned. -/
import Derived.Test.YtgedlbfdhekdgaaDoorLaw
import Derived.Test.YtgedlbfdhekdgaaDoorGe
import Derived.Test.YtgedlbfdhekdgaaDoorRows
import Derived.Shelf.Strconv.Itoa4
import Derived.Lib.LaidTab
import Derived.LaidSub
set_option maxRecDepth 100000
set_option linter.unusedSimpArgs false
namespace Go.Proofs.YtgedlbfdhekdgaaDoor
open Go Go.RowKit Go.Proofs Go.Shelf Go.Sort

def lays171_ren : Go.Shelf.Ren := ⟨fun | 129 => 63 | 171 => 44 | 243 => 58 | 246 => 41 | 283 => 53 | 284 => 54 | 285 => 55 | 286 => 56 | 317 => 62 | 318 => 64 | 319 => 65 | 320 => 66 | 337 => 69 | 338 => 70 | n => n, fun | 0 => 0 | 2 => 2 | 3 => 3 | 4 => 4 | 5 => 5 | 9 => 9 | 20 => 20 | 37 => 64 | 46 => 70 | 51 => 90 | 53 => 40 | 72 => 66 | 171 => 78 | 173 => 81 | 212 => 89 | 213 => 91 | 232 => 97 | 233 => 98 | n => n, fun | 17 => 1 | 18 => 2 | 19 => 3 | n => n⟩
theorem lays171 : Go.Proofs.Lays.n171 Tryd.prog lays171_ren := {
  mixed := by kernel_rfl
  f129 := Tryd.func63.trans (congrArg some (by kernel_rfl))
  f171 := Tryd.func44.trans (congrArg some (by kernel_rfl))
  f243 := Tryd.func58.trans (congrArg some (by kernel_rfl))
  f246 := Tryd.func41.trans (congrArg some (by kernel_rfl))
  f283 := Tryd.func53.trans (congrArg some (by kernel_rfl))
  f284 := Tryd.func54.trans (congrArg some (by kernel_rfl))
  f285 := Tryd.func55.trans (congrArg some (by kernel_rfl))
  f286 := Tryd.func56.trans (congrArg some (by kernel_rfl))
  f317 := Tryd.func62.trans (congrArg some (by kernel_rfl))
  f318 := Tryd.func64.trans (congrArg some (by kernel_rfl))
  f319 := Tryd.func65.trans (congrArg some (by kernel_rfl))
  f320 := Tryd.func66.trans (congrArg some (by kernel_rfl))
  f337 := Tryd.func69.trans (congrArg some (by kernel_rfl))
  f338 := Tryd.func70.trans (congrArg some (by kernel_rfl))
  t0 := Tryd.underlying0
  a0 := Tryd.isAgg0
  z0 := Tryd.sizeOf0
  v0 := Tryd.zeroValue0
  t2 := Tryd.underlying2
  a2 := Tryd.isAgg2
  z2 := Tryd.sizeOf2
  v2 := Tryd.zeroValue2
  t3 := Tryd.underlying3
  a3 := Tryd.isAgg3
  z3 := Tryd.sizeOf3
  v3 := Tryd.zeroValue3
  t4 := Tryd.underlying4
  a4 := Tryd.isAgg4
  z4 := Tryd.sizeOf4
  v4 := Tryd.zeroValue4
  t5 := Tryd.underlying5
  a5 := Tryd.isAgg5
  z5 := Tryd.sizeOf5
  v5 := Tryd.zeroValue5
  t9 := Tryd.underlying9
  a9 := Tryd.isAgg9
  z9 := Tryd.sizeOf9
  v9 := Tryd.zeroValue9
  t20 := Tryd.underlying20
  a20 := Tryd.isAgg20
  z20 := Tryd.sizeOf20
  v20 := Tryd.zeroValue20
  t37 := Tryd.underlying64
  a37 := Tryd.isAgg64
  z37 := Tryd.sizeOf64
  v37 := Tryd.zeroValue64
  t46 := Tryd.underlying70
  a46 := Tryd.isAgg70
  z46 := Tryd.sizeOf70
  v46 := Tryd.zeroValue70
  t51 := Tryd.underlying90
  a51 := Tryd.isAgg90
  z51 := Tryd.sizeOf90
  v51 := Tryd.zeroValue90
  t53 := Tryd.underlying40
  a53 := Tryd.isAgg40
  z53 := Tryd.sizeOf40
  v53 := Tryd.zeroValue40
  t171 := Tryd.underlying78
  a171 := Tryd.isAgg78
  z171 := Tryd.sizeOf78
  v171 := Tryd.zeroValue78
  t173 := Tryd.underlying81
  a173 := Tryd.isAgg81
  z173 := Tryd.sizeOf81
  v173 := Tryd.zeroValue81
  t212 := Tryd.underlying89
  a212 := Tryd.isAgg89
  z212 := Tryd.sizeOf89
  v212 := Tryd.zeroValue89
  t213 := Tryd.underlying91
  a213 := Tryd.isAgg91
  z213 := Tryd.sizeOf91
  t232 := Tryd.underlying97
  a232 := Tryd.isAgg97
  z232 := Tryd.sizeOf97
  v232 := Tryd.zeroValue97
  t233 := Tryd.underlying98
  a233 := Tryd.isAgg98
  z233 := Tryd.sizeOf98
  v233 := Tryd.zeroValue98
  g17 := by kernel_rfl
  g18 := by kernel_rfl
  g19 := by kernel_rfl
}
theorem laysm171 : Go.Proofs.LaysM.n171 Tryd.prog lays171_ren := { lays171 with
  i0 := by kernel_rfl
  i2 := by kernel_rfl
  i3 := by kernel_rfl
  i4 := by kernel_rfl
  i5 := by kernel_rfl
  i9 := by kernel_rfl
  i20 := by kernel_rfl
  i37 := by kernel_rfl
  i46 := by kernel_rfl
  i51 := by kernel_rfl
  i53 := by kernel_rfl
  i171 := by kernel_rfl
  i173 := by kernel_rfl
  i212 := by kernel_rfl
  i232 := by kernel_rfl
  i233 := by kernel_rfl
  m17 := by kernel_rfl
  m18 := by kernel_rfl
  m19 := by kernel_rfl
}
/-- the table is there -/
def PowOk (G : Glob) : Prop := ∃ b o, G b = some (.pin (lays171_ren.g 17) o) ∧ ∀ w : World, w.heap[lays171_ren.g 17]? = some o → Lib.TabIs Tryd.prog w "internal/strconv.uint64pow10" .u64 Lib.pow10Tab
theorem PowOk.set {G : Glob} (h : PowOk G) {b : Nat} {x : GB} (hb : G b = some x) (hx : ∀ k o, x ≠ .pin k o) (y : GB) : PowOk (setG G b y) := by
  obtain ⟨c, o, h1, h2⟩ := h
  refine ⟨c, o, ?_, h2⟩
  rw [setG_ne _ _ (by rintro rfl; rw [hb, Option.some.injEq] at h1; exact hx _ _ h1)]
  exact h1
theorem PowOk.del {G : Glob} (h : PowOk G) {b : Nat} {x : GB} (hb : G b = some x) (hx : ∀ k o, x ≠ .pin k o) : PowOk (delG G b) := by
  obtain ⟨c, o, h1, h2⟩ := h
  refine ⟨c, o, ?_, h2⟩
  rw [delG_ne _ (by rintro rfl; rw [hb, Option.some.injEq] at h1; exact hx _ _ h1)]
  exact h1
theorem PowOk.new {G : Glob} (h : PowOk G) {b : Nat} (hb : G b = none) (y : GB) : PowOk (setG G b y) := by
  obtain ⟨c, o, h1, h2⟩ := h
  refine ⟨c, o, ?_, h2⟩
  rw [setG_ne _ _ (by rintro rfl; rw [hb] at h1; cases h1)]
  exact h1
theorem itoa_ok (n : Int) (h0 : -9223372036854775808 ≤ n) (h1 : n ≤ 9223372036854775807) {G : Glob} (hG : PowOk G) : CallOk Tryd.prog TT 44 [.int .i64 n] G (fun v G' => v = .str (S (Lib.itoa n)) ∧ G' = G) := by
  refine ⟨⟨_, Tryd.func44, by decide, rfl⟩, fun g us w hr hl hd => ?_⟩
  obtain ⟨b, o, hb, ht⟩ := hG
  obtain ⟨us⟩ := us
  match us, hl with
  | [u0], _ =>
    cases hd 0 _ u0 rfl rfl
    obtain ⟨_, _, h3, h4⟩ := hr b _ hb
    refine (Any.strconv_Itoa laysm171 n h0 h1 w (ht w h4)).mono fun e w' hh => ?_
    obtain ⟨rfl, k, os, rfl⟩ := hh
    have hu : Up w (grow (w.drewN k) os) := ⟨rfl, rfl, rfl, by simp [grow, World.drewN], fun j hj => by simp [grow, World.drewN, Array.getElem?_append_left hj]⟩
    exact ⟨_, g.still w, G, _, rfl, ⟨rfl, rfl⟩, still_rel hr hu, still_ext hu, .str _⟩
/-- two variables of the library -/
def ghQ (k1 k2 : Nat) : Gh := ⟨fun i => if i = k1 then .gbox 0 else if i = k2 then .gbox 1 else .frz, fun b => if b = 0 then k1 else k2, 2, fun _ => 0, 0, fun _ => none, 0⟩
def globQ (k1 : Nat) (o1 : Obj) (k2 : Nat) (o2 : Obj) : Glob := fun b => if b = 0 then some (.pin k1 o1) else if b = 1 then some (.pin k2 o2) else none
theorem globQ_0 (k1 : Nat) (o1 : Obj) (k2 : Nat) (o2 : Obj) : globQ k1 o1 k2 o2 0 = some (.pin k1 o1) := by simp [globQ]
theorem globQ_1 (k1 : Nat) (o1 : Obj) (k2 : Nat) (o2 : Obj) : globQ k1 o1 k2 o2 1 = some (.pin k2 o2) := by simp [globQ]
theorem law_pin2 {P : Program} {T : TypeId → TR} {f : FuncId} {args : List AV} {Q : AV → Glob → Prop} {k1 k2 : Nat} {o1 o2 : Obj} (hk : k1 ≠ k2) (h : CallOk P T f args (globQ k1 o1 k2 o2) Q) (hQ : ∀ v G, Q v G → v = .bool true ∧ G 0 = some (.pin k1 o1) ∧ G 1 = some (.pin k2 o2))
    {us : Array Value} {w : World} (hk1 : w.heap[k1]? = some o1) (hk2 : w.heap[k2]? = some o2) (hl : us.size = args.length)
    (hd : ∀ (i : Nat) (a : AV) (u : Value), args[i]? = some a → us[i]? = some u → Dz T (ghQ k1 k2) w a u) : Calls P f us w (Gives w (.bool true)) := by
  refine (h.calls (ghQ k1 k2) us w (fun b bx hb => ?_) hl hd).mono fun e w' he => ?_
  · unfold globQ at hb
    split at hb
    · rename_i h0
      subst h0
      cases hb
      exact ⟨by show 0 < 2; omega, by simp [ghQ], rfl, hk1⟩
    · split at hb
      · rename_i h0 h1
        subst h1
        cases hb
        exact ⟨by show 1 < 2; omega, by simp [ghQ, Ne.symm hk], rfl, hk2⟩
      · cases hb
  · obtain ⟨u, g', G', v, rfl, hq, hr, hx, hz⟩ := he
    obtain ⟨rfl, hG, hG2⟩ := hQ v G' hq
    cases hz
    obtain ⟨_, _, _, hb⟩ := hr 0 _ hG
    obtain ⟨_, _, _, hb2⟩ := hr 1 _ hG2
    refine ⟨rfl, hx.os, hx.tape, hx.output, hx.size, fun j hj => ?_⟩
    by_cases hj1 : j = k1
    · subst hj1; rw [hk1]; exact hb
    · by_cases hj2 : j = k2
      · subst hj2; rw [hk2]; exact hb2
      · exact (hx.kept j hj (by simp [ghQ, hj1, hj2, Own.kept])).2
/-- the rows' list of tables says so -/
theorem pow_tab {w : World} (h : laidMetH Tryd.prog [("math/bits.deBruijn32tab", Rows.laid_math_bits_deBruijn32tab), ("math/bits.deBruijn64tab", Rows.laid_math_bits_deBruijn64tab), ("internal/strconv.uint64pow10", Rows.laid_internal_strconv_uint64pow10)] w) : Lib.TabIs Tryd.prog w "internal/strconv.uint64pow10" .u64 Lib.pow10Tab := by
  have h2 := (laidMetH_iff.1 h).1.filter (fun x => x.1 == "internal/strconv.uint64pow10")
  have e : (([("math/bits.deBruijn32tab", Rows.laid_math_bits_deBruijn32tab), ("math/bits.deBruijn64tab", Rows.laid_math_bits_deBruijn64tab), ("internal/strconv.uint64pow10", Rows.laid_internal_strconv_uint64pow10)] : List (String × DataW Unit)).filter fun x => x.2.handleName?.isNone).filter (fun x => x.1 == "internal/strconv.uint64pow10") = [("internal/strconv.uint64pow10", Lib.tabData .u64 Lib.pow10Tab)] := by kernel_rfl
  rw [e] at h2
  exact Lib.tabIs_of_head (g := lays171_ren.g 17) (t := 89) (e := 40) (n := 20) (by kernel_rfl) (by kernel_rfl) Tryd.underlying89 Tryd.underlying40 (by kernel_rfl) (by kernel_rfl) h2
theorem pow_obj {w : World} (h : Lib.TabIs Tryd.prog w "internal/strconv.uint64pow10" .u64 Lib.pow10Tab) : ∃ o, w.heap[lays171_ren.g 17]? = some o := by
  unfold Lib.TabIs World.var? at h
  rw [laysm171.m17, Option.bind_some] at h
  cases ho : w.heap[lays171_ren.g 17]? with
  | none => rw [ho] at h; cases h
  | some o => exact ⟨o, rfl⟩
theorem pow_pin {w : World} {o : Obj} (ho : w.heap[lays171_ren.g 17]? = some o) (h : Lib.TabIs Tryd.prog w "internal/strconv.uint64pow10" .u64 Lib.pow10Tab) {G : Glob} {b : Nat} (hG : G b = some (.pin (lays171_ren.g 17) o)) : PowOk G := by
  refine ⟨b, o, hG, fun w' hw' => ?_⟩
  unfold Lib.TabIs World.var? at *
  rw [laysm171.m17, Option.bind_some] at *
  rw [hw']
  rw [ho] at h
  exact h
end Go.Proofs.YtgedlbfdhekdgaaDoor
