/- One text out of several: PtA, Ito, PtB, Uint. -/
import Derived.Test.YtpihanlillbhkaaGreatDoorGl
import Derived.Test.YtpihanlillbhkaaGreatDoorGm
import Derived.Test.YtpihanlillbhkaaGreatDoorGn
import Derived.Test.YtpihanlillbhkaaGreatDoorGs
import Derived.Test.YtpihanlillbhkaaGreatDoorLaw
import Derived.Test.YtpihanlillbhkaaGreatDoorGe
import Derived.Test.YtpihanlillbhkaaGreatDoorRows
import Derived.Shelf.Strconv.Itoa4
import Derived.Lib.LaidTab
import Derived.LaidSub
import Derived.Lib.AppendIntMem

section
/- A partition in plain words: the document's lists, what an operation makes of them, what they weigh. -/
set_option maxRecDepth 100000
set_option linter.unusedSimpArgs false
namespace Go.Proofs.YtpihanlillbhkaaGreatDoor
open Go Go.RowKit Go.Proofs

theorem CInv.totP {m : List (ByteArray × Int)} {l : List CRw} (h : CInv m l) : totC m = sz27 (l.map (·.name)) := by
  have hp := namesN_perm h.nd h.keys
  have hp := hp.map fun s : ByteArray => 24 + s.size
  unfold totC sz27
  rw [← hp.sum_nat, List.map_map]
  rfl
theorem CInv.namesP {m : List (ByteArray × Int)} {l : List CRw} (h : CInv m l) : keysE m = (namesN (l.map (·.name))).map fun s => [AV.str s] := keysE_names h.nd h.keys
structure PQ where
  kv : KvL
  cn : List CRw
  qu : KvL
  le : LeL
def PQ.size (q : PQ) : Nat := sizeR q.kv + sz27 (q.cn.map (·.name)) + sz28 q.qu + sizeL q.le
structure PRes where
  text : ByteArray
  has : Bool
  num : Int
def PRes.av (r : PRes) : AV := .agg [.str r.text, .bool r.has, .int .i64 r.num]
def noRes : PRes := ⟨⟨#[]⟩, false, 0⟩
def ticksOf (t : Int) : Int := if t < 1048576 then t else 1048576
def applyQ (q : PQ) (s : St31) : PQ × PRes :=
  if s.op = 1 then (q, match lget q.kv s.name with | some v => ⟨v, true, 0⟩ | none => noRes)
  else if s.op = 2 then (⟨putK s.name s.text q.kv false, q.cn, q.qu, q.le⟩, noRes)
  else if s.op = 3 then (⟨delR q.kv s.name, q.cn, q.qu, q.le⟩, ⟨⟨#[]⟩, (lget q.kv s.name).isSome, 0⟩)
  else if s.op = 4 then (⟨q.kv, q.cn ++ [⟨s.name, s.num⟩], q.qu, q.le⟩, ⟨⟨#[]⟩, false, IntKind.i64.wrap (sumN (q.cn ++ [⟨s.name, s.num⟩]) s.name)⟩)
  else if s.op = 5 then (⟨q.kv, q.cn, q.qu ++ [(s.name, s.text)], q.le⟩, noRes)
  else if s.op = 6 then (match popAt q.qu s.name with | some (r, t) => (⟨q.kv, q.cn, r, q.le⟩, ⟨t, true, 0⟩) | none => (q, noRes))
  else if s.op = 7 then (match lget q.le s.name with
    | some (x, _) => if x = s.text then (⟨q.kv, q.cn, q.qu, putA s.name (s.text, tillOf (ticksOf s.ticks) s.now) q.le false⟩, ⟨⟨#[]⟩, true, 0⟩) else (q, noRes)
    | none => (⟨q.kv, q.cn, q.qu, putA s.name (s.text, tillOf (ticksOf s.ticks) s.now) q.le false⟩, ⟨⟨#[]⟩, true, 0⟩))
  else (match lget q.le s.name with
    | some (x, _) => if x = s.text then (⟨q.kv, q.cn, q.qu, delA q.le s.name⟩, ⟨⟨#[]⟩, true, 0⟩) else (q, noRes)
    | none => (q, noRes))
def expQ (q : PQ) (now : Int) : PQ := ⟨q.kv, q.cn, q.qu, liveL now q.le⟩
def fullQ (q : PQ) (s : St31) : Bool := decide ((expQ q s.now).size < (applyQ (expQ q s.now) s).1.size) && decide (s.limit < (applyQ (expQ q s.now) s).1.size)
def doQ (q : PQ) (s : St31) : PQ × PRes × Int :=
  if s.op < 1 ∨ 8 < s.op then (q, noRes, 4)
  else if fullQ q s = true then (expQ q s.now, noRes, 13)
  else ((applyQ (expQ q s.now) s).1, (applyQ (expQ q s.now) s).2, 0)
/-- the maps that the program keeps, and the lists -/
structure PS where
  k : KvL
  c : List (ByteArray × Int)
  f : FiL
  l : LeL
structure PR (s : PS) (q : PQ) : Prop where
  k : KInv s.k q.kv
  c : CInv s.c q.cn
  f : FInv s.f q.qu
  l : AInv s.l q.le
  t : ∀ x ∈ s.l, 1 ≤ x.2.2 ∧ x.2.2 ≤ 1099512676352
theorem PR.size {s : PS} {q : PQ} (h : PR s q) : sizeR s.k + totC s.c + totF s.f + sizeL s.l = q.size := by
  unfold PQ.size
  rw [sizeR_perm h.k.pm, h.c.totP, h.f.tot, sizeL_perm h.l.pm]
theorem PR.exp {s : PS} {q : PQ} (h : PR s q) (now : Int) : PR ⟨s.k, s.c, s.f, liveL now s.l⟩ (expQ q now) :=
  ⟨h.k, h.c, h.f, h.l.filter _, fun x hx => h.t x (List.mem_filter.1 hx).1⟩
theorem exp_size (q : PQ) (now : Int) : (expQ q now).size ≤ q.size := by
  have := sizeL_filter (fun x => decide (x.2.2 > now)) q.le
  have e : sizeL (liveL now q.le) ≤ sizeL q.le := this
  unfold expQ PQ.size
  simp only
  omega
theorem szA_pop {r r' : KvL} {k t : ByteArray} : popAt r k = some (r', t) → szA r' + (16 + t.size) = szA r := by
  induction r generalizing r' with
  | nil => intro h; cases h
  | cons x r ih =>
    intro h
    by_cases hx : x.1 = k
    · simp only [popAt, hx, if_true, Option.some.injEq, Prod.mk.injEq] at h
      obtain ⟨rfl, rfl⟩ := h
      simp [szA]; omega
    · simp only [popAt, hx, if_false, Option.map_eq_some_iff] at h
      obtain ⟨⟨r1, t1⟩, h1, h2⟩ := h
      simp only [Prod.mk.injEq] at h2
      obtain ⟨rfl, rfl⟩ := h2
      have := ih h1
      simp [szA] at this ⊢; omega
theorem sum_sub {ns ms : List ByteArray} (f : ByteArray → Nat) (hn : ns.Nodup) (h : ∀ x ∈ ns, x ∈ ms) : (ns.map f).sum ≤ (ms.map f).sum := by
  induction ns generalizing ms with
  | nil => simp
  | cons a r ih =>
    have ha := h a (by simp)
    obtain ⟨l1, l2, rfl⟩ := List.append_of_mem ha
    have hr : ∀ x ∈ r, x ∈ l1 ++ l2 := fun x hx => by
      have h1 := h x (by simp [hx])
      have h2 : x ≠ a := by rintro rfl; exact (List.nodup_cons.1 hn).1 hx
      simp only [List.mem_append, List.mem_cons] at h1 ⊢
      rcases h1 with h1 | h1 | h1
      · exact .inl h1
      · exact absurd h1 h2
      · exact .inr h1
    have := ih (List.nodup_cons.1 hn).2 hr
    simp only [List.map_cons, List.sum_cons, List.map_append, List.sum_append] at this ⊢
    omega
theorem namesN_nodup (l : List ByteArray) : (namesN l).Nodup := (namesN_rise l).imp fun hl e => by rw [e] at hl; exact ltB_irr _ hl
theorem sz28_pop {r r' : KvL} {k t : ByteArray} (h : popAt r k = some (r', t)) : sz28 r' ≤ sz28 r := by
  have h1 := szA_pop h
  have h2 := (popAt_spec h).2.2.2.1
  have h3 : szN r' ≤ szN r := sum_sub _ (namesN_nodup _) fun x hx => by
    rw [mem_namesN] at hx ⊢
    obtain ⟨y, hy, rfl⟩ := List.mem_map.1 hx
    exact List.mem_map.2 ⟨y, h2 y hy, rfl⟩
  unfold sz28
  omega
theorem sizeR_filter (p : ByteArray × ByteArray → Bool) : ∀ r : KvL, sizeR (r.filter p) ≤ sizeR r
  | [] => Nat.le_refl _
  | x :: r => by
    have := sizeR_filter p r
    by_cases h : p x = true
    · rw [List.filter_cons_of_pos h]; simp only [sizeR, List.map_cons, List.sum_cons] at this ⊢; omega
    · rw [List.filter_cons_of_neg h]; simp only [sizeR, List.map_cons, List.sum_cons] at this ⊢; omega
/-- by how much an operation would let the weight be more -/
def growS (s : PS) (a : St31) : Int :=
  if a.op = 2 then kgrow s.k a.name a.text
  else if a.op = 4 then cgrow s.c a.name
  else if a.op = 5 then fgrow s.f a.name a.text
  else if a.op = 7 then lgrow s.l a.name a.text
  else 0
theorem size_put {s : PS} {q : PQ} (h : PR s q) (nm tx : ByteArray) : ((sizeR (putK nm tx q.kv false) : Nat) : Int) = sizeR q.kv + kgrow s.k nm tx := by
  have h1 := sizeR_perm (h.k.put nm tx).pm
  have h2 := sizeR_lput nm tx s.k
  rw [h1, sizeR_perm h.k.pm] at h2
  exact h2
theorem size_add {s : PS} {q : PQ} (h : PR s q) (nm : ByteArray) (n : Int) : ((sz27 ((q.cn ++ [(⟨nm, n⟩ : CRw)]).map fun x => x.name) : Nat) : Int) = sz27 (q.cn.map fun x => x.name) + cgrow s.c nm := by
  have h1 := (h.c.add ⟨nm, n⟩).totP
  have h2 := totC_put nm (IntKind.i64.wrap (cval s.c nm + n)) s.c
  unfold addA at h1
  simp only at h1
  rw [h1, h.c.totP] at h2
  exact h2
theorem size_take {s : PS} {q : PQ} (h : PR s q) (nm tx : ByteArray) (t : Int) (ho : ∀ x u, lget s.l nm = some (x, u) → x = tx) : ((sizeL (putA nm (tx, t) q.le false) : Nat) : Int) = sizeL q.le + lgrow s.l nm tx := by
  have h1 := sizeL_perm (h.l.put nm (tx, t)).pm
  have h2 := sizeL_lput nm tx t s.l ho
  rw [h1, sizeL_perm h.l.pm] at h2
  exact h2
/-- what an operation lets the weight be -/
theorem apply_size {s : PS} {q : PQ} (h : PR s q) (a : St31) : (growS s a = 0 ∧ (applyQ q a).1.size ≤ q.size) ∨ (((applyQ q a).1.size : Nat) : Int) = q.size + growS s a := by
  unfold growS applyQ
  by_cases h1 : a.op = 1
  · rw [if_neg (by omega), if_neg (by omega), if_neg (by omega), if_neg (by omega), if_pos h1]; exact .inl ⟨rfl, Nat.le_refl _⟩
  by_cases h2 : a.op = 2
  · rw [if_pos h2, if_neg h1, if_pos h2]
    have := size_put h a.name a.text
    right; unfold PQ.size; simp only; omega
  by_cases h3 : a.op = 3
  · rw [if_neg h2, if_neg (by omega), if_neg (by omega), if_neg (by omega), if_neg h1, if_neg h2, if_pos h3]
    have := sizeR_filter (fun x => !decide (x.1 = a.name)) q.kv
    have e : sizeR (delR q.kv a.name) ≤ sizeR q.kv := this
    left; refine ⟨rfl, ?_⟩; unfold PQ.size; simp only; omega
  by_cases h4 : a.op = 4
  · rw [if_neg h2, if_pos h4, if_neg h1, if_neg h2, if_neg h3, if_pos h4]
    have := size_add h a.name a.num
    right; unfold PQ.size; simp only; omega
  by_cases h5 : a.op = 5
  · rw [if_neg h2, if_neg h4, if_pos h5, if_neg h1, if_neg h2, if_neg h3, if_neg h4, if_pos h5]
    have := fgrow_sz h.f a.name a.text
    right; unfold PQ.size; simp only; omega
  by_cases h6 : a.op = 6
  · rw [if_neg h2, if_neg h4, if_neg h5, if_neg (by omega), if_neg h1, if_neg h2, if_neg h3, if_neg h4, if_neg h5, if_pos h6]
    left; refine ⟨rfl, ?_⟩
    cases hp : popAt q.qu a.name with
    | none => exact Nat.le_refl _
    | some x => obtain ⟨r, t⟩ := x; have := sz28_pop hp; unfold PQ.size; simp only; omega
  rw [if_neg h2, if_neg h4, if_neg h5, if_neg h1, if_neg h2, if_neg h3, if_neg h4, if_neg h5, if_neg h6]
  by_cases h7 : a.op = 7
  · rw [if_pos h7, if_pos h7]
    have hg := h.l.get a.name
    have hs := size_take h a.name a.text (tillOf (ticksOf a.ticks) a.now)
    rw [hg] at hs
    cases hq : lget q.le a.name with
    | none =>
      have := hs (fun x u hx => by rw [hq] at hx; cases hx)
      right; unfold PQ.size; simp only; omega
    | some x =>
      obtain ⟨x, u⟩ := x
      simp only
      by_cases hx : x = a.text
      · rw [if_pos hx]
        have := hs (fun y v hy => by rw [hq] at hy; cases hy; exact hx)
        right; unfold PQ.size; simp only; omega
      · rw [if_neg hx]
        left
        refine ⟨?_, Nat.le_refl _⟩
        unfold lgrow
        rw [hg, hq]
  · rw [if_neg h7, if_neg h7]
    left; refine ⟨rfl, ?_⟩
    have := sizeL_filter (fun x => !decide (x.1 = a.name)) q.le
    have e : sizeL (delA q.le a.name) ≤ sizeL q.le := this
    cases hq : lget q.le a.name with
    | none => exact Nat.le_refl _
    | some x =>
      obtain ⟨x, u⟩ := x
      simp only
      split
      · unfold PQ.size; simp only; omega
      · exact Nat.le_refl _
theorem grow_in {s : PS} {q : PQ} (h : PR s q) (a : St31) (hq : q.size ≤ 100000000) (hn : a.name.size ≤ 140737488351232) (ht : a.text.size ≤ 140737488351232) : -200000000 ≤ growS s a ∧ growS s a ≤ 281474976710000 := by
  have hz := h.size
  unfold growS
  split
  · unfold kgrow
    split
    · rename_i w hw
      have h1 := lget_mem hw
      have : sizeR s.k ≥ 16 + a.name.size + w.size := by
        unfold sizeR
        obtain ⟨l1, l2, e⟩ := List.append_of_mem h1
        rw [e, List.map_append, List.sum_append, List.map_cons, List.sum_cons]; simp only; omega
      omega
    · omega
  · split
    · unfold cgrow; split <;> omega
    · split
      · unfold fgrow; split <;> omega
      · split
        · unfold lgrow; split <;> omega
        · omega
/-- the program's own question, and the document's -/
theorem full_iff {a : St31} {s : PS} {q : PQ} (h : PR s (expQ q a.now)) : fullQ q a = (decide (growS s a > 0) && (decide (a.limit < growS s a) || decide ((((expQ q a.now).size : Nat) : Int) > a.limit - growS s a))) := by
  have hs := apply_size h a
  unfold fullQ
  rw [Bool.eq_iff_iff]
  simp only [Bool.and_eq_true, Bool.or_eq_true, decide_eq_true_eq]
  omega
end Go.Proofs.YtpihanlillbhkaaGreatDoor
end

section
/- strconv.Itoa in the abstract run: the library's table of powers of ten is pinned. -/
set_option maxRecDepth 100000
set_option linter.unusedSimpArgs false
namespace Go.Proofs.YtpihanlillbhkaaGreatDoor
open Go Go.RowKit Go.Proofs Go.Shelf Go.Sort

def lays171_ren : Go.Shelf.Ren := ⟨fun | 129 => 117 | 171 => 38 | 243 => 73 | 246 => 72 | 283 => 97 | 284 => 98 | 285 => 99 | 286 => 100 | 317 => 118 | 318 => 119 | 319 => 120 | 320 => 121 | 337 => 129 | 338 => 130 | n => n, fun | 0 => 0 | 2 => 2 | 3 => 3 | 4 => 4 | 5 => 5 | 9 => 9 | 20 => 20 | 37 => 125 | 46 => 137 | 51 => 173 | 53 => 33 | 72 => 127 | 171 => 157 | 173 => 160 | 212 => 176 | 213 => 177 | 232 => 191 | 233 => 192 | n => n, fun | 17 => 0 | 18 => 1 | 19 => 2 | n => n⟩
theorem lays171 : Go.Proofs.Lays.n171 Tryz.prog lays171_ren := {
  mixed := by kernel_rfl
  f129 := Tryz.func117.trans (congrArg some (by kernel_rfl))
  f171 := Tryz.func38.trans (congrArg some (by kernel_rfl))
  f243 := Tryz.func73.trans (congrArg some (by kernel_rfl))
  f246 := Tryz.func72.trans (congrArg some (by kernel_rfl))
  f283 := Tryz.func97.trans (congrArg some (by kernel_rfl))
  f284 := Tryz.func98.trans (congrArg some (by kernel_rfl))
  f285 := Tryz.func99.trans (congrArg some (by kernel_rfl))
  f286 := Tryz.func100.trans (congrArg some (by kernel_rfl))
  f317 := Tryz.func118.trans (congrArg some (by kernel_rfl))
  f318 := Tryz.func119.trans (congrArg some (by kernel_rfl))
  f319 := Tryz.func120.trans (congrArg some (by kernel_rfl))
  f320 := Tryz.func121.trans (congrArg some (by kernel_rfl))
  f337 := Tryz.func129.trans (congrArg some (by kernel_rfl))
  f338 := Tryz.func130.trans (congrArg some (by kernel_rfl))
  t0 := Tryz.underlying0
  a0 := Tryz.isAgg0
  z0 := Tryz.sizeOf0
  v0 := Tryz.zeroValue0
  t2 := Tryz.underlying2
  a2 := Tryz.isAgg2
  z2 := Tryz.sizeOf2
  v2 := Tryz.zeroValue2
  t3 := Tryz.underlying3
  a3 := Tryz.isAgg3
  z3 := Tryz.sizeOf3
  v3 := Tryz.zeroValue3
  t4 := Tryz.underlying4
  a4 := Tryz.isAgg4
  z4 := Tryz.sizeOf4
  v4 := Tryz.zeroValue4
  t5 := Tryz.underlying5
  a5 := Tryz.isAgg5
  z5 := Tryz.sizeOf5
  v5 := Tryz.zeroValue5
  t9 := Tryz.underlying9
  a9 := Tryz.isAgg9
  z9 := Tryz.sizeOf9
  v9 := Tryz.zeroValue9
  t20 := Tryz.underlying20
  a20 := Tryz.isAgg20
  z20 := Tryz.sizeOf20
  v20 := Tryz.zeroValue20
  t37 := Tryz.underlying125
  a37 := Tryz.isAgg125
  z37 := Tryz.sizeOf125
  v37 := Tryz.zeroValue125
  t46 := Tryz.underlying137
  a46 := Tryz.isAgg137
  z46 := Tryz.sizeOf137
  v46 := Tryz.zeroValue137
  t51 := Tryz.underlying173
  a51 := Tryz.isAgg173
  z51 := Tryz.sizeOf173
  v51 := Tryz.zeroValue173
  t53 := Tryz.underlying33
  a53 := Tryz.isAgg33
  z53 := Tryz.sizeOf33
  v53 := Tryz.zeroValue33
  t171 := Tryz.underlying157
  a171 := Tryz.isAgg157
  z171 := Tryz.sizeOf157
  v171 := Tryz.zeroValue157
  t173 := Tryz.underlying160
  a173 := Tryz.isAgg160
  z173 := Tryz.sizeOf160
  v173 := Tryz.zeroValue160
  t212 := Tryz.underlying176
  a212 := Tryz.isAgg176
  z212 := Tryz.sizeOf176
  v212 := Tryz.zeroValue176
  t213 := Tryz.underlying177
  a213 := Tryz.isAgg177
  z213 := Tryz.sizeOf177
  t232 := Tryz.underlying191
  a232 := Tryz.isAgg191
  z232 := Tryz.sizeOf191
  v232 := Tryz.zeroValue191
  t233 := Tryz.underlying192
  a233 := Tryz.isAgg192
  z233 := Tryz.sizeOf192
  v233 := Tryz.zeroValue192
  g17 := by kernel_rfl
  g18 := by kernel_rfl
  g19 := by kernel_rfl
}
theorem laysm171 : Go.Proofs.LaysM.n171 Tryz.prog lays171_ren := { lays171 with
  i0 := by kernel_rfl
  i2 := by kernel_rfl
  i3 := by kernel_rfl
  i4 := by kernel_rfl
  i5 := by kernel_rfl
  i9 := by kernel_rfl
  i20 := by kernel_rfl
  i37 := by kernel_rfl
  i46 := by kernel_rfl
  i51 := by kernel_rfl
  i53 := by kernel_rfl
  i171 := by kernel_rfl
  i173 := by kernel_rfl
  i212 := by kernel_rfl
  i232 := by kernel_rfl
  i233 := by kernel_rfl
  m17 := by kernel_rfl
  m18 := by kernel_rfl
  m19 := by kernel_rfl
}
/-- the table is there -/
def PowOk (G : Glob) : Prop := ∃ b o, G b = some (.pin (lays171_ren.g 17) o) ∧ ∀ w : World, w.heap[lays171_ren.g 17]? = some o → Lib.TabIs Tryz.prog w "internal/strconv.uint64pow10" .u64 Lib.pow10Tab
theorem PowOk.set {G : Glob} (h : PowOk G) {b : Nat} {x : GB} (hb : G b = some x) (hx : ∀ k o, x ≠ .pin k o) (y : GB) : PowOk (setG G b y) := by
  obtain ⟨c, o, h1, h2⟩ := h
  refine ⟨c, o, ?_, h2⟩
  rw [setG_ne _ _ (by rintro rfl; rw [hb, Option.some.injEq] at h1; exact hx _ _ h1)]
  exact h1
theorem PowOk.del {G : Glob} (h : PowOk G) {b : Nat} {x : GB} (hb : G b = some x) (hx : ∀ k o, x ≠ .pin k o) : PowOk (delG G b) := by
  obtain ⟨c, o, h1, h2⟩ := h
  refine ⟨c, o, ?_, h2⟩
  rw [delG_ne _ (by rintro rfl; rw [hb, Option.some.injEq] at h1; exact hx _ _ h1)]
  exact h1
theorem PowOk.new {G : Glob} (h : PowOk G) {b : Nat} (hb : G b = none) (y : GB) : PowOk (setG G b y) := by
  obtain ⟨c, o, h1, h2⟩ := h
  refine ⟨c, o, ?_, h2⟩
  rw [setG_ne _ _ (by rintro rfl; rw [hb] at h1; cases h1)]
  exact h1
theorem itoa_ok (n : Int) (h0 : -9223372036854775808 ≤ n) (h1 : n ≤ 9223372036854775807) {G : Glob} (hG : PowOk G) : CallOk Tryz.prog TT 38 [.int .i64 n] G (fun v G' => v = .str (S (Lib.itoa n)) ∧ G' = G) := by
  refine ⟨⟨_, Tryz.func38, by decide, rfl⟩, fun g us w hr hl hd => ?_⟩
  obtain ⟨b, o, hb, ht⟩ := hG
  obtain ⟨us⟩ := us
  match us, hl with
  | [u0], _ =>
    cases hd 0 _ u0 rfl rfl
    obtain ⟨_, _, h3, h4⟩ := hr b _ hb
    refine (Any.strconv_Itoa laysm171 n h0 h1 w (ht w h4)).mono fun e w' hh => ?_
    obtain ⟨rfl, k, os, rfl⟩ := hh
    have hu : Up w (grow (w.drewN k) os) := ⟨rfl, rfl, rfl, by simp [grow, World.drewN], fun j hj => by simp [grow, World.drewN, Array.getElem?_append_left hj]⟩
    exact ⟨_, g.still w, G, _, rfl, ⟨rfl, rfl⟩, still_rel hr hu, still_ext hu, .str _⟩
/-- the rows' list of tables says so -/
theorem pow_tab {w : World} (h : laidMetH Tryz.prog [("math/bits.deBruijn32tab", Rows.laid_math_bits_deBruijn32tab), ("math/bits.deBruijn64tab", Rows.laid_math_bits_deBruijn64tab), ("internal/strconv.uint64pow10", Rows.laid_internal_strconv_uint64pow10)] w) : Lib.TabIs Tryz.prog w "internal/strconv.uint64pow10" .u64 Lib.pow10Tab := by
  have h2 := (laidMetH_iff.1 h).1.filter (fun x => x.1 == "internal/strconv.uint64pow10")
  have e : (([("math/bits.deBruijn32tab", Rows.laid_math_bits_deBruijn32tab), ("math/bits.deBruijn64tab", Rows.laid_math_bits_deBruijn64tab), ("internal/strconv.uint64pow10", Rows.laid_internal_strconv_uint64pow10)] : List (String × DataW Unit)).filter fun x => x.2.handleName?.isNone).filter (fun x => x.1 == "internal/strconv.uint64pow10") = [("internal/strconv.uint64pow10", Lib.tabData .u64 Lib.pow10Tab)] := by kernel_rfl
  rw [e] at h2
  exact Lib.tabIs_of_head (g := lays171_ren.g 17) (t := 176) (e := 33) (n := 20) (by kernel_rfl) (by kernel_rfl) Tryz.underlying176 Tryz.underlying33 (by kernel_rfl) (by kernel_rfl) h2
theorem pow_obj {w : World} (h : Lib.TabIs Tryz.prog w "internal/strconv.uint64pow10" .u64 Lib.pow10Tab) : ∃ o, w.heap[lays171_ren.g 17]? = some o := by
  unfold Lib.TabIs World.var? at h
  rw [laysm171.m17, Option.bind_some] at h
  cases ho : w.heap[lays171_ren.g 17]? with
  | none => rw [ho] at h; cases h
  | some o => exact ⟨o, rfl⟩
theorem pow_pin {w : World} {o : Obj} (ho : w.heap[lays171_ren.g 17]? = some o) (h : Lib.TabIs Tryz.prog w "internal/strconv.uint64pow10" .u64 Lib.pow10Tab) {G : Glob} {b : Nat} (hG : G b = some (.pin (lays171_ren.g 17) o)) : PowOk G := by
  refine ⟨b, o, hG, fun w' hw' => ?_⟩
  unfold Lib.TabIs World.var? at *
  rw [laysm171.m17, Option.bind_some] at *
  rw [hw']
  rw [ho] at h
  exact h
end Go.Proofs.YtpihanlillbhkaaGreatDoor
end

section
/- A partition's box: what stands in it, and what an operation upon one of its stores leaves of the others. -/
set_option maxRecDepth 100000
set_option linter.unusedSimpArgs false
namespace Go.Proofs.YtpihanlillbhkaaGreatDoor
open Go Go.RowKit Go.Proofs

def NotMp (a b : AV) : Prop := ∀ i, a = .mp i → b ≠ .mp i
theorem NotMp.symm {a b : AV} (h : NotMp a b) : NotMp b a := fun i h1 h2 => h i h2 h1
/-- the maps' places -/
structure MV where
  k : AV
  c : AV
  f : AV
  l : AV
structure PtG (G : Glob) (b : Nat) (s : PS) (m : MV) : Prop where
  box : G b = some (.cells [m.k, .int .i64 (sizeR s.k : Nat), m.c, .int .i64 (totC s.c : Nat), m.f, .int .i64 (totF s.f : Nat), m.l, .int .i64 (sizeL s.l : Nat)])
  k : MapG G m.k (bk kav s.k)
  c : MapG G m.c (bk cav s.c)
  f : HallP ⟨m.k, .int .i64 (sizeR s.k : Nat), m.c, .int .i64 (totC s.c : Nat), m.l, .int .i64 (sizeL s.l : Nat)⟩ G b m.f (totF s.f : Nat) s.f
  l : MapG G m.l (bk lav s.l)
  kc : NotMp m.k m.c
  kf : NotMp m.k m.f
  kl : NotMp m.k m.l
  cf : NotMp m.c m.f
  cl : NotMp m.c m.l
  fl : NotMp m.f m.l
/-- variables of the library stay -/
def PinK (G G' : Glob) : Prop := ∀ i k o, G i = some (.pin k o) → G' i = some (.pin k o)
theorem PinK.refl (G : Glob) : PinK G G := fun _ _ _ h => h
theorem PinK.trans {A B C : Glob} (h : PinK A B) (h' : PinK B C) : PinK A C := fun i k o hi => h' i k o (h i k o hi)
theorem PinK.pow {G G' : Glob} (h : PinK G G') (hG : PowOk G) : PowOk G' := by
  obtain ⟨b, o, h1, h2⟩ := hG
  exact ⟨b, o, h _ _ _ h1, h2⟩
/-- what is no box of cells stays, but a map -/
def FrM (G G' : Glob) (b : Nat) (mv : AV) : Prop := ∀ i y, G i = some y → i ≠ b → mv ≠ .mp i → (∀ cs, y ≠ .cells cs) → G' i = some y
/-- boxes of cells stay, but one -/
def FrC (G G' : Glob) (b : Nat) : Prop := ∀ i cs, G i = some (.cells cs) → i ≠ b → G' i = some (.cells cs)
theorem MapG.some {G : Glob} {mv : AV} {m : List (AV × AV)} (h : MapG G mv m) {i : Nat} (hi : mv = .mp i) : G i = some (.map none m) := by
  rcases h with ⟨h, _⟩ | ⟨mb, h, h2⟩
  · rw [h] at hi; cases hi
  · rw [h] at hi; cases hi; exact h2
theorem Kept.frM {G G' : Glob} {b : Nat} {mv mv' : AV} (h : Kept G G' b mv mv') : FrM G G' b mv := fun i y h1 h2 h3 _ => h.2 i y h1 h2 h3
theorem Kept.frC {G G' : Glob} {b : Nat} {mv mv' : AV} {m : List (AV × AV)} (h : Kept G G' b mv mv') (hm : MapG G mv m) : FrC G G' b := fun i cs h1 h2 => h.2 i _ h1 h2 fun e => by have := hm.some e; rw [h1] at this; cases this
theorem FrM.map {G G' : Glob} {b : Nat} {mv mo : AV} {m : List (AV × AV)} {cs : List AV} (h : FrM G G' b mv) (hm : MapG G mo m) (ha : NotMp mv mo) (hb : G b = some (.cells cs)) : MapG G' mo m := by
  rcases hm with h1 | ⟨mb, rfl, h2⟩
  · exact .inl h1
  · refine .inr ⟨mb, rfl, h mb _ h2 (fun e => by rw [e, hb] at h2; cases h2) (fun e => ha mb e rfl) (fun cs e => by cases e)⟩
theorem FrM.pin {G G' : Glob} {b : Nat} {mv : AV} {m : List (AV × AV)} {cs : List AV} (h : FrM G G' b mv) (hm : MapG G mv m) (hb : G b = some (.cells cs)) : PinK G G' := fun i k o hi =>
  h i _ hi (fun e => by rw [e, hb] at hi; cases hi) (fun e => by have := hm.some e; rw [hi] at this; cases this) (fun cs e => by cases e)
theorem NotMp.new {G : Glob} {mv mv' mo : AV} {m : List (AV × AV)} (ha : NotMp mv mo) (h : mv' = mv ∨ (mv = .nilm ∧ ∃ mb, G mb = none ∧ mv' = .mp mb)) (hm : MapG G mo m) : NotMp mv' mo := by
  rcases h with rfl | ⟨_, mb, h1, rfl⟩
  · exact ha
  · intro i hi hj
    cases hi
    have := hm.some hj
    rw [h1] at this; cases this
/-- queues stay, whatever else turns in the box -/
theorem hall_other {s s' : Oth} {G G' : Glob} {b : Nat} {mf : AV} {n : Int} {l : FiL} (h : HallP s G b mf n l) (hc : FrC G G' b) (h1 : StQ s' G' b mf n (bk fav l)) (hb : ∃ a0 a1 a2 a3 a4 a5 a6 a7, G b = some (.cells [a0, a1, a2, a3, a4, a5, a6, a7])) : HallP s' G' b mf n l := by
  obtain ⟨a0, a1, a2, a3, a4, a5, a6, a7, hb⟩ := hb
  refine ⟨h1, h.2.1, fun e he => ?_, h.2.2.2⟩
  obtain ⟨q1, q2, q3⟩ := h.2.2.1 e he
  refine ⟨q1, que_mono q2 fun i y hi hy => ?_, q3⟩
  rcases que_box q2 hi with ⟨x0, x1, x2, hx⟩ | ⟨x0, x1, hx⟩
  · rw [hy] at hx; cases hx
    exact hc i _ hy fun e => by subst e; rw [hb] at hy; simp at hy
  · rw [hy] at hx; cases hx
    exact hc i _ hy fun e => by subst e; rw [hb] at hy; simp at hy
section
variable {G G' : Glob} {b : Nat} {s : PS} {m : MV}
theorem PtG.stK (h : PtG G b s m) : StK ⟨m.c, .int .i64 (totC s.c : Nat), m.f, .int .i64 (totF s.f : Nat), m.l, .int .i64 (sizeL s.l : Nat)⟩ G b m.k (sizeR s.k : Nat) (bk kav s.k) := ⟨h.box, h.k⟩
theorem PtG.stC (h : PtG G b s m) : StC ⟨m.k, .int .i64 (sizeR s.k : Nat), m.f, .int .i64 (totF s.f : Nat), m.l, .int .i64 (sizeL s.l : Nat)⟩ G b m.c (totC s.c : Nat) (bk cav s.c) := ⟨h.box, h.c⟩
theorem PtG.stL (h : PtG G b s m) : StL ⟨m.k, .int .i64 (sizeR s.k : Nat), m.c, .int .i64 (totC s.c : Nat), m.f, .int .i64 (totF s.f : Nat)⟩ G b m.l (sizeL s.l : Nat) (bk lav s.l) := ⟨h.box, h.l⟩
theorem PtG.fm (h : PtG G b s m) : MapG G m.f (bk fav s.f) := h.f.1.2
theorem PtG.toK (h : PtG G b s m) {k' : KvL} {mv' : AV} (h1 : StK ⟨m.c, .int .i64 (totC s.c : Nat), m.f, .int .i64 (totF s.f : Nat), m.l, .int .i64 (sizeL s.l : Nat)⟩ G' b mv' (sizeR k' : Nat) (bk kav k')) (hk : Kept G G' b m.k mv') :
    PtG G' b ⟨k', s.c, s.f, s.l⟩ ⟨mv', m.c, m.f, m.l⟩ ∧ PinK G G' := by
  have hm := hk.frM
  have hc := hk.frC h.k
  refine ⟨⟨h1.1, h1.2, hm.map h.c h.kc h.box, ?_, hm.map h.l h.kl h.box, h.kc.new hk.1 h.c, h.kf.new hk.1 h.fm, h.kl.new hk.1 h.l, h.cf, h.cl, h.fl⟩, hm.pin h.k h.box⟩
  exact hall_other h.f hc ⟨h1.1, hm.map h.fm h.kf h.box⟩ ⟨_, _, _, _, _, _, _, _, h.box⟩
theorem PtG.toC (h : PtG G b s m) {c' : List (ByteArray × Int)} {mv' : AV} (h1 : StC ⟨m.k, .int .i64 (sizeR s.k : Nat), m.f, .int .i64 (totF s.f : Nat), m.l, .int .i64 (sizeL s.l : Nat)⟩ G' b mv' (totC c' : Nat) (bk cav c')) (hk : Kept G G' b m.c mv') :
    PtG G' b ⟨s.k, c', s.f, s.l⟩ ⟨m.k, mv', m.f, m.l⟩ ∧ PinK G G' := by
  have hm := hk.frM
  have hc := hk.frC h.c
  refine ⟨⟨h1.1, hm.map h.k h.kc.symm h.box, h1.2, ?_, hm.map h.l h.cl h.box, (h.kc.symm.new hk.1 h.k).symm, h.kf, h.kl, h.cf.new hk.1 h.fm, h.cl.new hk.1 h.l, h.fl⟩, hm.pin h.c h.box⟩
  exact hall_other h.f hc ⟨h1.1, hm.map h.fm h.cf h.box⟩ ⟨_, _, _, _, _, _, _, _, h.box⟩
theorem PtG.toL (h : PtG G b s m) {l' : LeL} {mv' : AV} (h1 : StL ⟨m.k, .int .i64 (sizeR s.k : Nat), m.c, .int .i64 (totC s.c : Nat), m.f, .int .i64 (totF s.f : Nat)⟩ G' b mv' (sizeL l' : Nat) (bk lav l')) (hk : Kept G G' b m.l mv') :
    PtG G' b ⟨s.k, s.c, s.f, l'⟩ ⟨m.k, m.c, m.f, mv'⟩ ∧ PinK G G' ∧ FrC G G' b := by
  have hm := hk.frM
  have hc := hk.frC h.l
  refine ⟨⟨h1.1, hm.map h.k h.kl.symm h.box, hm.map h.c h.cl.symm h.box, ?_, h1.2, h.kc, h.kf, (h.kl.symm.new hk.1 h.k).symm, h.cf, (h.cl.symm.new hk.1 h.c).symm, (h.fl.symm.new hk.1 h.fm).symm⟩, hm.pin h.l h.box, hc⟩
  exact hall_other h.f hc ⟨h1.1, hm.map h.fm h.fl.symm h.box⟩ ⟨_, _, _, _, _, _, _, _, h.box⟩
theorem Kq.frM {mv : AV} {l : FiL} {k : ByteArray} {n : Int} {o : Oth} (h : Kq G G' b mv l k) (hH : HallP o G b mv n l) : FrM G G' b mv := fun i y h1 h2 h3 h4 => h i y h1 h2 h3 fun x hx => by
  have hq := (hH.2.2.1 _ (lget_mem hx)).2.1
  have key : ∀ j, (j = x.1 ∨ j ∈ x.2.map (·.1)) → i ≠ j := fun j hj e => by
    subst e
    rcases que_box hq hj with ⟨_, _, _, e⟩ | ⟨_, _, e⟩
    · rw [h1] at e; cases e; exact h4 _ rfl
    · rw [h1] at e; cases e; exact h4 _ rfl
  exact ⟨key _ (.inl rfl), fun hm => key _ (.inr hm) rfl⟩
theorem PtG.toF (h : PtG G b s m) {f' : FiL} {mv' : AV} {k : ByteArray} (h1 : HallP ⟨m.k, .int .i64 (sizeR s.k : Nat), m.c, .int .i64 (totC s.c : Nat), m.l, .int .i64 (sizeL s.l : Nat)⟩ G' b mv' (totF f' : Nat) f') (hv : mv' = m.f ∨ (m.f = .nilm ∧ ∃ mb, G mb = none ∧ mv' = .mp mb)) (hk : Kq G G' b m.f s.f k) :
    PtG G' b ⟨s.k, s.c, f', s.l⟩ ⟨m.k, m.c, mv', m.l⟩ ∧ PinK G G' := by
  have hm := hk.frM h.f
  exact ⟨⟨h1.1.1, hm.map h.k h.kf.symm h.box, hm.map h.c h.cf.symm h.box, h1, hm.map h.l h.fl h.box, h.kc, (h.kf.symm.new hv h.k).symm, h.kl, (h.cf.symm.new hv h.c).symm, h.cl, h.fl.new hv h.l⟩, hm.pin h.fm h.box⟩
/-- a wider world of boxes -/
theorem PtG.sub (h : PtG G b s m) (hs : ∀ i y, G i = some y → G' i = some y) : PtG G' b s m := by
  have mp : ∀ {mv x}, MapG G mv x → MapG G' mv x := fun h => by
    rcases h with h | ⟨mb, h1, h2⟩
    · exact .inl h
    · exact .inr ⟨mb, h1, hs _ _ h2⟩
  refine ⟨hs _ _ h.box, mp h.k, mp h.c, ⟨⟨hs _ _ h.f.1.1, mp h.f.1.2⟩, h.f.2.1, fun e he => ?_, h.f.2.2.2⟩, mp h.l, h.kc, h.kf, h.kl, h.cf, h.cl, h.fl⟩
  obtain ⟨q1, q2, q3⟩ := h.f.2.2.1 e he
  exact ⟨q1, que_mono q2 fun i y _ hy => hs i y hy, q3⟩
end
/-- a partition whose lists are the document's -/
def PtX (G : Glob) (b : Nat) (q : PQ) : Prop := ∃ s m, PtG G b s m ∧ PR s q
theorem PR.bounds {s : PS} {q : PQ} (hp : PR s q) (hq : q.size ≤ 100000000) :
    sizeR s.k ≤ 100000000 ∧ totC s.c ≤ 100000000 ∧ totF s.f ≤ 100000000 ∧ sizeL s.l ≤ 100000000 ∧ sizeR s.k + totC s.c + totF s.f + sizeL s.l = q.size := by
  have := hp.size
  omega
theorem sum_mem {α : Type} (f : α → Nat) {x : α} {l : List α} (h : x ∈ l) : f x ≤ (l.map f).sum := by
  obtain ⟨l1, l2, rfl⟩ := List.append_of_mem h
  rw [List.map_append, List.sum_append, List.map_cons, List.sum_cons]; omega
theorem sum_len {α : Type} (f : α → Nat) (hf : ∀ x, 1 ≤ f x) : ∀ l : List α, l.length ≤ (l.map f).sum
  | [] => Nat.le_refl _
  | x :: l => by have := sum_len f hf l; have := hf x; rw [List.map_cons, List.sum_cons, List.length_cons]; omega
end Go.Proofs.YtpihanlillbhkaaGreatDoor
end

section
/- strconv.FormatUint and FormatInt at base 10. -/
set_option maxRecDepth 100000
set_option linter.unusedSimpArgs false
namespace Go.Proofs.YtpihanlillbhkaaGreatDoor
open Go Go.RowKit Go.Proofs Go.Shelf Go.Sort Go.Lib

theorem fint_ok (n : Int) (h0 : -9223372036854775808 ≤ n) (h1 : n ≤ 9223372036854775807) {G : Glob} (hG : PowOk G) : CallOk Tryz.prog TT 34 [.int .i64 n, .int .i64 10] G (fun v G' => v = .str (S (Lib.itoa n)) ∧ G' = G) := by
  have h1 : CallOk Tryz.prog TT 72 [.int .i64 n, .int .i64 10] G (fun v G' => v = .str (S (Lib.itoa n)) ∧ G' = G) := by
    refine ⟨⟨_, Tryz.func72, by decide, rfl⟩, fun g us w hr hl hd => ?_⟩
    obtain ⟨b, o, hb, ht⟩ := hG
    obtain ⟨us⟩ := us
    match us, hl with
    | [u0, u1], _ =>
      cases hd 0 _ u0 rfl rfl
      cases hd 1 _ u1 rfl rfl
      obtain ⟨_, _, h3, h4⟩ := hr b _ hb
      refine (show Calls Tryz.prog 72 #[.int .i64 n, .int .i64 10] w _ from Any.internal_strconv_FormatInt_10 (P := Tryz.prog) (ρ := lays171_ren) { laysm171 with } n h0 h1 w (ht w h4)).mono fun e w' hh => ?_
      obtain ⟨rfl, k, os, rfl⟩ := hh
      have hu : Up w (grow (w.drewN k) os) := ⟨rfl, rfl, rfl, by simp [grow, World.drewN], fun j hj => by simp [grow, World.drewN, Array.getElem?_append_left hj]⟩
      exact ⟨_, g.still w, G, _, rfl, ⟨rfl, rfl⟩, still_rel hr hu, still_ext hu, .str _⟩
  refine call_sem tt_ok Tryz.func34 rfl (by kernel_rfl) Tryz.ntmps34 Tryz.results34 ?_; conv => whnf
  repeat' (first | ((first | refine Sem.st tt_ok rfl ?_ | refine BS_t (by assumption) ?_ | refine BS_f (by assumption) ?_ | refine nthKi (by assumption) ?_ | refine ⟨_, ⟨(by omega), (by assumption)⟩, ?_⟩ | refine And.intro (by first | decide | omega) ?_); conv => whnf) | refine Sem.seqS ?_ | refine Sem.block ?_)
  refine h1.on ?_; conv => whnf
  repeat' (first | ((first | refine Sem.st tt_ok rfl ?_ | refine BS_t (by assumption) ?_ | refine BS_f (by assumption) ?_ | refine nthKi (by assumption) ?_ | refine ⟨_, ⟨(by omega), (by assumption)⟩, ?_⟩ | refine And.intro (by first | decide | omega) ?_); conv => whnf) | refine Sem.seqS ?_ | refine Sem.block ?_)
  exact ⟨_, fun _ _ h => h, rfl, rfl⟩
end Go.Proofs.YtpihanlillbhkaaGreatDoor
end
