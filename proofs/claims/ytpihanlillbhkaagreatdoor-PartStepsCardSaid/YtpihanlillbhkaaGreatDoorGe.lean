/- One text out of several: App, Two, Many, Blda, Bldb. -/
import Derived.Test.YtpihanlillbhkaaGreatDoorBase
import Derived.Test.YtpihanlillbhkaaGreatDoorGz
import Derived.Maps.AppendAt
import Derived.RegionTactic
import Derived.Laws.AppendOwnNone
import Derived.Shelf.Strings.Builder1
import Derived.Test.YtpihanlillbhkaaGreatDoorProg
import Derived.Test.YtpihanlillbhkaaGreatDoorLaw

section
/- Append of one element that was just laid in a block of its own, to a row of the call's own: what of the other blocks is said too. -/
namespace Go.Proofs.YtpihanlillbhkaaGreatDoor
open Go

theorem own_up {w w' : World} {base : Nat} {e : TypeId} {size : Nat} {v : Value} {n : Nat} {xs : List Value} (h : w.ownsRow base e size v n xs) (hu : Up w w') : w'.ownsRow base e size v n xs := by
  obtain ⟨hl, h | ⟨g, cap, cur, hv, hg, hb, h⟩⟩ := h
  · exact ⟨hl, .inl h⟩
  · exact ⟨hl, .inr ⟨g, cap, cur, hv, hg, hu.keep hb, h⟩⟩
end Go.Proofs.YtpihanlillbhkaaGreatDoor
end

section
/- Rows of the call's own side by side, of unlike elements: an append to one leaves the other; a step of a region that draws its order. -/
namespace Go.Proofs.YtpihanlillbhkaaGreatDoor
open Go Go.RowKit

section
variable {w w' : World} {base base' : Nat} {e e' : TypeId} {size size' : Nat} {v v' : Value} {n n' : Nat} {xs xs' : List Value}
theorem own_not (h : w.ownsRow base e size v n xs) {k : Nat} {cs : Array Value} {T : TypeId} {fr : Nat × Nat} (hk : w.heap[k]? = some (.cells cs T fr)) (hne : T ≠ e) : some k ≠ v.ownBlock := by
  obtain ⟨_, ⟨rfl, _⟩ | ⟨g, cap, cur, rfl, _, hg, _⟩⟩ := h
  · simp [Value.ownBlock]
  · simp only [Value.ownBlock, ne_eq, Option.some.injEq]
    rintro rfl
    rw [hg] at hk
    simp only [Option.some.injEq, Obj.cells.injEq] at hk
    exact hne hk.2.1.symm
end
/-- what an append of one element to a row leaves: the row; the rows of other elements; all other blocks -/
structure AppOut (P : Program) (w w' : World) (base : Nat) (e : TypeId) (size : Nat) (v v' : Value) (n : Nat) (xs us : List Value) : Prop where
  own : w'.ownsRow base e size v' (n + 1) (xs ++ us)
  rows : ∀ base' e' size' v'' n' xs', e ≠ e' → w.ownsRow base' e' size' v'' n' xs' → w'.ownsRow base' e' size' v'' n' xs'
  rows2 : ∀ base' e' size' v'' n' xs', v''.ownBlock = none ∨ v''.ownBlock ≠ v.ownBlock → w.ownsRow base' e' size' v'' n' xs' → w'.ownsRow base' e' size' v'' n' xs'
  blocks : ∀ (k : Nat) (o : Obj), w.heap[k]? = some o → some k ≠ v.ownBlock → w'.heap[k]? = some o
  up : ∀ w0 : World, w0.heap.size ≤ base → Up w0 w → Up w0 w'
  size : w.heap.size ≤ w'.heap.size
  at_ : v'.ownBlock = v.ownBlock ∨ v'.ownBlock = some w.heap.size
/-- two rows that lie in blocks of their own stay so, when one of them is appended to -/
theorem AppOut.apart {P : Program} {w w' : World} {base : Nat} {e : TypeId} {size : Nat} {v v' : Value} {n : Nat} {xs us : List Value} (h : AppOut P w w' base e size v v' n xs us) {x : Value} (hx : x.ownBlock = none ∨ x.ownBlock ≠ v.ownBlock) (hl : ∀ k, x.ownBlock = some k → k < w.heap.size) :
    x.ownBlock = none ∨ x.ownBlock ≠ v'.ownBlock := by
  rcases hx with h0 | h0
  · exact .inl h0
  · right
    rcases h.at_ with h1 | h1
    · rw [h1]; exact h0
    · rw [h1]; intro h2; have := hl _ h2; omega
end Go.Proofs.YtpihanlillbhkaaGreatDoor
end

section
/- Append of a whole slice to a row of the call's own; a store into such a row. -/
namespace Go.Proofs.YtpihanlillbhkaaGreatDoor
open Go Go.RowKit

theorem flat_at {α : Type} {cells : α → List Value} {size : Nat} (hs : 0 < size) : ∀ (l : List α) (j : Nat) (u : Value), (∀ x ∈ l, (cells x).length = size) → (l.flatMap cells)[j]? = some u → ∃ i x, l[i]? = some x ∧ (cells x)[j % size]? = some u ∧ j = i * size + j % size
  | [], j, u, _, h => by simp at h
  | y :: r, j, u, hc, h => by
    have hy := hc y (by simp)
    rw [List.flatMap_cons] at h
    rcases Nat.lt_or_ge j size with h1 | h1
    · rw [List.getElem?_append_left (by omega)] at h
      exact ⟨0, y, rfl, by rw [Nat.mod_eq_of_lt h1]; exact h, by rw [Nat.mod_eq_of_lt h1]; omega⟩
    · rw [List.getElem?_append_right (by omega), hy] at h
      obtain ⟨i, x, h2, h3, h4⟩ := flat_at hs r (j - size) u (fun x hx => hc x (by simp [hx])) h
      have hm : (j - size) % size = j % size := by rw [Nat.mod_eq_sub_mod h1]
      rw [hm] at h3 h4
      exact ⟨i + 1, x, by simpa using h2, h3, by rw [Nat.add_mul, Nat.one_mul]; omega⟩
theorem flat_len {α : Type} {cells : α → List Value} {size : Nat} : ∀ (l : List α), (∀ x ∈ l, (cells x).length = size) → (l.flatMap cells).length = l.length * size
  | [], _ => by simp
  | y :: r, hc => by
    rw [List.flatMap_cons, List.length_append, flat_len r (fun x hx => hc x (by simp [hx])), hc y (by simp), List.length_cons, Nat.add_mul]; omega

theorem run_append_none {P : Program} (t ty e : TypeId) (i : TypeInfo) {size base : Nat} {w : World} (ht : P.underlying t = some (.slice e)) (hi : P.info? e = some i)
    {v : Value} {n : Nat} {xs : List Value} (hown : w.ownsRow base e size v n xs) (c : Nat) : (Builtin.append_ #[t, t] ty #[v, .slice none 0 c]).run P w = .ok v w := by
  obtain ⟨_, ⟨rfl, rfl⟩ | ⟨g, cap, cur, rfl, _, _, hc, _⟩⟩ := hown
  · simp [Builtin.append_, run_underlying ht, sizeOf, typeInfo, hi, Builtin.lenOf, Builtin.firstCells]
  · simp [Builtin.append_, run_underlying ht, sizeOf, typeInfo, hi, Builtin.lenOf, Builtin.firstCells, hc, storeCells]
/-- what an append of a slice leaves -/
structure AppsOut (w w' : World) (base : Nat) (e : TypeId) (size : Nat) (v v' : Value) (n : Nat) (xs : List Value) : Prop where
  own : w'.ownsRow base e size v' n xs
  rows : ∀ base' e' size' v'' n' xs', (v''.ownBlock = none ∨ v''.ownBlock ≠ v.ownBlock) → w.ownsRow base' e' size' v'' n' xs' → w'.ownsRow base' e' size' v'' n' xs'
  blocks : ∀ (k : Nat) (o : Obj), w.heap[k]? = some o → some k ≠ v.ownBlock → w'.heap[k]? = some o
  up : ∀ w0 : World, w0.heap.size ≤ base → Up w0 w → Up w0 w'
  size : w.heap.size ≤ w'.heap.size
  at_ : v'.ownBlock = v.ownBlock ∨ v'.ownBlock = some w.heap.size
end Go.Proofs.YtpihanlillbhkaaGreatDoor
end

section
/- strings.Builder in the model: WriteString, WriteByte, String, each with all that it leaves as it was. -/
set_option maxRecDepth 100000
namespace Go.Proofs.YtpihanlillbhkaaGreatDoor
open Go Go.RowKit Go.Proofs Go.Shelf

def lays240_ren : Go.Shelf.Ren := ⟨fun | 240 => 94 | 276 => 106 | n => n, fun | 0 => 0 | 4 => 4 | 5 => 5 | 9 => 9 | 20 => 20 | 37 => 125 | 70 => 124 | 72 => 127 | 164 => 162 | n => n, fun  | n => n⟩
theorem lays240 : Go.Proofs.Lays.n240 Tryz.prog lays240_ren := {
  mixed := by kernel_rfl
  f240 := Tryz.func94.trans (congrArg some (by kernel_rfl))
  f276 := Tryz.func106.trans (congrArg some (by kernel_rfl))
  t0 := Tryz.underlying0
  a0 := Tryz.isAgg0
  z0 := Tryz.sizeOf0
  v0 := Tryz.zeroValue0
  t4 := Tryz.underlying4
  a4 := Tryz.isAgg4
  z4 := Tryz.sizeOf4
  v4 := Tryz.zeroValue4
  t9 := Tryz.underlying9
  a9 := Tryz.isAgg9
  z9 := Tryz.sizeOf9
  v9 := Tryz.zeroValue9
  t20 := Tryz.underlying20
  a20 := Tryz.isAgg20
  z20 := Tryz.sizeOf20
  v20 := Tryz.zeroValue20
  t70 := Tryz.underlying124
  a70 := Tryz.isAgg124
  z70 := Tryz.sizeOf124
  v70 := Tryz.zeroValue124
  t72 := Tryz.underlying127
  a72 := Tryz.isAgg127
  z72 := Tryz.sizeOf127
  v72 := Tryz.zeroValue127
  t164 := Tryz.underlying162
  a164 := Tryz.isAgg162
  z164 := Tryz.sizeOf162
  v164 := Tryz.zeroValue162
}
theorem bldX : Builder.Extra Tryz.prog lays240_ren where
  sizeBuilder := by kernel_rfl
  liesBuilder := by kernel_rfl
  t5 := Tryz.underlying5
  a5 := Tryz.isAgg5
  z5 := Tryz.sizeOf5
  v5 := Tryz.zeroValue5
  infoByte := by kernel_rfl
  cellsByte := by kernel_rfl
  sizeByte := by kernel_rfl
  neB5 := by decide

theorem run_appstr {P : Program} (t u ty e : TypeId) (i : TypeInfo) (ht : P.underlying t = some (.slice e)) (hu : P.underlying u = some .string) (hi : P.info? e = some i) (hz : i.zero = some (.int .u8 0)) (hsize : i.size = 1) (hby : i.bytes = 1)
    {w : World} {v : Value} {n : Nat} {xs : List Value} (hown : w.ownsRow 0 e 1 v n xs) (s : ByteArray) (h63 : n + s.size ≤ maxLen) (hbytes : n + s.size ≤ 140737488355328) :
    ∃ v' w', (Builtin.append_ #[t, u] ty #[v, .string s]).run P w = .ok v' w' ∧ w'.ownsRow 0 e 1 v' (n + s.size) (xs ++ Lib.strCells s) ∧ w.grownBy w' v.ownBlock ∧ (v' = .slice none 0 0 ↔ v = .slice none 0 0 ∧ s.size = 0) ∧
      (v'.ownBlock = v.ownBlock ∨ v'.ownBlock = some w.heap.size) := by
  obtain ⟨v', w', hr, h2, h3, h4⟩ := Lib.run_append_own_string (P := P) w 0 t u ty e i ht hu hi hz hsize hby v n xs hown s h63 hbytes (Nat.zero_le _)
  refine ⟨v', w', hr, h2, h3, h4, ?_⟩
  have h63' : n + s.size ≤ 9223372036854775807 := by simp only [maxLen] at h63; omega
  rcases hown.2 with ⟨rfl, rfl⟩ | ⟨g, cap, cur, rfl, _, hg, hnc, _, hcs, _⟩
  · by_cases hm : s.size = 0
    · exact .inl (by rw [h4.2 ⟨rfl, hm⟩])
    · have hq := run_append_nil_string (P := P) w t u ty e i (.int .u8 0) ht hu hi hz s (by omega) (by omega) (by rw [hby]; omega)
      rw [hq] at hr
      simp only [Result.ok.injEq] at hr
      obtain ⟨rfl, _⟩ := hr
      exact .inr rfl
  · by_cases hroom : n + s.size ≤ cap
    · have hq := Lib.run_append_room_string (P := P) w t u ty e i ht hu hi hsize g n cap cur hg s hroom (by omega)
      rw [hq] at hr
      simp only [Result.ok.injEq] at hr
      obtain ⟨rfl, _⟩ := hr
      exact .inl rfl
    · have holds : ∀ j u, xs[j]? = some u → w.cell? ((⟨g, 0, none⟩ : Addr).add j) = some u := hown.cells (g := g) rfl
      have hq := Lib.run_append_grow_string (P := P) w t u ty e i (.int .u8 0) ht hu hi hz ⟨g, 0, none⟩ n cap xs (by rw [hsize]; exact hown.1) holds s (by omega) (by omega) (by rw [hby]; exact growslice_fits (by omega) (by omega))
      rw [hq] at hr
      simp only [Result.ok.injEq] at hr
      obtain ⟨rfl, _⟩ := hr
      exact .inr rfl
theorem wpList_appstr {P : Program} {ops : Array Oper} {rest : List Oper} {o : Oper} {a : Act} {Q : Exit → Act → World → Prop} {w : World} (hgd : o.guard = none) (sl x : Operand) (t u : TypeId)
    (ho : o.op = .call { callee := .builtin .append, args := #[sl, x], argTypes := #[t, u] }) (e : TypeId) (i : TypeInfo) (ht : P.underlying t = some (.slice e)) (hu : P.underlying u = some .string) (hi : P.info? e = some i) (hz : i.zero = some (.int .u8 0)) (hsize : i.size = 1) (hby : i.bytes = 1)
    {v : Value} {n : Nat} {xs : List Value} (hs : a.eval sl = v) (hown : w.ownsRow 0 e 1 v n xs) (s : ByteArray) (hx : a.eval x = .string s) (h63 : n + s.size ≤ maxLen) (hbytes : n + s.size ≤ 140737488355328)
    (h : ∀ v' w', w'.ownsRow 0 e 1 v' (n + s.size) (xs ++ Lib.strCells s) → w.grownBy w' v.ownBlock → (v' = .slice none 0 0 ↔ v = .slice none 0 0 ∧ s.size = 0) → (v'.ownBlock = v.ownBlock ∨ v'.ownBlock = some w.heap.size) → wpList P ops Q rest (a.put o.dst v') w') : wpList P ops Q (o :: rest) a w := by
  refine wpList_plain hgd fun K hK => ?_
  obtain ⟨v', w', hr, h2, h3, h4, h5⟩ := run_appstr (P := P) t u o.type e i ht hu hi hz hsize hby hown s h63 hbytes
  unfold Oper.wp execOp
  simp only [ho, resolve, invoke, builtin, Sem.run_bind, Sem.run_pure, Result.andThen_ok, List.map_toArray, List.map_cons, List.map_nil, hs, hx, hr]
  exact hK _ _ (h v' w' h2 h3 h4 h5)
theorem own_keep {w w' : World} {base : Nat} {e : TypeId} {size n : Nat} {v : Value} {xs : List Value} (h : w.ownsRow base e size v n xs) (hk : ∀ k, v.ownBlock = some k → w'.heap[k]? = w.heap[k]?) : w'.ownsRow base e size v n xs := by
  refine ⟨h.1, ?_⟩
  rcases h.2 with h | ⟨b, cap, cur, rfl, hb, hg, r⟩
  · exact .inl h
  · exact .inr ⟨b, cap, cur, rfl, hb, by rw [hk b rfl]; exact hg, r⟩
/-- a builder: its block, what it holds -/
structure Bld (w : World) (k : Nat) (p v : Value) (l : List Value) : Prop where
  blk : w.heap[k]? = some (.cells #[p, v] 127 (0, 0))
  adr : p = .pointer none ∨ p = .pointer (some ⟨k, 0, none⟩)
  own : w.ownsRow 0 5 1 v l.length l
  ne : v.ownBlock ≠ some k
  nil : l = [] → v = .slice none 0 0
/-- all blocks but two are as they were -/
structure Two (w w' : World) (k : Nat) (v : Value) : Prop where
  os : w'.os = w.os
  tape : w'.tape = w.tape
  output : w'.output = w.output
  size : w.heap.size ≤ w'.heap.size
  block : ∀ j, j < w.heap.size → j ≠ k → some j ≠ v.ownBlock → w'.heap[j]? = w.heap[j]?
theorem check_any (k : Nat) (p v : Value) (l : List Value) (w : World) (h : Bld w k p v l) : Calls Tryz.prog 94 #[.pointer (some ⟨k, 0, none⟩)] w (fun e w' => e = .returned (.tuple #[]) ∧ Bld w' k (.pointer (some ⟨k, 0, none⟩)) v l ∧ Two w w' k v) := by
  rcases h.adr with hp | hp
  · subst hp
    have hblk := h.blk
    refine (Any.Builder_copyCheck_fresh lays240 bldX.toX72 k w (by rw [Lib.cell_of_heap hblk]; rfl) (by simp [World.shape?, hblk]; rfl) (Lib.frozen_of_heap hblk 0)).mono ?_
    rintro e w' ⟨rfl, rfl⟩
    refine ⟨rfl, ⟨by rw [blk_set hblk 0]; rfl, .inr rfl, own_keep h.own fun j hj => ?_, h.ne, h.nil⟩, ⟨rfl, rfl, rfl, by simp, fun j _ hj _ => Below.heap_setCell _ _ _ _ (by simpa using hj)⟩⟩
    exact Below.heap_setCell _ _ _ _ (by intro he; simp at he; subst he; exact h.ne hj)
  · subst hp
    have hblk := h.blk
    refine (Any.Builder_copyCheck_used lays240 bldX.toX72 k w (by rw [Lib.cell_of_heap hblk]; rfl)).mono ?_
    rintro e w' ⟨rfl, rfl⟩
    exact ⟨rfl, h, ⟨rfl, rfl, rfl, Nat.le_refl _, fun _ _ _ _ => rfl⟩⟩
theorem Two.trans {w w1 w2 : World} {k : Nat} {v v1 : Value} (h : Two w w1 k v) (h' : Two w1 w2 k v1) (hv : v1.ownBlock = v.ownBlock) : Two w w2 k v :=
  ⟨h'.os.trans h.os, h'.tape.trans h.tape, h'.output.trans h.output, Nat.le_trans h.size h'.size, fun j h1 h2 h3 => (h'.block j (Nat.lt_of_lt_of_le h1 h.size) h2 (by rw [hv]; exact h3)).trans (h.block j h1 h2 h3)⟩
theorem own_other {w : World} {base : Nat} {e T : TypeId} {size n : Nat} {v : Value} {xs : List Value} {k : Nat} {cs : Array Value} {fr : Nat × Nat} (h : w.ownsRow base e size v n xs) (hk : w.heap[k]? = some (.cells cs T fr)) (hne : T ≠ e) : v.ownBlock ≠ some k := fun he => own_not h hk hne he.symm
/-- behind the append, the store -/
theorem bld_put {w w1 w2 : World} {k : Nat} {p v v' : Value} {l m : List Value} (h : Bld w k p v l) (h1 : Bld w1 k (.pointer (some ⟨k, 0, none⟩)) v l) (q1 : Two w w1 k v) (hw : w1.grownBy w2 v.ownBlock) (hat : v'.ownBlock = v.ownBlock ∨ v'.ownBlock = some w1.heap.size)
    (hown : w2.ownsRow 0 5 1 v' (l.length + m.length) (l ++ m)) (hnil : l ++ m = [] → v' = .slice none 0 0) :
    Bld (w2.setCell ⟨k, 1, none⟩ v') k (.pointer (some ⟨k, 0, none⟩)) v' (l ++ m) ∧ Two w (w2.setCell ⟨k, 1, none⟩ v') k v ∧ (v'.ownBlock = v.ownBlock ∨ ∃ j, v'.ownBlock = some j ∧ w.heap.size ≤ j) := by
  have hlt := blk_lt h1.blk
  have hb2 : w2.heap[k]? = some (.cells #[.pointer (some ⟨k, 0, none⟩), v] 127 (0, 0)) := by rw [hw.block k hlt (fun e => h1.ne e.symm)]; exact h1.blk
  have hne := own_other hown hb2 (by decide)
  refine ⟨⟨by rw [blk_set hb2 1]; rfl, .inr rfl, own_keep (by rw [List.length_append]; exact hown) fun j hj => Below.heap_setCell _ _ _ _ (by intro he; simp at he; subst he; exact hne hj), hne, hnil⟩, ⟨hw.os.trans q1.os, hw.tape.trans q1.tape, hw.output.trans q1.output, by simp only [World.size_setCell]; exact Nat.le_trans q1.size hw.size, fun j h1 h2 h3 => ?_⟩, ?_⟩
  · rw [Below.heap_setCell _ _ _ _ (by simpa using h2), hw.block j (Nat.lt_of_lt_of_le h1 q1.size) h3, q1.block j h1 h2 h3]
  · rcases hat with hat | hat
    · exact .inl hat
    · exact .inr ⟨_, hat, q1.size⟩
/-- what a write leaves -/
def Wrote (w w' : World) (k : Nat) (v v' : Value) (l : List Value) : Prop :=
  Bld w' k (.pointer (some ⟨k, 0, none⟩)) v' l ∧ Two w w' k v ∧ (v'.ownBlock = v.ownBlock ∨ ∃ j, v'.ownBlock = some j ∧ w.heap.size ≤ j)
theorem wpList_bldstr {ops : Array Oper} {rest : List Oper} {o : Oper} {a : Act} {Q : Exit → Act → World → Prop} {w w1 : World} {k : Nat} {p v : Value} {l : List Value} (hgd : o.guard = none) (sl x : Operand)
    (ho : o.op = .call { callee := .builtin .append, args := #[sl, x], argTypes := #[125, 9] }) (h : Bld w k p v l) (h1 : Bld w1 k (.pointer (some ⟨k, 0, none⟩)) v l) (q1 : Two w w1 k v) (hs : a.eval sl = v) (s : ByteArray) (hx : a.eval x = .string s) (hlen : l.length + s.size ≤ 140737488355328)
    (hK : ∀ ao n c w2, Wrote w (w2.setCell ⟨k, 1, none⟩ (.slice ao n c)) k v (.slice ao n c) (l ++ Lib.strCells s) → w2.cell? ⟨k, 0, none⟩ = some (.pointer (some ⟨k, 0, none⟩)) → w2.cell? ⟨k, 1, none⟩ = some v → w2.frozen? ⟨k, 1, none⟩ = false → wpList Tryz.prog ops Q rest (a.put o.dst (.slice ao n c)) w2) : wpList Tryz.prog ops Q (o :: rest) a w1 := by
  obtain ⟨i0, hi, hz0, hz1, hz2⟩ := info_parts bldX.infoByte
  refine wpList_appstr hgd sl x 125 9 ho 5 i0 Tryz.underlying125 Tryz.underlying9 hi hz0 hz1 hz2 hs h1.own s hx (by unfold maxLen; omega) (by omega) fun v' w2 hown' hg hnil hat => ?_
  have hl2 : (Lib.strCells s).length = s.size := Lib.strCells_length s
  have f := bld_put (m := Lib.strCells s) h h1 q1 hg hat (by rw [hl2]; exact hown') (fun hh => by
    obtain ⟨e1, e2⟩ := List.append_eq_nil_iff.1 hh
    exact hnil.2 ⟨h.nil e1, by rw [← hl2, e2]; rfl⟩)
  have hb2 : w2.heap[k]? = some (.cells #[.pointer (some ⟨k, 0, none⟩), v] 127 (0, 0)) := by rw [hg.block k (blk_lt h1.blk) (fun e => h1.ne e.symm)]; exact h1.blk
  obtain ⟨ao, n', cap, rfl⟩ : ∃ ao n' cap, v' = .slice ao n' cap := by
    rcases hown'.2 with ⟨hv, _⟩ | ⟨g, cap, cur, hv, _⟩
    · exact ⟨_, _, _, hv⟩
    · exact ⟨_, _, _, hv⟩
  exact hK ao n' cap w2 f (by rw [Lib.cell_of_heap hb2]; rfl) (by rw [Lib.cell_of_heap hb2]; rfl) (Lib.frozen_of_heap hb2 1)
theorem checks_any (k : Nat) (p v : Value) (l : List Value) (w : World) (h : Bld w k p v l) : Calls Tryz.prog 94 #[.pointer (some ⟨k, 0, none⟩)] w (fun e w' => e = .returned (.tuple #[]) ∧ (Bld w' k (.pointer (some ⟨k, 0, none⟩)) v l ∧ Two w w' k v) ∧ w'.cell? ⟨k, 0, none⟩ = some (.pointer (some ⟨k, 0, none⟩)) ∧ w'.cell? ⟨k, 1, none⟩ = some v) :=
  (check_any k p v l w h).mono fun e w' hh => ⟨hh.1, ⟨hh.2.1, hh.2.2⟩, by rw [Lib.cell_of_heap hh.2.1.blk]; rfl, by rw [Lib.cell_of_heap hh.2.1.blk]; rfl⟩
set_option maxHeartbeats 2000000 in
theorem write_any (k : Nat) (p v : Value) (l : List Value) (s : ByteArray) (w : World) (h : Bld w k p v l) (hlen : l.length + s.size ≤ 140737488355328) :
    Calls Tryz.prog 68 #[.pointer (some ⟨k, 0, none⟩), .string s] w (fun e w' => e = .returned (.tuple #[.int .i64 s.size, .nilIface]) ∧ ∃ v', Wrote w w' k v v' (l ++ Lib.strCells s)) := by
  have hck := checks_any k p v l w h
  have hH := Lib.hid h
  have hL := Lib.hid hlen
  clear h hlen
  go_enter Tryz.func68, Tryz.ntmps68
  go_wp2_with (first | (go_at_call 94; refine (hck).mono ?_; rintro e w1 ⟨rfl, h1, c0, c1⟩) | (at_builtin; refine wpList_bldstr rfl _ _ rfl hH h1.1 h1.2 rfl s rfl hL ?_; intro ao n c w2 hW d0 d1 f1))
  go_ret2
  exact ⟨rfl, _, hW⟩
set_option maxHeartbeats 2000000 in
theorem string_any (k : Nat) (p v : Value) (s : ByteArray) (w : World) (h : Bld w k p v (Lib.strCells s)) :
    Calls Tryz.prog 69 #[.pointer (some ⟨k, 0, none⟩)] w (fun e w' => e = .returned (.string s) ∧ Two w w' k v) := by
  by_cases h0 : s.size = 0
  · have hs : s = ⟨#[]⟩ := by
      obtain ⟨⟨l⟩⟩ := s
      have : l = [] := List.eq_nil_of_length_eq_zero h0
      rw [this]
    subst hs
    have hv := h.nil rfl
    subst hv
    have hb := h.blk
    have c1 : w.drew.cell? ⟨k, 1, none⟩ = some (.slice none 0 0) := by
      have : w.drew.heap[k]? = some (.cells #[p, .slice none 0 0] 127 (0, 0)) := hb
      rw [Lib.cell_of_heap this]; rfl
    have hSD : (Builtin.unsafeSliceData_ #[125] 154 #[.slice none 0 0]).run Tryz.prog w.drew = .ok (.pointer none) w.drew := rfl
    have hUS : ∀ W q, (Builtin.unsafeString_ #[154, 3] 9 #[.pointer q, .int .i64 0]).run Tryz.prog W = .ok (.string .empty) W := fun W q => Lib.run_unsafeString_none W _ _ _ q
    clear h hb h0
    have mixed : (Tryz.prog).follows .mixedOrders = true := by kernel_rfl
    go_enter Tryz.func69, Tryz.ntmps69
    go_wp2
    go_region_o
    all_goals (go_wp2; go_ret; exact ⟨rfl, ⟨rfl, rfl, rfl, Nat.le_refl _, fun _ _ _ _ => rfl⟩⟩)
  · obtain ⟨l, rfl⟩ : ∃ l : List UInt8, s = ⟨l.toArray⟩ := ⟨s.data.toList, by simp⟩
    have hl0 : l ≠ [] := fun e => h0 (by rw [e]; rfl)
    have hown := h.own
    have hlen : (Lib.strCells ⟨l.toArray⟩).length = l.length := by simp [Lib.strCells]
    rw [hlen] at hown
    obtain ⟨g, cap, cur, rfl, _, hg, hnc, hcm, hcs, _⟩ : ∃ g cap cur, v = .slice (some ⟨g, 0, none⟩) l.length cap ∧ 0 ≤ g ∧ w.heap[g]? = some (.cells cur 5 (0, 0)) ∧ l.length ≤ cap ∧ cap ≤ maxLen ∧ cur.size = cap * 1 ∧ cur.toList.take (l.length * 1) = Lib.strCells ⟨l.toArray⟩ := by
      rcases hown.2 with ⟨_, hz⟩ | ⟨g, cap, cur, hv, r⟩
      · exact absurd (List.eq_nil_of_length_eq_zero hz) hl0
      · exact ⟨g, cap, cur, hv, r⟩
    have hb := h.blk
    have hlp : l.length ≠ 0 := fun e => hl0 (List.eq_nil_of_length_eq_zero e)
    have c1 : w.drew.cell? ⟨k, 1, none⟩ = some (.slice (some ⟨g, 0, none⟩) l.length cap) := by
      have : w.drew.heap[k]? = some (.cells #[p, .slice (some ⟨g, 0, none⟩) l.length cap] 127 (0, 0)) := hb
      rw [Lib.cell_of_heap this]; rfl
    have hSD : (Builtin.unsafeSliceData_ #[125] 154 #[.slice (some ⟨g, 0, none⟩) l.length cap]).run Tryz.prog w.drew = .ok (.pointer (some ⟨g, 0, none⟩)) w.drew := Lib.run_unsafeSliceData_row _ _ _ _ _ _ (by omega)
    have hUS : (Builtin.unsafeString_ #[154, 3] 9 #[.pointer (some ⟨g, 0, none⟩), .int .i64 l.length]).run Tryz.prog w.drew = .ok (.string ⟨l.toArray⟩) (w.drew.freeze ⟨g, 0, none⟩ l.length) := by
      refine Lib.run_unsafeString_row w.drew 154 3 9 5 Tryz.underlying154 bldX.cellsByte g cur.size (by have hg' : w.drew.heap[g]? = some (.cells cur 5 (0, 0)) := hg; simp [World.shape?, hg']) l hl0 (by omega) (by unfold maxLen at hcm; omega) ?_
      intro j x hx
      have := hown.cells (g := g) rfl j (.int .u8 x.toNat) (by simp [Lib.strCells, hx])
      exact this
    have fin : Two w (w.drew.freeze ⟨g, 0, none⟩ l.length) k (.slice (some ⟨g, 0, none⟩) l.length cap) := by
      have hf : w.drew.freeze ⟨g, 0, none⟩ l.length = { w.drew with heap := (w.drew.freeze ⟨g, 0, none⟩ l.length).heap } := by unfold World.freeze; rw [if_neg hlp]
      refine ⟨by rw [hf]; rfl, by rw [hf]; rfl, by rw [hf]; rfl, ?_, fun j h1 h2 h3 => ?_⟩
      · unfold World.freeze; rw [if_neg hlp]; simp
      · have hj : j ≠ g := fun e => h3 (by rw [e]; rfl)
        unfold World.freeze; rw [if_neg hlp]
        show (w.heap.modify g _)[j]? = w.heap[j]?
        rw [Array.getElem?_modify, if_neg (Ne.symm hj)]
    clear h hb hown hg hcs hnc hcm h0 hl0 hlp hlen
    have mixed : (Tryz.prog).follows .mixedOrders = true := by kernel_rfl
    go_enter Tryz.func69, Tryz.ntmps69
    go_wp2
    go_region_o
    all_goals (go_wp2; go_ret; exact ⟨rfl, fin⟩)
end Go.Proofs.YtpihanlillbhkaaGreatDoor
end

section
/- strings.Builder in the abstract run: a shared box that holds a text. -/
set_option maxRecDepth 100000
namespace Go.Proofs.YtpihanlillbhkaaGreatDoor
open Go Go.RowKit Go.Proofs

def delG (G : Glob) (b : Nat) : Glob := fun i => if i = b then none else G i
theorem delG_ne (G : Glob) {b i : Nat} (h : i ≠ b) : delG G b i = G i := by simp [delG, h]
theorem del_new {G : Glob} {b : Nat} {x : GB} (h : G b = none) (i : Nat) (y : GB) (hi : G i = some y) : delG (setG G b x) b i = some y := by
  have : i ≠ b := fun e => by rw [e, h] at hi; cases hi
  rw [delG_ne _ this, setG_ne _ _ this]; exact hi
def bldB : List (TypeId × TR) → Bool
  | [] => true
  | (t, r) :: l => (match r.bld with | none => true | some e => t == 127 && e == 5) && bldB l
theorem bld_look : ∀ (l : List (TypeId × TR)), bldB l = true → ∀ (t e : TypeId), (lookT l t).bld = some e → t = 127 ∧ e = 5
  | [], _, t, e, h => by cases h
  | (k, r) :: l, hb, t, e, h => by
    simp only [bldB, Bool.and_eq_true] at hb
    unfold lookT at h
    cases hk : Nat.beq k t with
    | true =>
      rw [hk] at h
      simp only at h
      rw [h] at hb
      have := hb.1
      simp only [Bool.and_eq_true, beq_iff_eq] at this
      rw [← Nat.eq_of_beq_eq_true hk]; exact this
    | false =>
      rw [hk] at h
      exact bld_look l hb.2 t e h
theorem bld_ty (t e : TypeId) (h : (TT t).bld = some e) : t = 127 ∧ e = 5 := bld_look tyTab (by kernel_rfl) t e h
theorem strCells_app (s t : ByteArray) : Lib.strCells (s ++ t) = Lib.strCells s ++ Lib.strCells t := by simp [Lib.strCells, ByteArray.data_append]
theorem box_bld {g : Gh} {w : World} {b : Nat} {s : ByteArray} (h : BoxAt TT g w b (.bld s)) : ∃ p v, Bld w (g.beta b) p v (Lib.strCells s) ∧ ∀ k, v.ownBlock = some k → g.own k = .gtok b 1 0 := by
  obtain ⟨t, e, p, v, h0, h1, h2, h3, h4, h5, h6⟩ := h
  obtain ⟨rfl, rfl⟩ := bld_ty t e h0
  refine ⟨p, v, ⟨h1, h2, by rw [Lib.strCells_length]; exact h3, h4, fun hn => h6 ?_⟩, h5⟩
  rw [← Lib.strCells_length s, hn]; rfl
theorem bld_box {g : Gh} {w : World} {b : Nat} {s : ByteArray} {p v : Value} (h : Bld w (g.beta b) p v (Lib.strCells s)) (ho : ∀ k, v.ownBlock = some k → g.own k = .gtok b 1 0) : BoxAt TT g w b (.bld s) :=
  ⟨127, 5, p, v, rfl, h.blk, h.adr, by have := h.own; rw [Lib.strCells_length] at this; exact this, h.ne, ho, fun hs => h.nil (List.eq_nil_of_length_eq_zero (by rw [Lib.strCells_length]; exact hs))⟩
/-- all blocks but the box's own two are as they were -/
theorem two_rest {g g' : Gh} {w w' : World} {b : Nat} {v : Value} {G : Glob} (hG : GRel TT g G w) (hb : g.own (g.beta b) = .gbox b) (ho : ∀ k, v.ownBlock = some k → g.own k = .gtok b 1 0) (h : Two w w' (g.beta b) v) (hg : ∀ k, k < w.heap.size → g'.own k = g.own k) (hbeta : g'.beta = g.beta) (hnb : g'.nb = g.nb) :
    Ext g w g' w' ∧ ∀ i bx, i ≠ b → G i = some bx → i < g'.nb ∧ g'.own (g'.beta i) = .gbox i ∧ BoxAt TT g' w' i bx := by
  have ext : Ext g w g' w' := by
    refine ⟨fun k i u h1 h2 => ?_, Nat.le_of_eq hnb.symm, fun _ _ => by rw [hbeta], fun k hk hkept => ⟨hg k hk, h.block k hk (fun e => ?_) (fun e => ?_)⟩, h.size, h.os, h.tape, h.output⟩
    · have hlt := cell_lt h2
      refine ⟨by unfold Gh.frz at *; rw [hg k hlt]; exact h1, ?_⟩
      rw [cell_same (h.block k hlt (fun e => ?_) (fun e => ?_))]
      · exact h2
      · unfold Gh.frz at h1; rw [e, hb] at h1; exact h1
      · unfold Gh.frz at h1; rw [ho k e.symm] at h1; exact Nat.not_lt_zero _ h1
    · rw [e, hb] at hkept; exact hkept
    · rw [ho k e.symm] at hkept; exact hkept
  refine ⟨ext, fun i bx hi hbx => ?_⟩
  obtain ⟨i1, i2, i3⟩ := hG i bx hbx
  refine ⟨by rw [hnb]; exact i1, by rw [hbeta, hg _ i3.lt]; exact i2, i3.keep i1 i2 ext.dx fun k hk hlt => ⟨hg k hlt, h.block k hlt (fun e => ?_) (fun e => ?_)⟩⟩
  · rw [e, hb] at hk; exact hi hk.symm
  · rw [ho k e.symm] at hk; exact hi hk.symm
theorem bld_step {f : FuncId} {rest : List AV} {rv : AV} {G : Glob} {b : Nat} {s : ByteArray} (s' : ByteArray) (he : ∃ fn, (Tryz.prog).funcs[f]? = some fn ∧ (fn.name == "runtime.NumGoroutine") = false ∧ fn.body.isNone = false) (hG : G b = some (.bld s))
    (h : ∀ (g : Gh) (k : Nat) (us : List Value) (p v : Value) (w : World), us.length = rest.length → (∀ (i : Nat) (a : AV) (u : Value), rest[i]? = some a → us[i]? = some u → Dz TT g w a u) → Bld w k p v (Lib.strCells s) →
      ∃ u, (∀ g' w', Dz TT g' w' rv u) ∧ Calls Tryz.prog f (.pointer (some ⟨k, 0, none⟩) :: us).toArray w (fun e w' => e = .returned u ∧ ∃ v', Wrote w w' k v v' (Lib.strCells s'))) :
    CallOk Tryz.prog TT f (.gptr b 0 :: rest) G (fun v G' => v = rv ∧ G' = setG G b (.bld s')) := by
  refine ⟨he, fun g us w hr hl hd => ?_⟩
  obtain ⟨us⟩ := us
  match us, hl with
  | u0 :: us, hl =>
    obtain ⟨b1, b2, b3⟩ := hr b _ hG
    have e0 := hd 0 _ u0 rfl rfl
    cases e0 with
    | gptr _ _ hb =>
      obtain ⟨p, v, hB, ho⟩ := box_bld b3
      obtain ⟨u, hz, hc⟩ := h g (g.beta b) us p v w (by simpa using hl) (fun i a u ha hu => hd (i + 1) a u (by simpa using ha) (by simpa using hu)) hB
      refine hc.mono ?_
      rintro e w' ⟨rfl, v', hB', ht, hat⟩
      refine ⟨u, { g with own := fun i => if v'.ownBlock = some i then .gtok b 1 0 else g.own i }, setG G b (.bld s'), rv, rfl, ⟨rfl, rfl⟩, ?_, ?_, hz _ _⟩
      all_goals (
        have hg : ∀ k, k < w.heap.size → (if v'.ownBlock = some k then Own.gtok b 1 0 else g.own k) = g.own k := fun k hk => by
          split
          · rename_i hv
            rcases hat with hat | ⟨j, hj, hjl⟩
            · exact (ho k (by rw [← hat]; exact hv)).symm
            · rw [hj] at hv; simp only [Option.some.injEq] at hv; omega
          · rfl
        obtain ⟨r1, r2⟩ := two_rest (g' := { g with own := fun i => if v'.ownBlock = some i then .gtok b 1 0 else g.own i }) hr b2 ho ht hg rfl rfl)
      · intro i bx hi
        by_cases hib : i = b
        · subst hib
          rw [setG_same, Option.some.injEq] at hi
          subst hi
          exact ⟨b1, by rw [← b2]; exact hg _ b3.lt, bld_box hB' fun k hk => if_pos hk⟩
        · rw [setG_ne _ _ hib] at hi
          exact r2 i bx hib hi
      · exact r1
theorem write_ok (s t : ByteArray) (b : Nat) (G : Glob) (hG : G b = some (.bld s)) (hl : s.size + t.size ≤ 140737488355328) :
    CallOk Tryz.prog TT 68 [.gptr b 0, .str t] G (fun v G' => v = .tup [.int .i64 t.size, .nili] ∧ G' = setG G b (.bld (s ++ t))) := by
  refine bld_step (s ++ t) ⟨_, Tryz.func68, by decide, rfl⟩ hG fun g k us p v w hlen hd hB => ?_
  match us, hlen with
  | [u], _ =>
    cases hd 0 _ u rfl rfl
    refine ⟨.tuple #[.int .i64 t.size, .nilIface], fun g' w' => .tup _ _ rfl fun i c u hc hu => ?_, ?_⟩
    · match i with
      | 0 => simp at hc hu; subst hc hu; exact .int _ _
      | 1 => simp at hc hu; subst hc hu; exact .nili
      | i + 2 => simp at hc
    · rw [strCells_app]
      exact write_any k p v (Lib.strCells s) t w hB (by rw [Lib.strCells_length]; exact hl)
theorem bstring_ok (s : ByteArray) (b : Nat) (G : Glob) (hG : G b = some (.bld s)) : CallOk Tryz.prog TT 69 [.gptr b 0] G (fun v G' => v = .str s ∧ G' = delG G b) := by
  refine ⟨⟨_, Tryz.func69, by decide, rfl⟩, fun g us w hr hl hd => ?_⟩
  obtain ⟨us⟩ := us
  match us, hl with
  | [u0], _ =>
    obtain ⟨b1, b2, b3⟩ := hr b _ hG
    have e0 := hd 0 _ u0 rfl rfl
    cases e0 with
    | gptr _ _ hb =>
      obtain ⟨p, v, hB, ho⟩ := box_bld b3
      refine (string_any (g.beta b) p v s w hB).mono ?_
      rintro e w' ⟨rfl, ht⟩
      obtain ⟨r1, r2⟩ := two_rest (g' := g) hr b2 ho ht (fun _ _ => rfl) rfl rfl
      refine ⟨_, g, delG G b, .str s, rfl, ⟨rfl, rfl⟩, fun i bx hi => ?_, r1, .str s⟩
      have hib : i ≠ b := fun e => by subst e; simp [delG] at hi
      rw [delG_ne _ hib] at hi
      exact r2 i bx hib hi
end Go.Proofs.YtpihanlillbhkaaGreatDoor
end
