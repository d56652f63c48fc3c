/- strings.Builder in the model: WriteString, WriteByte, String, each with all that it leaves as it was. -/
import Derived.Shelf.Strings.Builder1
import Derived.Test.YtpnlhnhjedopgaaMany
import Derived.Test.YtpnlhnhjedopgaaProg
set_option maxRecDepth 100000
namespace Go.Proofs.Ytpnlhnhjedopgaa
open Go Go.RowKit Go.Proofs Go.Shelf

def lays240_ren : Go.Shelf.Ren := ⟨fun | 240 => 143 | 276 => 159 | n => n, fun | 0 => 0 | 4 => 4 | 5 => 5 | 9 => 9 | 20 => 20 | 37 => 194 | 70 => 196 | 72 => 198 | 164 => 243 | n => n, fun | n => n⟩
theorem lays240 : Go.Proofs.Lays.n240 Try.prog lays240_ren := {
  mixed := by kernel_rfl
  f240 := Try.func143.trans (congrArg some (by kernel_rfl))
  f276 := Try.func159.trans (congrArg some (by kernel_rfl))
  t0 := Try.underlying0
  a0 := Try.isAgg0
  z0 := Try.sizeOf0
  v0 := Try.zeroValue0
  t4 := Try.underlying4
  a4 := Try.isAgg4
  z4 := Try.sizeOf4
  v4 := Try.zeroValue4
  t9 := Try.underlying9
  a9 := Try.isAgg9
  z9 := Try.sizeOf9
  v9 := Try.zeroValue9
  t20 := Try.underlying20
  a20 := Try.isAgg20
  z20 := Try.sizeOf20
  v20 := Try.zeroValue20
  t70 := Try.underlying196
  a70 := Try.isAgg196
  z70 := Try.sizeOf196
  v70 := Try.zeroValue196
  t72 := Try.underlying198
  a72 := Try.isAgg198
  z72 := Try.sizeOf198
  v72 := Try.zeroValue198
  t164 := Try.underlying243
  a164 := Try.isAgg243
  z164 := Try.sizeOf243
  v164 := Try.zeroValue243
}
theorem bldX : Builder.Extra Try.prog lays240_ren where
  sizeBuilder := by kernel_rfl
  liesBuilder := by kernel_rfl
  t5 := Try.underlying5
  a5 := Try.isAgg5
  z5 := Try.sizeOf5
  v5 := Try.zeroValue5
  infoByte := by kernel_rfl
  cellsByte := by kernel_rfl
  sizeByte := by kernel_rfl
  neB5 := by decide

theorem run_appstr {P : Program} (t u ty e : TypeId) (i : TypeInfo) (ht : P.underlying t = some (.slice e)) (hu : P.underlying u = some .string) (hi : P.info? e = some i) (hz : i.zero = some (.int .u8 0)) (hsize : i.size = 1) (hby : i.bytes = 1)
    {w : World} {v : Value} {n : Nat} {xs : List Value} (hown : w.ownsRow 0 e 1 v n xs) (s : ByteArray) (h63 : n + s.size ≤ maxLen) (hbytes : n + s.size ≤ 140737488355328) :
    ∃ v' w', (Builtin.append_ #[t, u] ty #[v, .string s]).run P w = .ok v' w' ∧ w'.ownsRow 0 e 1 v' (n + s.size) (xs ++ Lib.strCells s) ∧ w.grownBy w' v.ownBlock ∧ (v' = .slice none 0 0 ↔ v = .slice none 0 0 ∧ s.size = 0) ∧
      (v'.ownBlock = v.ownBlock ∨ v'.ownBlock = some w.heap.size) := by
  obtain ⟨v', w', hr, h2, h3, h4⟩ := Lib.run_append_own_string (P := P) w 0 t u ty e i ht hu hi hz hsize hby v n xs hown s h63 hbytes (Nat.zero_le _)
  refine ⟨v', w', hr, h2, h3, h4, ?_⟩
  have h63' : n + s.size ≤ 9223372036854775807 := by simp only [maxLen] at h63; omega
  rcases hown.2 with ⟨rfl, rfl⟩ | ⟨g, cap, cur, rfl, _, hg, hnc, _, hcs, _⟩
  · by_cases hm : s.size = 0
    · exact .inl (by rw [h4.2 ⟨rfl, hm⟩])
    · have hq := run_append_nil_string (P := P) w t u ty e i (.int .u8 0) ht hu hi hz s (by omega) (by omega) (by rw [hby]; omega)
      rw [hq] at hr
      simp only [Result.ok.injEq] at hr
      obtain ⟨rfl, _⟩ := hr
      exact .inr rfl
  · by_cases hroom : n + s.size ≤ cap
    · have hq := Lib.run_append_room_string (P := P) w t u ty e i ht hu hi hsize g n cap cur hg s hroom (by omega)
      rw [hq] at hr
      simp only [Result.ok.injEq] at hr
      obtain ⟨rfl, _⟩ := hr
      exact .inl rfl
    · have holds : ∀ j u, xs[j]? = some u → w.cell? ((⟨g, 0, none⟩ : Addr).add j) = some u := hown.cells (g := g) rfl
      have hq := Lib.run_append_grow_string (P := P) w t u ty e i (.int .u8 0) ht hu hi hz ⟨g, 0, none⟩ n cap xs (by rw [hsize]; exact hown.1) holds s (by omega) (by omega) (by rw [hby]; exact growslice_fits (by omega) (by omega))
      rw [hq] at hr
      simp only [Result.ok.injEq] at hr
      obtain ⟨rfl, _⟩ := hr
      exact .inr rfl
theorem wpList_appstr {P : Program} {ops : Array Oper} {rest : List Oper} {o : Oper} {a : Act} {Q : Exit → Act → World → Prop} {w : World} (hgd : o.guard = none) (sl x : Operand) (t u : TypeId)
    (ho : o.op = .call { callee := .builtin .append, args := #[sl, x], argTypes := #[t, u] }) (e : TypeId) (i : TypeInfo) (ht : P.underlying t = some (.slice e)) (hu : P.underlying u = some .string) (hi : P.info? e = some i) (hz : i.zero = some (.int .u8 0)) (hsize : i.size = 1) (hby : i.bytes = 1)
    {v : Value} {n : Nat} {xs : List Value} (hs : a.eval sl = v) (hown : w.ownsRow 0 e 1 v n xs) (s : ByteArray) (hx : a.eval x = .string s) (h63 : n + s.size ≤ maxLen) (hbytes : n + s.size ≤ 140737488355328)
    (h : ∀ v' w', w'.ownsRow 0 e 1 v' (n + s.size) (xs ++ Lib.strCells s) → w.grownBy w' v.ownBlock → (v' = .slice none 0 0 ↔ v = .slice none 0 0 ∧ s.size = 0) → (v'.ownBlock = v.ownBlock ∨ v'.ownBlock = some w.heap.size) → wpList P ops Q rest (a.put o.dst v') w') : wpList P ops Q (o :: rest) a w := by
  refine wpList_plain hgd fun K hK => ?_
  obtain ⟨v', w', hr, h2, h3, h4, h5⟩ := run_appstr (P := P) t u o.type e i ht hu hi hz hsize hby hown s h63 hbytes
  unfold Oper.wp execOp
  simp only [ho, resolve, invoke, builtin, Sem.run_bind, Sem.run_pure, Result.andThen_ok, List.map_toArray, List.map_cons, List.map_nil, hs, hx, hr]
  exact hK _ _ (h v' w' h2 h3 h4 h5)
theorem own_keep {w w' : World} {base : Nat} {e : TypeId} {size n : Nat} {v : Value} {xs : List Value} (h : w.ownsRow base e size v n xs) (hk : ∀ k, v.ownBlock = some k → w'.heap[k]? = w.heap[k]?) : w'.ownsRow base e size v n xs := by
  refine ⟨h.1, ?_⟩
  rcases h.2 with h | ⟨b, cap, cur, rfl, hb, hg, r⟩
  · exact .inl h
  · exact .inr ⟨b, cap, cur, rfl, hb, by rw [hk b rfl]; exact hg, r⟩
/-- a builder: its block, what it holds -/
structure Bld (w : World) (k : Nat) (p v : Value) (l : List Value) : Prop where
  blk : w.heap[k]? = some (.cells #[p, v] 198 (0, 0))
  adr : p = .pointer none ∨ p = .pointer (some ⟨k, 0, none⟩)
  own : w.ownsRow 0 5 1 v l.length l
  ne : v.ownBlock ≠ some k
  nil : l = [] → v = .slice none 0 0
/-- all blocks but two are as they were -/
structure Two (w w' : World) (k : Nat) (v : Value) : Prop where
  os : w'.os = w.os
  tape : w'.tape = w.tape
  output : w'.output = w.output
  size : w.heap.size ≤ w'.heap.size
  block : ∀ j, j < w.heap.size → j ≠ k → some j ≠ v.ownBlock → w'.heap[j]? = w.heap[j]?
theorem check_any (k : Nat) (p v : Value) (l : List Value) (w : World) (h : Bld w k p v l) : Calls Try.prog 143 #[.pointer (some ⟨k, 0, none⟩)] w (fun e w' => e = .returned (.tuple #[]) ∧ Bld w' k (.pointer (some ⟨k, 0, none⟩)) v l ∧ Two w w' k v) := by
  rcases h.adr with hp | hp
  · subst hp
    have hblk := h.blk
    refine (Any.Builder_copyCheck_fresh lays240 bldX.toX72 k w (by rw [Lib.cell_of_heap hblk]; rfl) (by simp [World.shape?, hblk]; rfl) (Lib.frozen_of_heap hblk 0)).mono ?_
    rintro e w' ⟨rfl, rfl⟩
    refine ⟨rfl, ⟨by rw [blk_set hblk 0]; rfl, .inr rfl, own_keep h.own fun j hj => ?_, h.ne, h.nil⟩, ⟨rfl, rfl, rfl, by simp, fun j _ hj _ => Below.heap_setCell _ _ _ _ (by simpa using hj)⟩⟩
    exact Below.heap_setCell _ _ _ _ (by intro he; simp at he; subst he; exact h.ne hj)
  · subst hp
    have hblk := h.blk
    refine (Any.Builder_copyCheck_used lays240 bldX.toX72 k w (by rw [Lib.cell_of_heap hblk]; rfl)).mono ?_
    rintro e w' ⟨rfl, rfl⟩
    exact ⟨rfl, h, ⟨rfl, rfl, rfl, Nat.le_refl _, fun _ _ _ _ => rfl⟩⟩
theorem Two.trans {w w1 w2 : World} {k : Nat} {v v1 : Value} (h : Two w w1 k v) (h' : Two w1 w2 k v1) (hv : v1.ownBlock = v.ownBlock) : Two w w2 k v :=
  ⟨h'.os.trans h.os, h'.tape.trans h.tape, h'.output.trans h.output, Nat.le_trans h.size h'.size, fun j h1 h2 h3 => (h'.block j (Nat.lt_of_lt_of_le h1 h.size) h2 (by rw [hv]; exact h3)).trans (h.block j h1 h2 h3)⟩
theorem own_other {w : World} {base : Nat} {e T : TypeId} {size n : Nat} {v : Value} {xs : List Value} {k : Nat} {cs : Array Value} {fr : Nat × Nat} (h : w.ownsRow base e size v n xs) (hk : w.heap[k]? = some (.cells cs T fr)) (hne : T ≠ e) : v.ownBlock ≠ some k := fun he => own_not h hk hne he.symm
/-- behind the append, the store -/
theorem bld_put {w w1 w2 : World} {k : Nat} {p v v' : Value} {l m : List Value} (h : Bld w k p v l) (h1 : Bld w1 k (.pointer (some ⟨k, 0, none⟩)) v l) (q1 : Two w w1 k v) (hw : w1.grownBy w2 v.ownBlock) (hat : v'.ownBlock = v.ownBlock ∨ v'.ownBlock = some w1.heap.size)
    (hown : w2.ownsRow 0 5 1 v' (l.length + m.length) (l ++ m)) (hnil : l ++ m = [] → v' = .slice none 0 0) :
    Bld (w2.setCell ⟨k, 1, none⟩ v') k (.pointer (some ⟨k, 0, none⟩)) v' (l ++ m) ∧ Two w (w2.setCell ⟨k, 1, none⟩ v') k v ∧ (v'.ownBlock = v.ownBlock ∨ ∃ j, v'.ownBlock = some j ∧ w.heap.size ≤ j) := by
  have hlt := blk_lt h1.blk
  have hb2 : w2.heap[k]? = some (.cells #[.pointer (some ⟨k, 0, none⟩), v] 198 (0, 0)) := by rw [hw.block k hlt (fun e => h1.ne e.symm)]; exact h1.blk
  have hne := own_other hown hb2 (by decide)
  refine ⟨⟨by rw [blk_set hb2 1]; rfl, .inr rfl, own_keep (by rw [List.length_append]; exact hown) fun j hj => Below.heap_setCell _ _ _ _ (by intro he; simp at he; subst he; exact hne hj), hne, hnil⟩, ⟨hw.os.trans q1.os, hw.tape.trans q1.tape, hw.output.trans q1.output, by simp only [World.size_setCell]; exact Nat.le_trans q1.size hw.size, fun j h1 h2 h3 => ?_⟩, ?_⟩
  · rw [Below.heap_setCell _ _ _ _ (by simpa using h2), hw.block j (Nat.lt_of_lt_of_le h1 q1.size) h3, q1.block j h1 h2 h3]
  · rcases hat with hat | hat
    · exact .inl hat
    · exact .inr ⟨_, hat, q1.size⟩
/-- what a write leaves -/
def Wrote (w w' : World) (k : Nat) (v v' : Value) (l : List Value) : Prop :=
  Bld w' k (.pointer (some ⟨k, 0, none⟩)) v' l ∧ Two w w' k v ∧ (v'.ownBlock = v.ownBlock ∨ ∃ j, v'.ownBlock = some j ∧ w.heap.size ≤ j)
theorem wpList_bldstr {ops : Array Oper} {rest : List Oper} {o : Oper} {a : Act} {Q : Exit → Act → World → Prop} {w w1 : World} {k : Nat} {p v : Value} {l : List Value} (hgd : o.guard = none) (sl x : Operand)
    (ho : o.op = .call { callee := .builtin .append, args := #[sl, x], argTypes := #[194, 9] }) (h : Bld w k p v l) (h1 : Bld w1 k (.pointer (some ⟨k, 0, none⟩)) v l) (q1 : Two w w1 k v) (hs : a.eval sl = v) (s : ByteArray) (hx : a.eval x = .string s) (hlen : l.length + s.size ≤ 140737488355328)
    (hK : ∀ ao n c w2, Wrote w (w2.setCell ⟨k, 1, none⟩ (.slice ao n c)) k v (.slice ao n c) (l ++ Lib.strCells s) → w2.cell? ⟨k, 0, none⟩ = some (.pointer (some ⟨k, 0, none⟩)) → w2.cell? ⟨k, 1, none⟩ = some v → w2.frozen? ⟨k, 1, none⟩ = false → wpList Try.prog ops Q rest (a.put o.dst (.slice ao n c)) w2) : wpList Try.prog ops Q (o :: rest) a w1 := by
  obtain ⟨i0, hi, hz0, hz1, hz2⟩ := info_parts bldX.infoByte
  refine wpList_appstr hgd sl x 194 9 ho 5 i0 Try.underlying194 Try.underlying9 hi hz0 hz1 hz2 hs h1.own s hx (by unfold maxLen; omega) (by omega) fun v' w2 hown' hg hnil hat => ?_
  have hl2 : (Lib.strCells s).length = s.size := Lib.strCells_length s
  have f := bld_put (m := Lib.strCells s) h h1 q1 hg hat (by rw [hl2]; exact hown') (fun hh => by
    obtain ⟨e1, e2⟩ := List.append_eq_nil_iff.1 hh
    exact hnil.2 ⟨h.nil e1, by rw [← hl2, e2]; rfl⟩)
  have hb2 : w2.heap[k]? = some (.cells #[.pointer (some ⟨k, 0, none⟩), v] 198 (0, 0)) := by rw [hg.block k (blk_lt h1.blk) (fun e => h1.ne e.symm)]; exact h1.blk
  obtain ⟨ao, n', cap, rfl⟩ : ∃ ao n' cap, v' = .slice ao n' cap := by
    rcases hown'.2 with ⟨hv, _⟩ | ⟨g, cap, cur, hv, _⟩
    · exact ⟨_, _, _, hv⟩
    · exact ⟨_, _, _, hv⟩
  exact hK ao n' cap w2 f (by rw [Lib.cell_of_heap hb2]; rfl) (by rw [Lib.cell_of_heap hb2]; rfl) (Lib.frozen_of_heap hb2 1)
theorem checks_any (k : Nat) (p v : Value) (l : List Value) (w : World) (h : Bld w k p v l) : Calls Try.prog 143 #[.pointer (some ⟨k, 0, none⟩)] w (fun e w' => e = .returned (.tuple #[]) ∧ (Bld w' k (.pointer (some ⟨k, 0, none⟩)) v l ∧ Two w w' k v) ∧ w'.cell? ⟨k, 0, none⟩ = some (.pointer (some ⟨k, 0, none⟩)) ∧ w'.cell? ⟨k, 1, none⟩ = some v) :=
  (check_any k p v l w h).mono fun e w' hh => ⟨hh.1, ⟨hh.2.1, hh.2.2⟩, by rw [Lib.cell_of_heap hh.2.1.blk]; rfl, by rw [Lib.cell_of_heap hh.2.1.blk]; rfl⟩
set_option maxHeartbeats 2000000 in
theorem write_any (k : Nat) (p v : Value) (l : List Value) (s : ByteArray) (w : World) (h : Bld w k p v l) (hlen : l.length + s.size ≤ 140737488355328) :
    Calls Try.prog 122 #[.pointer (some ⟨k, 0, none⟩), .string s] w (fun e w' => e = .returned (.tuple #[.int .i64 s.size, .nilIface]) ∧ ∃ v', Wrote w w' k v v' (l ++ Lib.strCells s)) := by
  have hck := checks_any k p v l w h
  have hH := Lib.hid h
  have hL := Lib.hid hlen
  clear h hlen
  go_enter Try.func122, Try.ntmps122
  go_wp2_with (first | (go_at_call 143; refine (hck).mono ?_; rintro e w1 ⟨rfl, h1, c0, c1⟩) | (at_builtin; refine wpList_bldstr rfl _ _ rfl hH h1.1 h1.2 rfl s rfl hL ?_; intro ao n c w2 hW d0 d1 f1))
  go_ret2
  exact ⟨rfl, _, hW⟩
set_option maxHeartbeats 2000000 in
theorem string_any (k : Nat) (p v : Value) (s : ByteArray) (w : World) (h : Bld w k p v (Lib.strCells s)) :
    Calls Try.prog 123 #[.pointer (some ⟨k, 0, none⟩)] w (fun e w' => e = .returned (.string s) ∧ Two w w' k v) := by
  by_cases h0 : s.size = 0
  · have hs : s = ⟨#[]⟩ := by
      obtain ⟨⟨l⟩⟩ := s
      have : l = [] := List.eq_nil_of_length_eq_zero h0
      rw [this]
    subst hs
    have hv := h.nil rfl
    subst hv
    have hb := h.blk
    have c1 : w.drew.cell? ⟨k, 1, none⟩ = some (.slice none 0 0) := by
      have : w.drew.heap[k]? = some (.cells #[p, .slice none 0 0] 198 (0, 0)) := hb
      rw [Lib.cell_of_heap this]; rfl
    have hSD : (Builtin.unsafeSliceData_ #[194] 225 #[.slice none 0 0]).run Try.prog w.drew = .ok (.pointer none) w.drew := rfl
    have hUS : ∀ W q, (Builtin.unsafeString_ #[225, 3] 9 #[.pointer q, .int .i64 0]).run Try.prog W = .ok (.string .empty) W := fun W q => Lib.run_unsafeString_none W _ _ _ q
    clear h hb h0
    have mixed : (Try.prog).follows .mixedOrders = true := by kernel_rfl
    go_enter Try.func123, Try.ntmps123
    go_wp2
    go_region_o
    all_goals (go_wp2; go_ret; exact ⟨rfl, ⟨rfl, rfl, rfl, Nat.le_refl _, fun _ _ _ _ => rfl⟩⟩)
  · obtain ⟨l, rfl⟩ : ∃ l : List UInt8, s = ⟨l.toArray⟩ := ⟨s.data.toList, by simp⟩
    have hl0 : l ≠ [] := fun e => h0 (by rw [e]; rfl)
    have hown := h.own
    have hlen : (Lib.strCells ⟨l.toArray⟩).length = l.length := by simp [Lib.strCells]
    rw [hlen] at hown
    obtain ⟨g, cap, cur, rfl, _, hg, hnc, hcm, hcs, _⟩ : ∃ g cap cur, v = .slice (some ⟨g, 0, none⟩) l.length cap ∧ 0 ≤ g ∧ w.heap[g]? = some (.cells cur 5 (0, 0)) ∧ l.length ≤ cap ∧ cap ≤ maxLen ∧ cur.size = cap * 1 ∧ cur.toList.take (l.length * 1) = Lib.strCells ⟨l.toArray⟩ := by
      rcases hown.2 with ⟨_, hz⟩ | ⟨g, cap, cur, hv, r⟩
      · exact absurd (List.eq_nil_of_length_eq_zero hz) hl0
      · exact ⟨g, cap, cur, hv, r⟩
    have hb := h.blk
    have hlp : l.length ≠ 0 := fun e => hl0 (List.eq_nil_of_length_eq_zero e)
    have c1 : w.drew.cell? ⟨k, 1, none⟩ = some (.slice (some ⟨g, 0, none⟩) l.length cap) := by
      have : w.drew.heap[k]? = some (.cells #[p, .slice (some ⟨g, 0, none⟩) l.length cap] 198 (0, 0)) := hb
      rw [Lib.cell_of_heap this]; rfl
    have hSD : (Builtin.unsafeSliceData_ #[194] 225 #[.slice (some ⟨g, 0, none⟩) l.length cap]).run Try.prog w.drew = .ok (.pointer (some ⟨g, 0, none⟩)) w.drew := Lib.run_unsafeSliceData_row _ _ _ _ _ _ (by omega)
    have hUS : (Builtin.unsafeString_ #[225, 3] 9 #[.pointer (some ⟨g, 0, none⟩), .int .i64 l.length]).run Try.prog w.drew = .ok (.string ⟨l.toArray⟩) (w.drew.freeze ⟨g, 0, none⟩ l.length) := by
      refine Lib.run_unsafeString_row w.drew 225 3 9 5 Try.underlying225 bldX.cellsByte g cur.size (by have hg' : w.drew.heap[g]? = some (.cells cur 5 (0, 0)) := hg; simp [World.shape?, hg']) l hl0 (by omega) (by unfold maxLen at hcm; omega) ?_
      intro j x hx
      have := hown.cells (g := g) rfl j (.int .u8 x.toNat) (by simp [Lib.strCells, hx])
      exact this
    have fin : Two w (w.drew.freeze ⟨g, 0, none⟩ l.length) k (.slice (some ⟨g, 0, none⟩) l.length cap) := by
      have hf : w.drew.freeze ⟨g, 0, none⟩ l.length = { w.drew with heap := (w.drew.freeze ⟨g, 0, none⟩ l.length).heap } := by unfold World.freeze; rw [if_neg hlp]
      refine ⟨by rw [hf]; rfl, by rw [hf]; rfl, by rw [hf]; rfl, ?_, fun j h1 h2 h3 => ?_⟩
      · unfold World.freeze; rw [if_neg hlp]; simp
      · have hj : j ≠ g := fun e => h3 (by rw [e]; rfl)
        unfold World.freeze; rw [if_neg hlp]
        show (w.heap.modify g _)[j]? = w.heap[j]?
        rw [Array.getElem?_modify, if_neg (Ne.symm hj)]
    clear h hb hown hg hcs hnc hcm h0 hl0 hlp hlen
    have mixed : (Try.prog).follows .mixedOrders = true := by kernel_rfl
    go_enter Try.func123, Try.ntmps123
    go_wp2
    go_region_o
    all_goals (go_wp2; go_ret; exact ⟨rfl, fin⟩)
end Go.Proofs.Ytpnlhnhjedopgaa
