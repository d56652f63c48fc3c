/- strings.Builder at the beginning of show.out: WriteString, String. Printed by genout.py out of XBlda. -/
import Derived.Test.YtofhakbmmgpgdaaDoorGe
import Derived.Laws.Externs
import Derived.Lib.Builder
set_option maxRecDepth 100000
namespace Go.Proofs.YtofhakbmmgpgdaaDoor
open Go Go.RowKit Go.Proofs Go.Shelf

theorem outLies : liesAt Tryd.prog Tryd.prog.depth 90 (3 / Tryd.prog.cellsOf 90) 0 88 1 = true := by kernel_rfl
set_option maxHeartbeats 1000000 in
theorem ofresh (k : Nat) (v x : Value) (w : World) (h : w.heap[k]? = some (.cells #[.pointer none, v, x] 90 (0, 0))) : Calls Tryd.prog 100 #[.pointer (some ⟨k, 0, none⟩)] w fun e w' => e = .returned (.tuple #[]) ∧ w' = w.setCell ⟨k, 0, none⟩ (.pointer (some ⟨k, 0, none⟩)) := by
  have h0 : w.cell? ⟨k, 0, none⟩ = some (.pointer none) := by rw [Lib.cell_of_heap h]; rfl
  have hsh : w.shape? k = some (90, 3) := by simp [World.shape?, h]
  have hfz : w.frozen? ⟨k, 0, none⟩ = false := Lib.frozen_of_heap h 0
  obtain ⟨j, hj, hjs⟩ := Option.map_eq_some_iff.1 bldX.sizeBuilder
  have hj : (Tryd.prog).info? 88 = some j := hj
  clear h
  go_enter Tryd.func100, Tryd.ntmps100
  go_wp2
  rw [Lib.run_to_unsafe w ⟨k, 0, none⟩ Tryd.underlying85 Tryd.underlying155 hj (by rw [hjs]; decide) hsh (Nat.zero_lt_succ 2)]
  simp only [Result.andThen]
  rw [Oper.upon_value]
  go_wp2
  rw [run_callFunc_extern Tryd.func122 (by kernel_rfl) (by kernel_rfl) (by kernel_rfl) (e := Extern.AbiNoEscape.same) (by kernel_rfl)]
  rw [Lib.run_noEscape]
  simp only [Result.andThen]
  rw [Oper.upon_value]
  go_wp2
  rw [Lib.run_from_unsafe w ⟨k, 0, none⟩ Tryd.underlying155 Tryd.underlying85 hj hsh outLies]
  simp only [Result.andThen]
  rw [Oper.upon_value]
  go_wp2
  go_end0
  exact ⟨rfl, rfl⟩

/-- a builder: its block, what it holds -/
structure OBld (w : World) (k : Nat) (p v x : Value) (l : List Value) : Prop where
  blk : w.heap[k]? = some (.cells #[p, v, x] 90 (0, 0))
  adr : p = .pointer none ∨ p = .pointer (some ⟨k, 0, none⟩)
  own : w.ownsRow 0 5 1 v l.length l
  ne : v.ownBlock ≠ some k
  nil : l = [] → v = .slice none 0 0

theorem ocheck_any (k : Nat) (p v x : Value) (l : List Value) (w : World) (h : OBld w k p v x l) : Calls Tryd.prog 100 #[.pointer (some ⟨k, 0, none⟩)] w (fun e w' => e = .returned (.tuple #[]) ∧ OBld w' k (.pointer (some ⟨k, 0, none⟩)) v x l ∧ Two w w' k v) := by
  rcases h.adr with hp | hp
  · subst hp
    have hblk := h.blk
    refine (ofresh k v x w hblk).mono ?_
    rintro e w' ⟨rfl, rfl⟩
    refine ⟨rfl, ⟨by rw [blk_set hblk 0]; rfl, .inr rfl, own_keep h.own fun j hj => ?_, h.ne, h.nil⟩, ⟨rfl, rfl, rfl, by simp, fun j _ hj _ => Below.heap_setCell _ _ _ _ (by simpa using hj)⟩⟩
    exact Below.heap_setCell _ _ _ _ (by intro he; simp at he; subst he; exact h.ne hj)
  · subst hp
    have hblk := h.blk
    refine (Any.Builder_copyCheck_used lays240 bldX.toX72 k w (by rw [Lib.cell_of_heap hblk]; rfl)).mono ?_
    rintro e w' ⟨rfl, rfl⟩
    exact ⟨rfl, h, ⟨rfl, rfl, rfl, Nat.le_refl _, fun _ _ _ _ => rfl⟩⟩

/-- behind the append, the store -/
theorem obld_put {w w1 w2 : World} {k : Nat} {p v v' x : Value} {l m : List Value} (h : OBld w k p v x l) (h1 : OBld w1 k (.pointer (some ⟨k, 0, none⟩)) v x l) (q1 : Two w w1 k v) (hw : w1.grownBy w2 v.ownBlock) (hat : v'.ownBlock = v.ownBlock ∨ v'.ownBlock = some w1.heap.size)
    (hown : w2.ownsRow 0 5 1 v' (l.length + m.length) (l ++ m)) (hnil : l ++ m = [] → v' = .slice none 0 0) :
    OBld (w2.setCell ⟨k, 1, none⟩ v') k (.pointer (some ⟨k, 0, none⟩)) v' x (l ++ m) ∧ Two w (w2.setCell ⟨k, 1, none⟩ v') k v ∧ (v'.ownBlock = v.ownBlock ∨ ∃ j, v'.ownBlock = some j ∧ w.heap.size ≤ j) := by
  have hlt := blk_lt h1.blk
  have hb2 : w2.heap[k]? = some (.cells #[.pointer (some ⟨k, 0, none⟩), v, x] 90 (0, 0)) := by rw [hw.block k hlt (fun e => h1.ne e.symm)]; exact h1.blk
  have hne := own_other hown hb2 (by decide)
  refine ⟨⟨by rw [blk_set hb2 1]; rfl, .inr rfl, own_keep (by rw [List.length_append]; exact hown) fun j hj => Below.heap_setCell _ _ _ _ (by intro he; simp at he; subst he; exact hne hj), hne, hnil⟩, ⟨hw.os.trans q1.os, hw.tape.trans q1.tape, hw.output.trans q1.output, by simp only [World.size_setCell]; exact Nat.le_trans q1.size hw.size, fun j h1 h2 h3 => ?_⟩, ?_⟩
  · rw [Below.heap_setCell _ _ _ _ (by simpa using h2), hw.block j (Nat.lt_of_lt_of_le h1 q1.size) h3, q1.block j h1 h2 h3]
  · rcases hat with hat | hat
    · exact .inl hat
    · exact .inr ⟨_, hat, q1.size⟩

/-- what a write leaves -/
def OWrote (w w' : World) (k : Nat) (v v' x : Value) (l : List Value) : Prop :=
  OBld w' k (.pointer (some ⟨k, 0, none⟩)) v' x l ∧ Two w w' k v ∧ (v'.ownBlock = v.ownBlock ∨ ∃ j, v'.ownBlock = some j ∧ w.heap.size ≤ j)

theorem owpList_bldstr {ops : Array Oper} {rest : List Oper} {o : Oper} {a : Act} {Q : Exit → Act → World → Prop} {w w1 : World} {k : Nat} {p v x : Value} {l : List Value} (hgd : o.guard = none) (sl y : Operand)
    (ho : o.op = .call { callee := .builtin .append, args := #[sl, y], argTypes := #[86, 9] }) (h : OBld w k p v x l) (h1 : OBld w1 k (.pointer (some ⟨k, 0, none⟩)) v x l) (q1 : Two w w1 k v) (hs : a.eval sl = v) (s : ByteArray) (hx : a.eval y = .string s) (hlen : l.length + s.size ≤ 140737488355328)
    (hK : ∀ ao n c w2, OWrote w (w2.setCell ⟨k, 1, none⟩ (.slice ao n c)) k v (.slice ao n c) x (l ++ Lib.strCells s) → w2.cell? ⟨k, 0, none⟩ = some (.pointer (some ⟨k, 0, none⟩)) → w2.cell? ⟨k, 1, none⟩ = some v → w2.frozen? ⟨k, 1, none⟩ = false → wpList Tryd.prog ops Q rest (a.put o.dst (.slice ao n c)) w2) : wpList Tryd.prog ops Q (o :: rest) a w1 := by
  obtain ⟨i0, hi, hz0, hz1, hz2⟩ := info_parts bldX.infoByte
  refine wpList_appstr hgd sl y 86 9 ho 5 i0 Tryd.underlying86 Tryd.underlying9 hi hz0 hz1 hz2 hs h1.own s hx (by unfold maxLen; omega) (by omega) fun v' w2 hown' hg hnil hat => ?_
  have hl2 : (Lib.strCells s).length = s.size := Lib.strCells_length s
  have f := obld_put (m := Lib.strCells s) h h1 q1 hg hat (by rw [hl2]; exact hown') (fun hh => by
    obtain ⟨e1, e2⟩ := List.append_eq_nil_iff.1 hh
    exact hnil.2 ⟨h.nil e1, by rw [← hl2, e2]; rfl⟩)
  have hb2 : w2.heap[k]? = some (.cells #[.pointer (some ⟨k, 0, none⟩), v, x] 90 (0, 0)) := by rw [hg.block k (blk_lt h1.blk) (fun e => h1.ne e.symm)]; exact h1.blk
  obtain ⟨ao, n', cap, rfl⟩ : ∃ ao n' cap, v' = .slice ao n' cap := by
    rcases hown'.2 with ⟨hv, _⟩ | ⟨g, cap, cur, hv, _⟩
    · exact ⟨_, _, _, hv⟩
    · exact ⟨_, _, _, hv⟩
  exact hK ao n' cap w2 f (by rw [Lib.cell_of_heap hb2]; rfl) (by rw [Lib.cell_of_heap hb2]; rfl) (Lib.frozen_of_heap hb2 1)

theorem ochecks_any (k : Nat) (p v x : Value) (l : List Value) (w : World) (h : OBld w k p v x l) : Calls Tryd.prog 100 #[.pointer (some ⟨k, 0, none⟩)] w (fun e w' => e = .returned (.tuple #[]) ∧ (OBld w' k (.pointer (some ⟨k, 0, none⟩)) v x l ∧ Two w w' k v) ∧ w'.cell? ⟨k, 0, none⟩ = some (.pointer (some ⟨k, 0, none⟩)) ∧ w'.cell? ⟨k, 1, none⟩ = some v) :=
  (ocheck_any k p v x l w h).mono fun e w' hh => ⟨hh.1, ⟨hh.2.1, hh.2.2⟩, by rw [Lib.cell_of_heap hh.2.1.blk]; rfl, by rw [Lib.cell_of_heap hh.2.1.blk]; rfl⟩

set_option maxHeartbeats 2000000 in
theorem owrite_any (k : Nat) (p v x : Value) (l : List Value) (s : ByteArray) (w : World) (h : OBld w k p v x l) (hlen : l.length + s.size ≤ 140737488355328) :
    Calls Tryd.prog 103 #[.pointer (some ⟨k, 0, none⟩), .string s] w (fun e w' => e = .returned (.tuple #[.int .i64 s.size, .nilIface]) ∧ ∃ v', OWrote w w' k v v' x (l ++ Lib.strCells s)) := by
  have hck := ochecks_any k p v x l w h
  have hH := Lib.hid h
  have hL := Lib.hid hlen
  clear h hlen
  go_enter Tryd.func103, Tryd.ntmps103
  go_wp2_with (first | (go_at_call 100; refine (hck).mono ?_; rintro e w1 ⟨rfl, h1, c0, c1⟩) | (at_builtin; refine owpList_bldstr rfl _ _ rfl hH h1.1 h1.2 rfl s rfl hL ?_; intro ao n c w2 hW d0 d1 f1))
  go_ret2
  exact ⟨rfl, _, hW⟩

set_option maxHeartbeats 2000000 in
theorem ostring_any (k : Nat) (p v x : Value) (s : ByteArray) (w : World) (h : OBld w k p v x (Lib.strCells s)) :
    Calls Tryd.prog 65 #[.pointer (some ⟨k, 0, none⟩)] w (fun e w' => e = .returned (.string s) ∧ Two w w' k v) := by
  by_cases h0 : s.size = 0
  · have hs : s = ⟨#[]⟩ := by
      obtain ⟨⟨l⟩⟩ := s
      have : l = [] := List.eq_nil_of_length_eq_zero h0
      rw [this]
    subst hs
    have hv := h.nil rfl
    subst hv
    have hb := h.blk
    have c1 : w.drew.cell? ⟨k, 1, none⟩ = some (.slice none 0 0) := by
      have : w.drew.heap[k]? = some (.cells #[p, .slice none 0 0, x] 90 (0, 0)) := hb
      rw [Lib.cell_of_heap this]; rfl
    have hSD : (Builtin.unsafeSliceData_ #[86] 141 #[.slice none 0 0]).run Tryd.prog w.drew = .ok (.pointer none) w.drew := rfl
    have hUS : ∀ W q, (Builtin.unsafeString_ #[141, 3] 9 #[.pointer q, .int .i64 0]).run Tryd.prog W = .ok (.string .empty) W := fun W q => Lib.run_unsafeString_none W _ _ _ q
    clear h hb h0
    have mixed : (Tryd.prog).follows .mixedOrders = true := by kernel_rfl
    go_enter Tryd.func65, Tryd.ntmps65
    go_wp2
    go_region_o
    all_goals (go_wp2; go_ret; exact ⟨rfl, ⟨rfl, rfl, rfl, Nat.le_refl _, fun _ _ _ _ => rfl⟩⟩)
  · obtain ⟨l, rfl⟩ : ∃ l : List UInt8, s = ⟨l.toArray⟩ := ⟨s.data.toList, by simp⟩
    have hl0 : l ≠ [] := fun e => h0 (by rw [e]; rfl)
    have hown := h.own
    have hlen : (Lib.strCells ⟨l.toArray⟩).length = l.length := by simp [Lib.strCells]
    rw [hlen] at hown
    obtain ⟨g, cap, cur, rfl, _, hg, hnc, hcm, hcs, _⟩ : ∃ g cap cur, v = .slice (some ⟨g, 0, none⟩) l.length cap ∧ 0 ≤ g ∧ w.heap[g]? = some (.cells cur 5 (0, 0)) ∧ l.length ≤ cap ∧ cap ≤ maxLen ∧ cur.size = cap * 1 ∧ cur.toList.take (l.length * 1) = Lib.strCells ⟨l.toArray⟩ := by
      rcases hown.2 with ⟨_, hz⟩ | ⟨g, cap, cur, hv, r⟩
      · exact absurd (List.eq_nil_of_length_eq_zero hz) hl0
      · exact ⟨g, cap, cur, hv, r⟩
    have hb := h.blk
    have hlp : l.length ≠ 0 := fun e => hl0 (List.eq_nil_of_length_eq_zero e)
    have c1 : w.drew.cell? ⟨k, 1, none⟩ = some (.slice (some ⟨g, 0, none⟩) l.length cap) := by
      have : w.drew.heap[k]? = some (.cells #[p, .slice (some ⟨g, 0, none⟩) l.length cap, x] 90 (0, 0)) := hb
      rw [Lib.cell_of_heap this]; rfl
    have hSD : (Builtin.unsafeSliceData_ #[86] 141 #[.slice (some ⟨g, 0, none⟩) l.length cap]).run Tryd.prog w.drew = .ok (.pointer (some ⟨g, 0, none⟩)) w.drew := Lib.run_unsafeSliceData_row _ _ _ _ _ _ (by omega)
    have hUS : (Builtin.unsafeString_ #[141, 3] 9 #[.pointer (some ⟨g, 0, none⟩), .int .i64 l.length]).run Tryd.prog w.drew = .ok (.string ⟨l.toArray⟩) (w.drew.freeze ⟨g, 0, none⟩ l.length) := by
      refine Lib.run_unsafeString_row w.drew 141 3 9 5 Tryd.underlying141 bldX.cellsByte g cur.size (by have hg' : w.drew.heap[g]? = some (.cells cur 5 (0, 0)) := hg; simp [World.shape?, hg']) l hl0 (by omega) (by unfold maxLen at hcm; omega) ?_
      intro j x hx
      have := hown.cells (g := g) rfl j (.int .u8 x.toNat) (by simp [Lib.strCells, hx])
      exact this
    have fin : Two w (w.drew.freeze ⟨g, 0, none⟩ l.length) k (.slice (some ⟨g, 0, none⟩) l.length cap) := by
      have hf : w.drew.freeze ⟨g, 0, none⟩ l.length = { w.drew with heap := (w.drew.freeze ⟨g, 0, none⟩ l.length).heap } := by unfold World.freeze; rw [if_neg hlp]
      refine ⟨by rw [hf]; rfl, by rw [hf]; rfl, by rw [hf]; rfl, ?_, fun j h1 h2 h3 => ?_⟩
      · unfold World.freeze; rw [if_neg hlp]; simp
      · have hj : j ≠ g := fun e => h3 (by rw [e]; rfl)
        unfold World.freeze; rw [if_neg hlp]
        show (w.heap.modify g _)[j]? = w.heap[j]?
        rw [Array.getElem?_modify, if_neg (Ne.symm hj)]
    clear h hb hown hg hcs hnc hcm h0 hl0 hlp hlen
    have mixed : (Tryd.prog).follows .mixedOrders = true := by kernel_rfl
    go_enter Tryd.func65, Tryd.ntmps65
    go_wp2
    go_region_o
    all_goals (go_wp2; go_ret; exact ⟨rfl, fin⟩)

end Go.Proofs.YtofhakbmmgpgdaaDoor
