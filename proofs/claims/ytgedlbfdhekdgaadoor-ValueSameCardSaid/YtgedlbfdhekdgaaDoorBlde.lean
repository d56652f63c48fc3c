/- strings.Builder: WriteByte, in the model and in the abstract run. -/
import Derived.Test.YtgedlbfdhekdgaaDoorGe
import Derived.Test.YtgedlbfdhekdgaaDoorGd
set_option maxRecDepth 100000
namespace Go.Proofs.YtgedlbfdhekdgaaDoor
open Go Go.RowKit Go.Proofs

theorem Bld.alloc {w : World} {k : Nat} {p v : Value} {l : List Value} (h : Bld w k p v l) (o : Obj) : Bld (w.alloc o) k p v l :=
  ⟨by rw [((Up.refl w).alloc o).block (blk_lt h.blk)]; exact h.blk, h.adr, own_up h.own ((Up.refl w).alloc o), h.ne, h.nil⟩
theorem Two.alloc {w w1 : World} {k : Nat} {v : Value} (h : Two w w1 k v) (o : Obj) : Two w (w1.alloc o) k v :=
  have hu := (Up.refl w1).alloc o
  ⟨hu.os.trans h.os, hu.tape.trans h.tape, hu.output.trans h.output, Nat.le_trans h.size hu.size, fun j h1 h2 h3 => (hu.block (Nat.lt_of_lt_of_le h1 h.size)).trans (h.block j h1 h2 h3)⟩
theorem wpList_bldbyte {ops : Array Oper} {rest : List Oper} {o : Oper} {a : Act} {Q : Exit → Act → World → Prop} {w w1 : World} {k : Nat} {p v : Value} {l : List Value} (hgd : o.guard = none) (sl x : Operand)
    (ho : o.op = .call { callee := .builtin .append, args := #[sl, x], argTypes := #[64, 64] }) (h : Bld w k p v l) (h1 : Bld w1 k (.pointer (some ⟨k, 0, none⟩)) v l) (q1 : Two w w1 k v) (hs : a.eval sl = v) (N : Nat) (c : Value) (hx : a.eval x = .slice (some ⟨N, 0, none⟩) 1 1) {T : TypeId} (hb : w1.heap[N]? = some (.cells #[c] T (0, 0))) (hc : c.oneCell' = true) (hlen : l.length + 1 ≤ 140737488355328)
    (hK : ∀ ao n c' w2, Wrote w (w2.setCell ⟨k, 1, none⟩ (.slice ao n c')) k v (.slice ao n c') (l ++ [c]) → w2.cell? ⟨k, 0, none⟩ = some (.pointer (some ⟨k, 0, none⟩)) → w2.cell? ⟨k, 1, none⟩ = some v → w2.frozen? ⟨k, 1, none⟩ = false → wpList Tryd.prog ops Q rest (a.put o.dst (.slice ao n c')) w2) : wpList Tryd.prog ops Q (o :: rest) a w1 := by
  obtain ⟨ht, hi, hzs, hsz⟩ := rowU8
  obtain ⟨i0, hi0, hz0, hz1, hz2⟩ := info_parts hi
  refine wpList_plain hgd fun K hKK => ?_
  obtain ⟨v', w2, hr, hown', hg, _, hat⟩ := run_append_own_at (P := Tryd.prog) w1 0 64 o.type 5 i0 (.int .u8 0) 1 1 ht hi0 hz0 hz1 hz2 hzs hsz v l.length l h1.own ⟨N, 0, none⟩ 1 1 [c] (by simp) (fun j u hj => by
    have hadd : (⟨N, 0, none⟩ : Addr).add j = ⟨N, j, none⟩ := by unfold Addr.add; split <;> simp_all
    rw [hadd, blk_cell hb]; simpa using hj) (by simpa using hc) (by unfold maxLen; omega) (by omega) (Nat.zero_le _)
  have f := bld_put (m := [c]) h h1 q1 hg hat hown' (fun hh => by simp at hh)
  have hb2 : w2.heap[k]? = some (.cells #[.pointer (some ⟨k, 0, none⟩), v] 66 (0, 0)) := by rw [hg.block k (blk_lt h1.blk) (fun e => h1.ne e.symm)]; exact h1.blk
  obtain ⟨ao, n', cap, rfl⟩ : ∃ ao n' cap, v' = .slice ao n' cap := by
    rcases hown'.2 with ⟨hv, _⟩ | ⟨g, cap, cur, hv, _⟩
    · exact ⟨_, _, _, hv⟩
    · exact ⟨_, _, _, hv⟩
  unfold Oper.wp execOp
  simp only [ho, resolve, invoke, builtin, Sem.run_bind, Sem.run_pure, Result.andThen_ok, List.map_toArray, List.map_cons, List.map_nil, hs, hx, hr]
  exact hKK _ _ (hK ao n' cap w2 f (by rw [Lib.cell_of_heap hb2]; rfl) (by rw [Lib.cell_of_heap hb2]; rfl) (Lib.frozen_of_heap hb2 1))
set_option maxHeartbeats 2000000 in
theorem wbyte_any (k : Nat) (p v : Value) (l : List Value) (c : Int) (w : World) (h : Bld w k p v l) (hlen : l.length + 1 ≤ 140737488355328) :
    Calls Tryd.prog 42 #[.pointer (some ⟨k, 0, none⟩), .int .u8 c] w (fun e w' => e = .returned .nilIface ∧ ∃ v', Wrote w w' k v v' (l ++ [.int .u8 c])) := by
  have hck := checks_any k p v l w h
  have hH := Lib.hid h
  have hL := Lib.hid hlen
  clear h hlen
  go_enter Tryd.func42, Tryd.ntmps42
  go_wp2_with (first | (go_at_call 57; refine (hck).mono ?_; rintro e w1 ⟨rfl, h1, c0, c1⟩) | (at_builtin; refine wpList_bldbyte rfl _ _ rfl hH.out (h1.1.alloc _) (h1.2.alloc _) rfl _ _ rfl (blk_new _ _) rfl hL.out ?_; intro ao n c w2 hW d0 d1 f1))
  go_ret
  exact ⟨rfl, _, hW⟩
theorem strCells_one (c : UInt8) : Lib.strCells (S [c]) = [.int .u8 ((c.toNat : Nat) : Int)] := rfl
theorem wbyte_ok (s : List UInt8) (c : UInt8) (b : Nat) (G : Glob) (hG : G b = some (.bld (S s))) (hl : s.length + 1 ≤ 140737488355328) :
    CallOk Tryd.prog TT 42 [.gptr b 0, .int .u8 ((c.toNat : Nat) : Int)] G (fun v G' => v = .nili ∧ G' = setG G b (.bld (S (s ++ [c])))) := by
  refine bld_step (S (s ++ [c])) ⟨_, Tryd.func42, by decide, rfl⟩ hG fun g k us p v w hlen hd hB => ?_
  match us, hlen with
  | [u], _ =>
    cases hd 0 _ u rfl rfl
    refine ⟨.nilIface, fun g' w' => .nili, ?_⟩
    rw [← S_append, strCells_app, strCells_one]
    exact wbyte_any k p v (Lib.strCells (S s)) _ w hB (by rw [Lib.strCells_length, S_size]; exact hl)
end Go.Proofs.YtgedlbfdhekdgaaDoor
