/- The lexer's put: a row that a shared box owns, appended to, in the model and in the abstract run. -/
import Derived.Test.YtofhakbmmgpgdaaLaw
import Derived.Test.YtofhakbmmgpgdaaGe
import Derived.Test.YtofhakbmmgpgdaaFrame
import Derived.Test.YtofhakbmmgpgdaaLexP
set_option maxRecDepth 100000
namespace Go.Proofs.Ytofhakbmmgpgdaa
open Go Go.RowKit Go.Proofs

theorem rowTok : Row1 Try.prog 42 50 (.agg #[.int .i64 0, .string ⟨#[]⟩, .int .i64 0, .int .i64 0]) 4 40 := ⟨by kernel_rfl, by kernel_rfl, rfl, by decide⟩
theorem wpList_appW {P : Program} {T : TypeId → TR} (TO : TOk P T) {ops : Array Oper} {rest : List Oper} {o : Oper} {a : Act} {Q : Exit → Act → World → Prop} {w : World} (hgd : o.guard = none) (s x : Operand) (t e : TypeId)
    (ho : o.op = .call { callee := .builtin .append, args := #[s, x], argTypes := #[t, t] }) (ht : P.underlying t = some (.slice e)) (hk : kindD (T e).desc ≠ none) (hsz : 0 < (T e).cells)
    {v : Value} {n : Nat} {xs : List Value} (hs : a.eval s = v) (hown : w.ownsRow 0 e (T e).cells v n xs) (N : Nat) (us : Array Value) (hx : a.eval x = .slice (some ⟨N, 0, none⟩) 1 1) (hl : us.size = (T e).cells) {ty : TypeId} (hb : w.heap[N]? = some (.cells us ty (0, 0))) (h1 : ∀ u ∈ us.toList, u.oneCell' = true)
    (h63 : n + 1 ≤ maxLen) (hbytes : (n + 1) * (T e).bytes ≤ 140737488355328)
    (h : ∀ v' w', w'.ownsRow 0 e (T e).cells v' (n + 1) (xs ++ us.toList) → AppW w w' v v' → wpList P ops Q rest (a.put o.dst v') w') : wpList P ops Q (o :: rest) a w :=
  wpList_plain hgd fun K hK => by
    obtain ⟨v', w', hr, h2, h3⟩ := app_run TO ht hk hsz o.type hown (some ⟨N, 0, none⟩) 1 1 us.toList (by simp [hl]) (fun _ => ⟨_, rfl, fun j u hj => by
      have hadd : (⟨N, 0, none⟩ : Addr).add j = ⟨N, j, none⟩ := by unfold Addr.add; split <;> simp_all
      rw [hadd, blk_cell hb]; simpa using hj⟩) h1 h63 hbytes
    unfold Oper.wp execOp
    simp only [ho, resolve, invoke, builtin, Sem.run_bind, Sem.run_pure, Result.andThen_ok, List.map_toArray, List.map_cons, List.map_nil, hs, hx, hr]
    exact hK _ _ (h v' w' h2 h3)
theorem AppW.keep {w w' : World} {v v' : Value} (h : AppW w w' v v') {k : Nat} {o : Obj} (hk : w.heap[k]? = some o) (hne : some k ≠ v.ownBlock) : w'.heap[k]? = some o := by
  rcases h with ⟨rfl, _⟩ | ⟨j, arr, h1, _, rfl⟩ | ⟨o', rfl, _⟩
  · exact hk
  · have : j ≠ k := fun e => hne (by rw [h1, e])
    unfold World.setRow
    rw [Array.getElem?_modify, if_neg this]; exact hk
  · rw [drew_block _ _ (blk_lt hk)]; exact hk
set_option maxHeartbeats 2000000 in
theorem lexput_any (k : Nat) (s : ByteArray) (a : Int) (pv : Option Addr) (n cv : Nat) (xs : List Value) (w : World) (kind num at_ : Int) (text : ByteArray) (ty : TypeId)
    (hb : w.heap[k]? = some (.cells #[.string s, .int .i64 a, .slice pv n cv] ty (0, 0))) (ho : w.ownsRow 0 50 4 (.slice pv n cv) n xs) (hne : some k ≠ (Value.slice pv n cv).ownBlock) (hn : n ≤ 1048576) :
    Calls Try.prog 19 #[.pointer (some ⟨k, 0, none⟩), .int .i64 kind, .string text, .int .i64 num, .int .i64 at_] w (fun e w' => e = .returned (.tuple #[]) ∧ ∃ v' w2, w2.ownsRow 0 50 4 v' (n + 1) (xs ++ [.int .i64 kind, .string text, .int .i64 num, .int .i64 at_]) ∧
      AppW (w.alloc (.cells #[.int .i64 kind, .string text, .int .i64 num, .int .i64 at_] 50 (0, 0))) w2 (.slice pv n cv) v' ∧ w2.heap[k]? = some (.cells #[.string s, .int .i64 a, .slice pv n cv] ty (0, 0)) ∧ w' = w2.setCell ⟨k, 2, none⟩ v') := by
  have c2 : w.cell? ⟨k, 2, none⟩ = some (.slice pv n cv) := by rw [blk_cell hb]; rfl
  have hk := blk_lt hb
  have HB := Lib.hid hb
  have HO := Lib.hid ho
  have HN := Lib.hid hne
  clear hb ho hne
  go_enter Try.func19, Try.ntmps19
  go_wp2_with (at_builtin; (refine wpList_appW tt_ok rfl _ _ 42 50 rfl Try.underlying42 (by decide) (by decide) (v := .slice pv n cv) (n := n) (xs := xs) rfl (HO.out.alloc _) _ #[.int .i64 kind, .string text, .int .i64 num, .int .i64 at_] rfl rfl (ty := 50) (blk_new' (by simp)) (by simp [Value.oneCell']) (by unfold maxLen; omega) (by have : (TT 50).bytes = 40 := rfl; rw [this]; omega) ?_; intro v2 w4 hA hW; obtain ⟨ao, c, rfl, hc1, hc2⟩ := own_slice hA; have HB4 := Lib.hid (hW.keep (blk_alloc HB.out) HN.out); have HA := Lib.hid hA; have HW := Lib.hid hW; clear hA hW; have d1 : w4.cell? ⟨k, 2, none⟩ = some (.slice pv n cv) := (by rw [blk_cell HB4.out]; rfl); have d2 := blk_free HB4.out 2))
  go_end0
  exact ⟨rfl, _, _, HA.out, HW.out, HB4.out, rfl⟩
end Go.Proofs.Ytofhakbmmgpgdaa
