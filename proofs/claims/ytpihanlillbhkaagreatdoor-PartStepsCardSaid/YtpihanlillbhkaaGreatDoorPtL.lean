/- Steps of a partition: what they weigh, and how they are read as an argument. -/
import Derived.Test.YtpihanlillbhkaaGreatDoorGx
import Derived.Test.YtpihanlillbhkaaGreatDoorPtT
import Derived.Test.YtpihanlillbhkaaGreatDoorPtV
import Derived.Test.YtpihanlillbhkaaGreatDoorPin
import Derived.Test.YtpihanlillbhkaaGreatDoorMapA
set_option maxRecDepth 100000
set_option linter.unusedSimpArgs false
set_option linter.unusedVariables false
namespace Go.Proofs.YtpihanlillbhkaaGreatDoor
open Go Go.RowKit Go.ChangeShapes Go.WideShapes Go.ChangeAt Go.Deep Go.Proofs

theorem grow_le {s : PS} (a : St31) : growS s a ≤ 56 + a.name.size + a.text.size := by
  unfold growS
  split
  · unfold kgrow; split <;> omega
  · split
    · unfold cgrow; split <;> omega
    · split
      · unfold fgrow; split <;> omega
      · split
        · unfold lgrow; split <;> omega
        · omega
theorem apply_le {s : PS} {q : PQ} (h : PR s q) (a : St31) : (applyQ q a).1.size ≤ q.size + 56 + a.name.size + a.text.size := by
  have hg := grow_le (s := s) a
  rcases apply_size h a with ⟨_, h1⟩ | h1 <;> omega
theorem do_le {s : PS} {q : PQ} (h : PR s q) (a : St31) : (doQ q a).1.size ≤ q.size + 56 + a.name.size + a.text.size ∧ (doQ q a).1.cn.length ≤ q.cn.length + 1 := by
  have h1 := apply_le (h.exp a.now) a
  have h2 := exp_size q a.now
  have h3 := apply_len (expQ q a.now) a
  have h4 : (expQ q a.now).cn.length = q.cn.length := rfl
  unfold doQ
  split
  · simp only; omega
  · split
    · simp only; omega
    · simp only; omega
theorem PtX.le {G : Glob} {b : Nat} {q : PQ} (h : PtX G b q) (a : St31) : (doQ q a).1.size ≤ q.size + 56 + a.name.size + a.text.size ∧ (doQ q a).1.cn.length ≤ q.cn.length + 1 := by
  obtain ⟨s, m, h1, h2⟩ := h
  exact do_le h2 a
theorem psizeX_ok {G : Glob} {b : Nat} {q : PQ} (h : PtX G b q) (hq : q.size ≤ 100000000) : CallOk Tryz.prog TT 11 [.gptr b 0] G (fun v G' => v = .int .i64 (q.size : Nat) ∧ G' = G) := by
  obtain ⟨s, m, h1, h2⟩ := h
  obtain ⟨b1, b2, b3, b4, b5⟩ := h2.bounds hq
  have := psize_at h1.box (by omega) (by omega) (by omega) (by omega)
  rw [← b5]
  have e : ((sizeR s.k + totC s.c + totF s.f + sizeL s.l : Nat) : Int) = ((sizeR s.k : Nat) : Int) + ((totC s.c : Nat) : Int) + ((totF s.f : Nat) : Int) + ((sizeL s.l : Nat) : Int) := by omega
  rw [e]
  exact this
def zw (x : St31) : Nat := x.name.size + x.text.size
def zws (l : List St31) : Nat := (l.map zw).sum
def muchP : List St31 → Int → Int
  | [], n => n
  | x :: r, n => muchP r (if (1048576 : Int) < n + x.name.size + x.text.size then 1048576 else n + x.name.size + x.text.size)
theorem muchP_snoc : ∀ (l : List St31) (x : St31) (n : Int), muchP (l ++ [x]) n = (if (1048576 : Int) < muchP l n + x.name.size + x.text.size then 1048576 else muchP l n + x.name.size + x.text.size)
  | [], _, _ => rfl
  | _ :: r, x, _ => muchP_snoc r x _
theorem muchP_in : ∀ (l : List St31) (n : Int), 0 ≤ n → n ≤ 1048576 → 0 ≤ muchP l n ∧ muchP l n ≤ 1048576
  | [], n, h0, h1 => ⟨h0, h1⟩
  | x :: r, n, h0, h1 => muchP_in r _ (by split <;> omega) (by split <;> omega)
theorem muchP_le : ∀ (l : List St31) (n : Int), 0 ≤ n → muchP l n ≤ 10000 → n + (zws l : Nat) ≤ 10000
  | [], n, _, h => by simpa [muchP, zws] using h
  | x :: r, n, h0, h => by
    unfold muchP at h
    split at h
    · have := muchP_le r 1048576 (by omega) h
      omega
    · have := muchP_le r _ (by omega) h
      simp only [zws, zw, List.map_cons, List.sum_cons] at this ⊢
      omega
theorem zws_take {l : List St31} {i : Nat} {x : St31} (h : l[i]? = some x) : zws (l.take (i + 1)) = zws (l.take i) + (x.name.size + x.text.size) := by
  unfold zws
  rw [List.take_add_one, h]
  simp [zw]
theorem zws_le (l : List St31) (i : Nat) : zws (l.take i) ≤ zws l := by
  have : zws l = zws (l.take i) + zws (l.drop i) := by
    unfold zws
    rw [← List.sum_append_nat, ← List.map_append, List.take_append_drop]
  omega
theorem much31_ok (l : List St31) (G : Glob) (hl : l.length ≤ 9223372036854775807) (hs : ∀ x ∈ l, x.name.size ≤ 140737488351232 ∧ x.text.size ≤ 140737488351232) : CallOk Tryz.prog TT 5 [.slc 37 (l.map St31.av)] G (fun v G' => v = .bool (decide ((l.length : Int) > 60) || decide (muchP l 0 > 10000)) ∧ G' = G) := by
  refine call_sem tt_ok Tryz.func5 rfl (by kernel_rfl) Tryz.ntmps5 Tryz.results5 ?_; conv => whnf
  repeat' (first | ((first | refine Sem.st tt_ok rfl ?_ | refine BS_t (by assumption) ?_ | refine BS_f (by assumption) ?_ | refine nthKi (by assumption) ?_ | refine ⟨_, ⟨(by omega), (by assumption)⟩, ?_⟩ | refine And.intro (by first | decide | omega) ?_); conv => whnf) | refine Sem.seqS ?_ | refine Sem.block ?_)
  refine Sem.loop (ι := {k : Nat // k ≤ l.length}) (fun x => ⟨(.slc 37 (l.map St31.av) :: .top :: .top :: .int .i64 (muchP (l.take x.1) 0) :: .int .i64 (x.1 : Nat) :: .top :: .top :: .top :: .top :: .top :: .top :: .top :: .top :: .top :: .top :: .top :: .top :: .top :: .top :: .top :: .top :: .top :: .top :: .top :: .top :: .top :: .top :: .top :: .top :: .top :: .top :: .top :: .top :: .top :: .top :: .top :: []), [], 0, 0, G⟩) (fun x => l.length - x.1) ⟨0, Nat.zero_le _⟩ ?_ (fun x => ?_)
  · refine weak_by [] ?_; (conv => whnf); repeat (refine And.intro rfl ?_; conv => whnf)
    exact ⟨fun i x hx => hx, rfl, Nat.zero_le _, rfl, rfl⟩
  obtain ⟨k, hk0⟩ := x
  repeat' (first | ((first | refine Sem.st tt_ok rfl ?_ | refine BS_t (by assumption) ?_ | refine BS_f (by assumption) ?_ | refine nthKi (by assumption) ?_ | refine ⟨_, ⟨(by omega), (by assumption)⟩, ?_⟩ | refine And.intro (by first | decide | omega) ?_); conv => whnf) | refine Sem.seqS ?_ | refine Sem.block ?_)
  refine BS_intro (fun hk => ?_) (fun hk => ?_) <;> conv => whnf
  · have hks : k < l.length := by simp at hk; omega
    clear hk
    obtain ⟨v, hv⟩ : ∃ v, l[k]? = some v := ⟨_, List.getElem?_eq_getElem hks⟩
    have hsm : (l.map St31.av)[((k : Nat) : Int).toNat]? = some v.av := by rw [Int.toNat_natCast, List.getElem?_map, hv]; rfl
    have hm := muchP_in (l.take k) 0 (by decide) (by decide)
    have hz := hs v (List.mem_of_getElem? hv)
    have ht : l.take (k + 1) = l.take k ++ [v] := by rw [List.take_add_one, hv]; rfl
    have hw : IntKind.i64.wrap ((k : Int) + 1) = ((k + 1 : Nat) : Int) := by rw [IntWalk.i64_in _ (by omega)]; omega
    repeat' (first | ((first | refine Sem.st tt_ok rfl ?_ | refine BS_t (by assumption) ?_ | refine BS_f (by assumption) ?_ | refine nthKi (by assumption) ?_ | refine ⟨_, ⟨(by omega), (by assumption)⟩, ?_⟩ | refine And.intro (by first | decide | omega) ?_); conv => whnf) | refine Sem.seqS ?_ | refine Sem.block ?_)
    refine draw_sound (eff := []) tt_ok (by kernel_rfl) (by kernel_rfl) ?_; conv => whnf
    repeat' (first | ((first | refine BS_t (by assumption) ?_ | refine BS_f (by assumption) ?_ | refine nthKi (by assumption) ?_ | refine ⟨_, ⟨(by omega), (by assumption)⟩, ?_⟩ | refine And.intro (by first | decide | omega) ?_); conv => whnf) | fail)
    repeat' (first | ((first | refine Sem.st tt_ok rfl ?_ | refine BS_t (by assumption) ?_ | refine BS_f (by assumption) ?_ | refine nthKi (by assumption) ?_ | refine ⟨_, ⟨(by omega), (by assumption)⟩, ?_⟩ | refine And.intro (by first | decide | omega) ?_); conv => whnf) | refine Sem.seqS ?_ | refine Sem.block ?_)
    refine ⟨⟨k + 1, by omega⟩, by show l.length - (k + 1) < l.length - k; omega, ?_⟩
    refine weak_by [] ?_; (conv => whnf); repeat (refine And.intro rfl ?_; conv => whnf)
    refine And.intro (by
      show (if (1048576 : Int) < IntKind.i64.wrap (IntKind.i64.wrap (muchP (l.take k) 0 + v.name.size) + v.text.size) then (1048576 : Int) else IntKind.i64.wrap (IntKind.i64.wrap (muchP (l.take k) 0 + v.name.size) + v.text.size)) = muchP (l.take (k + 1)) 0
      rw [ht, muchP_snoc, IntWalk.i64_in (muchP (l.take k) 0 + v.name.size) (by omega), IntWalk.i64_in _ (by omega)]) ?_
    (conv => whnf); repeat (refine And.intro rfl ?_; conv => whnf)
    refine And.intro hw ?_
    (conv => whnf); repeat (refine And.intro rfl ?_; conv => whnf)
    exact ⟨fun i y hy => hy, rfl, Nat.zero_le _, rfl, rfl⟩
  · have hk' : k = l.length := by simp at hk; omega
    subst hk'
    rw [List.take_length]
    repeat' (first | ((first | refine Sem.st tt_ok rfl ?_ | refine BS_t (by assumption) ?_ | refine BS_f (by assumption) ?_ | refine nthKi (by assumption) ?_ | refine ⟨_, ⟨(by omega), (by assumption)⟩, ?_⟩ | refine And.intro (by first | decide | omega) ?_); conv => whnf) | refine Sem.seqS ?_ | refine Sem.block ?_)
    have hL : (l.map St31.av).length = l.length := by simp
    refine BS_intro (fun h8 => ?_) (fun h8 => ?_) <;> conv => whnf
    · repeat' (first | ((first | refine Sem.st tt_ok rfl ?_ | refine BS_t (by assumption) ?_ | refine BS_f (by assumption) ?_ | refine nthKi (by assumption) ?_ | refine ⟨_, ⟨(by omega), (by assumption)⟩, ?_⟩ | refine And.intro (by first | decide | omega) ?_); conv => whnf) | refine Sem.seqS ?_ | refine Sem.block ?_)
      rw [hL] at h8
      refine ⟨_, fun _ _ h => h, ?_, rfl⟩
      rw [h8]
      rfl
    · repeat' (first | ((first | refine Sem.st tt_ok rfl ?_ | refine BS_t (by assumption) ?_ | refine BS_f (by assumption) ?_ | refine nthKi (by assumption) ?_ | refine ⟨_, ⟨(by omega), (by assumption)⟩, ?_⟩ | refine And.intro (by first | decide | omega) ?_); conv => whnf) | refine Sem.seqS ?_ | refine Sem.block ?_)
      rw [hL] at h8
      refine ⟨_, fun _ _ h => h, ?_, rfl⟩
      rw [h8]
      rfl
def St31.lit {H : Type} (s : St31) : List (DataW H) := [.lit (.int .i64 s.op), .agg [.lit (.string s.name.data.toList), .lit (.string s.text.data.toList), .lit (.int .i64 s.num), .lit (.int .u64 s.ticks)], .lit (.int .i64 s.now), .lit (.int .i64 s.limit)]
structure St31.In (s : St31) : Prop where
  limit : -9223372036854775808 ≤ s.limit ∧ s.limit ≤ 9223372036854775807
  ticks : 0 ≤ s.ticks ∧ s.ticks ≤ 18446744073709551615
section
variable {H : Type} {enc : TypeId × Value → H} {w : World} {base : Nat} {spare : Nat → Bool} {held : Bool}
theorem st31_elem (n : Nat) (cs : List Value) (y : DataW H × List MemPlace) (hl0 : cs.length = 7) (h : DataW.trod enc Tryz.prog w base spare held n 37 cs = some y) : ∃ s : St31, cs = s.vals ∧ (y.1 = .agg s.lit ∧ s.In) := by
  obtain ⟨ys, m, _, hx, hl, hyl, hf⟩ := DataW.trod_struct Tryz.underlying37 h
  have h0 := hf 0 _ rfl
  have h1 := hf 1 _ rfl
  have h2 := hf 2 _ rfl
  have h3 := hf 3 _ rfl
  obtain ⟨y0, y1, y2, y3, rfl⟩ := list4 hyl
  match cs, hl0 with
  | [x0, x1, x2, x3, x4, x5, x6], _ =>
    obtain ⟨a0, rfl, e0, w0⟩ := int_field Tryz.underlying3 h0
    obtain ⟨a5, rfl, e5, w5⟩ := int_field Tryz.underlying3 h2
    obtain ⟨a6, rfl, e6, w6⟩ := int_field Tryz.underlying3 h3
    obtain ⟨zs, m2, g1, g2, g3, g4⟩ := struct_cells Tryz.underlying35 (by kernel_rfl) (by kernel_rfl) h1
    have g1' : ([x1, x2, x3, x4] : List Value).length = 4 := rfl
    obtain ⟨z0, z1, z2, z3, rfl⟩ := list4 g2
    obtain ⟨a1, rfl, e1, _⟩ := string_field Tryz.underlying9 (g4 0 _ _ rfl rfl)
    obtain ⟨a2, rfl, e2, _⟩ := string_field Tryz.underlying9 (g4 1 _ _ rfl rfl)
    obtain ⟨a3, rfl, e3, _⟩ := int_field Tryz.underlying2 (g4 2 _ _ rfl rfl)
    obtain ⟨a4, rfl, e4, w4⟩ := int_field Tryz.underlying33 (g4 3 _ _ rfl rfl)
    subst hx
    refine ⟨⟨a0, a1, a2, a3, a4, a5, a6⟩, rfl, ?_, bounds_i64 w6, bounds_u64 w4⟩
    subst e1 e2 e3 e4
    simp only [List.map_cons, List.map_nil] at g3
    simp only [List.map_cons, List.map_nil, e0, e5, e6, g3]
    rfl
end
/-- a slice that is handed in, beside one block that is held apart -/
theorem row_dzP {T : TypeId → TR} {g : Gh} {α : Type} {w : World} {v : Value} {l : List α} {size : Nat} {cells : α → List Value} (h : Row w v l size cells) {e : TypeId} (acells : α → List AV) (hs : (T e).cells = size)
    (hfz : ∀ b off x u, x ∈ l → (cells x)[0]? = some u → w.cell? ⟨b, off, none⟩ = some u → ∀ i, g.frz b i) (hsz : 0 < size)
    (hc : ∀ x ∈ l, (acells x).length = size ∧ (cells x).length = size ∧ ∀ (j : Nat) (c : AV) (u : Value), (acells x)[j]? = some c → (cells x)[j]? = some u → u.oneCell' = true ∧ Dz T g w c u) : Dz T g w (.slc e (l.map acells)) v := by
  obtain ⟨p, cap, rfl, h1, h2, h3⟩ := h
  by_cases h0 : 0 < l.length
  · obtain ⟨b, off, rfl, hb, hcell⟩ := h3 h0
    have key : ∀ (i : Nat) (x : α), l[i]? = some x → ∀ j, j < size → ∃ u, (cells x)[j]? = some u ∧ w.cell? ⟨b, off + (i * size + j), none⟩ = some u ∧ u.oneCell' = true ∧ ∀ c, (acells x)[j]? = some c → Dz T g w c u := fun i x hx j hj => by
      obtain ⟨g1, g2, g3⟩ := hc x (List.mem_of_getElem? hx)
      have hu : (cells x)[j]? = some ((cells x)[j]'(by omega)) := List.getElem?_eq_getElem _
      have ha : (acells x)[j]? = some ((acells x)[j]'(by omega)) := List.getElem?_eq_getElem _
      exact ⟨_, hu, hcell i x hx j _ hu, (g3 j _ _ ha hu).1, fun c hc' => (g3 j c _ hc' hu).2⟩
    have hfr : ∀ i, g.frz b i := by
      have hx0 : l[0]? = some l[0] := List.getElem?_eq_getElem h0
      obtain ⟨u, k1, k2, _⟩ := key 0 _ hx0 0 hsz
      exact hfz b _ _ u (List.mem_of_getElem? hx0) k1 k2
    have hlen : l.length = (l.map acells).length := by simp
    rw [hlen]
    refine .slc e (l.map acells) _ cap (fun i j => (w.cell? ⟨b, off + (i * size + j), none⟩).getD undef) (by simpa using h1) h2 (fun cs hcs => ?_) (fun _ => ⟨b, off, rfl, fun i cs hcs j hj => ?_⟩) (fun i cs hcs j x hx => ?_)
    · obtain ⟨x, hx, rfl⟩ := List.mem_map.1 hcs
      rw [hs]; exact (hc x hx).1
    · rw [List.getElem?_map] at hcs
      cases hli : l[i]? with
      | none => rw [hli] at hcs; cases hcs
      | some x =>
        obtain ⟨u, k1, k2, k3, k4⟩ := key i x hli j (by rw [← hs]; exact hj)
        rw [hs, k2]
        exact ⟨hfr _, rfl, k3⟩
    · rw [List.getElem?_map] at hcs
      cases hli : l[i]? with
      | none => rw [hli] at hcs; cases hcs
      | some y =>
        rw [hli] at hcs
        simp only [Option.map_some, Option.some.injEq] at hcs
        subst hcs
        have hj : j < size := by rw [← (hc y (List.mem_of_getElem? hli)).1]; exact (List.getElem?_eq_some_iff.1 hx).1
        obtain ⟨u, k1, k2, k3, k4⟩ := key i y hli j hj
        rw [k2]
        exact k4 x hx
  · have : l = [] := List.eq_nil_of_length_eq_zero (by omega)
    subst this
    exact .slc e [] _ cap (fun _ _ => undef) (Nat.zero_le _) h2 (fun _ h => by cases h) (fun h => absurd h (by simp)) (fun i cs h => by simp at h)
theorem pow_noint {w : World} (h : Lib.TabIs Tryz.prog w "internal/strconv.uint64pow10" .u64 Lib.pow10Tab) : ∀ off a, w.cell? ⟨lays171_ren.g 17, off, none⟩ ≠ some (.int .i64 a) := by
  intro off a hc
  by_cases ho : off < Lib.pow10Tab.length
  · rw [h.cell laysm171.m17 off ho] at hc
    cases hc
  · unfold Lib.TabIs World.var? at h
    rw [laysm171.m17, Option.bind_some] at h
    cases hb : w.heap[lays171_ren.g 17]? with
    | none => rw [hb] at h; cases h
    | some o =>
      rw [hb] at h
      cases o with
      | cells cs t f =>
        simp only [Option.some.injEq] at h
        simp only [World.cell?, hb, h] at hc
        rw [Array.getElem?_eq_none (by simp; omega)] at hc
        cases hc
      | _ => cases h
theorem steps_read {H : Type} {enc : TypeId × Value → H} {r : Reach} {b0 base : Nat} {spare : Nat → Bool} {held : Bool} {v : Value} {d : DataW H} {p : List MemPlace} {w : World} {ts : List TypeId} {ds : List (DataW H)}
    (hv : Value.okWide Tryz.prog w r b0 22 v) (h : DataW.Trod enc Tryz.prog w base spare held 22 v d p) (hsz : (DataW.weightsEach Tryz.prog ts ds).all (· ≤ reachBytes) = true) (ht : ts[0]? = some 22) (hd : ds[0]? = some d)
    (hT : Lib.TabIs Tryz.prog w "internal/strconv.uint64pow10" .u64 Lib.pow10Tab) :
    ∃ l : List St31, l.length ≤ 9223372036854775807 ∧ (∀ x ∈ l, x.In ∧ x.name.size ≤ 140737488351232 ∧ x.text.size ≤ 140737488351232) ∧ Dz TT (ghP (lays171_ren.g 17)) w (.slc 37 (l.map St31.av)) v := by
  obtain ⟨l, hr, hdd⟩ := row_arg (cells := St31.vals) (R := fun (x : St31) (y : DataW H) => y = .agg x.lit ∧ x.In) Tryz.underlying22 (by kernel_rfl) (by decide) st31_elem hv h
  have hin := row_all hdd (fun x y h => h.2)
  have hw := row_sized hsz ht hd Tryz.underlying22 Tryz.underlying37 hdd (fun x => x.lit) (fun x y h => h.1)
  refine ⟨l, ?_, fun x hx => ?_, ?_⟩
  · obtain ⟨p, cap, _, h1, h2, _⟩ := hr
    unfold maxLen at h2
    omega
  · have h1 := hw x hx
    have h2 := sized_part h1 (j := 1) (t := 35) rfl rfl Tryz.underlying35
    refine ⟨hin x hx, ?_, ?_⟩
    · have := sized_string h2 (j := 0) (t := 9) rfl rfl; simpa [reachBytes] using this
    · have := sized_string h2 (j := 1) (t := 9) rfl rfl; simpa [reachBytes] using this
  · refine row_dzP hr St31.av rfl (fun b off x u hx hu hc i => ?_) (by decide) fun x hx => ⟨rfl, rfl, fun j c u hc hu => ?_⟩
    · simp [St31.vals] at hu
      subst hu
      have h1 : b ≠ lays171_ren.g 17 := fun e => by subst e; exact pow_noint hT _ _ hc
      unfold Gh.frz ghP
      simp only [if_neg h1]
      trivial
    · match j with
      | 0 | 3 | 4 | 5 | 6 => simp [St31.av, St31.vals] at hc hu; subst hc hu; exact ⟨rfl, .int _ _⟩
      | 1 | 2 => simp [St31.av, St31.vals] at hc hu; subst hc hu; exact ⟨rfl, .str _⟩
      | j + 7 => simp [St31.av] at hc
end Go.Proofs.YtpihanlillbhkaaGreatDoor
