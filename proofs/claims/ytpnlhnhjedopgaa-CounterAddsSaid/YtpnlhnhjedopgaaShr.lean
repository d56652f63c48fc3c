/- Numbers, spans, steps of reading: the contracts of the layers 1 and 2 and of the document's, in the abstract run. -/
import Derived.Test.YtpnlhnhjedopgaaLaw
import Derived.Test.YtpnlhnhjedopgaaGd
set_option maxRecDepth 100000
namespace Go.Proofs.Ytpnlhnhjedopgaa
open Go Go.RowKit Go.Proofs

theorem q_varput (n : Int) (G : Glob) (h0 : 0 ≤ n) (h1 : n ≤ 18446744073709551615) : CallOk Try.prog TT 91 [.int .u64 n] G (fun v G' => v = .str (S (putL n.toNat)) ∧ G' = G) := by
  refine CallOk.of_gives ⟨_, Try.func91, by decide, rfl⟩ fun g us w hl hd => ?_
  obtain ⟨us⟩ := us
  match us, hl with
  | [u0], _ => cases hd 0 _ _ rfl rfl; exact ⟨_, .str _, varput_any n w h0 h1⟩
theorem q_refput (n : Int) (G : Glob) (h0 : 0 ≤ n) (h1 : n ≤ 18446744073709551615) : CallOk Try.prog TT 95 [.int .u64 n] G (fun v G' => v = .str (S (putL n.toNat)) ∧ G' = G) := by
  refine CallOk.of_gives ⟨_, Try.func95, by decide, rfl⟩ fun g us w hl hd => ?_
  obtain ⟨us⟩ := us
  match us, hl with
  | [u0], _ => cases hd 0 _ _ rfl rfl; exact ⟨_, .str _, refput_any n.toNat n w (Nat.le_refl _) h0 h1⟩
theorem q_byte (n : Int) (G : Glob) (h0 : 0 ≤ n) (h1 : n ≤ 255) : CallOk Try.prog TT 125 [.int .i64 n] G (fun v G' => v = .str (S [UInt8.ofNat n.toNat]) ∧ G' = G) := by
  refine CallOk.of_gives ⟨_, Try.func125, by decide, rfl⟩ fun g us w hl hd => ?_
  obtain ⟨us⟩ := us
  match us, hl with
  | [u0], _ => cases hd 0 _ _ rfl rfl; exact ⟨_, .str _, byte_any n w h0 h1⟩
def takeAV (r : Nat × Nat × Int) : AV := .tup [.int .u64 (r.1 : Nat), .int .i64 (r.2.1 : Nat), .int .i64 r.2.2]
theorem tup3_dz {T : TypeId → TR} {g : Gh} {w : World} {a b c : AV} {x y z : Value} (h1 : Dz T g w a x) (h2 : Dz T g w b y) (h3 : Dz T g w c z) : Dz T g w (.tup [a, b, c]) (.tuple #[x, y, z]) :=
  .tup _ _ rfl fun i c u hc hu => by
    match i with
    | 0 => simp at hc hu; subst hc hu; exact h1
    | 1 => simp at hc hu; subst hc hu; exact h2
    | 2 => simp at hc hu; subst hc hu; exact h3
    | i + 3 => simp at hc
theorem q_vartake (s : ByteArray) (G : Glob) (hs : s.size ≤ maxLen) : CallOk Try.prog TT 128 [.str s] G (fun v G' => v = takeAV (takeL s.data.toList) ∧ G' = G) := by
  refine CallOk.of_gives ⟨_, Try.func128, by decide, rfl⟩ fun g us w hl hd => ?_
  obtain ⟨us⟩ := us
  match us, hl with
  | [u0], _ => cases hd 0 _ _ rfl rfl; exact ⟨_, tup3_dz (.int _ _) (.int _ _) (.int _ _), vartake_any s w hs⟩
def intAV (r : Nat × Nat × Int) : AV := .tup [.int .i64 (r.1 : Nat), .int .i64 (r.2.1 : Nat), .int .i64 r.2.2]
def spanAV (r : ByteArray × Nat × Int) : AV := .tup [.str r.1, .int .i64 (r.2.1 : Nat), .int .i64 r.2.2]
theorem q_refint (b : ByteArray) (most : Int) (G : Glob) (hb : b.size ≤ maxLen) (m0 : -9223372036854775808 ≤ most) (m1 : most ≤ 9223372036854775807) : CallOk Try.prog TT 104 [.str b, .int .i64 most] G (fun v G' => v = intAV (intT b most) ∧ G' = G) := by
  refine CallOk.of_gives ⟨_, Try.func104, by decide, rfl⟩ fun g us w hl hd => ?_
  obtain ⟨us⟩ := us
  match us, hl with
  | [u0, u1], _ => cases hd 0 _ _ rfl rfl; cases hd 1 _ _ rfl rfl; exact ⟨_, tup3_dz (.int _ _) (.int _ _) (.int _ _), refint_any b most w hb m0 m1⟩
def Gt.av (g : Gt) : AV := .agg [.int .u64 (g.num : Nat), .str g.text, .int .i64 (g.at_ : Nat), .int .i64 g.e]
theorem gt_in {g0 : Gh} {w : World} {g : Gt} {u : Value} (h : Dz TT g0 w g.av u) : u = g.val := by
  cases h with
  | agg _ us hl h1 h =>
    obtain ⟨us⟩ := us
    match us, hl with
    | [u0, u1, u2, u3], _ =>
      cases h 0 _ u0 rfl rfl
      cases h 1 _ u1 rfl rfl
      cases h 2 _ u2 rfl rfl
      cases h 3 _ u3 rfl rfl
      rfl
theorem gt_dz {g0 : Gh} {w : World} (g : Gt) : Dz TT g0 w g.av g.val := by
  refine .agg _ _ rfl (fun u hu => ?_) fun i c u hc hu => ?_
  · simp at hu; rcases hu with rfl | rfl | rfl | rfl <;> rfl
  · match i with
    | 0 => simp at hc hu; subst hc hu; exact .int _ _
    | 1 => simp at hc hu; subst hc hu; exact .str _
    | 2 => simp at hc hu; subst hc hu; exact .int _ _
    | 3 => simp at hc hu; subst hc hu; exact .int _ _
    | i + 4 => simp at hc
/-- less is said of what is handed back, or in -/
theorem CallOk.weak {P : Program} {T : TypeId → TR} {f : FuncId} {args : List AV} {G : Glob} {Q Q' : AV → Glob → Prop} (h : CallOk P T f args G Q) (hq : ∀ v G', Q v G' → ∃ v', Q' v' G' ∧ ∀ g w u, Dz T g w v u → Dz T g w v' u) : CallOk P T f args G Q' :=
  ⟨h.enters, fun g us w hG hl hd => (h.calls g us w hG hl hd).mono fun e w' ⟨u, g', G', v, h1, h2, h3, h4, h5⟩ => by
    obtain ⟨v', q1, q2⟩ := hq v G' h2
    exact ⟨u, g', G', v', h1, q1, h3, h4, q2 _ _ _ h5⟩⟩
theorem CallOk.args {P : Program} {T : TypeId → TR} {f : FuncId} {args args' : List AV} {G : Glob} {Q : AV → Glob → Prop} (h : CallOk P T f args' G Q) (hl : args.length = args'.length) (ha : ∀ (i : Nat) (a : AV), args[i]? = some a → ∃ a', args'[i]? = some a' ∧ ∀ g w u, Dz T g w a u → Dz T g w a' u) : CallOk P T f args G Q :=
  ⟨h.enters, fun g us w hG hl' hd => h.calls g us w hG (by omega) fun i a' u ha' hu => by
    have hlt := (List.getElem?_eq_some_iff.1 ha').1
    have hx : args[i]? = some (args[i]'(by omega)) := List.getElem?_eq_getElem (by omega)
    obtain ⟨a2, e1, e2⟩ := ha i _ hx
    rw [ha', Option.some.injEq] at e1
    subst e1
    exact e2 _ _ _ (hd i _ u hx hu)⟩
theorem nils_dz {T : TypeId → TR} (e : TypeId) {g : Gh} {w : World} {u : Value} (h : Dz T g w .nils u) : Dz T g w (.slc e []) u := by
  cases h
  exact .slc e [] none 0 (fun _ _ => undef) (Nat.le_refl _) (by decide) (fun _ h => by cases h) (fun h => absurd h (by simp)) (fun i cs h => by simp at h)
theorem tup2_to {T : TypeId → TR} {g : Gh} {w : World} {a a' b : AV} {u : Value} (ha : ∀ x, Dz T g w a x → Dz T g w a' x) (h : Dz T g w (.tup [a, b]) u) : Dz T g w (.tup [a', b]) u := by
  cases h with
  | tup _ us hl h =>
    refine .tup _ us (by simpa using hl) fun i c u hc hu => ?_
    match i with
    | 0 => simp only [List.getElem?_cons_zero, Option.some.injEq] at hc; subst hc; exact ha _ (h 0 a u rfl hu)
    | 1 => exact h 1 c u hc hu
    | i + 2 => simp at hc
theorem app_le {n m k : Nat} (h : n + m ≤ 67108864) (hk : k ≤ 1000000) : n + m ≤ maxLen ∧ (n + m) * k ≤ 140737488355328 := by
  have := Nat.mul_le_mul h hk
  unfold maxLen
  omega
end Go.Proofs.Ytpnlhnhjedopgaa
