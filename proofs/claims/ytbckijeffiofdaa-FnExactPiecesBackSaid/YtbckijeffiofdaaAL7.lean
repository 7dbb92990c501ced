/- AL, part 7: scalars, builtins, and each operation's meaning. No condition. -/
import Derived.Test.YtbckijeffiofdaaAL6
namespace Go.Proofs.Ytbckijeffiofdaa.AL
open Go Go.RowKit
set_option linter.unusedVariables false
set_option linter.unusedSimpArgs false

section
variable {P : Program} {β : BM} {H : AH} {w : World}
theorem aBinI_sound {op : BinOp} {t : TypeId} {k : IntKind} {a b : Int} {v : Value} (hs : op ≠ .shl ∧ op ≠ .shr) (h : aBinI op k a b = some v) : (binOp op t (.int k a) (.int k b)).run P w = .ok v w ∧ plainV v = true := by
  cases op <;> simp [aBinI, aBits] at h hs <;> first | (subst h; refine ⟨?_, rfl⟩; simp [binOp, Op.intArith, Op.intDiv, Op.intBits, Op.intCmp]; done) | (obtain ⟨h0, h⟩ := h; subst h; refine ⟨?_, rfl⟩; simp [binOp, Op.intArith, Op.intDiv, Op.intBits, Op.intCmp, h0]; done)
theorem aBinS_sound {op : BinOp} {t : TypeId} {x y : ByteArray} {v : Value} (h : aBinS op x y = some v) : (binOp op t (.string x) (.string y)).run P w = .ok v w ∧ plainV v = true := by
  cases op <;> simp [aBinS] at h <;> first | (subst h; refine ⟨?_, rfl⟩; simp [binOp, Op.stringOp]; done) | (obtain ⟨h0, h⟩ := h; subst h; refine ⟨?_, rfl⟩; have h1 : ¬ ((9223372036854775807 : Int) < (x.size : Int) + y.size) := (by omega); simp [binOp, Op.stringOp, h1]; done)
theorem guard_pass {op : BinOp} {t : TypeId} {x y : Operand} {a b : Value} (h1 : a ≠ .nilIface ∨ b ≠ .nilIface) (h2 : (∀ c, a ≠ .agg c) ∨ (∀ c, b ≠ .agg c)) : (eqGuard op t x y a b).run P w = .ok () w := by
  unfold eqGuard
  by_cases h : op = .eql ∨ op = .neq
  · rcases h with rfl | rfl <;> simp <;> split <;> first | rfl | simp_all
  · cases op <;> first | exact absurd (.inl rfl) h | exact absurd (.inr rfl) h | rfl
theorem eqB_sound {op : BinOp} {t : TypeId} {a b : Value} {r : Bool} {v : Value} (h : eqB op r = some v) (hop : ∀ op', op' = BinOp.eql ∨ op' = .neq → binOp op' t a b = (match op' with | .eql => do pure (.bool (← Op.equal t a b)) | _ => do pure (.bool (!(← Op.equal t a b)))))
    (he : (Op.equal t a b).run P w = .ok r w) : (binOp op t a b).run P w = .ok v w ∧ plainV v = true := by
  unfold eqB at h
  split at h
  · cases h
    rw [hop _ (.inl rfl)]
    exact ⟨by simp [he], rfl⟩
  · cases h
    rw [hop _ (.inr rfl)]
    exact ⟨by simp [he], rfl⟩
  · cases h
theorem run_equalIn_bool {d : Nat} {t : TypeId} {a b : Bool} (h : P.underlying t = some .bool) : (Op.equalIn (d + 1) t (.bool a) (.bool b)).run P w = .ok (a == b) w := by
  simp [Op.equalIn, run_underlying h]
theorem run_equalIn_slice {d : Nat} {t e : TypeId} {a b : Option Addr} {n c n' c' : Nat} (h : P.underlying t = some (.slice e)) (hn : a = none ∨ b = none) : (Op.equalIn (d + 1) t (.slice a n c) (.slice b n' c')).run P w = .ok (a.isNone && b.isNone) w := by
  rcases hn with rfl | rfl
  · simp [Op.equalIn, run_underlying h]
  · cases a <;> simp [Op.equalIn, run_underlying h]
theorem T3.slice_some {a : Addr} {n c : Nat} {v' : Value} (t : T3 β (.slice (some a) n c) v') : ∃ a' n' c', v' = .slice a' n' c' := by
  rcases t with ((t | t) | t) | t
  rcases t with t | t | t | t | t
  · simp [plainV] at t
  · exact ⟨_, _, _, rfl⟩
  · exact ⟨_, _, _, rfl⟩
def aliveS (H : AH) : Value → Bool
  | .slice (some ⟨i, _, some g⟩) _ _ => (alive H i g).isSome
  | .slice none 0 0 => true
  | _ => false
def aBin' (P : Program) (H : AH) (op : BinOp) (t : TypeId) (x y : Value) : Option Value := match x, y with
  | .slice a n c, .slice b n' c' => if aliveS H (.slice a n c) = true ∧ aliveS H (.slice b n' c') = true then aBin P H op t (.slice a n c) (.slice b n' c') else none
  | x, y => aBin P H op t x y
theorem T3.slice_alive (R : Rel β H w) {a : Option Addr} {n c : Nat} {v' : Value} (t : T3 β (.slice a n c) v') (h : aliveS H (.slice a n c) = true) : ∃ a' n' c', v' = .slice a' n' c' ∧ a'.isNone = a.isNone := by
  unfold aliveS at h
  split at h
  · rename_i i off g n c hv
    cases hv
    obtain ⟨o, ho⟩ := Option.isSome_iff_exists.1 h
    obtain ⟨l, a, c', _, _, rfl, _⟩ := t.sl R ho
    exact ⟨_, _, _, rfl, rfl⟩
  · rename_i hv
    cases hv
    have := t.of_plain rfl
    subst this
    exact ⟨_, _, _, rfl, rfl⟩
  · cases h
theorem aBin_sound (R : Rel β H w) {op : BinOp} {t : TypeId} {x y x' y' v : Value} {ox oy : Operand} (h : aBin' P H op t x y = some v) (hx : T3 β x x') (hy : T3 β y y') :
    ((do eqGuard op t ox oy x' y'; binOp op t x' y' : Sem Value)).run P w = .ok v w ∧ plainV v = true := by
  unfold aBin' at h
  split at h
  · rename_i a n c b n' c'
    split at h
    case isFalse => cases h
    rename_i hal
    obtain ⟨a1, n1, c1, rfl, e1⟩ := hx.slice_alive R hal.1
    obtain ⟨a2, n2, c2, rfl, e2⟩ := hy.slice_alive R hal.2
    have hg : (eqGuard op t ox oy (.slice a1 n1 c1) (.slice a2 n2 c2)).run P w = .ok () w := guard_pass (.inl (by simp)) (.inl (by simp))
    have key : ∀ {r : Bool} {e : TypeId}, P.underlying t = some (.slice e) → (a = none ∨ b = none) → r = (a.isNone && b.isNone) → eqB op r = some v → (binOp op t (.slice a1 n1 c1) (.slice a2 n2 c2)).run P w = .ok v w ∧ plainV v = true := by
      intro r e hu hn hr hv
      refine eqB_sound hv (fun op' ho => by rcases ho with rfl | rfl <;> rfl) ?_
      have := run_equalIn_slice (P := P) (w := w) (d := 9999) (a := a1) (b := a2) (n := n1) (c := c1) (n' := n2) (c' := c2) hu (by rcases hn with rfl | rfl <;> simp_all)
      rw [hr, ← e1, ← e2]
      exact this
    rw [Sem.run_bind, hg, Result.andThen_ok]
    unfold aBin at h
    split at h <;> first | (cases h; done) | (rename_i hv1 hv2; cases hv1; cases hv2; split at h <;> first | (cases h; done) | (rename_i hu; exact key hu (by simp) (by simp) h)) | (rename_i hv1; cases hv1)
  · rename_i hns
    unfold aBin at h
    split at h
    · rename_i k a k' b
      have := hx.int
      subst this
      have := hy.int
      subst this
      have hg : (eqGuard op t ox oy (.int k a) (.int k' b)).run P w = .ok () w := guard_pass (.inl (by simp)) (.inl (by simp))
      rw [Sem.run_bind, hg, Result.andThen_ok]
      split at h
      · split at h
        · cases h
        · cases h
          rename_i hb
          exact ⟨by simp [binOp, Op.shift, hb], rfl⟩
      · split at h
        · cases h
        · cases h
          rename_i hb
          exact ⟨by simp [binOp, Op.shift, hb], rfl⟩
      · split at h
        · rename_i h1 h2 hk
          subst hk
          exact aBinI_sound ⟨h1, h2⟩ h
        · cases h
    · rename_i a b
      have := hx.string
      subst this
      have := hy.string
      subst this
      rw [Sem.run_bind, guard_pass (.inl (by simp)) (.inl (by simp)), Result.andThen_ok]
      exact aBinS_sound h
    · rename_i a b
      have := hx.bool
      subst this
      have := hy.bool
      subst this
      rw [Sem.run_bind, guard_pass (.inl (by simp)) (.inl (by simp)), Result.andThen_ok]
      split at h
      · rename_i hu
        exact eqB_sound h (fun op' ho => by rcases ho with rfl | rfl <;> rfl) (run_equalIn_bool (d := 9999) hu)
      · cases h
    · exact (hns _ _ _ _ _ _ rfl rfl).elim
    · exact (hns _ _ _ _ _ _ rfl rfl).elim
    · exact (hns _ _ _ _ _ _ rfl rfl).elim
    · cases h
def aUn (op : UnOp) (x : Value) : Option Value := match op, x with
  | .neg, .int k n => some (.int k (k.wrap (0 - n)))
  | .not, .bool b => some (.bool (!b))
  | _, _ => none
theorem aUn_sound {op : UnOp} {x x' v : Value} (h : aUn op x = some v) (hx : T3 β x x') : (Op.unary op x').run P w = .ok v w ∧ plainV v = true := by
  unfold aUn at h
  split at h
  · cases h
    have := hx.int
    subst this
    exact ⟨by simp [Op.unary, Op.intArith], rfl⟩
  · cases h
    have := hx.bool
    subst this
    exact ⟨by simp [Op.unary], rfl⟩
  · cases h
def bytesV : List Value → Option (List UInt8)
  | [] => some []
  | .int .u8 n :: r => (bytesV r).map fun l => UInt8.ofNat n.toNat :: l
  | _ :: _ => none
def aConvert (P : Program) (H : AH) (src dst : TypeId) (x : Value) : Option Value := match P.underlying src, P.underlying dst, x with
  | some _, some (.int k), .int _ n => some (.int k (k.wrap n))
  | some .string, some .string, .string s => some (.string s)
  | _, _, _ => none
theorem aConvert_sound (R : Rel β H w) {src dst : TypeId} {x x' v : Value} (h : aConvert P H src dst x = some v) (hx : T3 β x x') : (convert src dst x').run P w = .ok v w ∧ plainV v = true := by
  unfold aConvert at h
  split at h
  · rename_i d k k' n hs hd
    cases h
    have := hx.int
    subst this
    exact ⟨by simp [convert, run_underlying hs, run_underlying hd, Conv.intToInt], rfl⟩
  · rename_i s hs hd
    cases h
    have := hx.string
    subst this
    exact ⟨by simp [convert, run_underlying hs, run_underlying hd], rfl⟩
  · cases h

/-! ### Builtins -/
def aLen (P : Program) (H : AH) (t : TypeId) (x : Value) : Option Value := match P.underlying t, x with
  | some .string, .string s => some (.int .i64 s.size)
  | some (.slice _), .slice none 0 0 => some (.int .i64 0)
  | some (.slice _), .slice (some ⟨i, _, some g⟩) n _ => match alive H i g with
    | some _ => some (.int .i64 n)
    | none => none
  | _, _ => none
theorem aLen_sound (R : Rel β H w) {t ty : TypeId} {x x' v : Value} (h : aLen P H t x = some v) (hx : T3 β x x') : (Builtin.len_ #[t] ty #[x']).run P w = .ok v w ∧ plainV v = true := by
  unfold aLen at h
  split at h
  · rename_i s hu
    cases h
    have := hx.string
    subst this
    exact ⟨by simp [Builtin.len_, run_underlying hu, goInt], rfl⟩
  · rename_i e hu
    cases h
    have := hx.of_plain rfl
    subst this
    exact ⟨by simp [Builtin.len_, run_underlying hu, goInt], rfl⟩
  · rename_i e i off g n c hu
    split at h
    case h_2 => cases h
    rename_i o ha
    cases h
    obtain ⟨l, a, c', _, _, rfl, _⟩ := hx.sl R ha
    exact ⟨by simp [Builtin.len_, run_underlying hu, goInt], rfl⟩
  · cases h
def aMin (x y : Value) : Option Value := match x, y with
  | .int k a, .int _ b => some (.int k (if b < a then b else a))
  | _, _ => none
def aMax (x y : Value) : Option Value := match x, y with
  | .int k a, .int _ b => some (.int k (if b > a then b else a))
  | _, _ => none
theorem aMin_sound {ts : Array TypeId} {ty : TypeId} {x y x' y' v : Value} (h : aMin x y = some v) (hx : T3 β x x') (hy : T3 β y y') : (Builtin.min_ ts ty #[x', y']).run P w = .ok v w ∧ plainV v = true := by
  unfold aMin at h
  split at h
  · cases h
    have := hx.int
    subst this
    have := hy.int
    subst this
    exact ⟨by simp [Builtin.min_, Builtin.min2], rfl⟩
  · cases h
theorem aMax_sound {ts : Array TypeId} {ty : TypeId} {x y x' y' v : Value} (h : aMax x y = some v) (hx : T3 β x x') (hy : T3 β y y') : (Builtin.max_ ts ty #[x', y']).run P w = .ok v w ∧ plainV v = true := by
  unfold aMax at h
  split at h
  · cases h
    have := hx.int
    subst this
    have := hy.int
    subst this
    exact ⟨by simp [Builtin.max_, Builtin.max2], rfl⟩
  · cases h
end

end Go.Proofs.Ytbckijeffiofdaa.AL
