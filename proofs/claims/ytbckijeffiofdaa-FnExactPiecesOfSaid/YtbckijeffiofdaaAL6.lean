/- AL, part 6: slicing, addresses, fields, scalars. No condition. -/
import Derived.Test.YtbckijeffiofdaaAL5
namespace Go.Proofs.Ytbckijeffiofdaa.AL
open Go Go.RowKit
set_option linter.unusedVariables false
set_option linter.unusedSimpArgs false

section
variable {P : Program} {β : BM} {H : AH} {w : World}
def optRel (β : BM) (x x' : Option Value) : Prop := match x, x' with
  | none, none => True
  | some v, some v' => T3 β v v'
  | _, _ => False
theorem idx_rel {x x' : Option Value} {d n : Nat} (h : idxV x d = some n) (hx : optRel β x x') : (x' = none ∧ x = none ∧ n = d) ∨ (x' = some (.int .i64 (n : Int)) ∧ x = some (.int .i64 (n : Int))) := by
  refine idxV_some (β := β) h (fun v hv => ?_) (fun hn => ?_)
  · subst hv
    cases x' with
    | none => exact hx.elim
    | some v' => exact ⟨v', rfl, hx⟩
  · subst hn
    cases x' with
    | none => rfl
    | some v' => exact hx.elim
theorem run_bounds {b : Bool} {len cap l h m : Nat} {lo' hi' mx' : Option Value} (hl : (lo' = none ∧ l = 0) ∨ lo' = some (.int .i64 (l : Int))) (hh : (hi' = none ∧ h = len ∧ mx' = none) ∨ hi' = some (.int .i64 (h : Int)))
    (hm : (mx' = none ∧ m = cap) ∨ mx' = some (.int .i64 (m : Int))) (h1 : l ≤ h) (h2 : h ≤ m) (h3 : m ≤ cap) : (Instr.sliceBounds b len cap lo' hi' mx').run P w = .ok (l, h, m) w := by
  rcases hl with ⟨rfl, rfl⟩ | rfl <;> rcases hh with ⟨rfl, rfl, rfl⟩ | rfl <;> rcases hm with ⟨e, rfl⟩ | e
  all_goals first | (cases e; done) | skip
  all_goals (try subst e)
  all_goals unfold Instr.sliceBounds
  all_goals simp only [Sem.run_bind, Sem.run_pure, Result.andThen_ok, run_bound rfl h1, run_bound rfl h2, run_bound rfl h3, run_bound rfl (Nat.le_trans h2 h3)]
theorem slice_addr {a : Addr} {l : Loc} {off k c' sz m : Nat} (hsz : l.sz = sz) (ha : c' = 0 ∨ (a = ⟨l.b, l.base + off, none⟩ ∧ l.base + off + c' * l.sz ≤ l.fin)) (hk : k ≤ m) (hm : m ≤ c') :
    ∃ a', (if m = k then some a else some (a.add (k * sz))) = some a' ∧ (m - k = 0 ∨ (a' = ⟨l.b, l.base + (off + k * sz), none⟩ ∧ l.base + (off + k * sz) + (m - k) * l.sz ≤ l.fin)) := by
  by_cases e : m = k
  · subst e
    exact ⟨a, by simp, .inl (by omega)⟩
  · rcases ha with h0 | ⟨rfl, hf⟩
    · omega
    · refine ⟨_, by rw [if_neg e], .inr ⟨?_, ?_⟩⟩
      · rw [add_lit, Nat.add_assoc]
      · subst hsz
        have h1 : k * l.sz + (m - k) * l.sz = m * l.sz := by rw [← Nat.add_mul]; congr 1; omega
        have h2 : m * l.sz ≤ c' * l.sz := Nat.mul_le_mul_right _ hm
        omega
theorem aSlice_sound (R : Rel β H w) {t : TypeId} {x x' v : Value} {lo hi mx lo' hi' mx' : Option Value} (h : aSlice P H t x lo hi mx = some v) (hx : T3 β x x') (h1 : optRel β lo lo') (h2 : optRel β hi hi') (h3 : optRel β mx mx') :
    ∃ v', (Instr.sliceAt t x' lo' hi' mx').run P w = .ok v' w ∧ T3 β v v' := by
  unfold aSlice at h
  split at h
  · rename_i s
    have := hx.string
    subst this
    split at h
    case h_2 => cases h
    rename_i l n hu hl hn
    split at h
    case isFalse => cases h
    rename_i hc
    cases h
    have e3 : mx' = none := by
      cases mx' with
      | none => rfl
      | some y => exact h3.elim
    subst e3
    refine ⟨_, ?_, .plain rfl⟩
    have hle : ∀ {a b : Nat}, a ≤ b → (a : Int) ≤ (b : Int) := fun h => by omega
    have hb := run_bounds (P := P) (w := w) (b := false) (len := s.size) (cap := s.size) (m := s.size) (mx' := none) ((idx_rel hl h1).imp (fun h => ⟨h.1, h.2.2⟩) (·.1)) ((idx_rel hn h2).imp (fun h => ⟨h.1, h.2.2, rfl⟩) (·.1)) (.inl ⟨rfl, rfl⟩) hc.1 hc.2 (Nat.le_refl _)
    simp [Instr.sliceAt, run_underlying hu, Instr.slice, hb]
  · have := hx.of_plain rfl
    subst this
    split at h
    case h_2 => cases h
    rename_i e he hl hn
    split at h
    case h_2 => cases h
    rename_i size hs
    cases h
    have hu := elemT_some he
    have e3 : mx' = none := by
      cases mx' with
      | none => rfl
      | some y => exact h3.elim
    subst e3
    refine ⟨_, ?_, .plain rfl⟩
    have hb := run_bounds (P := P) (w := w) (b := true) (len := 0) (cap := 0) (m := 0) (mx' := none) ((idx_rel hl h1).imp (fun h => ⟨h.1, h.2.2⟩) (·.1)) ((idx_rel hn h2).imp (fun h => ⟨h.1, h.2.2, rfl⟩) (·.1)) (.inl ⟨rfl, rfl⟩) (Nat.le_refl _) (Nat.le_refl _) (Nat.le_refl _)
    simp [Instr.sliceAt, run_underlying hu, Instr.slice, hb, run_sizeOf hs]
  · rename_i si off g n c
    split at h
    case h_2 => cases h
    rename_i o e l h' ha he hl hn
    have hu := elemT_some he
    obtain ⟨ho, hg⟩ := alive_some ha
    obtain ⟨lc, a, c', hlc, hlg, rfl, hnc, hcx, hadr⟩ := hx.sl R ha
    split at h
    case h_2 => cases h
    rename_i size hs
    split at h
    case isFalse => cases h
    rename_i hc
    obtain ⟨hosz, hlh, hhn⟩ := hc
    have hsz : lc.sz = size := by rw [(R.obj _ _ _ ho hlc).2.1, hosz]
    have hle : ∀ {a b : Nat}, a ≤ b → (a : Int) ≤ (b : Int) := fun h => by omega
    split at h
    · cases h
      have e3 : mx' = none := by
        cases mx' with
        | none => rfl
        | some y => exact h3.elim
      subst e3
      obtain ⟨a', ha', hadr'⟩ := slice_addr (k := l) (m := c') hsz hadr (by omega) (Nat.le_refl _)
      refine ⟨.slice (some a') (h' - l) (c' - l), ?_, T3.slice_of hlc hlg (by omega) (fun hh => ?_) hadr'⟩
      · have hb := run_bounds (P := P) (w := w) (b := true) (len := n) (cap := c') (m := c') (mx' := none) ((idx_rel hl h1).imp (fun h => ⟨h.1, h.2.2⟩) (·.1)) ((idx_rel hn h2).imp (fun h => ⟨h.1, h.2.2, rfl⟩) (·.1)) (.inl ⟨rfl, rfl⟩) hlh (by omega) (Nat.le_refl _)
        simp [Instr.sliceAt, run_underlying hu, Instr.slice, hb, run_sizeOf hs]
        simpa using ha'
      · split at hh
        · rename_i hcc
          have := hcx hcc.1
          omega
        · omega
    · rename_i m
      split at h
      case isFalse => cases h
      rename_i hm
      cases h
      obtain ⟨q, rfl⟩ : ∃ q : Nat, m = (q : Int) := Int.eq_ofNat_of_zero_le (by omega)
      cases mx' with
      | none => exact h3.elim
      | some y =>
        have := T3.int h3
        subst this
        obtain ⟨a', ha', hadr'⟩ := slice_addr (k := l) (m := q) hsz hadr (by omega) (by omega)
        refine ⟨.slice (some a') (h' - l) (q - l), ?_, T3.slice_of hlc hlg (by omega) (fun hh => ?_) hadr'⟩
        · have hb := run_bounds (P := P) (w := w) (b := true) (len := n) (cap := c') (m := q) (mx' := some (.int .i64 (q : Int))) ((idx_rel hl h1).imp (fun h => ⟨h.1, h.2.2⟩) (·.1)) (Or.inr (by
            rcases idx_rel hn h2 with ⟨_, e, _⟩ | ⟨e, _⟩
            · subst e; simp at hm
            · exact e)) (.inr rfl) hlh (by omega) (by omega)
          simp [Instr.sliceAt, run_underlying hu, Instr.slice, hb, run_sizeOf hs]
          simpa using ha'
        · split at hh
          · rename_i hcc
            simp at hcc
            omega
          · omega
    · cases h
  · cases h
def aIndexAddr (P : Program) (H : AH) (t : TypeId) (x ix : Value) : Option Value := match x, ix with
  | .slice (some ⟨i, off, some g⟩) n _, .int _ k => match alive H i g, elemT P t with
    | some _, some e => match sizeT P e with
      | some size => if 0 ≤ k ∧ k < n then some (.pointer (some ⟨i, off + k.toNat * size, some g⟩)) else none
      | none => none
    | _, _ => none
  | .pointer (some ⟨i, off, some g⟩), .int _ k => match alive H i g, P.underlying t with
    | some _, some (.array n e) => match sizeT P e with
      | some size => if 0 ≤ k ∧ k < n then some (.pointer (some ⟨i, off + k.toNat * size, some g⟩)) else none
      | none => none
    | _, _ => none
  | _, _ => none
theorem T3.ptr_of {i off g : Nat} {l : Loc} (hl : β i = some l) (hg : l.gen = g) : T3 β (.pointer (some ⟨i, off, some g⟩)) (.pointer (some ⟨l.b, l.base + off, none⟩)) := .one (.one (.one (.ptr hl hg)))
theorem aIndexAddr_sound (R : Rel β H w) {t : TypeId} {x x' ix ix' v : Value} (h : aIndexAddr P H t x ix = some v) (hx : T3 β x x') (hi : T3 β ix ix') :
    ∃ v', (Instr.indexAt t x' ix').run P w = .ok v' w ∧ T3 β v v' := by
  unfold aIndexAddr at h
  split at h
  · rename_i i off g n c k' k
    have := hi.int
    subst this
    split at h
    case h_2 => cases h
    rename_i o e ha he
    have hu := elemT_some he
    obtain ⟨l, a, c', hl, hlg, rfl, hnc, hcx, hadr⟩ := hx.sl R ha
    split at h
    case h_2 => cases h
    rename_i size hs
    split at h
    case isFalse => cases h
    rename_i hc
    cases h
    rcases hadr with h0 | ⟨rfl, _⟩
    · omega
    · refine ⟨_, ?_, T3.ptr_of hl hlg⟩
      simp [Instr.indexAt, asIntOf, run_underlying hu, hc.1, hc.2, run_sizeOf hs, add_lit, Nat.add_assoc]
  · rename_i i off g k' k
    have := hi.int
    subst this
    split at h
    case h_2 => cases h
    rename_i o n e ha hu
    obtain ⟨l, hl, hlg, rfl⟩ := hx.ptr R ha
    split at h
    case h_2 => cases h
    rename_i size hs
    split at h
    case isFalse => cases h
    rename_i hc
    cases h
    refine ⟨_, ?_, T3.ptr_of hl hlg⟩
    simp [Instr.indexAt, asIntOf, run_underlying hu, Instr.sureAddr, hc.1, hc.2, run_sizeOf hs, add_lit, Nat.add_assoc]
  · cases h
def aFieldAddr (P : Program) (H : AH) (s : TypeId) (x : Value) (f : Nat) : Option Value := match x with
  | .pointer (some ⟨i, off, some g⟩) => match alive H i g, P.underlying s with
    | some _, some (.struct fields) => match fields[f]? with
      | some fl => match sizeT P fl.type with
        | some (n + 1) => some (.pointer (some ⟨i, off + fl.offset, some g⟩))
        | _ => none
      | none => none
    | _, _ => none
  | _ => none
theorem aFieldAddr_sound (R : Rel β H w) {s : TypeId} {x x' v : Value} {f : Nat} (h : aFieldAddr P H s x f = some v) (hx : T3 β x x') :
    ∃ v', (Instr.fieldAt s x' f).run P w = .ok v' w ∧ T3 β v v' := by
  unfold aFieldAddr at h
  split at h
  · rename_i i off g
    split at h
    case h_2 => cases h
    rename_i o fields ha hu
    obtain ⟨l, hl, hlg, rfl⟩ := hx.ptr R ha
    split at h
    case h_2 => cases h
    rename_i fl hf
    split at h
    case h_2 => cases h
    rename_i n hs
    cases h
    refine ⟨_, ?_, T3.ptr_of hl hlg⟩
    simp [Instr.fieldAt, run_underlying hu, hf, Instr.sureAddr, fieldPlace, run_sizeOf hs, add_lit, Nat.add_assoc]
  · cases h
def aPart (P : Program) (t : TypeId) (cs : List Value) (off : Nat) : Option Value := match aggT P t, sizeT P t with
  | some true, some n => if off + n ≤ cs.length then some (.agg ((cs.drop off).take n).toArray) else none
  | some false, some _ => cs[off]?
  | _, _ => none
theorem aPart_sound {t : TypeId} {cs cs' : Array Value} {off : Nat} {v : Value} (h : aPart P t cs.toList off = some v) (hc : All2 (T1 β) cs.toList cs'.toList) : ∃ v', (part t cs' off).run P w = .ok v' w ∧ T2 β v v' := by
  unfold aPart at h
  split at h
  · rename_i n hb hs
    split at h
    case isFalse => cases h
    rename_i hle
    cases h
    refine ⟨.agg (cs'.extract off (off + n)), ?_, ?_⟩
    · simp [part, run_isAgg hb, run_sizeOf hs]
    · have := (hc.drop off).take n
      have e : cs'.extract off (off + n) = ((cs'.toList.drop off).take n).toArray := by
        apply Array.ext'
        simp [List.drop_take]
      rw [e]
      exact .agg this
  · rename_i n hb hs
    obtain ⟨v', hv, t1⟩ := hc.get _ _ h
    rw [Array.getElem?_toList] at hv
    refine ⟨v', ?_, .one t1⟩
    simp [part, run_isAgg hb, hv]
  · cases h
def aField (P : Program) (t : TypeId) (x : Value) (f : Nat) : Option Value := match x, P.underlying t with
  | .agg cs, some (.struct fields) => match fields[f]? with
    | some fl => aPart P fl.type cs.toList fl.offset
    | none => none
  | _, _ => none
theorem aField_sound {t : TypeId} {x x' v : Value} {f : Nat} (h : aField P t x f = some v) (hx : T3 β x x') : ∃ v', (Instr.field t x' f).run P w = .ok v' w ∧ T3 β v v' := by
  unfold aField at h
  split at h
  · rename_i cs fields hu
    split at h
    case h_2 => cases h
    rename_i fl hf
    obtain ⟨cs', rfl, hc⟩ := hx.agg
    obtain ⟨v', h1, h2⟩ := aPart_sound (w := w) h hc
    exact ⟨v', by simp [Instr.field, run_underlying hu, hf, asAgg, h1], .one h2⟩
  · cases h
def aIndex (P : Program) (t : TypeId) (x ix : Value) : Option Value := match x, ix with
  | .string s, .int _ k => match P.underlying t with
    | some .string => if 0 ≤ k then (s.data[k.toNat]?).map fun b => .int .u8 b.toNat else none
    | _ => none
  | .agg cs, .int _ k => match P.underlying t with
    | some (.array n e) => match sizeT P e with
      | some size => if 0 ≤ k ∧ k < n then aPart P e cs.toList (k.toNat * size) else none
      | none => none
    | _ => none
  | _, _ => none
theorem aIndex_sound {t : TypeId} {x x' ix ix' v : Value} (h : aIndex P t x ix = some v) (hx : T3 β x x') (hi : T3 β ix ix') : ∃ v', (Instr.index t x' ix').run P w = .ok v' w ∧ T3 β v v' := by
  unfold aIndex at h
  split at h
  · rename_i s k' k
    have := hi.int
    subst this
    have := hx.string
    subst this
    split at h
    case h_2 => cases h
    rename_i hu
    split at h
    case isFalse => cases h
    rename_i h0
    obtain ⟨b, hb, rfl⟩ := Option.map_eq_some_iff.1 h
    refine ⟨_, ?_, .plain rfl⟩
    have hb' : s[k.toNat]? = some b := by
      have h1 := (Array.getElem?_eq_some_iff.1 hb)
      obtain ⟨h2, h3⟩ := h1
      have : k.toNat < s.size := h2
      rw [getElem?_pos s k.toNat this]
      exact congrArg some h3
    simp [Instr.index, asIntOf, run_underlying hu, h0, hb']
  · rename_i cs k' k
    have := hi.int
    subst this
    obtain ⟨cs', rfl, hc⟩ := hx.agg
    split at h
    case h_2 => cases h
    rename_i n e hu
    split at h
    case h_2 => cases h
    rename_i size hs
    split at h
    case isFalse => cases h
    rename_i h0
    obtain ⟨v', h1, h2⟩ := aPart_sound (w := w) h hc
    exact ⟨v', by simp [Instr.index, asIntOf, run_underlying hu, h0.1, h0.2, run_sizeOf hs, h1], .one h2⟩
  · cases h
def aExtract (x : Value) (i : Nat) : Option Value := match x with
  | .tuple vs => vs[i]?
  | _ => none
theorem aExtract_sound {x x' v : Value} {i : Nat} (h : aExtract x i = some v) (hx : T3 β x x') : ∃ v', (Instr.extract x' i).run P w = .ok v' w ∧ T3 β v v' := by
  unfold aExtract at h
  split at h
  · rename_i vs
    obtain ⟨vs', rfl, hc⟩ := hx.tuple
    obtain ⟨v', hv, t⟩ := hc.get i v (by rw [Array.getElem?_toList]; exact h)
    rw [Array.getElem?_toList] at hv
    exact ⟨v', by simp [Instr.extract, hv], .one t⟩
  · cases h

/-! ### Scalars -/
def aBits (op : BinOp) (k : IntKind) (x y : Int) : Option Value :=
  let a := BitVec.ofInt k.bits x
  let b := BitVec.ofInt k.bits y
  match op with
  | .and => some (.int k (k.wrap (a &&& b).toNat))
  | .or => some (.int k (k.wrap (a ||| b).toNat))
  | .xor => some (.int k (k.wrap (a ^^^ b).toNat))
  | .andNot => some (.int k (k.wrap (a &&& ~~~b).toNat))
  | _ => none
def aBinI (op : BinOp) (k : IntKind) (a b : Int) : Option Value := match op with
  | .add => some (.int k (k.wrap (a + b)))
  | .sub => some (.int k (k.wrap (a - b)))
  | .mul => some (.int k (k.wrap (a * b)))
  | .quo => if b = 0 then none else some (.int k (k.wrap (a.tdiv b)))
  | .rem => if b = 0 then none else some (.int k (a.tmod b))
  | .eql => some (.bool (a == b))
  | .neq => some (.bool (a != b))
  | .lss => some (.bool (decide (a < b)))
  | .leq => some (.bool (decide (a ≤ b)))
  | .gtr => some (.bool (decide (a > b)))
  | .geq => some (.bool (decide (a ≥ b)))
  | op => aBits op k a b
def aBinS (op : BinOp) (x y : ByteArray) : Option Value := match op with
  | .add => if x.size + y.size ≤ 9223372036854775807 then some (.string (x ++ y)) else none
  | .eql => some (.bool (x.toList == y.toList))
  | .neq => some (.bool (!(x.toList == y.toList)))
  | .lss => some (.bool (Op.bytesLess x.toList y.toList))
  | .leq => some (.bool (Op.bytesLess x.toList y.toList || x.toList == y.toList))
  | .gtr => some (.bool (!(Op.bytesLess x.toList y.toList || x.toList == y.toList)))
  | .geq => some (.bool (!(Op.bytesLess x.toList y.toList)))
  | _ => none
def eqB (op : BinOp) (b : Bool) : Option Value := match op with
  | .eql => some (.bool b)
  | .neq => some (.bool (!b))
  | _ => none
def aBin (P : Program) (H : AH) (op : BinOp) (t : TypeId) (x y : Value) : Option Value := match x, y with
  | .int k a, .int k' b => match op with
    | .shl => if b < 0 then none else some (.int k (k.wrap (a * 2 ^ (min b.toNat k.bits))))
    | .shr => if b < 0 then none else some (.int k (a.fdiv (2 ^ (min b.toNat k.bits))))
    | op => if k = k' then aBinI op k a b else none
  | .string a, .string b => aBinS op a b
  | .bool a, .bool b => match P.underlying t with
    | some .bool => eqB op (a == b)
    | _ => none
  | .slice none 0 0, .slice none 0 0 => match P.underlying t with
    | some (.slice _) => eqB op true
    | _ => none
  | .slice (some _) _ _, .slice none 0 0 => match P.underlying t with
    | some (.slice _) => eqB op false
    | _ => none
  | .slice none 0 0, .slice (some _) _ _ => match P.underlying t with
    | some (.slice _) => eqB op false
    | _ => none
  | _, _ => none
end

end Go.Proofs.Ytbckijeffiofdaa.AL
