/- AL, part 12: regions that draw their order: the text's order tells what every order does. No condition. -/
import Derived.Test.YtbckijeffiofdaaAL11
namespace Go.Proofs.Ytbckijeffiofdaa.AL
open Go Go.RowKit
set_option linter.unusedVariables false
set_option linter.unusedSimpArgs false

/-- Operations that do not look at the heap. -/
def pureK : Op → Bool
  | .move _ | .assign _ | .pick .. | .unOp .. | .extract .. | .field .. | .makeFunc .. | .convert .. => true
  | _ => false
/-- Operations that look at the heap only for whether an object is there. -/
def shapeK : Op → Bool
  | .indexAddr .. | .fieldAddr .. | .slice .. | .binOp .. => true
  | _ => false
def storeK : Op → Bool
  | .store .. => true
  | _ => false
/-- From the first that writes on, only stores. -/
def storesOnly (ops : Array Oper) (k : Nat) : Bool := (List.range ops.size).all fun j => decide (j < k) || match ops[j]? with
  | some o => pureK o.op || shapeK o.op || storeK o.op
  | none => true
def quiet (ops : Array Oper) (k : Nat) (op : Op) : Bool := pureK op || (storesOnly ops k && shapeK op)
def needs (o : Oper) : List Nat := (o.after.toList.filter fun e => Region.binds .any e).map (·.on)
def bitsL : List Oper → List Nat → List Nat
  | [], acc => acc
  | o :: r, acc => bitsL r (acc ++ [(needs o).foldl (fun s k => s ||| (2 ^ k ||| acc.getD k 0)) 0])
/-- What each waits for, as bits; checked: each bit is a need, or a bit of an earlier need's. -/
def upTo (B : List Nat) : List Nat → Nat
  | [] => 0
  | k :: r => (2 ^ k ||| B.getD k 0) ||| upTo B r
def okBits (ops : Array Oper) (B : List Nat) : Bool := (List.range ops.size).all fun j => match ops[j]? with
  | some o => (needs o).all (fun k => decide (k < j)) && ((B.getD j 0 ||| upTo B (needs o)) == upTo B (needs o))
  | none => false
def chk (ops : Array Oper) (B : List Nat) (k : Nat) : Bool := okBits ops B && (List.range ops.size).all fun j => (List.range j).all fun i => (B.getD j 0).testBit i ||
  match ops[i]?, ops[j]? with
  | some x, some y => x.apart ops y && (quiet ops k x.op || quiet ops k y.op || decide (j < k))
  | _, _ => false
theorem upTo_bit {B : List Nat} {i : Nat} : ∀ {ns : List Nat}, (upTo B ns).testBit i = true → ∃ k ∈ ns, k = i ∨ (B.getD k 0).testBit i = true
  | [], h => by simp [upTo] at h
  | k :: r, h => by
    unfold upTo at h
    rw [Nat.testBit_or, Nat.testBit_or, Bool.or_eq_true, Bool.or_eq_true] at h
    rcases h with (h | h) | h
    · rw [Nat.testBit_two_pow] at h
      exact ⟨k, .head _, .inl (by simpa using h)⟩
    · exact ⟨k, .head _, .inr h⟩
    · obtain ⟨m, hm, h⟩ := upTo_bit h
      exact ⟨m, .tail _ hm, h⟩

section
variable {P : Program} {nt : Nat} {ops : Array Oper} {B : List Nat} {k : Nat}
theorem okBits_at (h : okBits ops B = true) {j : Nat} {o : Oper} (ho : ops[j]? = some o) : (∀ d ∈ needs o, d < j) ∧ ∀ i, (B.getD j 0).testBit i = true → ∃ d ∈ needs o, d = i ∨ (B.getD d 0).testBit i = true := by
  have hj := (Array.getElem?_eq_some_iff.1 ho).1
  have h1 := List.all_eq_true.1 h j (List.mem_range.2 hj)
  simp only [ho, Bool.and_eq_true, beq_iff_eq] at h1
  refine ⟨fun d hd => by simpa using List.all_eq_true.1 h1.1 d hd, fun i hi => upTo_bit (B := B) ?_⟩
  rw [← h1.2, Nat.testBit_or, hi, Bool.true_or]
/-- A set that holds what each of it needs holds all that it waits for. -/
theorem closed_bits (h : okBits ops B = true) {X : Nat → Prop} (hX : ∀ j o, X j → ops[j]? = some o → ∀ d ∈ needs o, X d) : ∀ (j : Nat), X j → j < ops.size → ∀ i, (B.getD j 0).testBit i = true → X i := by
  intro j
  induction j using Nat.strongRecOn with
  | _ j ih =>
    intro hj hlt i hi
    have ho : ops[j]? = some ops[j] := Array.getElem?_eq_getElem hlt
    obtain ⟨h1, h2⟩ := okBits_at h ho
    obtain ⟨d, hd, h3⟩ := h2 i hi
    have hXd := hX j _ hj ho d hd
    rcases h3 with rfl | h3
    · exact hXd
    · exact ih d (h1 d hd) hXd (Nat.lt_trans (h1 d hd) hlt) i h3
theorem chk_pair (h : chk ops B k = true) {i j : Nat} {x y : Oper} (hij : i < j) (hx : ops[i]? = some x) (hy : ops[j]? = some y) (hb : (B.getD j 0).testBit i = false) : x.apart ops y = true ∧ (quiet ops k x.op = true ∨ quiet ops k y.op = true ∨ j < k) := by
  have hj := (Array.getElem?_eq_some_iff.1 hy).1
  unfold chk at h
  rw [Bool.and_eq_true] at h
  have h1 := List.all_eq_true.1 (List.all_eq_true.1 h.2 j (List.mem_range.2 hj)) i (List.mem_range.2 hij)
  simp only [hb, Bool.false_or, hx, hy, Bool.and_eq_true, Bool.or_eq_true, decide_eq_true_eq] at h1
  exact ⟨h1.1, by rcases h1.2 with (h | h) | h <;> simp [h]⟩

/-- The text's walk, with what is asked of the first k: they leave what was there. -/
def ARunD (P : Program) (nt : Nat) (ops : Array Oper) (k : Nat) (K : Env → AH → Prop) : Nat → List Oper → Env → AH → Prop
  | _, [], env, H => K env H
  | i, o :: r, env, H => if okDst nt o.dst = true ∧ okGuard ops env o = true then (if Region.wanted o (ayield ops env) then AStepD P o env H (fun v H' => (i < k → H <+: H') ∧ ARunD P nt ops k K (i + 1) r (aput env o.dst v) H') else ARunD P nt ops k K (i + 1) r (aput env o.dst undef) H) else False
/-- One operation of the walk. -/
def Step1 (P : Program) (nt : Nat) (ops : Array Oper) (k i : Nat) (env : Env) (H : AH) (v : Value) (H' : AH) : Prop :=
  ∃ o, ops[i]? = some o ∧ okDst nt o.dst = true ∧ okGuard ops env o = true ∧ ((Region.wanted o (ayield ops env) = true ∧ OpRes P env H o v H' ∧ (i < k → H <+: H')) ∨ (Region.wanted o (ayield ops env) = false ∧ v = undef ∧ H' = H))
def dstOf (ops : Array Oper) (i : Nat) : Option Tmp := (ops[i]?).bind (·.dst)
theorem trace_of {K : Env → AH → Prop} : ∀ (l : List Oper) (i0 : Nat) (env : Env) (H : AH), ops.toList.drop i0 = l → i0 + l.length = ops.size → ARunD P nt ops k K i0 l env H →
    ∃ (V : Nat → Value) (E : Nat → Env) (G : Nat → AH), E i0 = env ∧ G i0 = H ∧ K (E ops.size) (G ops.size) ∧ ∀ i, i0 ≤ i → i < ops.size → E (i + 1) = aput (E i) (dstOf ops i) (V i) ∧ Step1 P nt ops k i (E i) (G i) (V i) (G (i + 1))
  | [], i0, env, H, _, hl, h => ⟨fun _ => undef, fun _ => env, fun _ => H, rfl, rfl, h, fun i hi hlt => by simp at hl; omega⟩
  | o :: r, i0, env, H, hd, hl, h => by
    have ho : ops[i0]? = some o := by
      have : (ops.toList.drop i0)[0]? = some o := by rw [hd]; rfl
      rw [List.getElem?_drop, Nat.add_zero, Array.getElem?_toList] at this
      exact this
    have hd' : ops.toList.drop (i0 + 1) = r := by
      have := congrArg List.tail hd
      simpa [List.tail_drop] using this
    simp only [ARunD] at h
    split at h
    case isFalse => exact h.elim
    rename_i hok
    obtain ⟨v, H', hs, hrest⟩ : ∃ v H', Step1 P nt ops k i0 env H v H' ∧ ARunD P nt ops k K (i0 + 1) r (aput env o.dst v) H' := by
      split at h
      · rename_i hw
        unfold AStepD at h
        split at h
        · exact ⟨_, _, ⟨o, ho, hok.1, hok.2, .inl ⟨hw, .inl (by assumption), h.1⟩⟩, h.2⟩
        · obtain ⟨v, H', hc, h1, h2⟩ := h
          exact ⟨v, H', ⟨o, ho, hok.1, hok.2, .inl ⟨hw, .inr ⟨_, _, by assumption, hc⟩, h1⟩⟩, h2⟩
        · exact h.elim
      · rename_i hw
        exact ⟨undef, H, ⟨o, ho, hok.1, hok.2, .inr ⟨by simpa using hw, rfl, rfl⟩⟩, h⟩
    obtain ⟨V, E, G, h1, h2, h3, h4⟩ := trace_of r (i0 + 1) _ _ hd' (by simp at hl; omega) hrest
    have hsz : i0 < ops.size := by simp at hl; omega
    refine ⟨fun i => if i = i0 then v else V i, fun i => if i ≤ i0 then env else E i, fun i => if i ≤ i0 then H else G i, by simp, by simp, ?_, fun i hi hlt => ?_⟩
    · simp only [show ¬ (ops.size ≤ i0) by omega, if_false]; exact h3
    · by_cases e : i = i0
      · subst e
        simp only [Nat.le_refl, if_true, show ¬ (i + 1 ≤ i) by omega, if_false]
        rw [h1, h2]
        refine ⟨?_, hs⟩
        simp [dstOf, ho]
      · have := h4 i (by omega) hlt
        simp only [e, show ¬ (i + 1 ≤ i0) by omega, show ¬ (i ≤ i0) by omega, if_false]
        exact this

/-! ### What is known when a set of them has come up -/
def fold (ops : Array Oper) (V : Nat → Value) (X : Nat → Bool) (base : Env) : Nat → Env
  | 0 => base
  | m + 1 => if X m then aput (fold ops V X base m) (dstOf ops m) (V m) else fold ops V X base m
theorem aput_other {env : Env} {d : Option Tmp} {v : Value} {t : Tmp} (h : d ≠ some t) : aput env d v t = env t := by
  cases d with
  | none => rfl
  | some d =>
    simp only [aput]
    rw [if_neg (fun e => h (by rw [e]))]
theorem fold_congr {V : Nat → Value} {X Y : Nat → Bool} {base : Env} {t : Tmp} : ∀ m, (∀ j, j < m → dstOf ops j = some t → X j = Y j) → fold ops V X base m t = fold ops V Y base m t
  | 0, _ => rfl
  | m + 1, h => by
    have ih := fold_congr (V := V) (base := base) m (fun j hj => h j (by omega))
    simp only [fold]
    by_cases e : dstOf ops m = some t
    · rw [h m (by omega) e]
      split
      · rw [e]; simp [aput]
      · exact ih
    · split <;> split <;> simp [aput_other e, ih]
theorem fold_all {V : Nat → Value} {E : Nat → Env} {base : Env} (h0 : E 0 = base) (h : ∀ i, i < ops.size → E (i + 1) = aput (E i) (dstOf ops i) (V i)) : ∀ m, m ≤ ops.size → fold ops V (fun _ => true) base m = E m
  | 0, _ => h0.symm
  | m + 1, hm => by
    simp only [fold, if_true]
    rw [fold_all h0 h m (by omega), h m (by omega)]
theorem fold_stop {V : Nat → Value} {i : Nat} {base : Env} : ∀ m, i ≤ m → fold ops V (fun j => decide (j < i)) base m = fold ops V (fun _ => true) base i
  | 0, h => by
    have : i = 0 := by omega
    subst this
    rfl
  | m + 1, h => by
    by_cases e : i = m + 1
    · subst e
      have : ∀ q, q ≤ m + 1 → fold ops V (fun j => decide (j < m + 1)) base q = fold ops V (fun _ => true) base q := by
        intro q
        induction q with
        | zero => intro _; rfl
        | succ q ih =>
          intro hq
          simp only [fold, ih (by omega), decide_eq_true (show q < m + 1 by omega), if_true]
      exact this (m + 1) (Nat.le_refl _)
    · simp only [fold, decide_eq_false (show ¬ m < i by omega)]
      exact fold_stop m (by omega)

theorem pure_any {env : Env} {H H' : AH} {op : Op} {v : Value} (hp : pureK op = true) (h : aop P env H op = .val v H') : H' = H ∧ ∀ G, aop P env G op = .val v G := by
  unfold aop at h
  split at h
  all_goals first
    | (simp [pureK] at hp; done)
    | skip
  all_goals simp only [aop]
  · obtain ⟨hq, rfl⟩ := arOf_val h; exact ⟨rfl, fun G => by rw [hq]; rfl⟩
  · obtain ⟨hq, rfl⟩ := arOf_val h; exact ⟨rfl, fun G => by rw [hq]; rfl⟩
  · split at h
    · cases h
      exact ⟨rfl, fun G => rfl⟩
    · cases h
  · split at h
    · obtain ⟨hq, rfl⟩ := arOf_val h; exact ⟨rfl, fun G => by rw [hq]; rfl⟩
    · cases h
  · split at h
    · obtain ⟨hq, rfl⟩ := arOf_val h; exact ⟨rfl, fun G => by unfold aConvert at hq ⊢; rw [hq]; rfl⟩
    · cases h
  · split at h
    · split at h
      · cases h; rename_i hc; exact ⟨rfl, fun G => by rw [if_pos hc]⟩
      · cases h
    · cases h
  · split at h
    · obtain ⟨hq, rfl⟩ := arOf_val h; exact ⟨rfl, fun G => by rw [hq]; rfl⟩
    · cases h
  · split at h
    · obtain ⟨hq, rfl⟩ := arOf_val h; exact ⟨rfl, fun G => by rw [hq]; rfl⟩
    · cases h
theorem pure_not_call {env : Env} {H : AH} {op : Op} {f : FuncId} {args : List Value} (hp : pureK op = true) (h : aop P env H op = .call f args) : False := by
  unfold aop at h
  split at h
  all_goals first
    | (simp [pureK] at hp; done)
    | ((try simp only [arOf, arOf2] at h); (repeat' (split at h)) <;> cases h)

/-- All that is there is there, as old and as wide. -/
def SS (H G : AH) : Prop := ∀ (i : Nat) (o : AO), H[i]? = some o → ∃ o' : AO, G[i]? = some o' ∧ o'.gen = o.gen ∧ o'.sz = o.sz
theorem SS.refl (H : AH) : SS H H := fun i o h => ⟨o, h, rfl, rfl⟩
theorem SS.trans {H G K : AH} (a : SS H G) (b : SS G K) : SS H K := fun i o h => by
  obtain ⟨o1, h1, e1, e2⟩ := a i o h
  obtain ⟨o2, h2, e3, e4⟩ := b i o1 h1
  exact ⟨o2, h2, e3.trans e1, e4.trans e2⟩
theorem SS.alive {H G : AH} (a : SS H G) {i g : Nat} {o : AO} (h : alive H i g = some o) : ∃ o', AL.alive G i g = some o' ∧ o'.sz = o.sz := by
  obtain ⟨h1, h2⟩ := alive_some h
  obtain ⟨o', h3, h4, h5⟩ := a i o h1
  exact ⟨o', by simp [AL.alive, h3, h4, h2], h5⟩
theorem SS.index {H G : AH} (a : SS H G) {t : TypeId} {x ix v : Value} (h : aIndexAddr P H t x ix = some v) : aIndexAddr P G t x ix = some v := by
  unfold aIndexAddr at h ⊢
  split at h
  · rename_i i off g n c kk k
    cases ha : AL.alive H i g with
    | none => simp [ha] at h
    | some o =>
      obtain ⟨o', h1, h2⟩ := a.alive ha
      simp only [ha] at h
      simp only [h1]
      cases he : elemT P t with
      | none => simp only [he] at h; cases h
      | some e => simp only [he] at h ⊢; exact h
  · rename_i i off g kk k
    cases ha : AL.alive H i g with
    | none => simp [ha] at h
    | some o =>
      obtain ⟨o', h1, h2⟩ := a.alive ha
      simp only [ha] at h
      simp only [h1]
      cases he : P.underlying t with
      | none => simp only [he] at h; cases h
      | some e => cases e <;> simp only [he] at h ⊢ <;> first | exact h | cases h
  · cases h
theorem SS.field {H G : AH} (a : SS H G) {s : TypeId} {x v : Value} {f : Nat} (h : aFieldAddr P H s x f = some v) : aFieldAddr P G s x f = some v := by
  unfold aFieldAddr at h ⊢
  split at h
  · rename_i i off g
    cases ha : AL.alive H i g with
    | none => simp [ha] at h
    | some o =>
      obtain ⟨o', h1, h2⟩ := a.alive ha
      simp only [ha] at h
      simp only [h1]
      cases he : P.underlying s with
      | none => simp only [he] at h; cases h
      | some e => cases e <;> simp only [he] at h ⊢ <;> first | exact h | cases h
  · cases h
theorem SS.slice {H G : AH} (a : SS H G) {t : TypeId} {x v : Value} {lo hi mx : Option Value} (h : aSlice P H t x lo hi mx = some v) : aSlice P G t x lo hi mx = some v := by
  unfold aSlice at h ⊢
  split at h
  · exact h
  · exact h
  · rename_i i off g n c
    cases ha : AL.alive H i g with
    | none => simp [ha] at h
    | some o =>
      obtain ⟨o', h1, h2⟩ := a.alive ha
      simp only [ha] at h
      simp only [h1]
      cases he : elemT P t with
      | none => simp only [he] at h; cases h
      | some e =>
        cases hl : idxV lo 0 with
        | none => simp only [he, hl] at h; cases h
        | some l =>
          cases hh : idxV hi n with
          | none => simp only [he, hl, hh] at h; cases h
          | some r => simp only [he, hl, hh, h2] at h ⊢; exact h
  · cases h
theorem aBin_any {H G : AH} {op : BinOp} {t : TypeId} {x y : Value} : aBin P H op t x y = aBin P G op t x y := by
  unfold aBin
  rfl
theorem SS.aliveS {H G : AH} (a : SS H G) {v : Value} (h : AL.aliveS H v = true) : AL.aliveS G v = true := by
  unfold AL.aliveS at h ⊢
  split at h
  · rename_i i off g n c
    cases ha : AL.alive H i g with
    | none => rw [ha] at h; cases h
    | some o =>
      obtain ⟨o', h1, _⟩ := a.alive ha
      rw [h1]
      rfl
  · rfl
  · cases h
theorem SS.bin {H G : AH} (a : SS H G) {op : BinOp} {t : TypeId} {x y v : Value} (h : aBin' P H op t x y = some v) : aBin' P G op t x y = some v := by
  unfold aBin' at h ⊢
  split at h
  · split at h
    · rename_i hc
      rw [if_pos ⟨a.aliveS hc.1, a.aliveS hc.2⟩, ← aBin_any (H := H)]
      exact h
    · cases h
  · rw [← aBin_any (H := H)]
    exact h
theorem shape_any {env : Env} {H H' : AH} {op : Op} {v : Value} (hp : shapeK op = true) (h : aop P env H op = .val v H') : H' = H ∧ ∀ G, SS H G → aop P env G op = .val v G := by
  unfold aop at h
  split at h
  all_goals first
    | (simp [shapeK] at hp; done)
    | skip
  all_goals simp only [aop]
  · split at h
    · obtain ⟨hq, rfl⟩ := arOf_val h; exact ⟨rfl, fun G a => by rw [a.bin hq]; rfl⟩
    · cases h
  · split at h
    · obtain ⟨hq, rfl⟩ := arOf_val h; exact ⟨rfl, fun G a => by rw [a.slice hq]; rfl⟩
    · cases h
  · split at h
    · obtain ⟨hq, rfl⟩ := arOf_val h; exact ⟨rfl, fun G a => by rw [a.field hq]; rfl⟩
    · cases h
  · split at h
    · obtain ⟨hq, rfl⟩ := arOf_val h; exact ⟨rfl, fun G a => by rw [a.index hq]; rfl⟩
    · cases h
theorem shape_not_call {env : Env} {H : AH} {op : Op} {f : FuncId} {args : List Value} (hp : shapeK op = true) (h : aop P env H op = .call f args) : False := by
  unfold aop at h
  split at h
  all_goals first
    | (simp [shapeK] at hp; done)
    | ((try simp only [arOf, arOf2] at h); (repeat' (split at h)) <;> cases h)
theorem store_shape {env : Env} {H H' : AH} {op : Op} {v : Value} (hp : storeK op = true) (h : aop P env H op = .val v H') : SS H H' ∧ SS H' H := by
  unfold aop at h
  split at h
  all_goals first
    | (simp [storeK] at hp; done)
    | skip
  split at h
  · split at h
    · rename_i H1 hst
      cases h
      unfold aStore at hst
      split at hst
      · split at hst
        · rename_i i off g vv _ _ o n ha hs
          split at hst
          · cases hst
            obtain ⟨ho, hg⟩ := alive_some ha
            have hlt := (List.getElem?_eq_some_iff.1 ho).1
            refine ⟨fun j p hj => ?_, fun j p hj => ?_⟩
            · by_cases e : i = j
              · subst e
                rw [ho] at hj
                cases hj
                exact ⟨_, List.getElem?_set_self hlt, rfl, rfl⟩
              · exact ⟨p, by rw [List.getElem?_set_ne e]; exact hj, rfl, rfl⟩
            · by_cases e : i = j
              · subst e
                rw [List.getElem?_set_self hlt] at hj
                cases hj
                exact ⟨o, ho, rfl, rfl⟩
              · rw [List.getElem?_set_ne e] at hj
                exact ⟨p, hj, rfl, rfl⟩
          · cases hst
        · cases hst
      · cases hst
    · cases h
  · cases h
theorem store_not_call {env : Env} {H : AH} {op : Op} {f : FuncId} {args : List Value} (hp : storeK op = true) (h : aop P env H op = .call f args) : False := by
  unfold aop at h
  split at h
  all_goals first
    | (simp [storeK] at hp; done)
    | ((try simp only [arOf, arOf2] at h); (repeat' (split at h)) <;> cases h)
theorem quiet_same {env : Env} {H H' : AH} {op : Op} {v : Value} (hp : quiet ops k op = true) (h : aop P env H op = .val v H') : H' = H := by
  unfold quiet at hp
  rw [Bool.or_eq_true, Bool.and_eq_true] at hp
  rcases hp with hp | ⟨_, hp⟩
  · exact (pure_any hp h).1
  · exact (shape_any hp h).1
theorem quiet_not_call {env : Env} {H : AH} {op : Op} {f : FuncId} {args : List Value} (hp : quiet ops k op = true) (h : aop P env H op = .call f args) : False := by
  unfold quiet at hp
  rw [Bool.or_eq_true, Bool.and_eq_true] at hp
  rcases hp with hp | ⟨_, hp⟩
  · exact pure_not_call hp h
  · exact shape_not_call hp h

/-! ### Heaps with more behind them -/
theorem pre_get {H H' : AH} (h : H <+: H') {i : Nat} {o : AO} (ho : H[i]? = some o) : H'[i]? = some o := by
  obtain ⟨t, rfl⟩ := h
  rw [List.getElem?_append_left (List.getElem?_eq_some_iff.1 ho).1]
  exact ho
theorem pre_back {H H' : AH} (h : H <+: H') {i : Nat} (hi : i < H.length) : H[i]? = H'[i]? := by
  obtain ⟨t, rfl⟩ := h
  rw [List.getElem?_append_left hi]
theorem Rel.more {β : BM} {H H' : AH} {w : World} (R : Rel β H w) (h : H <+: H') : Rel β H' w where
  dom := fun i hi => R.dom i (Nat.le_trans h.length_le hi)
  loc := R.loc
  inj := R.inj
  obj := fun i o l ho hl => by
    have hi : i < H.length := by
      rcases Nat.lt_or_ge i H.length with h1 | h1
      · exact h1
      · rw [R.dom i h1] at hl; cases hl
    rw [← pre_back h hi] at ho
    exact R.obj i o l ho hl
theorem cut_some {n : Nat} {β : BM} {i : Nat} {l : Loc} (h : cut n β i = some l) : i < n ∧ β i = some l := by
  unfold cut at h
  split at h
  · exact ⟨by assumption, h⟩
  · cases h
theorem cut_lt {n : Nat} {β : BM} {i : Nat} (h : i < n) : cut n β i = β i := by simp [cut, h]
theorem T0.cut' {β : BM} {n : Nat} {v v' : Value} (t : T0 β v v') (h : R0' n v) : T0 (AL.cut n β) v v' := by
  cases t with
  | plain hp => exact .plain hp
  | ptr hl hg => exact .ptr ((cut_lt h).trans hl) hg
  | ptrOld hl hg => exact .ptrOld ((cut_lt h).trans hl) hg
  | sl hl hg hn hc ha => exact .sl ((cut_lt h).trans hl) hg hn hc ha
  | slOld hl hg => exact .slOld ((cut_lt h).trans hl) hg
theorem T1.cut {β : BM} {n : Nat} {v v' : Value} (t : T1 β v v') (h : R0 n v = true) : T1 (AL.cut n β) v v' := by
  cases t with
  | one t => exact .one (t.cut' (R0'_of h))
  | fn t =>
    refine .fn (All2.of_get t.length fun i x y hx hy => ?_)
    obtain ⟨y', hy', t1⟩ := t.get i x hx
    rw [hy] at hy'
    cases hy'
    simp only [AL.R0, List.all_toArray] at h
    exact t1.cut' (R0'_of (R00_to (List.all_eq_true.1 h x (List.mem_of_getElem? hx))))
theorem T2.cut {β : BM} {n : Nat} {v v' : Value} (t : T2 β v v') (h : R2 n v = true) : T2 (AL.cut n β) v v' := by
  cases t with
  | one t =>
    refine .one (t.cut ?_)
    unfold R2 at h
    split at h
    · cases t with
      | one t => cases t with
        | plain hp => simp [plainV] at hp
    · exact h
  | agg t =>
    refine .agg (All2.of_get t.length fun i x y hx hy => ?_)
    obtain ⟨y', hy', t1⟩ := t.get i x hx
    rw [hy] at hy'
    cases hy'
    simp only [R2, List.all_toArray] at h
    exact t1.cut (List.all_eq_true.1 h x (List.mem_of_getElem? hx))
theorem T3.cut {β : BM} {n : Nat} {v v' : Value} (t : T3 β v v') (h : R3 n v = true) : T3 (AL.cut n β) v v' := by
  cases t with
  | one t =>
    refine .one (t.cut ?_)
    unfold R3 at h
    split at h
    · cases t with
      | one t => cases t with
        | one t => cases t with
          | plain hp => simp [plainV] at hp
    · exact h
  | tup t =>
    refine .tup (All2.of_get t.length fun i x y hx hy => ?_)
    obtain ⟨y', hy', t1⟩ := t.get i x hx
    rw [hy] at hy'
    cases hy'
    simp only [R3, List.all_toArray] at h
    exact t1.cut (List.all_eq_true.1 h x (List.mem_of_getElem? hx))
theorem T0.sub {β β' : BM} (h : ∀ i l, β i = some l → β' i = some l) {v v' : Value} (t : T0 β v v') : T0 β' v v' := by
  cases t with
  | plain hp => exact .plain hp
  | ptr hl hg => exact .ptr (h _ _ hl) hg
  | ptrOld hl hg => exact .ptrOld (h _ _ hl) hg
  | sl hl hg hn hc ha => exact .sl (h _ _ hl) hg hn hc ha
  | slOld hl hg => exact .slOld (h _ _ hl) hg
theorem T1.sub {β β' : BM} (h : ∀ i l, β i = some l → β' i = some l) {v v' : Value} (t : T1 β v v') : T1 β' v v' := by
  cases t with
  | one t => exact .one (t.sub h)
  | fn t => exact .fn (t.imp fun _ _ t => t.sub h)
theorem T2.sub {β β' : BM} (h : ∀ i l, β i = some l → β' i = some l) {v v' : Value} (t : T2 β v v') : T2 β' v v' := by
  cases t with
  | one t => exact .one (t.sub h)
  | agg t => exact .agg (t.imp fun _ _ t => t.sub h)
theorem T3.sub {β β' : BM} (h : ∀ i l, β i = some l → β' i = some l) {v v' : Value} (t : T3 β v v') : T3 β' v v' := by
  cases t with
  | one t => exact .one (t.sub h)
  | tup t => exact .tup (t.imp fun _ _ t => t.sub h)
/-- What of a heap stood at an earlier moment. -/
theorem Rel.less {β : BM} {H H' : AH} {w : World} (R : Rel β H' w) (h : H <+: H') (hw : WF H) : Rel (cut H.length β) H w where
  dom := fun i hi => by simp [cut, Nat.not_lt.2 hi]
  loc := fun i l hl => R.loc i l (cut_some hl).2
  inj := fun i j l m hl hm => R.inj i j l m (cut_some hl).2 (cut_some hm).2
  obj := fun i o l ho hl => by
    obtain ⟨g1, g2, g3, g4, g5, g6⟩ := R.obj i o l (pre_get h ho) (cut_some hl).2
    refine ⟨g1, g2, g3, g4, fun j c hc => ?_, g6⟩
    obtain ⟨v, hv, t⟩ := g5 j c hc
    exact ⟨v, hv, t.cut (hw.cell ho (List.mem_of_getElem? hc))⟩
/-- An operation that came up early: what it made stands beside what others, later in the text, have made. -/
theorem Rel.beside {β γ : BM} {H H1 H' : AH} {w w' : World} (R : Rel β H' w) (h1 : H <+: H1) (h2 : H1 <+: H') (R1 : Rel γ H1 w') (E : Ext H.length (cut H.length β) w γ w') (hole : ∀ i, H.length ≤ i → i < H1.length → β i = none) :
    Rel (fun i => if i < H1.length then γ i else β i) H' w' ∧ (∀ N, N ≤ H.length → Ext N β w (fun i => if i < H1.length then γ i else β i) w') := by
  have EE : ∀ N, N ≤ H.length → Ext N β w (fun i => if i < H1.length then γ i else β i) w' := fun N hN => by
    refine ⟨E.os, E.tape, E.output, E.size, fun b hb hr => E.keep b hb fun i l hl he => hr i l (cut_some hl).2 he, fun i l hl => ?_, fun i hi hn => ?_, fun i l hl => ?_⟩
    · by_cases hi : i < H1.length
      · simp only [if_pos hi]
        by_cases hi' : i < H.length
        · exact E.mono i l ((cut_lt hi').trans hl)
        · rw [hole i (by omega) hi] at hl; cases hl
      · simp only [if_neg hi]
        exact ⟨l, hl, rfl, rfl, .inl rfl⟩
    · have hi' : i < H.length := by omega
      have := h1.length_le
      simp only [if_pos (show i < H1.length by omega)]
      exact E.hole i hi' ((cut_lt hi').trans hn)
    · by_cases hi : i < H1.length
      · simp only [if_pos hi] at hl
        rcases E.fresh i l hl with ⟨m, hm, e1, e2⟩ | hf
        · exact .inl ⟨m, (cut_some hm).2, e1, e2⟩
        · exact .inr hf
      · simp only [if_neg hi] at hl
        exact .inl ⟨l, hl, rfl, rfl⟩
  refine ⟨⟨fun i hi => ?_, fun i l hl => ?_, ?_, fun i o l ho hl => ?_⟩, EE⟩
  · have := h2.length_le
    simp only [if_neg (show ¬ i < H1.length by omega)]
    exact R.dom i hi
  · by_cases hi : i < H1.length
    · simp only [if_pos hi] at hl; exact R1.loc i l hl
    · simp only [if_neg hi] at hl; exact Nat.lt_of_lt_of_le (R.loc i l hl) E.size
  · have mixed : ∀ i j l m, i < H1.length → ¬ j < H1.length → γ i = some l → β j = some m → l.b = m.b → l.ro = true ∧ m.ro = true := by
      intro i j l m hi hj hl hm he
      rcases E.fresh i l hl with ⟨q, hq, e1, e2⟩ | hf
      · have := R.inj i j q m (cut_some hq).2 hm (by omega) (e1.trans he)
        rw [e2] at this
        exact this
      · have := R.loc j m hm
        omega
    intro i j l m hl hm hne he
    by_cases hi : i < H1.length <;> by_cases hj : j < H1.length
    · simp only [if_pos hi] at hl; simp only [if_pos hj] at hm; exact R1.inj i j l m hl hm hne he
    · simp only [if_pos hi] at hl; simp only [if_neg hj] at hm; exact mixed i j l m hi hj hl hm he
    · simp only [if_neg hi] at hl; simp only [if_pos hj] at hm; exact (mixed j i m l hj hi hm hl he.symm).symm
    · simp only [if_neg hi] at hl; simp only [if_neg hj] at hm; exact R.inj i j l m hl hm hne he
  · have E0 := EE 0 (Nat.zero_le _)
    by_cases hi : i < H1.length
    · simp only [if_pos hi] at hl
      rw [← pre_back h2 hi] at ho
      obtain ⟨g1, g2, g3, g4, g5, g6⟩ := R1.obj i o l ho hl
      refine ⟨g1, g2, g3, g4, fun j c hc => ?_, g6⟩
      obtain ⟨v, hv, t⟩ := g5 j c hc
      refine ⟨v, hv, ?_⟩
      have sub : ∀ i l, γ i = some l → (if i < H1.length then γ i else β i) = some l := fun q m hq => by
        have : q < H1.length := by
          rcases Nat.lt_or_ge q H1.length with h | h
          · exact h
          · rw [R1.dom q h] at hq; cases hq
        rw [if_pos this]; exact hq
      exact t.sub sub
    · simp only [if_neg hi] at hl
      obtain ⟨g1, g2, g3, g4, g5, g6⟩ := R.obj i o l ho hl
      have hb : w'.heap[l.b]? = w.heap[l.b]? := E.keep l.b (R.loc i l hl) fun q m hq he => (R.inj q i m l (cut_some hq).2 hl (fun e => hi (by have := (cut_some hq).1; have := h1.length_le; omega)) he).1
      refine ⟨g1, g2, g3, g4, fun j c hc => ?_, fun hr => ?_⟩
      · obtain ⟨v, hv, t⟩ := g5 j c hc
        exact ⟨v, (World.cell?_of_block (a := ⟨l.b, l.base + j, none⟩) hb).trans hv, t.ext E0⟩
      · obtain ⟨arr, ha1, ha2⟩ := g6 hr
        exact ⟨arr, hb.trans ha1, ha2⟩
end

end Go.Proofs.Ytbckijeffiofdaa.AL
