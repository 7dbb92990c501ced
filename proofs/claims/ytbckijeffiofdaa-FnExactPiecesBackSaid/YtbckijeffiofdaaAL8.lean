/- AL, part 8: what each operation means on the abstract heap, and that it is so in every real world. No condition. -/
import Derived.Test.YtbckijeffiofdaaAL75
import Derived.Test.YtbckijeffiofdaaAL55
namespace Go.Proofs.Ytbckijeffiofdaa.AL
open Go Go.RowKit
set_option linter.unusedVariables false
set_option linter.unusedSimpArgs false

def aops (env : Env) : List Operand → Option (List Value)
  | [] => some []
  | x :: r => match aev env x, aops env r with
    | some v, some vs => some (v :: vs)
    | _, _ => none
def aparts (env : Env) : List (Nat × Operand) → Option (List (Nat × Value))
  | [] => some []
  | (i, x) :: r => match aev env x, aparts env r with
    | some v, some vs => some ((i, v) :: vs)
    | _, _ => none
def aopt (env : Env) : Option Operand → Option (Option Value)
  | none => some none
  | some x => (aev env x).map some
def flatV : Value → Bool
  | .pointer (some _) | .slice (some _) _ _ => true
  | v => plainV v
def arOf (H : AH) : Option Value → AR
  | some v => .val v H
  | none => .bad
def arOf2 : Option (Value × AH) → AR
  | some (v, H) => .val v H
  | none => .bad
def aBuiltin (P : Program) (H : AH) (b : Builtin) (ts : List TypeId) (args : List Value) : AR := match b, ts, args with
  | .len, [t], [x] => arOf H (aLen P H t x)
  | .append, [t, t2], [s, x] => arOf2 ((aAppend P H t t2 s x).orElse fun _ => aApM P H t t2 s x)
  | .cap, [t], [x] => arOf H (aCap P t x)
  | .min, _, [x, y] => arOf H (aMin x y)
  | .max, _, [x, y] => arOf H (aMax x y)
  | .copy, [t, t2], [d, s] => arOf2 (aCopy P H t d s)
  | _, _, _ => .bad
def aNil (H : AH) : Value → AR
  | .pointer (some ⟨i, off, some g⟩) => if (alive H i g).isSome then .val (.pointer (some ⟨i, off, some g⟩)) H else .bad
  | .func (.func f) a cs => if a.isEmpty then .val (.func (.func f) a cs) H else .bad
  | _ => .bad
def aCallee (H : AH) (f : Value) (args : List Value) : AR := match f with
  | .func (.func g) a cs => if a.isEmpty ∧ args.all (fun v => !isTup v) = true then .call g (args ++ cs.toList) else .bad
  | _ => .bad
def aop (P : Program) (env : Env) (H : AH) : Op → AR
  | .move x => arOf H (aev env x)
  | .assign x => arOf H (aev env x)
  | .pick c a b => match aev env c, aev env a, aev env b with
    | some (.bool t), some va, some vb => .val (if t then va else vb) H
    | _, _, _ => .bad
  | .alloc t => match aAlloc P H t with
    | some H' => .val (ptrAt H.length 0 0) H'
    | none => .bad
  | .box t x => match aev env x with
    | some v => if isTup v then .bad else .val (ptrAt H.length 0 0) (aNew H v.cells.toList t 1)
    | none => .bad
  | .build t parts => match aparts env parts.toList with
    | some ps => arOf H (aBuild P t ps)
    | none => .bad
  | .buildSlice t len parts => match aparts env parts.toList with
    | some ps => arOf2 (aBuildSlice P H t len ps)
    | none => .bad
  | .load t x => match aev env x with
    | some p => arOf H (aLoad P H t p)
    | none => .bad
  | .store t x y => match aev env x, aev env y with
    | some p, some v => match aStore P H t p v with
      | some H' => .val undef H'
      | none => .bad
    | _, _ => .bad
  | .nilCheck x => match aev env x with
    | some v => aNil H v
    | none => .bad
  | .binOp op t x y _ => match aev env x, aev env y with
    | some a, some b => arOf H (aBin' P H op t a b)
    | _, _ => .bad
  | .unOp op _ x => match aev env x with
    | some a => arOf H (aUn op a)
    | none => .bad
  | .convert s d x => match aev env x with
    | some a => arOf H (aConvert P H s d a)
    | none => .bad
  | .makeFunc fn first caps => match aops env caps.toList with
    | some vs => if first.isEmpty ∧ vs.all flatV = true then .val (.func fn #[] vs.toArray) H else .bad
    | none => .bad
  | .makeSlice t l c => match aev env l, aev env c with
    | some a, some b => arOf2 (aMake P H t a b)
    | _, _ => .bad
  | .slice t x lo hi mx => match aev env x, aopt env lo, aopt env hi, aopt env mx with
    | some v, some l, some h, some m => arOf H (aSlice P H t v l h m)
    | _, _, _, _ => .bad
  | .fieldAddr s x f => match aev env x with
    | some v => arOf H (aFieldAddr P H s v f)
    | none => .bad
  | .field t x f => match aev env x with
    | some v => arOf H (aField P t v f)
    | none => .bad
  | .indexAddr t x ix => match aev env x, aev env ix with
    | some v, some i => arOf H (aIndexAddr P H t v i)
    | _, _ => .bad
  | .index t x ix => match aev env x, aev env ix with
    | some v, some i => arOf H (aIndex P t v i)
    | _, _ => .bad
  | .extract x i => match aev env x with
    | some v => arOf H (aExtract v i)
    | none => .bad
  | .call c => match c.callee with
    | .builtin b => match aops env c.args.toList with
      | some vs => aBuiltin P H b c.argTypes.toList vs
      | none => .bad
    | .value f => match aev env f, aops env c.args.toList with
      | some v, some vs => aCallee H v vs
      | _, _ => .bad
    | .invoke _ _ => .bad
  | _ => .bad

section
variable {P : Program} {β : BM} {H H' : AH} {w : World} {env : Env} {a : Act}
/-- What is known of an operation's own operands. -/
def OpT (β : BM) (env : Env) (a : Act) (op : Op) : Prop := ∀ x ∈ op.operands.toList, ∀ v, aev env x = some v → T3 β v (a.eval x)
theorem OpT.at' {op : Op} (h : OpT β env a op) {x : Operand} {v : Value} (hx : aev env x = some v) (hm : x ∈ op.operands.toList) : T3 β v (a.eval x) := h x hm v hx
theorem EnvT.op (h : EnvT β env a.tmps) (op : Op) : OpT β env a op := fun _ _ _ hx => h.at_ hx
theorem aops_sound : ∀ {xs : List Operand} {vs : List Value} (he : ∀ x ∈ xs, ∀ v, aev env x = some v → T3 β v (a.eval x)), aops env xs = some vs → All2 (T3 β) vs (xs.map a.eval)
  | [], vs, _, h => by cases h; exact .nil
  | x :: r, vs, he, h => by
    simp only [aops] at h
    split at h
    · cases h
      exact .cons (he x (.head _) _ (by assumption)) (aops_sound (fun y hy => he y (.tail _ hy)) (by assumption))
    · cases h
theorem aparts_sound : ∀ {xs : List (Nat × Operand)} {vs : List (Nat × Value)} (he : ∀ x ∈ xs, ∀ v, aev env x.2 = some v → T3 β v (a.eval x.2)), aparts env xs = some vs → All2 (fun p q => p.1 = q.1 ∧ T3 β p.2 q.2) vs (xs.map fun x => (x.1, a.eval x.2))
  | [], vs, _, h => by cases h; exact .nil
  | (i, x) :: r, vs, he, h => by
    simp only [aparts] at h
    split at h
    · cases h
      exact .cons ⟨rfl, he (i, x) (.head _) _ (by assumption)⟩ (aparts_sound (fun y hy => he y (.tail _ hy)) (by assumption))
    · cases h
theorem aopt_sound {x : Option Operand} {v : Option Value} (he : ∀ y, x = some y → ∀ v, aev env y = some v → T3 β v (a.eval y)) (h : aopt env x = some v) : optRel β v (x.map a.eval) := by
  cases x with
  | none => cases h; trivial
  | some x =>
    obtain ⟨u, hu, rfl⟩ := Option.map_eq_some_iff.1 h
    exact he x rfl _ hu
theorem T3.flat {v v' : Value} (t : T3 β v v') (h : flatV v = true) : T0 β v v' := by
  rcases t with ((t | t) | t) | t
  · exact t
  · simp [flatV, plainV] at h
    subst h
    cases t
    exact .plain rfl
  · simp [flatV, plainV] at h
  · simp [flatV, plainV] at h
def Went (P : Program) (β : BM) (H : AH) (w : World) (r : Result Next) (v : Value) (H' : AH) : Prop :=
  ∃ v' w' β', (r = .ok (.value v') w' ∨ (r = .ok .skip w' ∧ v' = undef)) ∧ Rel β' H' w' ∧ Ext H.length β w β' w' ∧ T3 β' v v'
theorem Went.plain (R : Rel β H w) {r : Result Next} {v : Value} (h : r = .ok (.value v) w) (hp : plainV v = true) : Went P β H w r v H := ⟨v, w, β, .inl h, R, .refl _ _ _, .plain hp⟩
theorem Went.pure (R : Rel β H w) {r : Result Next} {v v' : Value} (h : r = .ok (.value v') w) (t : T3 β v v') : Went P β H w r v H := ⟨v', w, β, .inl h, R, .refl _ _ _, t⟩
theorem arOf_val {x : Option Value} {v : Value} (h : arOf H x = .val v H') : x = some v ∧ H' = H := by
  unfold arOf at h
  split at h
  · cases h; exact ⟨rfl, rfl⟩
  · cases h
theorem arOf2_val {x : Option (Value × AH)} {v : Value} (h : arOf2 x = .val v H') : x = some (v, H') := by
  unfold arOf2 at h
  split at h
  · cases h; rfl
  · cases h
theorem aBuiltin_sound (R : Rel β H w) {b : Builtin} {ts : List TypeId} {args : List Value} {args' : List Value} {ty : TypeId} {consts : Array Bool} {v : Value} (h : aBuiltin P H b ts args = .val v H') (ha : All2 (T3 β) args args') :
    Went P β H w ((builtin b ts.toArray ty consts args'.toArray).run P w) v H' := by
  unfold aBuiltin at h
  split at h
  · obtain ⟨hq, rfl⟩ := arOf_val h
    cases ha with
    | cons hx hr =>
      cases hr
      have := aLen_sound (ty := ty) R hq hx
      exact .plain R (by simp [builtin, this.1]) this.2
  · have h := arOf2_val h
    cases ha with
    | cons hs hr =>
      cases hr with
      | cons hx hr =>
        cases hr
        cases ha1 : aAppend P H _ _ _ _ with
        | some r =>
          rw [ha1, Option.orElse_some] at h
          cases h
          obtain ⟨β', w', v', h1, h2, h3, h4⟩ := aAppend_sound (ty := ty) R ha1 hs hx
          exact ⟨v', w', β', .inl (by simp [builtin, h1]), h2, h3, h4⟩
        | none =>
          rw [ha1, Option.orElse_none] at h
          obtain ⟨β', w', v', h1, h2, h3, h4⟩ := aApM_sound (ty := ty) R h hs hx
          exact ⟨v', w', β', .inl (by simp [builtin, h1]), h2, h3, h4⟩
  · obtain ⟨hq, rfl⟩ := arOf_val h
    cases ha with
    | cons hx hr =>
      cases hr
      have := aCap_sound (ty := ty) R hq hx
      exact .plain R (by simp [builtin, this.1]) this.2
  · obtain ⟨hq, rfl⟩ := arOf_val h
    cases ha with
    | cons hs hr =>
      cases hr with
      | cons hx hr =>
        cases hr
        refine .plain R ?_ (aMin_sound (P := P) (w := w) (ts := #[]) (ty := ty) hq hs hx).2
        simp [builtin, (aMin_sound (P := P) (w := w) (ty := ty) hq hs hx).1]
  · obtain ⟨hq, rfl⟩ := arOf_val h
    cases ha with
    | cons hs hr =>
      cases hr with
      | cons hx hr =>
        cases hr
        refine .plain R ?_ (aMax_sound (P := P) (w := w) (ts := #[]) (ty := ty) hq hs hx).2
        simp [builtin, (aMax_sound (P := P) (w := w) (ty := ty) hq hs hx).1]
  · rename_i t1 t2 d1 s1
    have h := arOf2_val h
    cases ha with
    | cons hs hr =>
      cases hr with
      | cons hx hr =>
        cases hr
        obtain ⟨w', v', h1, h2, h3, h4⟩ := aCopy_sound (t2 := t2) (ty := ty) R h hs hx
        exact ⟨v', w', β, .inl (by simp [builtin, h1]), h2, h3, h4⟩
  · cases h
theorem undef_T3 : T3 β undef undef := .tup (vs := []) (vs' := []) .nil
/-- EACH OPERATION: what it means on the abstract heap is so in every real world that stands to it. -/
theorem aop_val (R : Rel β H w) {o : Oper} (he : OpT β env a o.op) {v : Value} (h : aop P env H o.op = .val v H') : Went P β H w ((execOp a.eval o).run P w) v H' := by
  unfold aop at h
  split at h
  · rename_i x ho
    obtain ⟨hq, rfl⟩ := arOf_val h
    exact .pure R (by simp [execOp, ho]) (he.at' hq (by rw [ho]; simp [Op.operands]))
  · rename_i x ho
    obtain ⟨hq, rfl⟩ := arOf_val h
    exact .pure R (by simp [execOp, ho]) (he.at' hq (by rw [ho]; simp [Op.operands]))
  · rename_i c x y ho
    split at h
    · rename_i t va vb hc hx hy
      cases h
      have := (he.at' hc (by rw [ho]; simp [Op.operands])).bool
      refine .pure R (v' := if t then a.eval x else a.eval y) (by simp [execOp, ho, this, asBool]) ?_
      cases t
      · exact he.at' hy (by rw [ho]; simp [Op.operands])
      · exact he.at' hx (by rw [ho]; simp [Op.operands])
    · cases h
  · rename_i t ho
    split at h
    · rename_i H2 hA
      cases h
      obtain ⟨β', w', h1, h2, h3, h4⟩ := aAlloc_sound R hA
      exact ⟨_, w', β', .inl (by simp [execOp, ho, h1]), h2, h3, h4⟩
    · cases h
  · rename_i t x ho
    split at h
    · rename_i u hx
      split at h
      · cases h
      · rename_i htu
        cases h
        obtain ⟨β', w', h1, h2, h3, h4⟩ := box_sound (P := P) (t := t) R ((he.at' hx (by rw [ho]; simp [Op.operands])).two (by simpa using htu))
        exact ⟨_, w', β', .inl (by simp [execOp, ho, h1]), h2, h3, h4⟩
    · cases h
  · rename_i t parts ho
    split at h
    · rename_i ps hps
      obtain ⟨hq, rfl⟩ := arOf_val h
      obtain ⟨v', h1, h2⟩ := aBuild_sound (P := P) (w := w) hq (aparts_sound (fun x hx v hv => he.at' hv (by rw [ho]; simp only [Op.operands, List.toList_toArray]; exact List.mem_map.2 ⟨x, hx, rfl⟩)) hps)
      refine .pure R (v' := v') ?_ (.one h2)
      have : parts.map (fun x => (x.1, a.eval x.2)) = (parts.toList.map fun x => (x.1, a.eval x.2)).toArray := by apply Array.ext'; simp
      simp [execOp, ho, this, h1]
    · cases h
  · rename_i t len parts ho
    split at h
    · rename_i ps hps
      have h := arOf2_val h
      obtain ⟨β', w', v', h1, h2, h3, h4⟩ := aBuildSlice_sound (P := P) R h (aparts_sound (fun x hx v hv => he.at' hv (by rw [ho]; simp only [Op.operands, List.toList_toArray]; exact List.mem_map.2 ⟨x, hx, rfl⟩)) hps)
      refine ⟨v', w', β', .inl ?_, h2, h3, h4⟩
      have : parts.map (fun x => (x.1, a.eval x.2)) = (parts.toList.map fun x => (x.1, a.eval x.2)).toArray := by apply Array.ext'; simp
      simp [execOp, ho, this, h1]
    · cases h
  · rename_i t x ho
    split at h
    · rename_i p hp
      obtain ⟨hq, rfl⟩ := arOf_val h
      obtain ⟨v', h1, h2⟩ := aLoad_sound (P := P) R hq (he.at' hp (by rw [ho]; simp [Op.operands]))
      exact .pure R (v' := v') (by simp [execOp, ho, h1]) (.one h2)
    · cases h
  · rename_i t x y ho
    split at h
    · rename_i p u hp hu
      split at h
      · rename_i H2 hS
        cases h
        obtain ⟨w', β', h1, h2, h3⟩ := aStore_sound (P := P) R hS (he.at' hp (by rw [ho]; simp [Op.operands])) (he.at' hu (by rw [ho]; simp [Op.operands]))
        exact ⟨undef, w', β', .inr ⟨by simp [execOp, ho, h1], rfl⟩, h2, h3, undef_T3⟩
      · cases h
    · cases h
  · rename_i x ho
    split at h
    · rename_i u hu
      have t := he.at' hu (by rw [ho]; simp [Op.operands])
      unfold aNil at h
      split at h
      · rename_i i off g
        split at h
        · rename_i hal
          cases h
          obtain ⟨o2, ho2⟩ := Option.isSome_iff_exists.1 hal
          obtain ⟨l, hl, hlg, hv⟩ := t.ptr R ho2
          exact .pure R (v' := a.eval x) (by rw [hv]; simp [execOp, ho, hv]) t
        · cases h
      · rename_i f fa cs
        split at h
        · rename_i hem
          cases h
          have : fa = #[] := by simpa using hem
          subst this
          obtain ⟨cs', hv, _⟩ := t.func
          exact .pure R (v' := a.eval x) (by rw [hv]; simp [execOp, ho, hv]) t
        · cases h
      · cases h
    · cases h
  · rename_i op t x y yt ho
    split at h
    · rename_i va vb hx hy
      obtain ⟨hq, rfl⟩ := arOf_val h
      obtain ⟨h1, h2⟩ := aBin_sound (P := P) (ox := x) (oy := y) R hq (he.at' hx (by rw [ho]; simp [Op.operands])) (he.at' hy (by rw [ho]; simp [Op.operands]))
      refine .plain R ?_ h2
      unfold execOp
      rw [ho]
      simp only [Sem.run_bind] at h1 ⊢
      cases hg : (eqGuard op t x y (a.eval x) (a.eval y)).run P w with
      | ok u w1 =>
        rw [hg] at h1
        simp only [Result.andThen_ok] at h1 ⊢
        rw [h1]
        rfl
      | halt e w1 => rw [hg] at h1; cases h1
    · cases h
  · rename_i op t x ho
    split at h
    · rename_i va hx
      obtain ⟨hq, rfl⟩ := arOf_val h
      obtain ⟨h1, h2⟩ := aUn_sound (P := P) (w := w) hq (he.at' hx (by rw [ho]; simp [Op.operands]))
      exact .plain R (by simp [execOp, ho, h1]) h2
    · cases h
  · rename_i s d x ho
    split at h
    · rename_i va hx
      obtain ⟨hq, rfl⟩ := arOf_val h
      obtain ⟨h1, h2⟩ := aConvert_sound (P := P) R hq (he.at' hx (by rw [ho]; simp [Op.operands]))
      exact .plain R (by simp [execOp, ho, h1]) h2
    · cases h
  · rename_i fn first caps ho
    split at h
    · rename_i vs hvs
      split at h
      · rename_i hc
        cases h
        have hf : first = #[] := by simpa using hc.1
        subst hf
        have hs := aops_sound (fun x hx v hv => he.at' hv (by rw [ho]; simp only [Op.operands, Array.toList_append]; exact List.mem_append.2 (.inr hx))) hvs
        have h0 : All2 (T0 β) vs (caps.toList.map a.eval) := by
          refine All2.of_get hs.length fun i x y hx hy => ?_
          obtain ⟨y', hy', t⟩ := hs.get i x hx
          rw [hy] at hy'
          cases hy'
          exact t.flat (List.all_eq_true.1 hc.2 x (List.mem_of_getElem? hx))
        have e : caps.map a.eval = (caps.toList.map a.eval).toArray := by apply Array.ext'; simp
        exact .pure R (v' := .func fn #[] (caps.toList.map a.eval).toArray) (by simp [execOp, ho, Instr.makeFunc, e]) (.one (.one (.fn h0)))
      · cases h
    · cases h
  · rename_i t l c ho
    split at h
    · rename_i va vb hx hy
      have h := arOf2_val h
      obtain ⟨β', w', v', h1, h2, h3, h4⟩ := aMake_sound (P := P) R h (he.at' hx (by rw [ho]; simp [Op.operands])) (he.at' hy (by rw [ho]; simp [Op.operands]))
      exact ⟨v', w', β', .inl (by simp [execOp, ho, h1]), h2, h3, h4⟩
    · cases h
  · rename_i t x lo hi mx ho
    split at h
    · rename_i va l h' m hx hl hh hm
      obtain ⟨hq, rfl⟩ := arOf_val h
      obtain ⟨v', h1, h2⟩ := aSlice_sound (P := P) R hq (he.at' hx (by rw [ho]; simp [Op.operands])) (aopt_sound (fun y hy v hv => he.at' hv (by rw [ho]; simp [Op.operands, hy])) hl) (aopt_sound (fun y hy v hv => he.at' hv (by rw [ho]; simp [Op.operands, hy])) hh) (aopt_sound (fun y hy v hv => he.at' hv (by rw [ho]; simp [Op.operands, hy])) hm)
      exact .pure R (v' := v') (by simp [execOp, ho, h1]) h2
    · cases h
  · rename_i s x f ho
    split at h
    · rename_i va hx
      obtain ⟨hq, rfl⟩ := arOf_val h
      obtain ⟨v', h1, h2⟩ := aFieldAddr_sound (P := P) R hq (he.at' hx (by rw [ho]; simp [Op.operands]))
      exact .pure R (v' := v') (by simp [execOp, ho, h1]) h2
    · cases h
  · rename_i t x f ho
    split at h
    · rename_i va hx
      obtain ⟨hq, rfl⟩ := arOf_val h
      obtain ⟨v', h1, h2⟩ := aField_sound (P := P) (w := w) hq (he.at' hx (by rw [ho]; simp [Op.operands]))
      exact .pure R (v' := v') (by simp [execOp, ho, h1]) h2
    · cases h
  · rename_i t x ix ho
    split at h
    · rename_i va vi hx hi
      obtain ⟨hq, rfl⟩ := arOf_val h
      obtain ⟨v', h1, h2⟩ := aIndexAddr_sound (P := P) R hq (he.at' hx (by rw [ho]; simp [Op.operands])) (he.at' hi (by rw [ho]; simp [Op.operands]))
      exact .pure R (v' := v') (by simp [execOp, ho, h1]) h2
    · cases h
  · rename_i t x ix ho
    split at h
    · rename_i va vi hx hi
      obtain ⟨hq, rfl⟩ := arOf_val h
      obtain ⟨v', h1, h2⟩ := aIndex_sound (P := P) (w := w) hq (he.at' hx (by rw [ho]; simp [Op.operands])) (he.at' hi (by rw [ho]; simp [Op.operands]))
      exact .pure R (v' := v') (by simp [execOp, ho, h1]) h2
    · cases h
  · rename_i x i ho
    split at h
    · rename_i va hx
      obtain ⟨hq, rfl⟩ := arOf_val h
      obtain ⟨v', h1, h2⟩ := aExtract_sound (P := P) (w := w) hq (he.at' hx (by rw [ho]; simp [Op.operands]))
      exact .pure R (v' := v') (by simp [execOp, ho, h1]) h2
    · cases h
  · rename_i c ho
    split at h
    · rename_i b hb
      split at h
      · rename_i vs hvs
        have hs := aops_sound (fun x hx v hv => he.at' hv (by rw [ho]; simp only [Op.operands, Call.operands, Array.toList_append]; exact List.mem_append.2 (.inr hx))) hvs
        have e : c.args.map a.eval = (c.args.toList.map a.eval).toArray := by apply Array.ext'; simp
        have hw := aBuiltin_sound (P := P) (ty := o.type) (consts := c.args.map fun | .const _ => true | _ => false) R h hs
        have ht : c.argTypes.toList.toArray = c.argTypes := by simp
        rw [ht] at hw
        unfold execOp
        rw [ho]
        simp only [resolve, hb, Sem.run_bind, Sem.run_pure, Result.andThen_ok, invoke, e]
        exact hw
      · cases h
    · split at h
      · unfold aCallee at h
        split at h
        · split at h <;> cases h
        · cases h
      · cases h
    · cases h
  · cases h
/-- A function of the program that is entered by a call. -/
def Enters (P : Program) (f : FuncId) : Prop := ∃ fn, P.funcs[f]? = some fn ∧ (fn.name == "runtime.NumGoroutine") = false ∧ fn.body.isNone = false
theorem run_enter {f : FuncId} (h : Enters P f) (args : Array Value) : (callFunc f args).run P w = .ok (.enter f args) w := by
  obtain ⟨fn, h1, h2, h3⟩ := h
  simp [callFunc, program, Sem.run_bind, Sem.run, h1]
  have h2' : ¬ fn.name = "runtime.NumGoroutine" := by simpa using h2
  have h3' : ¬ fn.body = none := fun e => by rw [e] at h3; cases h3
  simp [h2', h3']
theorem aop_call (R : Rel β H w) {o : Oper} (he : OpT β env a o.op) {f : FuncId} {args : List Value} (h : aop P env H o.op = .call f args) (hf : Enters P f) :
    ∃ args', (execOp a.eval o).run P w = .ok (.enter f args') w ∧ All2 (T2 β) args args'.toList := by
  unfold aop at h
  split at h
  case h_22 =>
    rename_i c ho
    split at h
    · rename_i b hb
      split at h
      · simp only [aBuiltin, arOf, arOf2] at h
        repeat' (split at h)
        all_goals cases h
      · cases h
    · rename_i fo hfo
      split at h
      · rename_i v vs hv hvs
        unfold aCallee at h
        split at h
        · rename_i g fa cs
          split at h
          · rename_i hc
            cases h
            have hfa : fa = #[] := by simpa using hc.1
            subst hfa
            obtain ⟨cs', hev, hcs⟩ := (he.at' hv (by rw [ho]; simp [Op.operands, Call.operands, hfo])).func
            have hs := aops_sound (fun x hx v hv => he.at' hv (by rw [ho]; simp only [Op.operands, Call.operands, Array.toList_append]; exact List.mem_append.2 (.inr hx))) hvs
            have e : c.args.map a.eval = (c.args.toList.map a.eval).toArray := by apply Array.ext'; simp
            refine ⟨(c.args.toList.map a.eval).toArray ++ cs', ?_, ?_⟩
            · unfold execOp
              rw [ho]
              simp only [resolve, hfo, Sem.run_bind, Sem.run_pure, Result.andThen_ok, hev, Deferred.ofValue, invoke, e, Array.empty_append]
              exact run_enter hf _
            · rw [Array.toList_append]
              refine All2.append ?_ (hcs.imp fun _ _ t => .one (.one t))
              refine All2.of_get hs.length fun i x y hx hy => ?_
              obtain ⟨y', hy', t⟩ := hs.get i x hx
              rw [hy] at hy'
              cases hy'
              exact t.two (by simpa using List.all_eq_true.1 hc.2 x (List.mem_of_getElem? hx))
          · cases h
        · cases h
      · cases h
    · cases h
  all_goals ((try simp only [arOf, arOf2, aNil] at h); (repeat' (split at h)) <;> cases h)
end

end Go.Proofs.Ytbckijeffiofdaa.AL
