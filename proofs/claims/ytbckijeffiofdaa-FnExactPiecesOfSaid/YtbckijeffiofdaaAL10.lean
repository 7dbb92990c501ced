/- AL, part 10: regions in text order, code, calls. No condition. -/
import Derived.Test.YtbckijeffiofdaaAL9
import Derived.Deep.LoopGhost
namespace Go.Proofs.Ytbckijeffiofdaa.AL
open Go Go.RowKit
set_option linter.unusedVariables false
set_option linter.unusedSimpArgs false

/-- A CALL, on the abstract heap: what it hands back and the heap behind it, in every real world. -/
structure ACall (P : Program) (f : FuncId) (args : List Value) (H : AH) (v : Value) (H' : AH) : Prop where
  enters : Enters P f
  good : WF H → (∀ x ∈ args, R2 H.length x = true) → Good H v H'
  calls : ∀ β w args', Rel β H w → WF H → (∀ x ∈ args, R2 H.length x = true) → All2 (T2 β) args args'.toList →
    Calls P f args' w fun e w' => ∃ v' β', e = .returned v' ∧ Rel β' H' w' ∧ Ext H.length β w β' w' ∧ T3 β' v v'
/-- A call of which a fact is known, not the very value. -/
structure ACallP (P : Program) (f : FuncId) (args : List Value) (H : AH) (Post : Value → AH → Prop) : Prop where
  enters : Enters P f
  calls : ∀ β w args', Rel β H w → WF H → (∀ x ∈ args, R2 H.length x = true) → All2 (T2 β) args args'.toList →
    Calls P f args' w fun e w' => ∃ v v' β' H', e = .returned v' ∧ Post v H' ∧ Good H v H' ∧ Rel β' H' w' ∧ Ext H.length β w β' w' ∧ T3 β' v v'
theorem ACall.p {P : Program} {f : FuncId} {args : List Value} {H H' : AH} {v : Value} (h : ACall P f args H v H') : ACallP P f args H (fun u G => u = v ∧ G = H') :=
  ⟨h.enters, fun β w args' R hw hR ha => (h.calls β w args' R hw hR ha).mono fun e w' ⟨v', β', he, R', E, t⟩ => ⟨v, v', β', H', he, ⟨rfl, rfl⟩, h.good hw hR, R', E, t⟩⟩
theorem ACallP.mono {P : Program} {f : FuncId} {args : List Value} {H : AH} {Post Post' : Value → AH → Prop} (h : ACallP P f args H Post) (hq : ∀ v H', Post v H' → Post' v H') : ACallP P f args H Post' :=
  ⟨h.enters, fun β w args' R hw hR ha => (h.calls β w args' R hw hR ha).mono fun e w' ⟨v, v', β', H', he, hp, r⟩ => ⟨v, v', β', H', he, hq _ _ hp, r⟩⟩
/-- What stands behind a call. -/
def CallK (P : Program) (f : FuncId) (args : List Value) (H : AH) (K : Value → AH → Prop) : Prop := ∃ Post, ACallP P f args H Post ∧ ∀ v H', Post v H' → K v H'
@[congr] theorem CallK_congr {P : Program} {f f' : FuncId} {args args' : List Value} {H H' : AH} {K : Value → AH → Prop} (h1 : f = f') (h2 : args = args') (h3 : H = H') : CallK P f args H K = CallK P f' args' H' K := by subst h1 h2 h3; rfl
theorem CallK.of {P : Program} {f : FuncId} {args : List Value} {H : AH} {K Post : Value → AH → Prop} (h : ACallP P f args H Post) (hk : ∀ v H', Post v H' → K v H') : CallK P f args H K := ⟨Post, h, hk⟩
theorem CallK.det {P : Program} {f : FuncId} {args : List Value} {H H' : AH} {v : Value} {K : Value → AH → Prop} (h : ACall P f args H v H') (hk : K v H') : CallK P f args H K := ⟨_, h.p, fun _ _ ⟨h1, h2⟩ => by rw [h1, h2]; exact hk⟩
def CallD (P : Program) (f : FuncId) (args : List Value) (H : AH) (K : Value → AH → Prop) : Prop := ∃ v H', ACall P f args H v H' ∧ K v H'
@[congr] theorem CallD_congr {P : Program} {f f' : FuncId} {args args' : List Value} {H H' : AH} {K : Value → AH → Prop} (h1 : f = f') (h2 : args = args') (h3 : H = H') : CallD P f args H K = CallD P f' args' H' K := by subst h1 h2 h3; rfl
theorem CallD.of {P : Program} {f : FuncId} {args : List Value} {H H' : AH} {v : Value} {K : Value → AH → Prop} (h : ACall P f args H v H') (hk : K v H') : CallD P f args H K := ⟨v, H', h, hk⟩
def aput (env : Env) (d : Option Tmp) (v : Value) : Env := match d with
  | some d => fun t => if t = d then some v else env t
  | none => env
def ayield (ops : Array Oper) (env : Env) (j : Nat) : Option Bool :=
  match ((ops[j]?).bind (·.dst)).bind env with
  | some (.bool b) => some b
  | _ => none
/-- One operation, on the abstract heap. -/
def AStep (P : Program) (o : Oper) (env : Env) (H : AH) (K : Value → AH → Prop) : Prop :=
  match aop P env H o.op with
  | .val v H' => K v H'
  | .call f args => CallK P f args H K
  | .bad => False
/-- The same, the value told. -/
def AStepD (P : Program) (o : Oper) (env : Env) (H : AH) (K : Value → AH → Prop) : Prop :=
  match aop P env H o.op with
  | .val v H' => K v H'
  | .call f args => CallD P f args H K
  | .bad => False
def okDst (nt : Nat) : Option Tmp → Bool
  | some d => decide (d < nt)
  | none => true
/-- Guards look at what is yielded: a guarded operation whose guard is not known is refused. -/
def okGuard (ops : Array Oper) (env : Env) (o : Oper) : Bool := match o.guard with
  | none => true
  | some (j, _) => (ayield ops env j).isSome || ((((ops[j]?).bind (·.dst)).bind env).isSome)
/-- Operations in text order. -/
def ARun (P : Program) (nt : Nat) (ops : Array Oper) (K : Env → AH → Prop) : List Oper → Env → AH → Prop
  | [], env, H => K env H
  | o :: r, env, H => if okDst nt o.dst = true ∧ okGuard ops env o = true then (if Region.wanted o (ayield ops env) then AStep P o env H (fun v H' => ARun P nt ops K r (aput env o.dst v) H') else ARun P nt ops K r (aput env o.dst undef) H) else False

section
variable {P : Program} {β : BM} {H H' : AH} {w : World} {env : Env} {a : Act}
theorem EnvT.ext {N : Nat} {β' : BM} {w' : World} {tmps : Array Value} (E : Ext N β w β' w') (h : EnvT β env tmps) : EnvT β' env tmps := fun t v hv => by
  obtain ⟨v', h1, h2⟩ := h t v hv
  exact ⟨v', h1, h2.ext E⟩
theorem EnvT.put {nt : Nat} (h : EnvT β env a.tmps) (hs : a.tmps.size = nt) {v v' : Value} (t : T3 β v v') (d : Option Tmp) (hd : okDst nt d = true) : EnvT β (aput env d v) (a.put d v').tmps := by
  cases d with
  | none => exact h
  | some d =>
    intro i u hu
    simp only [aput] at hu
    simp only [Act.put]
    split at hu
    · rename_i e
      subst e
      cases hu
      refine ⟨v', ?_, t⟩
      have : i < a.tmps.size := by rw [hs]; simpa [okDst] using hd
      simp [this]
    · rename_i e
      obtain ⟨u', h1, h2⟩ := h i u hu
      exact ⟨u', by rw [Array.getElem?_setIfInBounds_ne (fun h => e h.symm)]; exact h1, h2⟩
theorem ER.put {n : Nat} (h : ER n env) {v : Value} (hv : R3 n v = true) (d : Option Tmp) : ER n (aput env d v) := by
  cases d with
  | none => exact h
  | some d =>
    intro i u hu
    simp only [aput] at hu
    split at hu
    · cases hu; exact hv
    · exact h i u hu
def asB : Value → Option Bool
  | .bool b => some b
  | _ => none
theorem T3.asB {v v' : Value} (t : T3 β v v') : AL.asB v' = AL.asB v := by
  rcases t with ((t | t) | t) | t
  · cases t <;> rfl
  · rfl
  · rfl
  · rfl
theorem ayield_eq {ops : Array Oper} (h : EnvT β env a.tmps) {o : Oper} (hg : okGuard ops env o = true) : Region.wanted o (yielded ops a.tmps) = Region.wanted o (ayield ops env) := by
  unfold Region.wanted
  unfold okGuard at hg
  cases hgd : o.guard with
  | none => rfl
  | some g =>
    obtain ⟨j, want⟩ := g
    simp only [hgd] at hg ⊢
    have key : yielded ops a.tmps j = ayield ops env j := by
      unfold yielded ayield
      unfold ayield at hg
      cases hd : (ops[j]?).bind (·.dst) with
      | none => rfl
      | some d =>
        simp only [hd, Option.bind_some] at hg ⊢
        cases he : env d with
        | none => simp [he] at hg
        | some v =>
          obtain ⟨v', hv, t⟩ := h d v he
          rw [hv]
          have := t.asB
          cases v <;> cases v' <;> simp_all [AL.asB]
    rw [key]
theorem R3_undef {n : Nat} : R3 n undef = true := by simp [undef, R3]
/-- The relation between what is known and a real state. -/
structure St (nt : Nat) (β : BM) (env : Env) (H : AH) (a : Act) (w : World) : Prop where
  rel : Rel β H w
  wf : WF H
  envT : EnvT β env a.tmps
  er : ER H.length env
  size : a.tmps.size = nt
  defers : a.defers = []
theorem Act.put_size (a : Act) (d : Option Tmp) (v : Value) : (a.put d v).tmps.size = a.tmps.size := by cases d <;> simp [Act.put]
theorem Act.put_defers (a : Act) (d : Option Tmp) (v : Value) : (a.put d v).defers = a.defers := by cases d <;> rfl
/-- What an operation does on the abstract heap: it yields a value, or its callee does. -/
def OpRes (P : Program) (env : Env) (H : AH) (o : Oper) (v : Value) (H' : AH) : Prop := aop P env H o.op = .val v H' ∨ ∃ f args, aop P env H o.op = .call f args ∧ ACall P f args H v H'
theorem call_args_R {op : Op} {f : FuncId} {args : List Value} (he : ER H.length env) (ha : aop P env H op = .call f args) : ∀ x ∈ args, R2 H.length x = true := by
  unfold aop at ha
  split at ha
  case h_22 =>
    split at ha
    · split at ha
      · simp only [aBuiltin, arOf, arOf2] at ha
        (repeat' (split at ha)) <;> cases ha
      · cases ha
    · split at ha
      · rename_i fv vs hf hvs
        unfold aCallee at ha
        split at ha
        · rename_i g fa cs
          split at ha
          · rename_i hcc
            cases ha
            intro x hx
            rcases List.mem_append.1 hx with hx | hx
            · exact R3_two (aops_R he hvs x hx) (by simpa using List.all_eq_true.1 hcc.2 x hx)
            · have h1 := aev_R he hf
              simp only [R3, R2, R0, Array.all_eq_true_iff_forall_mem] at h1
              have h2 := h1 x (by simpa using hx)
              exact R2_of0 (R00_to h2)
          · cases ha
        · cases ha
      · cases ha
    · cases ha
  all_goals ((try simp only [arOf, arOf2, aNil] at ha); (repeat' (split at ha)) <;> cases ha)
theorem OpRes.good {o : Oper} {v : Value} (h : OpRes P env H o v H') (hw : WF H) (he : ER H.length env) : Good H v H' := by
  rcases h with h | ⟨f, args, h, hc⟩
  · exact aop_good hw he h
  · exact hc.good hw (call_args_R he h)
theorem op_real {o : Oper} {v : Value} {N : Act → World → Prop} {Q : Exit → Act → World → Prop} (h : OpRes P env H o v H') (R : Rel β H w) (hw : WF H) (he : ER H.length env) (ht : OpT β env a o.op)
    (hN : ∀ v' w' β', Rel β' H' w' → Ext H.length β w β' w' → T3 β' v v' → N (a.put o.dst v') w') : o.wp P a w N Q := by
  unfold Oper.wp
  rcases h with h | ⟨f, args, h, hc⟩
  · obtain ⟨v', w', β', hr, R', E, t⟩ := aop_val R ht h
    rcases hr with hr | ⟨hr, rfl⟩
    · rw [hr]; exact hN v' w' β' R' E t
    · rw [hr]; exact hN undef w' β' R' E t
  · obtain ⟨args', hr, hargs⟩ := aop_call R ht h hc.enters
    rw [hr]
    refine (hc.calls β w args' R hw (call_args_R he h) hargs).mono ?_
    rintro e w' ⟨v', β', rfl, R', E, t⟩
    exact hN v' w' β' R' E t
/-- One operation's step in a real world. -/
theorem step_sound {nt : Nat} {o : Oper} {K : Value → AH → Prop} {N : Act → World → Prop} {Q : Exit → Act → World → Prop} (S : St nt β env H a w) (hd : okDst nt o.dst = true) (h : AStep P o env H K)
    (hN : ∀ v H' β' v' w', K v H' → St nt β' (aput env o.dst v) H' (a.put o.dst v') w' → Ext H.length β w β' w' → H.length ≤ H'.length → N (a.put o.dst v') w') : o.wp P a w N Q := by
  have fin : ∀ {v v' : Value} {H' : AH} {β' : BM} {w' : World}, K v H' → Good H v H' → Rel β' H' w' → Ext H.length β w β' w' → T3 β' v v' → N (a.put o.dst v') w' := fun hk ⟨g1, g2, g3⟩ R' E t =>
    hN _ _ _ _ _ hk ⟨R', g1, (S.envT.ext E).put S.size t _ hd, (S.er.mono g3).put g2 _, by rw [Act.put_size]; exact S.size, by rw [Act.put_defers]; exact S.defers⟩ E g3
  unfold AStep at h
  split at h
  · rename_i v H' ha
    exact op_real (.inl ha) S.rel S.wf S.er (S.envT.op _) fun v' w' β' R' E t => fin h (aop_good S.wf S.er ha) R' E t
  · rename_i f args ha
    obtain ⟨Post, hc, hk⟩ := h
    unfold Oper.wp
    obtain ⟨args', hr, hargs⟩ := aop_call S.rel (S.envT.op _) ha hc.enters
    rw [hr]
    refine (hc.calls β w args' S.rel S.wf (call_args_R S.er ha) hargs).mono ?_
    rintro e w' ⟨v, v', β', H', rfl, hp, hg, R', E, t⟩
    exact fin (hk v H' hp) hg R' E t
  · exact h.elim

/-- CODE, on the abstract heap. -/
def AWp (P : Program) (nt : Nat) (c : Code) (Q : Exit → Env → AH → Prop) (env : Env) (H : AH) : Prop :=
  ∀ β w a (K : Exit → Act → World → Prop), St nt β env H a w →
    (∀ x env' H' β' a' w', Q x env' H' → St nt β' env' H' a' w' → Ext H.length β w β' w' → H.length ≤ H'.length → K x a' w') → c.wp P K a w
theorem AWp.mono {nt : Nat} {c : Code} {Q Q' : Exit → Env → AH → Prop} (h : AWp P nt c Q env H) (hq : ∀ x e H, Q x e H → Q' x e H) : AWp P nt c Q' env H :=
  fun β w a K S hK => h β w a K S fun x env' H' β' a' w' q => hK x env' H' β' a' w' (hq _ _ _ q)
theorem AWp.skip {nt : Nat} {Q : Exit → Env → AH → Prop} (h : Q .normal env H) : AWp P nt .skip Q env H := fun β w a K S hK => wp_skip (hK _ _ _ _ _ _ h S (.refl _ _ _) (Nat.le_refl _))
theorem AWp.label {nt : Nat} {Q : Exit → Env → AH → Prop} {l : Nat} (h : Q .normal env H) : AWp P nt (.label l) Q env H := fun β w a K S hK => wp_label (hK _ _ _ _ _ _ h S (.refl _ _ _) (Nat.le_refl _))
theorem AWp.exit {nt : Nat} {Q : Exit → Env → AH → Prop} {id : Nat} (h : Q (.exit id) env H) : AWp P nt (.exit id) Q env H := fun β w a K S hK => wp_exit (hK _ _ _ _ _ _ h S (.refl _ _ _) (Nat.le_refl _))
theorem AWp.ret {nt : Nat} {Q : Exit → Env → AH → Prop} (h : Q .ret env H) : AWp P nt .ret Q env H := fun β w a K S hK => wp_ret (hK _ _ _ _ _ _ h S (.refl _ _ _) (Nat.le_refl _))
def andThen (N : Env → AH → Prop) (Q : Exit → Env → AH → Prop) : Exit → Env → AH → Prop
  | .normal, e, H => N e H
  | x, e, H => Q x e H
theorem AWp.seq {nt : Nat} {x y : Code} {Q : Exit → Env → AH → Prop} (h : AWp P nt x (andThen (AWp P nt y Q) Q) env H) : AWp P nt (.seq x y) Q env H := by
  intro β w a K S hK
  refine wp_seq (h β w a _ S ?_)
  intro e env' H' β' a' w' q S' E hl
  cases e with
  | normal =>
    refine q β' w' a' K S' ?_
    intro e2 env2 H2 β2 a2 w2 q2 S2 E2 hl2
    exact hK e2 env2 H2 β2 a2 w2 q2 S2 (E.trans E2 hl) (Nat.le_trans hl hl2)
  | _ => exact hK _ _ _ _ _ _ q S' E hl
theorem AWp.cond {nt : Nat} {c : Operand} {x y : Code} {t : Bool} {Q : Exit → Env → AH → Prop} (hc : aev env c = some (.bool t)) (h : AWp P nt (if t then x else y) Q env H) : AWp P nt (.cond c x y) Q env H :=
  fun β w a K S hK => wp_cond (S.envT.at_ hc).bool (h β w a K S hK)
theorem AWp.block {nt : Nat} {id : Nat} {c : Code} {Q : Exit → Env → AH → Prop} (h : AWp P nt c (fun e env H => match e with
    | .exit id' => if id' = id then Q .normal env H else Q (.exit id') env H
    | e => Q e env H) env H) : AWp P nt (.block id c) Q env H := by
  intro β w a K S hK
  refine wp_block (h β w a _ S ?_)
  intro e env' H' β' a' w' q S' E hl
  cases e with
  | exit id' =>
    by_cases hid : id' = id
    · simp only [hid, if_true, Exit.inBlock] at q ⊢
      exact hK _ _ _ _ _ _ q S' E hl
    · simp only [hid, if_false, Exit.inBlock] at q ⊢
      exact hK _ _ _ _ _ _ q S' E hl
  | _ => exact hK _ _ _ _ _ _ q S' E hl
/-- A loop: an invariant that bears a number, which every round lowers. -/
theorem AWp.loop {nt : Nat} {c : Code} {Q : Exit → Env → AH → Prop} (I : Nat → Env → AH → Prop) (n : Nat) (h0 : I n env H)
    (round : ∀ n env H, I n env H → AWp P nt c (andThen (fun env' H' => ∃ m, m < n ∧ I m env' H') Q) env H) : AWp P nt (.loop c) Q env H := by
  intro β w a K S hK
  refine wp_loop_ghost (fun n a' w' => ∃ env' H' β', I n env' H' ∧ St nt β' env' H' a' w' ∧ Ext H.length β w β' w' ∧ H.length ≤ H'.length) n ⟨env, H, β, h0, S, .refl _ _ _, Nat.le_refl _⟩ ?_
  rintro n a1 w1 ⟨env1, H1, β1, hI, S1, E1, hl1⟩
  refine round n env1 H1 hI β1 w1 a1 _ S1 ?_
  intro e env' H' β' a' w' q S' E hl
  cases e with
  | normal =>
    obtain ⟨m, hm, hI'⟩ := q
    exact ⟨m, hm, env', H', β', hI', S', E1.trans E hl1, Nat.le_trans hl1 hl⟩
  | _ => exact hK _ _ _ _ _ _ q S' (E1.trans E hl1) (Nat.le_trans hl1 hl)
theorem ops_sound {nt : Nat} {ops : Array Oper} {Q : Exit → Env → AH → Prop} {K : Exit → Act → World → Prop} : ∀ (l : List Oper) (k : Nat) (env : Env) (H : AH) (β : BM) (a : Act) (w : World), ops.toList.drop k = l → St nt β env H a w →
    ARun P nt ops (fun env' H' => Q .normal env' H') l env H → (∀ env' H' β' a' w', Q .normal env' H' → St nt β' env' H' a' w' → Ext H.length β w β' w' → H.length ≤ H'.length → K .normal a' w') →
    wpOps P ops K (List.range' k l.length) a w
  | [], k, env, H, β, a, w, _, S, h, hK => hK env H β a w h S (.refl _ _ _) (Nat.le_refl _)
  | o :: r, k, env, H, β, a, w, hd, S, h, hK => by
    have hk : ops[k]? = some o := by
      have : (ops.toList.drop k)[0]? = some o := by rw [hd]; rfl
      rw [List.getElem?_drop, Nat.add_zero, Array.getElem?_toList] at this
      exact this
    have hd' : ops.toList.drop (k + 1) = r := by
      have := congrArg List.tail hd
      simpa [List.tail_drop] using this
    simp only [ARun] at h
    simp only [List.length_cons, List.range'_succ, wpOps, hk]
    split at h
    case isFalse => exact h.elim
    rename_i hok
    rw [ayield_eq S.envT hok.2]
    split
    · rename_i hw
      rw [if_pos hw] at h
      refine .inl (step_sound S hok.1 h ?_)
      intro v H1 β1 v' w1 hk1 S1 E1 hl1
      refine ops_sound r (k + 1) _ H1 β1 _ w1 hd' S1 hk1 ?_
      intro env2 H2 β2 a2 w2 q S2 E2 hl2
      exact hK env2 H2 β2 a2 w2 q S2 (E1.trans E2 hl1) (Nat.le_trans hl1 hl2)
    · rename_i hw
      rw [if_neg hw] at h
      refine ops_sound r (k + 1) _ H β _ w hd' ⟨S.rel, S.wf, S.envT.put S.size undef_T3 _ hok.1, S.er.put R3_undef _, by rw [Act.put_size]; exact S.size, by rw [Act.put_defers]; exact S.defers⟩ h hK
/-- A region in text order. -/
theorem AWp.region {nt : Nat} {id : Nat} {ops : Array Oper} {Q : Exit → Env → AH → Prop} (h : ARun P nt ops (fun env H => Q .normal env H) ops.toList env H) : AWp P nt (.region id ops false) Q env H := by
  intro β w a K S hK
  refine wp_region ?_
  have e : List.range ops.size = List.range' 0 ops.toList.length := by rw [List.range_eq_range']; simp
  rw [e]
  exact ops_sound ops.toList 0 env H β a w rfl S h fun env' H' β' a' w' q S' E hl => hK _ _ _ _ _ _ q S' E hl

/-! ### A function's body -/
def aresults (P : Program) (H : AH) (env : Env) : List ResultVar → Option (List Value)
  | [] => some []
  | r :: rs => match (match r with
      | .tmp t => env t
      | .cell p t => (env p).bind (aLoad P H t)), aresults P H env rs with
    | some v, some vs => if isTup v then none else some (v :: vs)
    | _, _ => none
def packed (vs : List Value) : Value := match vs with
  | [v] => v
  | vs => .tuple vs.toArray
def resSem (tmps : Array Value) : ResultVar → Sem Value
  | .tmp t => pure (tmps.getD t undef)
  | .cell p t => do loadVar t (← asAddr (tmps.getD p undef))
theorem results_sound {nt : Nat} (S : St nt β env H a w) : ∀ {rs : List ResultVar} {vs : List Value}, aresults P H env rs = some vs →
    ∃ vs', All2 (T2 β) vs vs' ∧ (rs.mapM (m := Sem) (resSem a.tmps)).run P w = .ok vs' w
  | [], vs, h => by cases h; exact ⟨[], .nil, by simp⟩
  | r :: rs, vs, h => by
    simp only [aresults] at h
    split at h
    · rename_i v us hv hus
      split at h
      · cases h
      · rename_i ht
        cases h
        obtain ⟨us', hu, hr⟩ := results_sound S hus
        cases r with
        | tmp t =>
          simp only at hv
          obtain ⟨v', hv', t3⟩ := S.envT t v hv
          refine ⟨v' :: us', .cons (t3.two (by simpa using ht)) hu, ?_⟩
          simp [List.mapM_cons, Sem.run_bind, resSem, hr, hv']
        | cell p t =>
          simp only at hv
          obtain ⟨pv, hp, hl⟩ := Option.bind_eq_some_iff.1 hv
          obtain ⟨p', hp', t3⟩ := S.envT p pv hp
          obtain ⟨v', h1, h2⟩ := aLoad_sound (P := P) S.rel hl t3
          refine ⟨v' :: us', .cons h2 hu, ?_⟩
          have h3 : p' = .pointer none ∨ (∃ q, p' = .pointer (some q)) := by
            unfold aLoad at hl
            split at hl
            · split at hl
              · rename_i ha _ _
                obtain ⟨l, _, _, rfl⟩ := t3.ptr S.rel ha
                exact .inr ⟨_, rfl⟩
              · rename_i ha _ _
                obtain ⟨l, _, _, rfl⟩ := t3.ptr S.rel ha
                exact .inr ⟨_, rfl⟩
              · cases hl
            · cases hl
          rcases h3 with rfl | ⟨q, rfl⟩
          · simp [Instr.loadAt, Instr.sureAddr] at h1
          · have h4 : (loadVar t q).run P w = .ok v' w := by simpa [Instr.loadAt, Instr.sureAddr] using h1
            simp [List.mapM_cons, Sem.run_bind, resSem, hr, hp', asAddr, h4]
    · cases h
theorem results_eq (fn : Func) (tmps : Array Value) : results fn tmps = (do
    let vs ← fn.results.mapM (resSem tmps)
    pure (if h : vs.size = 1 then vs[0] else .tuple vs)) := by
  unfold results
  have : ∀ (f g : ResultVar → Sem Value), f = g → (do
    let vs ← fn.results.mapM f
    pure (if h : vs.size = 1 then vs[0] else Value.tuple vs) : Sem Value) = (do
    let vs ← fn.results.mapM g
    pure (if h : vs.size = 1 then vs[0] else Value.tuple vs)) := fun f g h => by rw [h]
  exact this _ _ (by funext r; cases r <;> rfl)
theorem results_run {nt : Nat} (S : St nt β env H a w) {fn : Func} {vs : List Value} (h : aresults P H env fn.results.toList = some vs) : ∃ v', (results fn a.tmps).run P w = .ok v' w ∧ T3 β (packed vs) v' := by
  obtain ⟨vs', hv, hr⟩ := results_sound S h
  have e : (fn.results.mapM (m := Sem) (resSem a.tmps)).run P w = .ok vs'.toArray w := by
    rw [Array.mapM_eq_mapM_toList]
    simp [hr]
  rw [results_eq]
  rw [Sem.run_bind, e]
  simp only [Result.andThen_ok, Sem.run_pure]
  cases hv with
  | nil => exact ⟨_, rfl, .tup .nil⟩
  | cons h1 h2 =>
    cases h2 with
    | nil => exact ⟨_, rfl, .one h1⟩
    | cons h2 h3 => exact ⟨_, rfl, .tup (.cons h1 (.cons h2 h3))⟩
end

end Go.Proofs.Ytbckijeffiofdaa.AL
