/- AL, part 21: code whose end is told on the abstract heap, without telling it anew: a contract is a call's own end and a fact about it. No condition. -/
import Derived.Test.YtbckijeffiofdaaAL16
namespace Go.Proofs.Ytbckijeffiofdaa.AL
open Go Go.RowKit
set_option linter.unusedVariables false
set_option linter.unusedSimpArgs false

/-- CODE whose one end on the abstract heap bears a fact. -/
def DWp (P : Program) (nt : Nat) (c : Code) (Q : Exit → Env → AH → Prop) (env : Env) (H : AH) : Prop :=
  ∃ x env' H', AWp P nt c (fun y e G => y = x ∧ e = env' ∧ G = H') env H ∧ (WF H → ER H.length env → WF H' ∧ ER H'.length env' ∧ H.length ≤ H'.length) ∧ Q x env' H'
section
variable {P : Program} {nt : Nat} {env : Env} {H : AH} {Q : Exit → Env → AH → Prop}
theorem DWp.mono {c : Code} {Q' : Exit → Env → AH → Prop} (h : DWp P nt c Q env H) (hq : ∀ x e H, Q x e H → Q' x e H) : DWp P nt c Q' env H := by
  obtain ⟨x, e, G, a, g, q⟩ := h
  exact ⟨x, e, G, a, g, hq _ _ _ q⟩
theorem DWp.skip (h : Q .normal env H) : DWp P nt .skip Q env H := ⟨_, _, _, AWp.skip ⟨rfl, rfl, rfl⟩, fun a b => ⟨a, b, Nat.le_refl _⟩, h⟩
theorem DWp.label {l : Nat} (h : Q .normal env H) : DWp P nt (.label l) Q env H := ⟨_, _, _, AWp.label ⟨rfl, rfl, rfl⟩, fun a b => ⟨a, b, Nat.le_refl _⟩, h⟩
theorem DWp.exit {id : Nat} (h : Q (.exit id) env H) : DWp P nt (.exit id) Q env H := ⟨_, _, _, AWp.exit ⟨rfl, rfl, rfl⟩, fun a b => ⟨a, b, Nat.le_refl _⟩, h⟩
theorem DWp.ret (h : Q .ret env H) : DWp P nt .ret Q env H := ⟨_, _, _, AWp.ret ⟨rfl, rfl, rfl⟩, fun a b => ⟨a, b, Nat.le_refl _⟩, h⟩
theorem DWp.seq {x y : Code} (h : DWp P nt x (andThen (DWp P nt y Q) Q) env H) : DWp P nt (.seq x y) Q env H := by
  obtain ⟨e, env1, H1, a1, g1, q⟩ := h
  cases e with
  | normal =>
    obtain ⟨e2, env2, H2, a2, g2, q2⟩ := q
    refine ⟨e2, env2, H2, AWp.seq (a1.mono ?_), fun a b => ?_, q2⟩
    · rintro z e G ⟨rfl, rfl, rfl⟩
      exact a2
    · obtain ⟨w1, r1, l1⟩ := g1 a b
      obtain ⟨w2, r2, l2⟩ := g2 w1 r1
      exact ⟨w2, r2, Nat.le_trans l1 l2⟩
  | _ =>
    refine ⟨_, env1, H1, AWp.seq (a1.mono ?_), g1, q⟩
    rintro z e G ⟨rfl, rfl, rfl⟩
    exact ⟨rfl, rfl, rfl⟩
theorem DWp.cond {c : Operand} {x y : Code} {t : Bool} (hc : aev env c = some (.bool t)) (h : DWp P nt (if t then x else y) Q env H) : DWp P nt (.cond c x y) Q env H := by
  obtain ⟨e, env1, H1, a1, g1, q⟩ := h
  exact ⟨e, env1, H1, AWp.cond hc a1, g1, q⟩
theorem DWp.ct {c : Operand} {x y : Code} (hc : aev env c = some (.bool true)) (h : DWp P nt x Q env H) : DWp P nt (.cond c x y) Q env H := DWp.cond hc (by simpa using h)
theorem DWp.cf {c : Operand} {x y : Code} (hc : aev env c = some (.bool false)) (h : DWp P nt y Q env H) : DWp P nt (.cond c x y) Q env H := DWp.cond hc (by simpa using h)
/-- Where an exit of a block leads. -/
def leaves (id : Nat) (Q : Exit → Env → AH → Prop) : Exit → Env → AH → Prop
  | .exit id', e, H => if id' = id then Q .normal e H else Q (.exit id') e H
  | x, e, H => Q x e H
theorem DWp.block {id : Nat} {c : Code} (h : DWp P nt c (leaves id Q) env H) : DWp P nt (.block id c) Q env H := by
  obtain ⟨e, env1, H1, a1, g1, q⟩ := h
  cases e with
  | exit id' =>
    by_cases hid : id' = id
    · simp only [leaves, hid, if_true] at q
      refine ⟨.normal, env1, H1, AWp.block (a1.mono ?_), g1, q⟩
      rintro z e G ⟨rfl, rfl, rfl⟩
      simp [hid]
    · simp only [leaves, hid, if_false] at q
      refine ⟨.exit id', env1, H1, AWp.block (a1.mono ?_), g1, q⟩
      rintro z e G ⟨rfl, rfl, rfl⟩
      simp [hid]
  | _ =>
    refine ⟨_, env1, H1, AWp.block (a1.mono ?_), g1, q⟩
    rintro z e G ⟨rfl, rfl, rfl⟩
    exact ⟨rfl, rfl, rfl⟩
/-- The rounds of a loop, one after the other, up to its end. -/
inductive DRun (P : Program) (nt : Nat) (c : Code) (x : Exit) (env2 : Env) (H2 : AH) : Nat → Env → AH → Prop
  | stop {e0 : Env} {G0 : AH} : x ≠ .normal → AWp P nt c (fun y e G => y = x ∧ e = env2 ∧ G = H2) e0 G0 → DRun P nt c x env2 H2 0 e0 G0
  | step {n : Nat} {e0 : Env} {G0 : AH} {env1 : Env} {H1 : AH} : AWp P nt c (fun y e G => y = .normal ∧ e = env1 ∧ G = H1) e0 G0 → DRun P nt c x env2 H2 n env1 H1 → DRun P nt c x env2 H2 (n + 1) e0 G0
theorem DWp.loop {c : Code} (I : Nat → Env → AH → Prop) (n : Nat) (h0 : I n env H)
    (round : ∀ n env H, I n env H → DWp P nt c (andThen (fun env' H' => ∃ m, m < n ∧ I m env' H') Q) env H) : DWp P nt (.loop c) Q env H := by
  have key : ∀ n env H, I n env H → ∃ x env' H' k, DRun P nt c x env' H' k env H ∧ (WF H → ER H.length env → WF H' ∧ ER H'.length env' ∧ H.length ≤ H'.length) ∧ Q x env' H' := by
    intro n
    induction n using Nat.strongRecOn with
    | _ n ih =>
      intro env H hI
      obtain ⟨x, env1, H1, a1, g1, q⟩ := round n env H hI
      cases x with
      | normal =>
        obtain ⟨m, hm, hI'⟩ := q
        obtain ⟨x2, env2, H2, k, r, g2, q2⟩ := ih m hm env1 H1 hI'
        refine ⟨x2, env2, H2, k + 1, .step a1 r, fun a b => ?_, q2⟩
        obtain ⟨w1, r1, l1⟩ := g1 a b
        obtain ⟨w2, r2, l2⟩ := g2 w1 r1
        exact ⟨w2, r2, Nat.le_trans l1 l2⟩
      | _ => exact ⟨_, env1, H1, 0, .stop (by simp) a1, g1, q⟩
  obtain ⟨x, env', H', k, r, g, q⟩ := key n env H h0
  refine ⟨x, env', H', AWp.loop (fun n e G => DRun P nt c x env' H' n e G) k r ?_, g, q⟩
  intro n e G r
  cases r with
  | stop hx a =>
    refine a.mono ?_
    rintro y e G ⟨rfl, rfl, rfl⟩
    cases y with
    | normal => exact absurd rfl hx
    | _ => exact ⟨rfl, rfl, rfl⟩
  | step a r =>
    refine a.mono ?_
    rintro y e G ⟨rfl, rfl, rfl⟩
    exact ⟨_, Nat.lt_succ_self _, r⟩

theorem arunD_det {ops : Array Oper} {k : Nat} {K : Env → AH → Prop} : ∀ (l : List Oper) (i : Nat) (env : Env) (H : AH), ARunD P nt ops k K i l env H →
    ∃ env' H', ARunD P nt ops k (fun e G => e = env' ∧ G = H') i l env H ∧ (WF H → ER H.length env → WF H' ∧ ER H'.length env' ∧ H.length ≤ H'.length) ∧ K env' H'
  | [], i, env, H, h => ⟨env, H, ⟨rfl, rfl⟩, fun a b => ⟨a, b, Nat.le_refl _⟩, h⟩
  | o :: r, i, env, H, h => by
    unfold ARunD at h
    split at h
    case isFalse => exact h.elim
    rename_i hok
    by_cases hw : Region.wanted o (ayield ops env) = true
    · rw [if_pos hw] at h
      have go : ∃ v H1, OpRes P env H o v H1 ∧ (i < k → H <+: H1) ∧ ARunD P nt ops k K (i + 1) r (aput env o.dst v) H1 := by
        unfold AStepD at h
        split at h
        · rename_i v H1 e
          exact ⟨v, H1, .inl e, h.1, h.2⟩
        · rename_i f args e
          obtain ⟨v, H1, hc, h1, h2⟩ := h
          exact ⟨v, H1, .inr ⟨f, args, e, hc⟩, h1, h2⟩
        · exact h.elim
      obtain ⟨v, H1, hr, hp, hrest⟩ := go
      obtain ⟨env', H', h1, h2, h3⟩ := arunD_det r (i + 1) _ H1 hrest
      refine ⟨env', H', ?_, fun a b => ?_, h3⟩
      · unfold ARunD
        rw [if_pos hok, if_pos hw]
        unfold AStepD
        rcases hr with e | ⟨f, args, e, hc⟩
        · rw [e]; exact ⟨hp, h1⟩
        · rw [e]; exact ⟨v, H1, hc, hp, h1⟩
      · obtain ⟨g1, g2, g3⟩ := hr.good a b
        obtain ⟨w2, r2, l2⟩ := h2 g1 ((b.mono g3).put g2 _)
        exact ⟨w2, r2, Nat.le_trans g3 l2⟩
    · rw [if_neg hw] at h
      obtain ⟨env', H', h1, h2, h3⟩ := arunD_det r (i + 1) _ H h
      refine ⟨env', H', ?_, fun a b => h2 a (b.put R3_undef _), h3⟩
      unfold ARunD
      rw [if_pos hok, if_neg hw]
      exact h1
theorem arunD_run {ops : Array Oper} {k : Nat} {K : Env → AH → Prop} : ∀ (l : List Oper) (i : Nat) (env : Env) (H : AH), ARunD P nt ops k K i l env H → ARun P nt ops K l env H
  | [], i, env, H, h => h
  | o :: r, i, env, H, h => by
    unfold ARunD at h
    unfold ARun
    split at h
    case isFalse => exact h.elim
    rename_i hok
    rw [if_pos hok]
    split at h
    · rename_i hw
      rw [if_pos hw]
      unfold AStepD at h
      unfold AStep
      split at h
      · exact arunD_run r _ _ _ h.2
      · obtain ⟨v, H1, hc, h1, h2⟩ := h
        exact CallK.det hc (arunD_run r _ _ _ h2)
      · exact h.elim
    · rename_i hw
      rw [if_neg hw]
      exact arunD_run r _ _ _ h
/-- A region in text order. -/
theorem DWp.region {id : Nat} {ops : Array Oper} (h : ∀ K : Env → AH → Prop, (∀ env H, Q .normal env H → K env H) → ARunD P nt ops 0 K 0 ops.toList env H) : DWp P nt (.region id ops false) Q env H := by
  obtain ⟨env', H', h1, h2, h3⟩ := arunD_det _ _ _ _ (h _ fun _ _ h => h)
  refine ⟨.normal, env', H', AWp.region ?_, h2, h3⟩
  have := arunD_run _ _ _ _ h1
  simpa using this
/-- A region that draws its order. -/
theorem DWp.drawn {id : Nat} {ops : Array Oper} {B : List Nat} (k : Nat) (hm : P.follows .mixedOrders = true) (hc : chk ops B k = true) (hk : k ≤ ops.size) (h : ∀ K : Env → AH → Prop, (∀ env H, Q .normal env H → K env H) → ARunD P nt ops k K 0 ops.toList env H) : DWp P nt (.region id ops true) Q env H := by
  obtain ⟨env', H', h1, h2, h3⟩ := arunD_det _ _ _ _ (h _ fun _ _ h => h)
  refine ⟨.normal, env', H', AWp.drawn hm hc hk ?_, h2, h3⟩
  simpa using h1
end

/-- A CALL WHOSE END IS TOLD, and a fact about it. -/
def ACallT (P : Program) (f : FuncId) (args : List Value) (H : AH) (Post : Value → AH → Prop) : Prop := ∃ v H', ACall P f args H v H' ∧ Post v H'
theorem ACallT.mono {P : Program} {f : FuncId} {args : List Value} {H : AH} {Post Post' : Value → AH → Prop} (h : ACallT P f args H Post) (hq : ∀ v H', Post v H' → Post' v H') : ACallT P f args H Post' := by
  obtain ⟨v, G, c, q⟩ := h
  exact ⟨v, G, c, hq _ _ q⟩
theorem ACall.t {P : Program} {f : FuncId} {args : List Value} {H H' : AH} {v : Value} (h : ACall P f args H v H') : ACallT P f args H (fun u G => u = v ∧ G = H') := ⟨v, H', h, rfl, rfl⟩
theorem CallD.t {P : Program} {f : FuncId} {args : List Value} {H : AH} {K Post : Value → AH → Prop} (h : ACallT P f args H Post) (hk : ∀ v H', Post v H' → K v H') : CallD P f args H K := by
  obtain ⟨v, G, c, q⟩ := h
  exact ⟨v, G, c, hk _ _ q⟩
theorem ACallT.of_body {P : Program} {f : FuncId} {fn : Func} {c : Code} {args : List Value} {H : AH} {rs : List ResultVar} {nt : Nat} {Post : Value → AH → Prop} (hf : P.funcs[f]? = some fn) (hb : fn.body = some c) (hn : (fn.name == "runtime.NumGoroutine") = false)
    (hr : fn.results.toList = rs) (ht : args.length + (fn.ntmps - args.length) = nt)
    (h : DWp P nt c (fun e env' H' => (e = .normal ∨ e = .ret) ∧ ∃ vs, aresults P H' env' rs = some vs ∧ Post (packed vs) H') (fun t => args[t]?) H) : ACallT P f args H Post := by
  obtain ⟨x, env', H', a, g, he, vs, hv, hp⟩ := h
  have key : ACallP P f args H (fun u G => u = packed vs ∧ G = H') := ACallP.of_body hf hb hn hr ht fun _ _ => a.mono (by
    rintro y e G ⟨rfl, rfl, rfl⟩
    exact ⟨he, vs, hv, rfl, rfl⟩)
  refine ⟨packed vs, H', ⟨key.enters, fun wf hR => ?_, fun β w args' R wf hR ha => ?_⟩, hp⟩
  · obtain ⟨w1, r1, l1⟩ := g wf (fun t v hv => R3_of2 (hR v (List.mem_of_getElem? hv)))
    exact ⟨w1, results_R w1 r1 hv, l1⟩
  · refine (key.calls β w args' R wf hR ha).mono ?_
    rintro e w' ⟨v, v', β', G, rfl, ⟨rfl, rfl⟩, hg, R', E, t⟩
    exact ⟨v', β', rfl, R', E, t⟩
end Go.Proofs.Ytbckijeffiofdaa.AL
