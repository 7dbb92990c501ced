/- AL, part 47: code that bears a map: its rules, calls that hand it on, and the function that makes it. No condition. -/
import Derived.Test.YtjgnpkedkjbmcaaAL46
namespace Go.Proofs.Ytjgnpkedkjbmcaa.AL
open Go Go.RowKit
set_option linter.unusedVariables false
set_option linter.unusedSimpArgs false

theorem Rel.turn {β : BM} {H : AH} {w w' : World} (R : Rel β H w) (hsz : w.heap.size ≤ w'.heap.size) (hk : ∀ i l, β i = some l → w'.heap[l.b]? = w.heap[l.b]?) : Rel β H w' where
  dom := R.dom
  loc := fun i l hl => Nat.lt_of_lt_of_le (R.loc i l hl) hsz
  inj := R.inj
  obj := fun i o l ho hl => by
    obtain ⟨h1, h2, h3, h4, h5, h6⟩ := R.obj i o l ho hl
    have hblk := hk i l hl
    refine ⟨h1, h2, h3, h4, fun q c hq => ?_, fun hr => ?_⟩
    · obtain ⟨v, hv, t⟩ := h5 q c hq
      exact ⟨v, (World.cell?_of_block (a := ⟨l.b, l.base + q, none⟩) hblk).trans hv, t⟩
    · obtain ⟨a, ha1, ha2⟩ := h6 hr
      exact ⟨a, hblk.trans ha1, ha2⟩
def MWp (P : Program) (nt b : Nat) (V : Int → Int) (c : Code) (Q : Exit → Env → AH → Prop) (env : Env) (H : AH) : Prop :=
  ∀ β w a (K : Exit → Act → World → Prop), St nt β env H a w → MapOK b V w → Shun b β →
    (∀ x env' H' β' a' w', Q x env' H' → St nt β' env' H' a' w' → MapOK b V w' → Shun b β' → ExtM b H.length β w β' w' → H.length ≤ H'.length → K x a' w') → c.wp P K a w
structure MCall (P : Program) (b : Nat) (V : Int → Int) (f : FuncId) (args : List Value) (H : AH) (Post : Value → AH → Prop) : Prop where
  enters : Enters P f
  calls : ∀ β w args', Rel β H w → WF H → (∀ x ∈ args, R2 H.length x = true) → All2 (T2 β) args args'.toList → MapOK b V w → Shun b β →
    Calls P f args' w fun e w' => ∃ v v' β' H', e = .returned v' ∧ Post v H' ∧ Good H v H' ∧ Rel β' H' w' ∧ ExtM b H.length β w β' w' ∧ MapOK b V w' ∧ Shun b β' ∧ T3 β' v v'
def MCallK (P : Program) (b : Nat) (V : Int → Int) (f : FuncId) (args : List Value) (H : AH) (K : Value → AH → Prop) : Prop := ∃ Post, MCall P b V f args H Post ∧ ∀ v H', Post v H' → K v H'
def LookT (P : Program) (t : TypeId) : Prop := ∃ kt et, P.underlying t = some (.map kt et) ∧ P.underlying kt = some (.int .i64) ∧ ∀ w, (zeroValue et).run P w = .ok (.int .i64 0) w
def MStep (P : Program) (b : Nat) (V : Int → Int) (o : Oper) (env : Env) (H : AH) (K : Value → AH → Prop) : Prop :=
  match o.op with
  | .lookup t m x true => LookT P t ∧ aev env m = some (.map (some b)) ∧ ∃ k, aev env x = some (.int .i64 k) ∧ K (.tuple #[.int .i64 (V k), .bool true]) H ∧ K (.tuple #[.int .i64 0, .bool false]) H
  | .mapUpdate t m x v => LookT P t ∧ aev env m = some (.map (some b)) ∧ ∃ k, aev env x = some (.int .i64 k) ∧ aev env v = some (.int .i64 (V k)) ∧ K undef H
  | op => match aop P env H op with
    | .val v H' => K v H'
    | .call f args => MCallK P b V f args H K
    | .bad => False
def MRun (P : Program) (nt : Nat) (ops : Array Oper) (b : Nat) (V : Int → Int) (K : Env → AH → Prop) : List Oper → Env → AH → Prop
  | [], env, H => K env H
  | o :: r, env, H => if okDst nt o.dst = true ∧ okGuard ops env o = true then (if Region.wanted o (ayield ops env) then MStep P b V o env H (fun v H' => MRun P nt ops b V K r (aput env o.dst v) H') else MRun P nt ops b V K r (aput env o.dst undef) H) else False
def NRun (P : Program) (nt : Nat) (ops : Array Oper) (V : Int → Int) (K : Env → AH → Prop) : List Oper → Env → AH → Prop
  | [], env, H => K env H
  | o :: r, env, H => if okDst nt o.dst = true ∧ okGuard ops env o = true then (if Region.wanted o (ayield ops env) then (match o.op with
      | .makeMap t none => ∀ b, MRun P nt ops b V K r (aput env o.dst (.map (some b))) H
      | _ => AStep P o env H (fun v H' => NRun P nt ops V K r (aput env o.dst v) H')) else NRun P nt ops V K r (aput env o.dst undef) H) else False
section
variable {P : Program} {nt b : Nat} {V : Int → Int} {β : BM} {H H' : AH} {w : World} {env : Env} {a : Act} {Q : Exit → Env → AH → Prop}
theorem MWp.of_awp {c : Code} (h : AWp P nt c Q env H) : MWp P nt b V c Q env H := fun β w a K S hm hs hK =>
  h β w a K S fun x env' H' β' a' w' q S' E hl => hK x env' H' β' a' w' q S' (hm.ext hs E) (hs.ext hm.lt E) E.toM hl
theorem MWp.of_dwp {c : Code} (h : DWp P nt c Q env H) : MWp P nt b V c Q env H := by
  obtain ⟨x, env', H', a, g, q⟩ := h
  exact .of_awp (a.mono (by rintro y e G ⟨rfl, rfl, rfl⟩; exact q))
theorem MWp.mono {c : Code} {Q' : Exit → Env → AH → Prop} (h : MWp P nt b V c Q env H) (hq : ∀ x e H, Q x e H → Q' x e H) : MWp P nt b V c Q' env H :=
  fun β w a K S hm hs hK => h β w a K S hm hs fun x env' H' β' a' w' q => hK x env' H' β' a' w' (hq _ _ _ q)
theorem MWp.skip (h : Q .normal env H) : MWp P nt b V .skip Q env H := .of_awp (.skip h)
theorem MWp.exit {id : Nat} (h : Q (.exit id) env H) : MWp P nt b V (.exit id) Q env H := .of_awp (.exit h)
theorem MWp.ret (h : Q .ret env H) : MWp P nt b V .ret Q env H := .of_awp (.ret h)
theorem MWp.label {l : Nat} (h : Q .normal env H) : MWp P nt b V (.label l) Q env H := .of_awp (.label h)
theorem MWp.seq {x y : Code} (h : MWp P nt b V x (andThen (MWp P nt b V y Q) Q) env H) : MWp P nt b V (.seq x y) Q env H := by
  intro β w a K S hm hs hK
  refine wp_seq (h β w a _ S hm hs ?_)
  intro e env' H' β' a' w' q S' hm' hs' E hl
  cases e with
  | normal =>
    refine q β' w' a' K S' hm' hs' ?_
    intro e2 env2 H2 β2 a2 w2 q2 S2 hm2 hs2 E2 hl2
    exact hK e2 env2 H2 β2 a2 w2 q2 S2 hm2 hs2 (E.trans E2 hl) (Nat.le_trans hl hl2)
  | _ => exact hK _ _ _ _ _ _ q S' hm' hs' E hl
theorem MWp.cond {c : Operand} {x y : Code} {t : Bool} (hc : aev env c = some (.bool t)) (h : MWp P nt b V (if t then x else y) Q env H) : MWp P nt b V (.cond c x y) Q env H :=
  fun β w a K S hm hs hK => wp_cond (S.envT.at_ hc).bool (h β w a K S hm hs hK)
theorem MWp.block {id : Nat} {c : Code} (h : MWp P nt b V c (leaves id Q) env H) : MWp P nt b V (.block id c) Q env H := by
  intro β w a K S hm hs hK
  refine wp_block (h β w a _ S hm hs ?_)
  intro e env' H' β' a' w' q S' hm' hs' E hl
  cases e with
  | exit id' =>
    by_cases hid : id' = id
    · simp only [leaves, hid, if_true, Exit.inBlock] at q ⊢
      exact hK _ _ _ _ _ _ q S' hm' hs' E hl
    · simp only [leaves, hid, if_false, Exit.inBlock] at q ⊢
      exact hK _ _ _ _ _ _ q S' hm' hs' E hl
  | _ => exact hK _ _ _ _ _ _ q S' hm' hs' E hl
theorem MWp.loop {c : Code} (I : Nat → Env → AH → Prop) (n : Nat) (h0 : I n env H)
    (round : ∀ n env H, I n env H → MWp P nt b V c (andThen (fun env' H' => ∃ m, m < n ∧ I m env' H') Q) env H) : MWp P nt b V (.loop c) Q env H := by
  intro β w a K S hm hs hK
  refine wp_loop_ghost (fun n a' w' => ∃ env' H' β', I n env' H' ∧ St nt β' env' H' a' w' ∧ MapOK b V w' ∧ Shun b β' ∧ ExtM b H.length β w β' w' ∧ H.length ≤ H'.length) n ⟨env, H, β, h0, S, hm, hs, .refl _ _ _, Nat.le_refl _⟩ ?_
  rintro n a1 w1 ⟨env1, H1, β1, hI, S1, hm1, hs1, E1, hl1⟩
  refine round n env1 H1 hI β1 w1 a1 _ S1 hm1 hs1 ?_
  intro e env' H' β' a' w' q S' hm' hs' E hl
  cases e with
  | normal =>
    obtain ⟨m, hmn, hI'⟩ := q
    exact ⟨m, hmn, env', H', β', hI', S', hm', hs', E1.trans E hl1, Nat.le_trans hl1 hl⟩
  | _ => exact hK _ _ _ _ _ _ q S' hm' hs' (E1.trans E hl1) (Nat.le_trans hl1 hl)
theorem map_real {v : Value} {r : Option Nat} (t : T3 β (.map r) v) : v = .map r := by
  rcases t with ((t | t) | t) | t
  cases t
  rfl
theorem mstep_sound {o : Oper} {K : Value → AH → Prop} {N : Act → World → Prop} {Q : Exit → Act → World → Prop} (S : St nt β env H a w) (hm : MapOK b V w) (hs : Shun b β) (hd : okDst nt o.dst = true) (h : MStep P b V o env H K)
    (hN : ∀ v H' β' v' w', K v H' → St nt β' (aput env o.dst v) H' (a.put o.dst v') w' → MapOK b V w' → Shun b β' → ExtM b H.length β w β' w' → H.length ≤ H'.length → N (a.put o.dst v') w') : o.wp P a w N Q := by
  have other : (AStep P o env H K ∨ ∃ f args, aop P env H o.op = .call f args ∧ MCallK P b V f args H K) → o.wp P a w N Q := by
    rintro (h | ⟨f, args, ha, Post, hc, hk⟩)
    · exact step_sound S hd h fun v H' β' v' w' hk S' E hl => hN v H' β' v' w' hk S' (hm.ext hs E) (hs.ext hm.lt E) E.toM hl
    · unfold Oper.wp
      obtain ⟨args', hr, hargs⟩ := aop_call S.rel (S.envT.op _) ha hc.enters
      rw [hr]
      refine (hc.calls β w args' S.rel S.wf (call_args_R S.er ha) hargs hm hs).mono ?_
      rintro e w' ⟨v, v', β', H', rfl, hp, ⟨g1, g2, g3⟩, R', E, hm', hs', t⟩
      have env2 : EnvT β' env a.tmps := fun i u hu => by
        obtain ⟨u', h1, h2⟩ := S.envT i u hu
        refine ⟨u', h1, ?_⟩
        have h3 := h2
        have ex : ∀ {x y : Value}, T0 β x y → T0 β' x y := fun t => by
          cases t with
          | plain hp => exact .plain hp
          | ptr hl hg =>
            obtain ⟨l', h1, h2, h3, h4⟩ := E.mono _ _ hl
            rcases h4 with rfl | h4
            · exact .ptr h1 hg
            · exact .ptrOld h1 (hg ▸ h4)
          | ptrOld hl hg =>
            obtain ⟨l', h1, h2, h3, h4⟩ := E.mono _ _ hl
            rcases h4 with rfl | h4
            · exact .ptrOld h1 hg
            · exact .ptrOld h1 (Nat.lt_trans hg h4)
          | sl hl hg hn hc ha =>
            obtain ⟨l', h1, h2, h3, h4⟩ := E.mono _ _ hl
            rcases h4 with rfl | h4
            · exact .sl h1 hg hn hc ha
            · exact .slOld h1 (hg ▸ h4)
          | slOld hl hg =>
            obtain ⟨l', h1, h2, h3, h4⟩ := E.mono _ _ hl
            rcases h4 with rfl | h4
            · exact .slOld h1 hg
            · exact .slOld h1 (Nat.lt_trans hg h4)
        have ex1 : ∀ {x y : Value}, T1 β x y → T1 β' x y := fun t => by
          cases t with
          | one t => exact .one (ex t)
          | fn t => exact .fn (t.imp fun _ _ => ex)
        have ex2 : ∀ {x y : Value}, T2 β x y → T2 β' x y := fun t => by
          cases t with
          | one t => exact .one (ex1 t)
          | agg t => exact .agg (t.imp fun _ _ => ex1)
        cases h3 with
        | one t => exact .one (ex2 t)
        | tup t => exact .tup (t.imp fun _ _ => ex2)
      exact hN v H' β' v' w' (hk v H' hp) ⟨R', g1, env2.put S.size t _ hd, (S.er.mono g3).put g2 _, by rw [Act.put_size]; exact S.size, by rw [Act.put_defers]; exact S.defers⟩ hm' hs' E g3
  unfold MStep at h
  split at h
  · rename_i t m x ho
    obtain ⟨⟨kt, et, h1, h2, h3⟩, h4, k, h5, h6, h7⟩ := h
    have em := map_real (S.envT.at_ h4)
    have ex := (S.envT.at_ h5).int
    have fin : ∀ u : Value, plainV u = true ∨ (∃ x y : Value, u = .tuple #[x, y] ∧ plainV x = true ∧ plainV y = true) → K u H → R3 H.length u = true → N (a.put o.dst u) w := fun u hu hk hr3 => by
      refine hN u H β u w hk ⟨S.rel, S.wf, S.envT.put S.size ?_ _ hd, S.er.put hr3 _, by rw [Act.put_size]; exact S.size, by rw [Act.put_defers]; exact S.defers⟩ hm hs (.refl _ _ _) (Nat.le_refl _)
      rcases hu with hu | ⟨x, y, rfl, hx, hy⟩
      · exact .one (.one (.one (.plain hu)))
      · exact .tup (vs := [x, y]) (vs' := [x, y]) (.cons (.one (.one (.plain hx))) (.cons (.one (.one (.plain hy))) .nil))
    unfold Oper.wp
    rcases look_run (n1 := true) (k := k) h1 h2 (h3 w) hm with hr | hr
    · have : (execOp a.eval o).run P w = .ok (.value (.tuple #[.int .i64 (V k), .bool true])) w := by simp [execOp, ho, em, ex, hr]
      rw [this]
      exact fin _ (.inr ⟨_, _, rfl, rfl, rfl⟩) h6 (by simp [R3, R2, R0])
    · have : (execOp a.eval o).run P w = .ok (.value (.tuple #[.int .i64 0, .bool false])) w := by simp [execOp, ho, em, ex, hr]
      rw [this]
      exact fin _ (.inr ⟨_, _, rfl, rfl, rfl⟩) h7 (by simp [R3, R2, R0])
  · rename_i t m x v ho
    obtain ⟨⟨kt, et, h1, h2, h3⟩, h4, k, h5, h6, h7⟩ := h
    have em := map_real (S.envT.at_ h4)
    have ex := (S.envT.at_ h5).int
    have ev := (S.envT.at_ h6).int
    obtain ⟨u, hr, hm'⟩ := put_run (k := k) h1 h2 hm
    have : (execOp a.eval o).run P w = .ok .skip { w with heap := w.heap.setIfInBounds b u } := by simp [execOp, ho, em, ex, ev, hr]
    unfold Oper.wp
    rw [this]
    have hk : ∀ c, c ≠ b → (w.heap.setIfInBounds b u)[c]? = w.heap[c]? := fun c hc => by simp [Ne.symm hc]
    refine hN undef H β undef _ h7 ⟨S.rel.turn (by simp) (fun i l hl => hk _ (hs i l hl)), S.wf, S.envT.put S.size undef_T3 _ hd, S.er.put R3_undef _, by rw [Act.put_size]; exact S.size, by rw [Act.put_defers]; exact S.defers⟩ hm' hs ?_ (Nat.le_refl _)
    exact ⟨rfl, rfl, rfl, by simp, fun c _ hc _ => hk c hc, fun i l h => ⟨l, h, rfl, rfl, .inl rfl⟩, fun _ _ h => h, fun i l h => .inl ⟨l, h, rfl, rfl⟩⟩
  · split at h
    · rename_i v H' ha
      exact other (.inl (by unfold AStep; rw [ha]; exact h))
    · rename_i f args ha
      exact other (.inr ⟨f, args, ha, h⟩)
    · exact h.elim
theorem mops_sound {ops : Array Oper} {Q : Exit → Env → AH → Prop} {K : Exit → Act → World → Prop} : ∀ (l : List Oper) (k : Nat) (env : Env) (H : AH) (β : BM) (a : Act) (w : World), ops.toList.drop k = l → St nt β env H a w → MapOK b V w → Shun b β →
    MRun P nt ops b V (fun env' H' => Q .normal env' H') l env H → (∀ env' H' β' a' w', Q .normal env' H' → St nt β' env' H' a' w' → MapOK b V w' → Shun b β' → ExtM b H.length β w β' w' → H.length ≤ H'.length → K .normal a' w') →
    wpOps P ops K (List.range' k l.length) a w
  | [], k, env, H, β, a, w, _, S, hm, hs, h, hK => hK env H β a w h S hm hs (.refl _ _ _) (Nat.le_refl _)
  | o :: r, k, env, H, β, a, w, hd, S, hm, hs, h, hK => by
    have hk : ops[k]? = some o := by
      have : (ops.toList.drop k)[0]? = some o := by rw [hd]; rfl
      rw [List.getElem?_drop, Nat.add_zero, Array.getElem?_toList] at this
      exact this
    have hd' : ops.toList.drop (k + 1) = r := by
      have := congrArg List.tail hd
      simpa [List.tail_drop] using this
    simp only [MRun] at h
    simp only [List.length_cons, List.range'_succ, wpOps, hk]
    split at h
    case isFalse => exact h.elim
    rename_i hok
    rw [ayield_eq S.envT hok.2]
    split
    · rename_i hw
      rw [if_pos hw] at h
      refine .inl (mstep_sound S hm hs hok.1 h ?_)
      intro v H1 β1 v' w1 hk1 S1 hm1 hs1 E1 hl1
      refine mops_sound r (k + 1) _ H1 β1 _ w1 hd' S1 hm1 hs1 hk1 ?_
      intro env2 H2 β2 a2 w2 q S2 hm2 hs2 E2 hl2
      exact hK env2 H2 β2 a2 w2 q S2 hm2 hs2 (E1.trans E2 hl1) (Nat.le_trans hl1 hl2)
    · rename_i hw
      rw [if_neg hw] at h
      refine mops_sound r (k + 1) _ H β _ w hd' ⟨S.rel, S.wf, S.envT.put S.size undef_T3 _ hok.1, S.er.put R3_undef _, by rw [Act.put_size]; exact S.size, by rw [Act.put_defers]; exact S.defers⟩ hm hs h hK
theorem MWp.region {id : Nat} {ops : Array Oper} (h : MRun P nt ops b V (fun env H => Q .normal env H) ops.toList env H) : MWp P nt b V (.region id ops false) Q env H := by
  intro β w a K S hm hs hK
  refine wp_region ?_
  have e : List.range ops.size = List.range' 0 ops.toList.length := by rw [List.range_eq_range']; simp
  rw [e]
  exact mops_sound ops.toList 0 env H β a w rfl S hm hs h fun env' H' β' a' w' q S' hm' hs' E hl => hK _ _ _ _ _ _ q S' hm' hs' E hl
theorem nops_sound {ops : Array Oper} {Q : Exit → Env → AH → Prop} {K : Exit → Act → World → Prop} : ∀ (l : List Oper) (k : Nat) (env : Env) (H : AH) (β : BM) (a : Act) (w : World), ops.toList.drop k = l → St nt β env H a w →
    NRun P nt ops V (fun env' H' => Q .normal env' H') l env H → (∀ env' H' β' a' w', Q .normal env' H' → St nt β' env' H' a' w' → Ext H.length β w β' w' → H.length ≤ H'.length → K .normal a' w') →
    wpOps P ops K (List.range' k l.length) a w
  | [], k, env, H, β, a, w, _, S, h, hK => hK env H β a w h S (.refl _ _ _) (Nat.le_refl _)
  | o :: r, k, env, H, β, a, w, hd, S, h, hK => by
    have hk : ops[k]? = some o := by
      have : (ops.toList.drop k)[0]? = some o := by rw [hd]; rfl
      rw [List.getElem?_drop, Nat.add_zero, Array.getElem?_toList] at this
      exact this
    have hd' : ops.toList.drop (k + 1) = r := by
      have := congrArg List.tail hd
      simpa [List.tail_drop] using this
    simp only [NRun] at h
    simp only [List.length_cons, List.range'_succ, wpOps, hk]
    split at h
    case isFalse => exact h.elim
    rename_i hok
    rw [ayield_eq S.envT hok.2]
    split
    · rename_i hw
      rw [if_pos hw] at h
      refine .inl ?_
      split at h
      · rename_i t ho
        have hr : (execOp a.eval o).run P w = .ok (.value (.map (some w.heap.size))) (w.alloc (.map #[] 0)) := by simp [execOp, ho, run_makeMap_plain]
        unfold Oper.wp
        rw [hr]
        have hsz : (w.alloc (.map #[] 0)).heap.size = w.heap.size + 1 := by
          show (w.heap.push (Obj.map #[] 0)).size = w.heap.size + 1
          simp
        have hold := (MapKept.heap_alloc w (.map #[] 0)).2
        have hnew := (MapKept.heap_alloc w (.map #[] 0)).1
        have hs : Shun w.heap.size β := fun i l hl => Nat.ne_of_lt (S.rel.loc i l hl)
        have hm : MapOK w.heap.size V (w.alloc (.map #[] 0)) := ⟨_, _, hnew, fun e he => by simp at he⟩
        have S1 : St nt β (aput env o.dst (.map (some w.heap.size))) H (a.put o.dst (.map (some w.heap.size))) (w.alloc (.map #[] 0)) :=
          ⟨S.rel.turn (by omega) (fun i l hl => hold _ (S.rel.loc i l hl)), S.wf, S.envT.put S.size (.one (.one (.one (.plain rfl)))) _ hok.1, S.er.put (by simp [R3, R2, R0]) _, by rw [Act.put_size]; exact S.size, by rw [Act.put_defers]; exact S.defers⟩
        refine mops_sound r (k + 1) _ H β _ _ hd' S1 hm hs (h w.heap.size) ?_
        intro env2 H2 β2 a2 w2 q S2 hm2 hs2 E2 hl2
        refine hK env2 H2 β2 a2 w2 q S2 ⟨E2.os, E2.tape, E2.output, by have := E2.size; omega, fun c hc hro => ?_, E2.mono, E2.hole, fun i l hl => ?_⟩ hl2
        · rw [E2.keep c (by omega) (by omega) hro]
          exact hold c hc
        · rcases E2.fresh i l hl with h1 | h1
          · exact .inl h1
          · exact .inr (by omega)
      · refine step_sound S hok.1 h ?_
        intro v H1 β1 v' w1 hk1 S1 E1 hl1
        refine nops_sound r (k + 1) _ H1 β1 _ w1 hd' S1 hk1 ?_
        intro env2 H2 β2 a2 w2 q S2 E2 hl2
        exact hK env2 H2 β2 a2 w2 q S2 (E1.trans E2 hl1) (Nat.le_trans hl1 hl2)
    · rename_i hw
      rw [if_neg hw] at h
      refine nops_sound r (k + 1) _ H β _ w hd' ⟨S.rel, S.wf, S.envT.put S.size undef_T3 _ hok.1, S.er.put R3_undef _, by rw [Act.put_size]; exact S.size, by rw [Act.put_defers]; exact S.defers⟩ h hK
theorem AWp.regionN {id : Nat} {ops : Array Oper} (V : Int → Int) (h : NRun P nt ops V (fun env H => Q .normal env H) ops.toList env H) : AWp P nt (.region id ops false) Q env H := by
  intro β w a K S hK
  refine wp_region ?_
  have e : List.range ops.size = List.range' 0 ops.toList.length := by rw [List.range_eq_range']; simp
  rw [e]
  exact nops_sound ops.toList 0 env H β a w rfl S h fun env' H' β' a' w' q S' E hl => hK _ _ _ _ _ _ q S' E hl
@[simp] theorem MRun_nil {ops : Array Oper} {K : Env → AH → Prop} : MRun P nt ops b V K [] env H = K env H := rfl
@[simp] theorem MRun_cons {ops : Array Oper} {K : Env → AH → Prop} {o : Oper} {r : List Oper} : MRun P nt ops b V K (o :: r) env H = if okDst nt o.dst = true ∧ okGuard ops env o = true then (if Region.wanted o (ayield ops env) then MStep P b V o env H (fun v H' => MRun P nt ops b V K r (aput env o.dst v) H') else MRun P nt ops b V K r (aput env o.dst undef) H) else False := rfl
theorem MWp.sr {id : Nat} {ops : Array Oper} {y : Code} (h : ∀ K : Env → AH → Prop, (∀ env H, MWp P nt b V y Q env H → K env H) → ARunD P nt ops 0 K 0 ops.toList env H) : MWp P nt b V (.seq (.region id ops false) y) Q env H :=
  .seq (.of_dwp (DWp.region fun K hK => h K fun e G q => hK e G q))
theorem MWp.sm {id : Nat} {ops : Array Oper} {y : Code} (h : MRun P nt ops b V (fun env H => MWp P nt b V y Q env H) ops.toList env H) : MWp P nt b V (.seq (.region id ops false) y) Q env H :=
  .seq (.region h)
theorem MWp.reg {id : Nat} {ops : Array Oper} (h : ∀ K : Env → AH → Prop, (∀ env H, Q .normal env H → K env H) → ARunD P nt ops 0 K 0 ops.toList env H) : MWp P nt b V (.region id ops false) Q env H :=
  .of_dwp (DWp.region h)
theorem MWp.ct {c : Operand} {x y : Code} (hc : aev env c = some (.bool true)) (h : MWp P nt b V x Q env H) : MWp P nt b V (.cond c x y) Q env H := MWp.cond hc (by simpa using h)
theorem MWp.cf {c : Operand} {x y : Code} (hc : aev env c = some (.bool false)) (h : MWp P nt b V y Q env H) : MWp P nt b V (.cond c x y) Q env H := MWp.cond hc (by simpa using h)
theorem MWp.cond' {c : Operand} {x y : Code} {t : Bool} (hc : aev env c = some (.bool t)) (h1 : t = true → MWp P nt b V x Q env H) (h2 : t = false → MWp P nt b V y Q env H) : MWp P nt b V (.cond c x y) Q env H := by
  cases t with
  | true => exact MWp.ct hc (h1 rfl)
  | false => exact MWp.cf hc (h2 rfl)
theorem MCallK.of {f : FuncId} {args : List Value} {K Post : Value → AH → Prop} (h : MCall P b V f args H Post) (hk : ∀ v H', Post v H' → K v H') : MCallK P b V f args H K := ⟨Post, h, hk⟩
@[congr] theorem MCallK_congr {f f' : FuncId} {args args' : List Value} {H H' : AH} {K : Value → AH → Prop} (h1 : f = f') (h2 : args = args') (h3 : H = H') : MCallK P b V f args H K = MCallK P b V f' args' H' K := by subst h1 h2 h3; rfl
theorem MCall.of_body {f : FuncId} {fn : Func} {c : Code} {args : List Value} {rs : List ResultVar} {Post : Value → AH → Prop} (hf : P.funcs[f]? = some fn) (hb : fn.body = some c) (hn : (fn.name == "runtime.NumGoroutine") = false)
    (hr : fn.results.toList = rs) (ht : args.length + (fn.ntmps - args.length) = nt)
    (h : WF H → (∀ x ∈ args, R2 H.length x = true) → MWp P nt b V c (fun e env' H' => (e = .normal ∨ e = .ret) ∧ ∃ vs, aresults P H' env' rs = some vs ∧ Post (packed vs) H') (fun t => args[t]?) H) : MCall P b V f args H Post := by
  refine ⟨⟨fn, hf, hn, by simp [hb]⟩, fun β w args' R wf hR ha hm hs => ?_⟩
  refine calls_of_wp hf hb ?_
  have hlen := ha.length
  refine h wf hR β w _ _ ⟨R, wf, ?_, ?_, ?_, rfl⟩ hm hs ?_
  · intro t v hv
    obtain ⟨v', h1, h2⟩ := ha.get t v hv
    rw [Array.getElem?_toList] at h1
    exact ⟨v', by simp only [Array.getElem?_append, (Array.getElem?_eq_some_iff.1 h1).1, if_true, h1], .one h2⟩
  · intro t v hv
    exact R3_of2 (hR v (List.mem_of_getElem? hv))
  · have : args'.size = args.length := by rw [← Array.length_toList, ← hlen]
    simp [this, ← ht]
  · rintro e env' H' β' a' w' ⟨he, vs, hvs, hp⟩ S hm' hs' E hle
    obtain ⟨v', hrun, t⟩ := results_run S (by rw [hr]; exact hvs)
    have hR3 : R3 H'.length (packed vs) = true := results_R S.wf S.er hvs
    have hfin : a'.defers = [] ∧ ∃ u, (results fn a'.tmps).run P w' = .ok u w' ∧ ∃ v v' β' H', Ending.returned u = .returned v' ∧ Post v H' ∧ Good H v H' ∧ Rel β' H' w' ∧ ExtM b H.length β w β' w' ∧ MapOK b V w' ∧ Shun b β' ∧ T3 β' v v' :=
      ⟨S.defers, v', hrun, packed vs, v', β', H', rfl, hp, ⟨S.wf, hR3, hle⟩, S.rel, E, hm', hs', t⟩
    rcases he with rfl | rfl
    · exact hfin
    · exact hfin
end
end Go.Proofs.Ytjgnpkedkjbmcaa.AL
