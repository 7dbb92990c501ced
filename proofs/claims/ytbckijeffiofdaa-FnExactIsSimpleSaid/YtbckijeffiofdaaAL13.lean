/- AL, part 13: regions that draw their order, the rule. No condition. -/
import Derived.Test.YtbckijeffiofdaaAL12
namespace Go.Proofs.Ytbckijeffiofdaa.AL
open Go Go.RowKit
set_option linter.unusedVariables false
set_option linter.unusedSimpArgs false

/-- The text's walk as a whole. -/
structure Trace (P : Program) (nt : Nat) (ops : Array Oper) (k : Nat) (V : Nat → Value) (E : Nat → Env) (G : Nat → AH) : Prop where
  step : ∀ i, i < ops.size → E (i + 1) = aput (E i) (dstOf ops i) (V i) ∧ Step1 P nt ops k i (E i) (G i) (V i) (G (i + 1))
  wf0 : WF (G 0)
  er0 : ER (G 0).length (E 0)
  hk : k ≤ ops.size
section
variable {P : Program} {nt : Nat} {ops : Array Oper} {B : List Nat} {k : Nat} {V : Nat → Value} {E : Nat → Env} {G : Nat → AH}
theorem Trace.all (T : Trace P nt ops k V E G) : ∀ i, i ≤ ops.size → WF (G i) ∧ ER (G i).length (E i)
  | 0, _ => ⟨T.wf0, T.er0⟩
  | i + 1, hi => by
    obtain ⟨h1, h2⟩ := T.all i (by omega)
    obtain ⟨e, o, ho, hd, hg, h⟩ := T.step i (by omega)
    have hdst : dstOf ops i = o.dst := by simp [dstOf, ho]
    rw [e, hdst]
    rcases h with ⟨_, hr, _⟩ | ⟨_, hv, hG⟩
    · obtain ⟨g1, g2, g3⟩ := hr.good h1 h2
      exact ⟨g1, (h2.mono g3).put g2 _⟩
    · rw [hG, hv]
      exact ⟨h1, h2.put R3_undef _⟩
theorem Trace.len (T : Trace P nt ops k V E G) {i : Nat} (hi : i < ops.size) : (G i).length ≤ (G (i + 1)).length := by
  obtain ⟨h1, h2⟩ := T.all i (by omega)
  obtain ⟨e, o, ho, hd, hg, h⟩ := T.step i hi
  rcases h with ⟨_, hr, _⟩ | ⟨_, hv, hG⟩
  · exact (hr.good h1 h2).2.2
  · rw [hG]; exact Nat.le_refl _
theorem Trace.lens (T : Trace P nt ops k V E G) {i : Nat} : ∀ j, i ≤ j → j ≤ ops.size → (G i).length ≤ (G j).length
  | 0, h, _ => by have : i = 0 := by omega
                  subst this; exact Nat.le_refl _
  | j + 1, h, hj => by
    by_cases e : i = j + 1
    · subst e; exact Nat.le_refl _
    · exact Nat.le_trans (T.lens j (by omega) (by omega)) (T.len (by omega))
theorem Trace.pre1 (T : Trace P nt ops k V E G) {i : Nat} (hi : i < k) : G i <+: G (i + 1) := by
  obtain ⟨e, o, ho, hd, hg, h⟩ := T.step i (Nat.lt_of_lt_of_le hi T.hk)
  rcases h with ⟨_, hr, hp⟩ | ⟨_, hv, hG⟩
  · exact hp hi
  · rw [hG]; exact List.prefix_refl _
theorem Trace.pre (T : Trace P nt ops k V E G) {i : Nat} : ∀ j, i ≤ j → j ≤ k → G i <+: G j
  | 0, h, _ => by have : i = 0 := by omega
                  subst this; exact List.prefix_refl _
  | j + 1, h, hj => by
    by_cases e : i = j + 1
    · subst e; exact List.prefix_refl _
    · exact (T.pre j (by omega) (by omega)).trans (T.pre1 (by omega))
theorem Trace.same (T : Trace P nt ops k V E G) {i : Nat} : ∀ j, i ≤ j → j ≤ ops.size → (∀ q o, i ≤ q → q < j → ops[q]? = some o → quiet ops k o.op = true) → G j = G i
  | 0, h, _, _ => by have : i = 0 := by omega
                     subst this; rfl
  | j + 1, h, hj, hp => by
    by_cases e : i = j + 1
    · subst e; rfl
    · rw [← T.same j (by omega) (by omega) fun q o h1 h2 => hp q o h1 (by omega)]
      obtain ⟨e, o, ho, hd, hg, h⟩ := T.step j (by omega)
      have hpo := hp j o (by omega) (by omega) ho
      rcases h with ⟨_, hr, _⟩ | ⟨_, hv, hG⟩
      · rcases hr with hr | ⟨f, args, hr, _⟩
        · exact quiet_same hpo hr
        · exact (quiet_not_call hpo hr).elim
      · exact hG

theorem Trace.shape (T : Trace P nt ops k V E G) (hs : storesOnly ops k = true) : ∀ m, k ≤ m → m ≤ ops.size → SS (G k) (G m) ∧ SS (G m) (G k)
  | 0, h, _ => by have : k = 0 := by omega
                  subst this; exact ⟨.refl _, .refl _⟩
  | m + 1, h, hm => by
    by_cases e : k = m + 1
    · subst e; exact ⟨.refl _, .refl _⟩
    · obtain ⟨i1, i2⟩ := T.shape hs m (by omega) (by omega)
      obtain ⟨_, o, ho, _, _, hst⟩ := T.step m (by omega)
      have h1 := List.all_eq_true.1 hs m (List.mem_range.2 (by omega))
      simp only [ho, Bool.or_eq_true, decide_eq_true_eq] at h1
      have step : SS (G m) (G (m + 1)) ∧ SS (G (m + 1)) (G m) := by
        rcases hst with ⟨_, hr, _⟩ | ⟨_, _, hG⟩
        · rcases h1 with h1 | (h1 | h1) | h1
          · omega
          · rcases hr with hr | ⟨f, args, hr, _⟩
            · rw [(pure_any h1 hr).1]; exact ⟨.refl _, .refl _⟩
            · exact (pure_not_call h1 hr).elim
          · rcases hr with hr | ⟨f, args, hr, _⟩
            · rw [(shape_any h1 hr).1]; exact ⟨.refl _, .refl _⟩
            · exact (shape_not_call h1 hr).elim
          · rcases hr with hr | ⟨f, args, hr, _⟩
            · exact store_shape h1 hr
            · exact (store_not_call h1 hr).elim
        · rw [hG]; exact ⟨.refl _, .refl _⟩
      exact ⟨i1.trans step.1, step.2.trans i2⟩
theorem SS.pre {H H' : AH} (h : H <+: H') : SS H H' := fun i o ho => ⟨o, pre_get h ho, rfl, rfl⟩
theorem Trace.quietAny (T : Trace P nt ops k V E G) {i : Nat} {o : Oper} {v : Value} {H' : AH} (hp : quiet ops k o.op = true) (ho : ops[i]? = some o) (h : aop P (E i) (G i) o.op = .val v H') : ∀ m, k ≤ m → m ≤ ops.size → aop P (E i) (G m) o.op = .val v (G m) := by
  intro m h1 h2
  have hi := (Array.getElem?_eq_some_iff.1 ho).1
  unfold quiet at hp
  rw [Bool.or_eq_true, Bool.and_eq_true] at hp
  rcases hp with hp | ⟨hs, hp⟩
  · exact (pure_any hp h).2 _
  · refine (shape_any hp h).2 _ ?_
    have sm := (T.shape hs m h1 h2).1
    rcases Nat.lt_or_ge i k with hik | hik
    · exact (SS.pre (T.pre k (by omega) (Nat.le_refl _))).trans sm
    · exact (T.shape hs i hik (by omega)).2.trans sm
/-- While none has come up that writes. -/
def PhA (ops : Array Oper) (k : Nat) (G : Nat → AH) (X : Nat → Bool) (β : BM) (w : World) : Prop :=
  (∀ j o, X j = true → ops[j]? = some o → quiet ops k o.op = false → j < k) ∧ Rel β (G k) w ∧
  ∀ i o, i < k → ops[i]? = some o → quiet ops k o.op = false → X i = false → ∀ id, (G i).length ≤ id → id < (G (i + 1)).length → β id = none
/-- Behind that. -/
def PhB (ops : Array Oper) (k : Nat) (G : Nat → AH) (X : Nat → Bool) (β : BM) (w : World) : Prop :=
  ∃ m, k ≤ m ∧ m ≤ ops.size ∧ (∀ i o, i < m → ops[i]? = some o → quiet ops k o.op = false → X i = true) ∧ (∀ i o, m ≤ i → X i = true → ops[i]? = some o → quiet ops k o.op = true) ∧ Rel β (G m) w
structure Inv (nt : Nat) (ops : Array Oper) (k : Nat) (V : Nat → Value) (E : Nat → Env) (G : Nat → AH) (β0 : BM) (w0 : World) (X : Nat → Bool) (a : Act) (w : World) : Prop where
  closed : ∀ j o, X j = true → ops[j]? = some o → ∀ d ∈ needs o, X d = true
  bnd : ∀ j, X j = true → j < ops.size
  size : a.tmps.size = nt
  defers : a.defers = []
  core : ∃ β, EnvT β (fold ops V X (E 0) ops.size) a.tmps ∧ Ext (G 0).length β0 w0 β w ∧ (PhA ops k G X β w ∨ PhB ops k G X β w)
def addX (X : Nat → Bool) (i : Nat) : Nat → Bool := fun j => if j = i then true else X j
theorem addX_same {X : Nat → Bool} {i : Nat} : addX X i i = true := by simp [addX]
theorem addX_other {X : Nat → Bool} {i j : Nat} (h : j ≠ i) : addX X i j = X j := by simp [addX, h]
theorem fold_last {X : Nat → Bool} {i : Nat} {t : Tmp} {base : Env} (hd : dstOf ops i = some t) (hX : X i = true) (hl : ∀ j, i < j → dstOf ops j = some t → X j = false) : ∀ m, i < m → fold ops V X base m t = some (V i)
  | 0, h => by omega
  | m + 1, h => by
    by_cases e : m = i
    · subst e
      simp [fold, hX, hd, aput]
    · have ih := fold_last (base := base) hd hX hl m (by omega)
      simp only [fold]
      split
      · rename_i hm
        have : dstOf ops m ≠ some t := fun h => by rw [hl m (by omega) h] at hm; cases hm
        rw [aput_other this]
        exact ih
      · exact ih
theorem waits (hc : chk ops B k = true) {X : Nat → Bool} (closed : ∀ j o, X j = true → ops[j]? = some o → ∀ d ∈ needs o, X d = true) {i : Nat} {o : Oper} (ho : ops[i]? = some o) (hn : ∀ d ∈ needs o, X d = true) (hXi : X i = false) {j : Nat} (hb : (B.getD i 0).testBit j = true) : X j = true := by
  have hb0 : okBits ops B = true := by unfold chk at hc; rw [Bool.and_eq_true] at hc; exact hc.1
  have := closed_bits hb0 (X := fun j => addX X i j = true) (fun q p hq hp d hd => by
    by_cases e : q = i
    · subst e
      rw [ho] at hp
      cases hp
      have := hn d hd
      by_cases e2 : d = q
      · subst e2; exact addX_same
      · rw [addX_other e2]; exact this
    · rw [addX_other e] at hq
      have := closed q p hq hp d hd
      by_cases e2 : d = i
      · subst e2; exact addX_same
      · rw [addX_other e2]; exact this) i addX_same (Array.getElem?_eq_some_iff.1 ho).1 j hb
  by_cases e : j = i
  · subst e
    exfalso
    obtain ⟨h1, h2⟩ := okBits_at hb0 ho
    -- nothing waits for itself
    have key : ∀ q, q ≤ j → ∀ p, ops[q]? = some p → ∀ s, (B.getD q 0).testBit s = true → s < q := by
      intro q
      induction q using Nat.strongRecOn with
      | _ q ih =>
        intro hq p hp s hs
        obtain ⟨g1, g2⟩ := okBits_at hb0 hp
        obtain ⟨d, hd, h3⟩ := g2 s hs
        have hdq := g1 d hd
        rcases h3 with rfl | h3
        · exact hdq
        · have hdn : d < ops.size := Nat.lt_trans hdq (Array.getElem?_eq_some_iff.1 hp).1
          have := ih d hdq (by omega) _ (Array.getElem?_eq_getElem hdn) s h3
          omega
    have := key j (Nat.le_refl _) o ho j hb
    omega
  · rwa [addX_other e] at this
theorem waits_in (hc : chk ops B k = true) {X : Nat → Bool} (closed : ∀ j o, X j = true → ops[j]? = some o → ∀ d ∈ needs o, X d = true) {i j : Nat} (hj : j < ops.size) (hX : X j = true) (hb : (B.getD j 0).testBit i = true) : X i = true := by
  have hb0 : okBits ops B = true := by unfold chk at hc; rw [Bool.and_eq_true] at hc; exact hc.1
  exact closed_bits hb0 (X := fun j => X j = true) (fun q p hq hp d hd => closed q p hq hp d hd) j hX hj i hb
/-- What an operation looks at reads as in the text's order. -/
theorem agree (hc : chk ops B k = true) (T : Trace P nt ops k V E G) {X : Nat → Bool} (closed : ∀ j o, X j = true → ops[j]? = some o → ∀ d ∈ needs o, X d = true) {i : Nat} {o : Oper} (ho : ops[i]? = some o) (hn : ∀ d ∈ needs o, X d = true) (hXi : X i = false) {t : Tmp} (ht : t ∈ o.looksAt ops) :
    fold ops V X (E 0) ops.size t = E i t := by
  have hi := (Array.getElem?_eq_some_iff.1 ho).1
  rw [← fold_all (V := V) (E := E) rfl (fun j hj => (T.step j hj).1) i (by omega), ← fold_stop (V := V) (base := E 0) ops.size (by omega)]
  refine fold_congr ops.size fun j hj hd => ?_
  have hoj : ops[j]? = some ops[j] := Array.getElem?_eq_getElem hj
  have hdj : (ops[j]).dst = some t := by simpa [dstOf, hoj] using hd
  rcases Nat.lt_trichotomy j i with h | h | h
  · rw [decide_eq_true h]
    cases hb : (B.getD i 0).testBit j with
    | true => exact waits hc closed ho hn hXi hb
    | false => exact absurd ht ((Oper.apart_spec (chk_pair hc h hoj ho hb).1).1 t hdj)
  · subst h; simp [hXi]
  · rw [decide_eq_false (by omega)]
    cases hb : (B.getD j 0).testBit i with
    | true =>
      cases hX : X j with
      | false => rfl
      | true => rw [waits_in hc closed hj hX hb] at hXi; cases hXi
    | false => exact absurd ht ((Oper.apart_spec (chk_pair hc h ho hoj hb).1).2.2 t hdj)
theorem ayield_at {β : BM} {env : Env} {a : Act} {o : Oper} (h : ∀ d ∈ o.looksAt ops, ∀ v, env d = some v → ∃ v', a.tmps[d]? = some v' ∧ T3 β v v') (hg : okGuard ops env o = true) : Region.wanted o (yielded ops a.tmps) = Region.wanted o (ayield ops env) := by
  unfold Region.wanted
  unfold okGuard at hg
  cases hgd : o.guard with
  | none => rfl
  | some g =>
    obtain ⟨j, want⟩ := g
    simp only [hgd] at hg ⊢
    have key : yielded ops a.tmps j = ayield ops env j := by
      unfold yielded ayield
      unfold ayield at hg
      cases hd : (ops[j]?).bind (·.dst) with
      | none => rfl
      | some d =>
        simp only [hd, Option.bind_some] at hg ⊢
        cases he : env d with
        | none => simp [he] at hg
        | some v =>
          obtain ⟨v', hv, t⟩ := h d (by simp [Oper.looksAt, hgd, hd]) v he
          rw [hv]
          have := t.asB
          cases v <;> cases v' <;> simp_all [AL.asB]
    rw [key]
theorem looks_op {o : Oper} {t : Tmp} (h : Operand.tmp t ∈ o.op.operands.toList) : t ∈ o.looksAt ops := by
  unfold Oper.looksAt
  exact List.mem_append.2 (.inl (List.mem_filterMap.2 ⟨_, h, rfl⟩))
/-- One that is ready comes up. -/
theorem Inv.one (hc : chk ops B k = true) (T : Trace P nt ops k V E G) {β0 : BM} {w0 : World} {X : Nat → Bool} {a : Act} {w : World} (I : Inv nt ops k V E G β0 w0 X a w) {i : Nat} {o : Oper} (ho : ops[i]? = some o) (hn : ∀ d ∈ needs o, X d = true) (hXi : X i = false)
    {Q : Exit → Act → World → Prop} {N : Act → World → Prop} (hN : ∀ a' w', Inv nt ops k V E G β0 w0 (addX X i) a' w' → N a' w') : wpOp P ops Q i N a w := by
  have hi := (Array.getElem?_eq_some_iff.1 ho).1
  obtain ⟨β, hE, hX, hph⟩ := I.core
  obtain ⟨heq, o', ho', hd, hg, hst⟩ := T.step i hi
  rw [ho] at ho'
  cases ho'
  have hdst : dstOf ops i = o.dst := by simp [dstOf, ho]
  have hag : ∀ t ∈ o.looksAt ops, fold ops V X (E 0) ops.size t = E i t := fun t ht => agree hc T I.closed ho hn hXi ht
  have hlook : ∀ d ∈ o.looksAt ops, ∀ v, E i d = some v → ∃ v', a.tmps[d]? = some v' ∧ T3 β v v' := fun d hd v hv => hE d v ((hag d hd).trans hv)
  have hOp : OpT β (E i) a o.op := by
    intro x hx v hv
    cases x with
    | tmp t =>
      obtain ⟨v', h1, h2⟩ := hlook t (looks_op hx) v hv
      have : a.eval (.tmp t) = v' := by simp [Act.eval, h1]
      rw [this]; exact h2
    | const c =>
      simp only [aev] at hv
      split at hv
      · cases hv; exact .const (by assumption)
      · cases hv
    | func f => cases hv; exact .plain rfl
    | global g => cases hv
  -- the new set
  have hclosed : ∀ j p, addX X i j = true → ops[j]? = some p → ∀ d ∈ needs p, addX X i d = true := by
    intro j p hj hp d hd
    have : X d = true := by
      by_cases e : j = i
      · subst e; rw [ho] at hp; cases hp; exact hn d hd
      · rw [addX_other e] at hj; exact I.closed j p hj hp d hd
    by_cases e : d = i
    · subst e; exact addX_same
    · rw [addX_other e]; exact this
  have hbnd : ∀ j, addX X i j = true → j < ops.size := fun j hj => by
    by_cases e : j = i
    · subst e; exact hi
    · rw [addX_other e] at hj; exact I.bnd j hj
  have henv : ∀ {β' : BM} {v' : Value}, EnvT β' (fold ops V X (E 0) ops.size) a.tmps → T3 β' (V i) v' → EnvT β' (fold ops V (addX X i) (E 0) ops.size) (a.put o.dst v').tmps := by
    intro β' v' h t q v hv
    refine h.put I.size t o.dst hd q v ?_
    by_cases e : o.dst = some q
    · have h1 := fold_last (V := V) (base := E 0) (hdst.trans e) (X := addX X i) addX_same (fun j hj hdj => by
        rw [addX_other (by omega)]
        cases hXj : X j with
        | false => rfl
        | true =>
          have hjn := I.bnd j hXj
          have hoj : ops[j]? = some ops[j] := Array.getElem?_eq_getElem hjn
          have hdj' : (ops[j]).dst = some q := by simpa [dstOf, hoj] using hdj
          cases hb : (B.getD j 0).testBit i with
          | true => rw [waits_in hc I.closed hjn hXj hb] at hXi; cases hXi
          | false => exact absurd hdj' ((Oper.apart_spec (chk_pair hc hj ho hoj hb).1).2.1 q e)) ops.size hi
      rw [h1] at hv
      rw [e]
      simpa [aput] using hv
    · rw [aput_other e]
      rw [← hv]
      refine fold_congr ops.size fun j hj hdj => ?_
      rw [addX_other]
      rintro rfl
      exact e (hdst.symm.trans hdj)
  have mk : ∀ {β' : BM} {v' : Value} {w' : World}, EnvT β' (fold ops V X (E 0) ops.size) a.tmps → T3 β' (V i) v' → Ext (G 0).length β0 w0 β' w' → (PhA ops k G (addX X i) β' w' ∨ PhB ops k G (addX X i) β' w') → N (a.put o.dst v') w' :=
    fun h1 h2 h3 h4 => hN _ _ ⟨hclosed, hbnd, by rw [Act.put_size]; exact I.size, by rw [Act.put_defers]; exact I.defers, _, henv h1 h2, h3, h4⟩
  -- behind the first that writes all stand in a row
  have nonpure_before : ∀ j p, j < i → ops[j]? = some p → quiet ops k p.op = false → quiet ops k o.op = false → k ≤ i → X j = true := by
    intro j p hj hp hpp hpo hki
    cases hb : (B.getD i 0).testBit j with
    | true => exact waits hc I.closed ho hn hXi hb
    | false =>
      rcases (chk_pair hc hj hp ho hb).2 with h | h | h
      · rw [hpp] at h; cases h
      · rw [hpo] at h; cases h
      · omega
  have toB : quiet ops k o.op = false → k ≤ i → ∃ m, k ≤ m ∧ m ≤ i ∧ (∀ j p, j < m → ops[j]? = some p → quiet ops k p.op = false → X j = true) ∧ (∀ j p, m ≤ j → X j = true → ops[j]? = some p → quiet ops k p.op = true) ∧ Rel β (G i) w := by
    intro hpo hki
    have fin : ∀ m, k ≤ m → m ≤ i → (∀ j p, m ≤ j → X j = true → ops[j]? = some p → quiet ops k p.op = true) → Rel β (G m) w → Rel β (G i) w := by
      intro m h1 h2 h3 h4
      rw [T.same i h2 (by omega) fun q p h5 h6 h7 => ?_]
      · exact h4
      · cases hq : quiet ops k p.op with
        | true => rfl
        | false => rw [← hq]; exact h3 q p h5 (nonpure_before q p h6 h7 hq hpo hki) h7
    rcases hph with ⟨h1, h2, h3⟩ | ⟨m, h1, h2, h3, h4, h5⟩
    · have hp : ∀ j p, k ≤ j → X j = true → ops[j]? = some p → quiet ops k p.op = true := fun j p hj hx hp => by
        cases hq : quiet ops k p.op with
        | true => rfl
        | false => have := h1 j p hx hp hq; omega
      exact ⟨k, Nat.le_refl _, hki, fun j p hj hp hq => nonpure_before j p (by omega) hp hq hpo hki, hp, fin k (Nat.le_refl _) hki hp h2⟩
    · have hmi : m ≤ i := by
        rcases Nat.lt_or_ge i m with h | h
        · rw [h3 i o h ho hpo] at hXi; cases hXi
        · exact h
      exact ⟨m, h1, hmi, h3, h4, fin m h1 hmi h4 h5⟩
  have afterB : ∀ {β' : BM} {w' : World}, quiet ops k o.op = false → k ≤ i → (∃ m, k ≤ m ∧ m ≤ i ∧ (∀ j p, j < m → ops[j]? = some p → quiet ops k p.op = false → X j = true) ∧ (∀ j p, m ≤ j → X j = true → ops[j]? = some p → quiet ops k p.op = true)) → Rel β' (G (i + 1)) w' → PhB ops k G (addX X i) β' w' := by
    rintro β' w' hpo hki ⟨m, h1, h2, h3, h4⟩ R
    refine ⟨i + 1, by omega, by omega, fun j p hj hp hq => ?_, fun j p hj hx hp => ?_, R⟩
    · by_cases e : j = i
      · subst e; exact addX_same
      · rw [addX_other e]; exact nonpure_before j p (by omega) hp hq hpo hki
    · rw [addX_other (by omega)] at hx
      exact h4 j p (by omega) hx hp
  unfold wpOp
  simp only [ho]
  rw [ayield_at hlook hg]
  rcases hst with ⟨hw, hr, hpre⟩ | ⟨hw, hv, hG⟩
  · rw [if_pos hw]
    refine .inl ?_
    cases hp : quiet ops k o.op with
    | true =>
      obtain ⟨hq⟩ | ⟨f, args, hq, _⟩ := hr
      case inr => exact (quiet_not_call hp hq).elim
      have hq := T.quietAny hp ho (by assumption)
      have go : ∀ Hr, aop P (E i) Hr o.op = .val (V i) Hr → Rel β Hr w → (∀ β' w', Rel β' Hr w' → Ext Hr.length β w β' w' → (PhA ops k G (addX X i) β' w' ∨ PhB ops k G (addX X i) β' w')) → (G 0).length ≤ Hr.length → o.wp P a w N Q := by
        intro Hr hqr R hh hl
        obtain ⟨v', w', β', hrun, R', E', t⟩ := aop_val (P := P) R hOp hqr
        have E0 := hX.trans E' (by exact hl)
        unfold Oper.wp
        rcases hrun with hrun | ⟨hrun, rfl⟩
        · rw [hrun]; exact mk (hE.ext E') t E0 (hh β' w' R' E')
        · rw [hrun]; exact mk (hE.ext E') t E0 (hh β' w' R' E')
      rcases hph with ⟨h1, h2, h3⟩ | ⟨m, h1, h2, h3, h4, h5⟩
      · refine go (G k) (hq k (Nat.le_refl _) T.hk) h2 (fun β' w' R' E' => .inl ⟨fun j p hx hpj hq => ?_, R', fun j p hj hpj hq hx id g1 g2 => ?_⟩) (T.lens k (Nat.zero_le _) T.hk)
        · by_cases e : j = i
          · subst e; rw [ho] at hpj; cases hpj; rw [hp] at hq; cases hq
          · rw [addX_other e] at hx; exact h1 j p hx hpj hq
        · have hji : j ≠ i := by rintro rfl; rw [addX_same] at hx; cases hx
          rw [addX_other hji] at hx
          have hlk := T.lens (i := j + 1) k (by omega) T.hk
          exact E'.hole id (by omega) (h3 j p hj hpj hq hx id g1 g2)
      · refine go (G m) (hq m h1 h2) h5 (fun β' w' R' E' => .inr ⟨m, h1, h2, fun j p hj hpj hq => ?_, fun j p hj hx hpj => ?_, R'⟩) (T.lens m (Nat.zero_le _) h2)
        · by_cases e : j = i
          · subst e; exact addX_same
          · rw [addX_other e]; exact h3 j p hj hpj hq
        · by_cases e : j = i
          · subst e; rw [ho] at hpj; cases hpj; exact hp
          · rw [addX_other e] at hx; exact h4 j p hj hx hpj
    | false =>
      obtain ⟨wfi, eri⟩ := T.all i (by omega)
      by_cases hki : k ≤ i
      · obtain ⟨m, h1, h2, h3, h4, R⟩ := toB hp hki
        refine op_real hr R wfi eri hOp fun v' w' β' R' E' t => ?_
        exact mk (hE.ext E') t (hX.trans E' (T.lens i (Nat.zero_le _) (by omega))) (.inr (afterB hp hki ⟨m, h1, h2, h3, h4⟩ R'))
      · have hik : i < k := by omega
        rcases hph with ⟨h1, h2, h3⟩ | ⟨m, h1, h2, h3, h4, h5⟩
        · have hpk := T.pre k (i := i) (by omega) (Nat.le_refl _)
          have hpk1 := T.pre k (i := i + 1) (by omega) (Nat.le_refl _)
          have hOp' : OpT (cut (G i).length β) (E i) a o.op := fun x hx v hv => (hOp x hx v hv).cut (aev_R eri hv)
          refine op_real hr (h2.less hpk wfi) wfi eri hOp' fun v' w' γ R1 E1 t => ?_
          obtain ⟨R', EE⟩ := h2.beside (hpre hik) hpk1 R1 E1 (h3 i o hik ho hp hXi)
          have E' := EE (G 0).length (T.lens i (Nat.zero_le _) (by omega))
          refine mk (hE.ext E') (t.sub fun q l hq => ?_) (hX.trans E' (Nat.le_refl _)) (.inl ⟨fun j p hx hpj hq => ?_, R', fun j p hj hpj hq hx id g1 g2 => ?_⟩)
          · have : q < (G (i + 1)).length := by
              rcases Nat.lt_or_ge q (G (i + 1)).length with h | h
              · exact h
              · rw [R1.dom q h] at hq; cases hq
            show (if q < (G (i + 1)).length then γ q else β q) = some l
            rw [if_pos this]; exact hq
          · by_cases e : j = i
            · subst e; exact hik
            · rw [addX_other e] at hx; exact h1 j p hx hpj hq
          · have hji : j ≠ i := by rintro rfl; rw [addX_same] at hx; cases hx
            rw [addX_other hji] at hx
            have h0 := h3 j p hj hpj hq hx id g1 g2
            show (if id < (G (i + 1)).length then γ id else β id) = none
            by_cases hid : id < (G (i + 1)).length
            · rw [if_pos hid]
              have hlt : id < (G i).length := by
                rcases Nat.lt_or_ge j i with hji | hji
                · have := T.lens (i := j + 1) i (by omega) (by omega); omega
                · have := T.lens (i := i + 1) j (by omega) (by have := T.hk; omega); omega
              exact E1.hole id hlt ((cut_lt hlt).trans h0)
            · rw [if_neg hid]; exact h0
        · rw [h3 i o (by omega) ho hp] at hXi; cases hXi
  · rw [hw]
    simp only [Bool.false_eq_true, if_false]
    have t : T3 β (V i) undef := by rw [hv]; exact undef_T3
    refine mk hE t hX ?_
    cases hp : quiet ops k o.op with
    | true =>
      rcases hph with ⟨h1, h2, h3⟩ | ⟨m, h1, h2, h3, h4, h5⟩
      · refine .inl ⟨fun j p hx hpj hq => ?_, h2, fun j p hj hpj hq hx id g1 g2 => ?_⟩
        · by_cases e : j = i
          · subst e; rw [ho] at hpj; cases hpj; rw [hp] at hq; cases hq
          · rw [addX_other e] at hx; exact h1 j p hx hpj hq
        · have hji : j ≠ i := by rintro rfl; rw [addX_same] at hx; cases hx
          rw [addX_other hji] at hx
          exact h3 j p hj hpj hq hx id g1 g2
      · refine .inr ⟨m, h1, h2, fun j p hj hpj hq => ?_, fun j p hj hx hpj => ?_, h5⟩
        · by_cases e : j = i
          · subst e; exact addX_same
          · rw [addX_other e]; exact h3 j p hj hpj hq
        · by_cases e : j = i
          · subst e; rw [ho] at hpj; cases hpj; exact hp
          · rw [addX_other e] at hx; exact h4 j p hj hx hpj
    | false =>
      by_cases hki : k ≤ i
      · obtain ⟨m, h1, h2, h3, h4, R⟩ := toB hp hki
        exact .inr (afterB hp hki ⟨m, h1, h2, h3, h4⟩ (hG ▸ R))
      · have hik : i < k := by omega
        rcases hph with ⟨h1, h2, h3⟩ | ⟨m, h1, h2, h3, h4, h5⟩
        · refine .inl ⟨fun j p hx hpj hq => ?_, h2, fun j p hj hpj hq hx id g1 g2 => ?_⟩
          · by_cases e : j = i
            · subst e; exact hik
            · rw [addX_other e] at hx; exact h1 j p hx hpj hq
          · have hji : j ≠ i := by rintro rfl; rw [addX_same] at hx; cases hx
            rw [addX_other hji] at hx
            exact h3 j p hj hpj hq hx id g1 g2
        · rw [h3 i o (by omega) ho hp] at hXi; cases hXi

def cnt (X : Nat → Bool) : Nat → Nat
  | 0 => 0
  | m + 1 => cnt X m + (if X m then 0 else 1)
theorem cnt_add {X : Nat → Bool} {i : Nat} (h : X i = false) : ∀ m, i < m → cnt (addX X i) m + 1 = cnt X m
  | 0, hm => by omega
  | m + 1, hm => by
    by_cases e : m = i
    · subst e
      have : ∀ q, q ≤ m → cnt (addX X m) q = cnt X q := by
        intro q
        induction q with
        | zero => intro _; rfl
        | succ q ih =>
          intro hq
          simp only [cnt, ih (by omega), addX_other (show q ≠ m by omega)]
      simp [cnt, this m (Nat.le_refl _), addX_same, h]
    · have := cnt_add h m (by omega)
      simp only [cnt, addX_other e]
      omega
theorem cnt_zero {X : Nat → Bool} : ∀ m, cnt X m = 0 → ∀ j, j < m → X j = true
  | 0, _, j, hj => by omega
  | m + 1, h, j, hj => by
    simp only [cnt] at h
    by_cases e : j = m
    · subst e
      cases hX : X j with
      | true => rfl
      | false => rw [hX] at h; simp at h
    · exact cnt_zero m (by omega) j (by omega)
theorem cnt_none : ∀ m, cnt (fun _ => false) m = m
  | 0 => rfl
  | m + 1 => by simp [cnt, cnt_none m]
theorem Inv.fin (T : Trace P nt ops k V E G) {β0 : BM} {w0 : World} {X : Nat → Bool} {a : Act} {w : World} (I : Inv nt ops k V E G β0 w0 X a w) (hall : ∀ j, j < ops.size → X j = true) :
    ∃ β, St nt β (E ops.size) (G ops.size) a w ∧ Ext (G 0).length β0 w0 β w := by
  obtain ⟨β, hE, hX, hph⟩ := I.core
  obtain ⟨wf, er⟩ := T.all ops.size (Nat.le_refl _)
  have he : fold ops V X (E 0) ops.size = E ops.size := by
    rw [← fold_all (V := V) (E := E) rfl (fun j hj => (T.step j hj).1) ops.size (Nat.le_refl _)]
    funext t
    exact fold_congr ops.size fun j hj _ => hall j hj
  rw [he] at hE
  refine ⟨β, ⟨?_, wf, hE, er, I.size, I.defers⟩, hX⟩
  rcases hph with ⟨h1, h2, h3⟩ | ⟨m, h1, h2, h3, h4, h5⟩
  · rw [T.same ops.size T.hk (Nat.le_refl _) fun q o hq hlt ho => ?_]
    · exact h2
    · cases hp : quiet ops k o.op with
      | true => rfl
      | false => have := h1 q o (hall q hlt) ho hp; omega
  · rw [T.same ops.size h2 (Nat.le_refl _) fun q o hq hlt ho => h4 q o hq (hall q hlt) ho]
    exact h5
theorem Inv.any (hc : chk ops B k = true) (T : Trace P nt ops k V E G) {β0 : BM} {w0 : World} {K : Exit → Act → World → Prop} (hK : ∀ β a w, St nt β (E ops.size) (G ops.size) a w → Ext (G 0).length β0 w0 β w → K .normal a w) :
    ∀ (fuel : Nat) (L : Array Bool) (a : Act) (w : World), L.size = ops.size → cnt (fun j => L.getD j false) ops.size ≤ fuel → Inv nt ops k V E G β0 w0 (fun j => L.getD j false) a w → wpAny P .any ops K fuel L a w := by
  have done : ∀ (L : Array Bool) (a : Act) (w : World), L.size = ops.size → Inv nt ops k V E G β0 w0 (fun j => L.getD j false) a w → Region.ready .any ops L = [] → K .normal a w := by
    intro L a w hL I hr
    have hall : ∀ j, j < ops.size → L.getD j false = true := by
      intro j
      induction j using Nat.strongRecOn with
      | _ j ih =>
        intro hj
        cases hX : L.getD j false with
        | true => rfl
        | false =>
          exfalso
          have hoj : ops[j]? = some ops[j] := Array.getElem?_eq_getElem hj
          have hb0 : okBits ops B = true := by unfold chk at hc; rw [Bool.and_eq_true] at hc; exact hc.1
          have : j ∈ Region.ready .any ops L := by
            unfold Region.ready
            refine List.mem_filter.2 ⟨List.mem_range.2 hj, ?_⟩
            have h1 : L.getD j true = false := by
              rw [Array.getD_eq_getD_getElem?] at hX ⊢
              rw [Array.getElem?_eq_getElem (by omega)] at hX ⊢
              exact hX
            rw [h1, hoj]
            simp only [Bool.not_false, Bool.true_and, Option.map_some, Option.getD_some]
            rw [Array.all_eq_true_iff_forall_mem]
            intro e he
            cases hbe : Region.binds .any e with
            | false => rfl
            | true =>
              have hd : e.on ∈ needs ops[j] := by
                unfold needs
                exact List.mem_map.2 ⟨e, List.mem_filter.2 ⟨by simpa using he, hbe⟩, rfl⟩
              have := (okBits_at hb0 hoj).1 e.on hd
              have := ih e.on this (by omega)
              simpa using this
          rw [hr] at this
          cases this
    obtain ⟨β, S, E'⟩ := I.fin T hall
    exact hK β a w S E'
  intro fuel
  induction fuel with
  | zero =>
    intro L a w hL hn I
    have hall := cnt_zero ops.size (Nat.le_zero.1 hn)
    have hr : Region.ready .any ops L = [] := by
      unfold Region.ready
      refine List.filter_eq_nil_iff.2 fun j hj => ?_
      have hjn := List.mem_range.1 hj
      have h1 : L.getD j true = true := by
        have := hall j hjn
        rw [Array.getD_eq_getD_getElem?] at this ⊢
        rw [Array.getElem?_eq_getElem (by omega)] at this ⊢
        exact this
      simp [h1]
    exact ⟨hr, done L a w hL I hr⟩
  | succ fuel ih =>
    intro L a w hL hn I
    refine ⟨done L a w hL I, fun i hi => ?_⟩
    unfold Region.ready at hi
    obtain ⟨h1, h2⟩ := List.mem_filter.1 hi
    have hin := List.mem_range.1 h1
    have hoi : ops[i]? = some ops[i] := Array.getElem?_eq_getElem hin
    rw [Bool.and_eq_true] at h2
    obtain ⟨h2, h3⟩ := h2
    have hXi : L.getD i false = false := by
      rw [Array.getD_eq_getD_getElem?] at h2 ⊢
      rw [Array.getElem?_eq_getElem (by omega)] at h2 ⊢
      simpa using h2
    rw [hoi] at h3
    simp only [Option.map_some, Option.getD_some] at h3
    rw [Array.all_eq_true_iff_forall_mem] at h3
    have hne : ∀ d ∈ needs ops[i], L.getD d false = true := by
      intro d hd
      unfold needs at hd
      obtain ⟨e, he, rfl⟩ := List.mem_map.1 hd
      obtain ⟨he1, he2⟩ := List.mem_filter.1 he
      have := h3 e (by simpa using he1)
      rw [he2] at this
      simpa using this
    refine I.one hc T hoi hne hXi fun a' w' I' => ?_
    have hset : (fun j => (L.setIfInBounds i true).getD j false) = addX (fun j => L.getD j false) i := by
      funext j
      unfold addX
      rw [Array.getD_eq_getD_getElem?, Array.getElem?_setIfInBounds]
      by_cases e : i = j
      · subst e
        rw [if_pos rfl, if_pos (by omega), if_pos rfl]
        rfl
      · rw [if_neg e, if_neg (fun h => e h.symm)]
        show _ = L.getD j false
        rw [Array.getD_eq_getD_getElem?]
    refine ih _ a' w' (by simp [hL]) ?_ ?_
    · rw [hset]
      have := cnt_add (X := fun j => L.getD j false) hXi ops.size hin
      omega
    · rw [hset]; exact I'
/-- A REGION THAT DRAWS ITS ORDER: the text's walk, k the first that writes. -/
theorem AWp.drawn {id : Nat} {env : Env} {H : AH} {Q : Exit → Env → AH → Prop} (hm : P.follows .mixedOrders = true) (hc : chk ops B k = true) (hk : k ≤ ops.size) (h : ARunD P nt ops k (fun env H => Q .normal env H) 0 ops.toList env H) : AWp P nt (.region id ops true) Q env H := by
  intro β w a K S hK
  refine wp_region_any hm ?_
  obtain ⟨V, E, G, h1, h2, h3, h4⟩ := trace_of ops.toList 0 env H rfl (by simp) h
  have T : Trace P nt ops k V E G := ⟨fun i hi => h4 i (Nat.zero_le _) hi, by rw [h2]; exact S.wf, by rw [h1, h2]; exact S.er, hk⟩
  have hs : SameHeap w { w with drawn := w.drawn + 1 } := ⟨rfl, rfl, rfl, rfl⟩
  have hL : (fun j => (Array.replicate ops.size false).getD j false) = fun _ => false := by
    funext j
    rw [Array.getD_eq_getD_getElem?, Array.getElem?_replicate]
    split <;> rfl
  have hf : fold ops V (fun _ => false) (E 0) ops.size = env := by
    have : ∀ m, fold ops V (fun _ => false) (E 0) m = E 0 := by
      intro m
      induction m with
      | zero => rfl
      | succ m ih => simp [fold, ih]
    rw [this, h1]
  refine Inv.any hc T (β0 := β) (w0 := w) (fun β' a' w' S' E' => hK _ _ _ _ _ _ h3 S' (by rw [← h2]; exact E') (by rw [← h2]; exact T.lens _ (Nat.zero_le _) (Nat.le_refl _))) ops.size _ a _ (by simp) (by rw [hL, cnt_none]; exact Nat.le_refl _) ?_
  rw [hL]
  refine ⟨fun j o hj => (by cases hj), fun j hj => (by cases hj), S.size, S.defers, β, by rw [hf]; exact S.envT, Ext.same _ hs, .inl ⟨fun j o hj => (by cases hj), ?_, fun i o hi ho hp hx id g1 g2 => ?_⟩⟩
  · have := T.pre k (i := 0) (Nat.zero_le _) (Nat.le_refl _)
    rw [h2] at this
    exact (S.rel.same hs).more this
  · have := T.lens (i := 0) i (Nat.zero_le _) (by have := T.hk; omega)
    rw [h2] at this
    exact S.rel.dom id (by omega)
end

end Go.Proofs.Ytbckijeffiofdaa.AL
