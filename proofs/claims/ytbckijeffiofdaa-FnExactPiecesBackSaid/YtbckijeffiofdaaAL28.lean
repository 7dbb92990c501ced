/- AL, part 28: a region that draws its order, walked in another order than the text's. No condition. -/
import Derived.Test.YtbckijeffiofdaaAL27
namespace Go.Proofs.Ytbckijeffiofdaa.AL
open Go Go.RowKit
set_option linter.unusedVariables false
set_option linter.unusedSimpArgs false

def rlb (σ : List Nat) (o : Oper) : Oper := { o with after := o.after.map fun e => { e with on := σ.getD e.on e.on }, guard := o.guard.map fun g => (σ.getD g.1 g.1, g.2) }
/-- The operations in the order π; σ tells where each stands. -/
def rlL (π σ : List Nat) (ops : List Oper) : List Oper := π.filterMap fun i => (ops[i]?).map (rlb σ)
structure OkP (n : Nat) (π σ : List Nat) : Prop where
  lp : π.length = n
  ls : σ.length = n
  ps : ∀ i, i < n → ∃ p, σ[i]? = some p ∧ π[p]? = some i
  sp : ∀ p, p < n → ∃ i, π[p]? = some i ∧ i < n ∧ σ[i]? = some p
def okP (n : Nat) (π σ : List Nat) : Bool := π.length == n && σ.length == n && (List.range n).all (fun i => match σ[i]? with
  | some p => π[p]? == some i
  | none => false) && (List.range n).all (fun p => match π[p]? with
  | some i => decide (i < n) && σ[i]? == some p
  | none => false)
theorem okP_spec {n : Nat} {π σ : List Nat} (h : okP n π σ = true) : OkP n π σ := by
  unfold okP at h
  simp only [Bool.and_eq_true, beq_iff_eq] at h
  obtain ⟨⟨⟨h1, h2⟩, h3⟩, h4⟩ := h
  refine ⟨h1, h2, fun i hi => ?_, fun p hp => ?_⟩
  · have := List.all_eq_true.1 h3 i (List.mem_range.2 hi)
    cases hs : σ[i]? with
    | none => rw [hs] at this; cases this
    | some p => rw [hs] at this; exact ⟨p, rfl, by simpa using this⟩
  · have := List.all_eq_true.1 h4 p (List.mem_range.2 hp)
    cases hs : π[p]? with
    | none => rw [hs] at this; cases this
    | some i =>
      rw [hs] at this
      simp only [Bool.and_eq_true, decide_eq_true_eq, beq_iff_eq] at this
      exact ⟨i, rfl, this.1, this.2⟩
theorem filterMap_get {α γ : Type} {f : α → Option γ} : ∀ (l : List α), (∀ x ∈ l, (f x).isSome = true) → (l.filterMap f).length = l.length ∧ ∀ p : Nat, (l.filterMap f)[p]? = (l[p]?).bind f
  | [], _ => ⟨rfl, fun p => by simp⟩
  | x :: l, h => by
    obtain ⟨i1, i2⟩ := filterMap_get l (fun y hy => h y (by simp [hy]))
    obtain ⟨y, hy⟩ := Option.isSome_iff_exists.1 (h x (by simp))
    rw [List.filterMap_cons, hy]
    refine ⟨by simp [i1], fun p => ?_⟩
    cases p with
    | zero => simp [hy]
    | succ p => simpa using i2 p
section
variable {P : Program} {π σ : List Nat} {ops : Array Oper}
theorem rl_get (h : OkP ops.size π σ) : (rlL π σ ops.toList).toArray.size = ops.size ∧ ∀ p : Nat, (rlL π σ ops.toList).toArray[p]? = (π[p]?).bind fun i => (ops[i]?).map (rlb σ) := by
  obtain ⟨a, b⟩ := filterMap_get (f := fun i : Nat => (ops.toList[i]?).map (rlb σ)) π (fun i hi => by
    obtain ⟨p, hp⟩ := List.getElem?_of_mem hi
    have hlt := (List.getElem?_eq_some_iff.1 hp).1
    obtain ⟨i', h1, h2, h3⟩ := h.sp p (by rw [← h.lp]; exact hlt)
    rw [hp] at h1
    cases h1
    rw [List.getElem?_eq_getElem (by simpa using h2)]
    rfl)
  refine ⟨by simpa [rlL] using a.trans h.lp, fun p => ?_⟩
  have := b p
  simpa [rlL] using this
theorem rl_at (h : OkP ops.size π σ) {i : Nat} {o : Oper} (ho : ops[i]? = some o) : ∃ p, σ[i]? = some p ∧ (rlL π σ ops.toList).toArray[p]? = some (rlb σ o) := by
  obtain ⟨p, h1, h2⟩ := h.ps i (Array.getElem?_eq_some_iff.1 ho).1
  exact ⟨p, h1, by rw [(rl_get h).2, h2]; simp [ho]⟩
theorem sg (h : OkP ops.size π σ) {i p : Nat} (hs : σ[i]? = some p) : σ.getD i i = p := by simp [List.getD_eq_getElem?_getD, hs]
theorem rl_yield (h : OkP ops.size π σ) (tmps : Array Value) (j : Nat) : yielded (rlL π σ ops.toList).toArray tmps (σ.getD j j) = yielded ops tmps j := by
  unfold yielded
  cases ho : ops[j]? with
  | none =>
    have hj : ops.size ≤ j := by simpa using ho
    have : σ[j]? = none := List.getElem?_eq_none (by rw [h.ls]; exact hj)
    have e : σ.getD j j = j := by simp [List.getD_eq_getElem?_getD, this]
    rw [e, Array.getElem?_eq_none (by rw [(rl_get h).1]; exact hj)]
  | some o =>
    obtain ⟨p, h1, h2⟩ := rl_at h ho
    rw [sg h h1, h2]
    rfl
theorem rl_wanted (h : OkP ops.size π σ) (o : Oper) (tmps : Array Value) : Region.wanted (rlb σ o) (yielded (rlL π σ ops.toList).toArray tmps) = Region.wanted o (yielded ops tmps) := by
  unfold Region.wanted rlb
  cases hg : o.guard with
  | none => rfl
  | some g =>
    obtain ⟨j, b⟩ := g
    simp only [Option.map_some]
    rw [rl_yield h]
theorem rl_exec (ρ : Operand → Value) (o : Oper) : execOp ρ (rlb σ o) = execOp ρ o := rfl
def corr (n : Nat) (σ : List Nat) (L L' : Array Bool) : Prop := L.size = n ∧ L'.size = n ∧ ∀ i p : Nat, σ[i]? = some p → L'[p]? = L[i]?
theorem corr_set (h : OkP ops.size π σ) {L L' : Array Bool} (c : corr ops.size σ L L') {i p : Nat} (hs : σ[i]? = some p) : corr ops.size σ (L.setIfInBounds i true) (L'.setIfInBounds p true) := by
  refine ⟨by simpa using c.1, by simpa using c.2.1, fun j q hj => ?_⟩
  have hi : i < ops.size := by rw [← h.ls]; exact (List.getElem?_eq_some_iff.1 hs).1
  have hp : p < ops.size := by
    obtain ⟨p', h1, h2⟩ := h.ps i hi
    rw [hs] at h1
    cases h1
    rw [← h.lp]
    exact (List.getElem?_eq_some_iff.1 h2).1
  rw [Array.getElem?_setIfInBounds, Array.getElem?_setIfInBounds]
  by_cases e : i = j
  · subst e
    rw [hs] at hj
    cases hj
    simp [c.1, c.2.1, hi, hp]
  · have ne : ¬ p = q := by
      intro epq
      subst epq
      obtain ⟨p1, g1, g2⟩ := h.ps i hi
      rw [hs] at g1
      cases g1
      obtain ⟨p2, g3, g4⟩ := h.ps j (by rw [← h.ls]; exact (List.getElem?_eq_some_iff.1 hj).1)
      rw [hj] at g3
      cases g3
      rw [g2] at g4
      cases g4
      exact e rfl
    simp only [e, ne, if_false]
    exact c.2.2 j q hj
theorem corr_on (h : OkP ops.size π σ) {L L' : Array Bool} (c : corr ops.size σ L L') (k : Nat) (d : Bool) : L'.getD (σ.getD k k) d = L.getD k d := by
  rw [Array.getD_eq_getD_getElem?, Array.getD_eq_getD_getElem?]
  cases hs : σ[k]? with
  | none =>
    have hk : ops.size ≤ k := by rw [← h.ls]; simpa using hs
    have e : σ.getD k k = k := by simp [List.getD_eq_getElem?_getD, hs]
    rw [e, Array.getElem?_eq_none (by rw [c.2.1]; exact hk), Array.getElem?_eq_none (by rw [c.1]; exact hk)]
  | some p => rw [sg h hs, c.2.2 k p hs]
theorem rl_ready (h : OkP ops.size π σ) {L L' : Array Bool} (c : corr ops.size σ L L') {i p : Nat} (hs : σ[i]? = some p) (md : Region.Mode) : p ∈ Region.ready md (rlL π σ ops.toList).toArray L' ↔ i ∈ Region.ready md ops L := by
  have hi : i < ops.size := by rw [← h.ls]; exact (List.getElem?_eq_some_iff.1 hs).1
  have ho : ops[i]? = some ops[i] := Array.getElem?_eq_getElem hi
  obtain ⟨p', h1, h2⟩ := rl_at h ho
  rw [hs] at h1
  cases h1
  have hp : p < (rlL π σ ops.toList).toArray.size := (Array.getElem?_eq_some_iff.1 h2).1
  have hl : L'.getD p true = L.getD i true := by
    have := corr_on h c i true
    rwa [sg h hs] at this
  unfold Region.ready
  rw [List.mem_filter, List.mem_filter, List.mem_range, List.mem_range, h2, ho, hl]
  simp only [hp, hi, true_and, Option.map_some, Option.getD_some]
  have e : ((rlb σ ops[i]).after.all fun e => !Region.binds md e || L'.getD e.on false) = (ops[i].after.all fun e => !Region.binds md e || L.getD e.on false) := by
    simp only [rlb, Array.all_map]
    congr 1
    funext e
    simp only [Function.comp]
    rw [corr_on h c]
    rfl
  rw [e]
theorem rl_any (h : OkP ops.size π σ) {md : Region.Mode} {Q : Exit → Act → World → Prop} : ∀ (fuel : Nat) (L L' : Array Bool) (a : Act) (w : World), corr ops.size σ L L' → wpAny P md (rlL π σ ops.toList).toArray Q fuel L' a w → wpAny P md ops Q fuel L a w := by
  have em : ∀ {L L' : Array Bool}, corr ops.size σ L L' → (Region.ready md (rlL π σ ops.toList).toArray L' = [] ↔ Region.ready md ops L = []) := by
    intro L L' c
    constructor
    · intro e
      cases hr : Region.ready md ops L with
      | nil => rfl
      | cons i r =>
        have hi : i ∈ Region.ready md ops L := by rw [hr]; simp
        have hlt : i < ops.size := by
          unfold Region.ready at hi
          exact List.mem_range.1 (List.mem_filter.1 hi).1
        obtain ⟨p, h1, _⟩ := h.ps i hlt
        have := (rl_ready h c h1 md).2 hi
        rw [e] at this
        cases this
    · intro e
      cases hr : Region.ready md (rlL π σ ops.toList).toArray L' with
      | nil => rfl
      | cons p r =>
        have hp : p ∈ Region.ready md (rlL π σ ops.toList).toArray L' := by rw [hr]; simp
        have hlt : p < ops.size := by
          unfold Region.ready at hp
          have := List.mem_range.1 (List.mem_filter.1 hp).1
          rwa [(rl_get h).1] at this
        obtain ⟨i, h1, h2, h3⟩ := h.sp p hlt
        have := (rl_ready h c h3 md).1 hp
        rw [e] at this
        cases this
  intro fuel
  induction fuel with
  | zero => intro L L' a w c hh; exact ⟨(em c).1 hh.1, hh.2⟩
  | succ fuel ih =>
    intro L L' a w c hh
    refine ⟨fun e => hh.1 ((em c).2 e), fun i hi => ?_⟩
    have hlt : i < ops.size := by
      unfold Region.ready at hi
      exact List.mem_range.1 (List.mem_filter.1 hi).1
    have ho : ops[i]? = some ops[i] := Array.getElem?_eq_getElem hlt
    obtain ⟨p, h1, h2⟩ := rl_at h ho
    have step := hh.2 p ((rl_ready h c h1 md).2 hi)
    unfold wpOp at step ⊢
    simp only [h2] at step
    simp only [ho]
    rw [rl_wanted h] at step
    split
    · rename_i hw
      rw [if_pos hw] at step
      rcases step with step | step
      · exact .inl (Oper.wp_mono (o := ops[i]) (fun a w q => ih _ _ a w (corr_set h c h1) q) step)
      · exact .inr step
    · rename_i hw
      rw [if_neg hw] at step
      exact ih _ _ _ _ (corr_set h c h1) step
end
section
variable {P : Program} {nt : Nat} {ops : Array Oper} {B : List Nat} {k : Nat}
theorem drawnAny {env : Env} {H : AH} {Q : Exit → Env → AH → Prop} (hc : chk ops B k = true) (hk : k ≤ ops.size) (h : ARunD P nt ops k (fun env H => Q .normal env H) 0 ops.toList env H) :
    ∀ β w a (K : Exit → Act → World → Prop), St nt β env H a w → (∀ x env' H' β' a' w', Q x env' H' → St nt β' env' H' a' w' → Ext H.length β w β' w' → H.length ≤ H'.length → K x a' w') →
      wpAny P .any ops K ops.size (Array.replicate ops.size false) a { w with drawn := w.drawn + 1 } := by
  intro β w a K S hK
  obtain ⟨V, E, G, h1, h2, h3, h4⟩ := trace_of ops.toList 0 env H rfl (by simp) h
  have T : Trace P nt ops k V E G := ⟨fun i hi => h4 i (Nat.zero_le _) hi, by rw [h2]; exact S.wf, by rw [h1, h2]; exact S.er, hk⟩
  have hs : SameHeap w { w with drawn := w.drawn + 1 } := ⟨rfl, rfl, rfl, rfl⟩
  have hL : (fun j => (Array.replicate ops.size false).getD j false) = fun _ => false := by
    funext j
    rw [Array.getD_eq_getD_getElem?, Array.getElem?_replicate]
    split <;> rfl
  have hf : fold ops V (fun _ => false) (E 0) ops.size = env := by
    have : ∀ m, fold ops V (fun _ => false) (E 0) m = E 0 := by
      intro m
      induction m with
      | zero => rfl
      | succ m ih => simp [fold, ih]
    rw [this, h1]
  refine Inv.any hc T (β0 := β) (w0 := w) (fun β' a' w' S' E' => hK _ _ _ _ _ _ h3 S' (by rw [← h2]; exact E') (by rw [← h2]; exact T.lens _ (Nat.zero_le _) (Nat.le_refl _))) ops.size _ a _ (by simp) (by rw [hL, cnt_none]; exact Nat.le_refl _) ?_
  rw [hL]
  refine ⟨fun j o hj => (by cases hj), fun j hj => (by cases hj), S.size, S.defers, β, by rw [hf]; exact S.envT, Ext.same _ hs, .inl ⟨fun j o hj => (by cases hj), ?_, fun i o hi ho hp hx id g1 g2 => ?_⟩⟩
  · have := T.pre k (i := 0) (Nat.zero_le _) (Nat.le_refl _)
    rw [h2] at this
    exact (S.rel.same hs).more this
  · have := T.lens (i := 0) i (Nat.zero_le _) (by have := T.hk; omega)
    rw [h2] at this
    exact S.rel.dom id (by omega)
theorem AWp.drawnP {id : Nat} {env : Env} {H : AH} {Q : Exit → Env → AH → Prop} {π σ : List Nat} (hm : P.follows .mixedOrders = true) (hp : okP ops.size π σ = true) (hc : chk (rlL π σ ops.toList).toArray B k = true) (hk : k ≤ ops.size)
    (h : ARunD P nt (rlL π σ ops.toList).toArray k (fun env H => Q .normal env H) 0 (rlL π σ ops.toList) env H) : AWp P nt (.region id ops true) Q env H := by
  intro β w a K S hK
  have ok := okP_spec hp
  have hsz := (rl_get ok).1
  have := drawnAny hc (by rw [hsz]; exact hk) h β w a K S hK
  rw [hsz] at this
  refine wp_region_any hm (rl_any ok ops.size _ _ a _ ⟨by simp, by simp, fun i p hs => ?_⟩ this)
  have hi : i < ops.size := by rw [← ok.ls]; exact (List.getElem?_eq_some_iff.1 hs).1
  obtain ⟨p', h1, h2⟩ := ok.ps i hi
  rw [hs] at h1
  cases h1
  have hpl : p < ops.size := by rw [← ok.lp]; exact (List.getElem?_eq_some_iff.1 h2).1
  simp [Array.getElem?_replicate, hi, hpl]
theorem DWp.drawnP {id : Nat} {env : Env} {H : AH} {Q : Exit → Env → AH → Prop} {π σ : List Nat} (k : Nat) (hm : P.follows .mixedOrders = true) (hp : okP ops.size π σ = true) (hc : chk (rlL π σ ops.toList).toArray B k = true) (hk : k ≤ ops.size)
    (h : ∀ K : Env → AH → Prop, (∀ env H, Q .normal env H → K env H) → ARunD P nt (rlL π σ ops.toList).toArray k K 0 (rlL π σ ops.toList) env H) : DWp P nt (.region id ops true) Q env H := by
  obtain ⟨env', H', h1, h2, h3⟩ := arunD_det _ _ _ _ (h _ fun _ _ h => h)
  exact ⟨.normal, env', H', AWp.drawnP hm hp hc hk (by simpa using h1), h2, h3⟩
end
end Go.Proofs.Ytbckijeffiofdaa.AL
