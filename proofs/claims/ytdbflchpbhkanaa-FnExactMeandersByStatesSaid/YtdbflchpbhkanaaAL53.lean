/- AL, part 53: a region whose order is drawn, with some of its edges dropped: what holds in more orders holds in fewer. No condition. -/
import Derived.Test.YtdbflchpbhkanaaALD
namespace Go.Proofs.Ytdbflchpbhkanaa.AL
open Go Go.RowKit
set_option linter.unusedVariables false
set_option linter.unusedSimpArgs false
def cutO (D : List (Nat × Nat)) (i : Nat) (o : Oper) : Oper := { o with after := o.after.filter fun e => !D.contains (i, e.on) }
def cutE (D : List (Nat × Nat)) (ops : Array Oper) : Array Oper := ops.mapIdx (cutO D)
def acyc (ops : Array Oper) : Bool := (List.range ops.size).all fun i => match ops[i]? with
  | some o => o.after.all fun e => !Region.binds .any e || decide (e.on < i)
  | none => true
section
variable {P : Program} {nt : Nat} {ops : Array Oper} {D : List (Nat × Nat)}
theorem cut_get (i : Nat) : (cutE D ops)[i]? = (ops[i]?).map (cutO D i) := by simp [cutE]
theorem cut_size : (cutE D ops).size = ops.size := by simp [cutE]
theorem cut_yield (tmps : Array Value) (j : Nat) : yielded (cutE D ops) tmps j = yielded ops tmps j := by
  unfold yielded
  rw [cut_get]
  cases ops[j]? <;> rfl
theorem cut_ready {L : Array Bool} {i : Nat} (h : i ∈ Region.ready .any ops L) : i ∈ Region.ready .any (cutE D ops) L := by
  unfold Region.ready at h ⊢
  rw [List.mem_filter, List.mem_range] at h ⊢
  rw [cut_size, cut_get]
  refine ⟨h.1, ?_⟩
  cases ho : ops[i]? with
  | none => rw [ho] at h; simpa using h.2
  | some o =>
    rw [ho] at h
    simp only [Option.map_some, Bool.and_eq_true] at h ⊢
    refine ⟨h.2.1, ?_⟩
    have h2 := h.2.2
    simp only [Option.getD_some, cutO] at h2 ⊢
    rw [Array.all_eq_true_iff_forall_mem] at h2 ⊢
    exact fun e he => h2 e (Array.mem_filter.1 he).1
theorem ready_all {L : Array Bool} (hc : acyc ops = true) (hr : Region.ready .any ops L = []) : ∀ i, i < ops.size → L.getD i true = true := by
  intro i
  induction i using Nat.strongRecOn with
  | _ i ih =>
    intro hi
    cases hX : L.getD i true with
    | true => rfl
    | false =>
      exfalso
      have ho : ops[i]? = some ops[i] := Array.getElem?_eq_getElem hi
      have hm : i ∈ Region.ready .any ops L := by
        unfold Region.ready
        rw [List.mem_filter, List.mem_range]
        refine ⟨hi, ?_⟩
        rw [ho, hX]
        simp only [Option.map_some, Option.getD_some, Bool.not_false, Bool.true_and]
        rw [Array.all_eq_true_iff_forall_mem]
        intro e he
        have h1 := List.all_eq_true.1 hc i (List.mem_range.2 hi)
        rw [ho] at h1
        simp only at h1
        rw [Array.all_eq_true_iff_forall_mem] at h1
        have h2 := h1 e he
        rw [Bool.or_eq_true] at h2 ⊢
        rcases h2 with h2 | h2
        · exact .inl h2
        · have hlt := of_decide_eq_true h2
          have h3 := ih e.on hlt (by omega)
          refine .inr ?_
          rw [Array.getD_eq_getD_getElem?] at h3 ⊢
          cases hL : L[e.on]? with
          | some b => rw [hL] at h3; simpa using h3
          | none =>
            exfalso
            have : L.size ≤ e.on := by simpa using hL
            rw [Array.getD_eq_getD_getElem?, Array.getElem?_eq_none (by omega)] at hX
            cases hX
      rw [hr] at hm
      cases hm
theorem cut_none {L : Array Bool} (hc : acyc ops = true) (hr : Region.ready .any ops L = []) : Region.ready .any (cutE D ops) L = [] := by
  have h := ready_all hc hr
  unfold Region.ready
  rw [List.filter_eq_nil_iff]
  intro i hi
  rw [List.mem_range, cut_size] at hi
  simp [h i hi]
theorem cut_any (hc : acyc ops = true) {Q : Exit → Act → World → Prop} : ∀ (fuel : Nat) (L : Array Bool) (a : Act) (w : World), wpAny P .any (cutE D ops) Q fuel L a w → wpAny P .any ops Q fuel L a w := by
  intro fuel
  induction fuel with
  | zero =>
    intro L a w h
    refine ⟨?_, h.2⟩
    cases hr : Region.ready .any ops L with
    | nil => rfl
    | cons i r =>
      have := cut_ready (D := D) (show i ∈ Region.ready .any ops L by rw [hr]; simp)
      rw [h.1] at this
      cases this
  | succ fuel ih =>
    intro L a w h
    refine ⟨fun e => h.1 (cut_none hc e), fun i hi => ?_⟩
    have step := h.2 i (cut_ready hi)
    have hlt : i < ops.size := by
      unfold Region.ready at hi
      exact List.mem_range.1 (List.mem_filter.1 hi).1
    have ho : ops[i]? = some ops[i] := Array.getElem?_eq_getElem hlt
    unfold wpOp at step ⊢
    simp only [cut_get, ho, Option.map_some] at step ⊢
    have hw : Region.wanted (cutO D i ops[i]) (yielded (cutE D ops) a.tmps) = Region.wanted ops[i] (yielded ops a.tmps) := by
      unfold Region.wanted cutO
      cases hg : ops[i].guard with
      | none => rfl
      | some g => simp only [cut_yield]
    rw [hw] at step
    split
    · rename_i hq
      rw [if_pos hq] at step
      rcases step with step | step
      · exact .inl (Oper.wp_mono (o := ops[i]) (fun a w q => ih _ a w q) step)
      · exact .inr step
    · rename_i hq
      rw [if_neg hq] at step
      exact ih _ _ _ step
theorem rl0_cut {π σ : List Nat} : rl0 π σ (cutE D ops).toList = rl0 π σ ops.toList := by
  unfold rl0
  congr 1
  funext i
  rw [Array.getElem?_toList, Array.getElem?_toList, cut_get]
  cases ops[i]? <;> rfl
theorem DWp.drawnC {B : List Nat} {X0 : List Nat} {id : Nat} {env : Env} {H : AH} {Q : Exit → Env → AH → Prop} {π σ : List Nat} (D : List (Nat × Nat)) (k : Nat) (K : Nat → Bool) (N : Option Nat) (hm : P.follows .mixedOrders = true) (ha : acyc ops = true) (hp : okP ops.size π σ = true) (hc : chkL (rlL π σ (cutE D ops).toList).toArray B k X0 = true) (hk : k ≤ ops.size)
    (h : ∀ NN : Env → AH → Prop, (∀ env H, Q .normal env H → NN env H) → ARunL P nt (rl0 π σ ops.toList).toArray k K N X0 NN 0 (rl0 π σ ops.toList) env H) : DWp P nt (.region id ops true) Q env H := by
  have h' : ∀ NN : Env → AH → Prop, (∀ env H, Q .normal env H → NN env H) → ARunL P nt (rlL π σ (cutE D ops).toList).toArray k K N X0 NN 0 (rlL π σ (cutE D ops).toList) env H := fun NN hN => ARunL.strip _ _ _ _ (by
    have := h NN hN
    rw [← rl0_cut (D := D), rl0_eq] at this
    rwa [List.map_toArray])
  obtain ⟨env', H', h1, h2⟩ := arunL_det _ _ _ _ (h' _ fun _ _ h => h)
  obtain ⟨env2, H2, h3, h4, h5⟩ := arunD_det _ _ _ _ h1.plain
  obtain ⟨rfl, rfl⟩ := h5
  refine ⟨.normal, env2, H2, fun β w a NN S hK => wp_region_any hm (cut_any (D := D) ha _ _ _ _ ?_), h4, h2⟩
  have := anyL (ops := cutE D ops) (Q := fun (x : Exit) (e : Env) (G : AH) => x = Exit.normal ∧ e = env2 ∧ G = H2) (by rw [cut_size]; exact hp) hc (by rw [cut_size]; exact hk) (by simpa using h1) β w a NN S (fun x env' H' β' a' w' q => hK x env' H' β' a' w' (by obtain ⟨rfl, rfl, rfl⟩ := q; exact ⟨rfl, rfl, rfl⟩))
  rw [cut_size] at this
  exact this
end
end Go.Proofs.Ytdbflchpbhkanaa.AL
