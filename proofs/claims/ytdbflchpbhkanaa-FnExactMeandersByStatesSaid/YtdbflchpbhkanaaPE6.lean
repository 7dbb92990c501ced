/- The law of meanders by states: a curve that is closed too early closes no single one. No condition. -/
import Derived.Test.YtdbflchpbhkanaaPE5
namespace Go.Proofs.Ytdbflchpbhkanaa.AL
open Go
set_option linter.unusedVariables false
set_option linter.unusedSimpArgs false
section
variable {fu : Nat}
theorem look_notin {k : ByteArray} : ∀ {M : List Tr}, k ∉ M.map (·.1) → lookM M k = none
  | [], _ => rfl
  | e :: r, h => by
    rw [List.map_cons, List.mem_cons, not_or] at h
    unfold lookM
    rw [if_neg h.1, look_notin h.2]
theorem look_filter {p : St3 → Bool} {k : ByteArray} : ∀ {M : List Tr}, (M.map (·.1)).Nodup → lookM (M.filter fun e => p e.2.1) k = (lookM M k).filter fun x => p x.1
  | [], _ => rfl
  | e :: r, h => by
    rw [List.map_cons, List.nodup_cons] at h
    have ih := look_filter (p := p) (k := k) h.2
    rw [List.filter_cons]
    cases hp : p e.2.1 with
    | true =>
      rw [if_pos rfl]
      unfold lookM
      by_cases hk : k = e.1
      · rw [if_pos hk, if_pos hk]
        simp [Option.filter, hp]
      · rw [if_neg hk, if_neg hk]
        exact ih
    | false =>
      rw [if_neg (by simp), ih]
      conv => rhs; unfold lookM
      by_cases hk : k = e.1
      · rw [if_pos hk, hk, look_notin h.1]
        simp [Option.filter, hp]
      · rw [if_neg hk]
theorem filt_look {p : St3 → Bool} : ∀ {X N N' : List Tr}, OkM X → (∀ k x, lookM N k = some x → k = keyP x.1 ∧ GdS x.1) → (∀ k, lookM N' k = (lookM N k).filter fun x => p x.1) → ∀ k, lookM ((X.filter fun e => p e.2.1).foldl addM N') k = (lookM (X.foldl addM N) k).filter fun x => p x.1
  | [], _, _, _, _, h => h
  | c :: X, N, N', hX, hN, h => by
    have hc := hX c (.head _)
    have hX' : OkM X := fun e he => hX e (.tail _ he)
    have hN' : ∀ k x, lookM (addM N c) k = some x → k = keyP x.1 ∧ GdS x.1 := fun k x hx => by
      rw [look_add] at hx
      split at hx
      · rename_i hk
        cases hx
        exact ⟨hk.trans hc.1, hc.2⟩
      · exact hN k x hx
    have hst : ∀ x, lookM N c.1 = some x → x.1 = c.2.1 := fun x hx => by
      have := hN _ x hx
      exact key_inj this.2 hc.2 (this.1.symm.trans hc.1)
    rw [List.filter_cons]
    cases hp : p c.2.1 with
    | true =>
      rw [if_pos rfl, List.foldl_cons, List.foldl_cons]
      refine filt_look hX' hN' fun k => ?_
      rw [look_add, look_add]
      by_cases hk : k = c.1
      · rw [if_pos hk, if_pos hk]
        have : lookM N' c.1 = lookM N c.1 := by
          rw [h]
          cases hl : lookM N c.1 with
          | none => rfl
          | some x => simp [Option.filter, hst x hl, hp]
        rw [this]
        simp [Option.filter, hp]
      · rw [if_neg hk, if_neg hk]
        exact h k
    | false =>
      rw [if_neg (by simp), List.foldl_cons]
      refine filt_look hX' hN' fun k => ?_
      rw [look_add]
      by_cases hk : k = c.1
      · rw [if_pos hk, hk, h]
        cases hl : lookM N c.1 with
        | none => simp [Option.filter, hp]
        | some x => simp [Option.filter, hst x hl, hp]
      · rw [if_neg hk]
        exact h k
theorem filt {p : St3 → Bool} {X : List Tr} (hX : OkM X) : ((X.foldl addM []).filter fun e => p e.2.1).Perm ((X.filter fun e => p e.2.1).foldl addM []) := by
  have h1 := fold_keys X (M := []) (by simp)
  have h2 := fold_keys (X.filter fun e => p e.2.1) (M := []) (by simp)
  refine perm_of_look (h1.sublist (List.filter_sublist.map _)) h2 fun k => ?_
  rw [look_filter h1, filt_look hX (N := []) (N' := []) (fun k x hx => by cases hx) (fun k => rfl)]
def cE (j : Int) (s : St3) : Bool := decide (s.2.2 = j)
def qM (t : Nat) (o : St3) : Bool := pP t o && (cE 0 o || decide (t = 0))
theorem nx1_and {p q : St3 → Bool} {s : St3} {k : Int} : nx1 fu (fun o => p o && q o) s k = (nx1 fu p s k).filter q := by
  unfold nx1
  cases h1 : (stp fu s k).2 <;> cases h2 : p (stp fu s k).1 <;> cases h3 : q (stp fu s k).1 <;> simp [h1, h2, h3]
theorem nxt_and {p q : St3 → Bool} {s : St3} : nxt fu (fun o => p o && q o) s = (nxt fu p s).filter q := by
  unfold nxt
  simp only [nx1_and, List.filter_append]
theorem gS_and {p q : St3 → Bool} : ∀ (L : List SW), L.flatMap (gS fu fun o => p o && q o) = (L.flatMap (gS fu p)).filter fun x => q x.1
  | [] => rfl
  | c :: L => by
    rw [List.flatMap_cons, List.flatMap_cons, List.filter_append, ← gS_and L]
    congr 1
    unfold gS
    rw [nxt_and, List.filter_map]
    rfl
theorem toTr_filter {q : St3 → Bool} (L : List SW) : toTr (L.filter fun x => q x.1) = (toTr L).filter fun e => q e.2.1 := by
  unfold toTr
  rw [List.filter_map]
  rfl
theorem flat_filter {m : Nat} {p : St3 → Bool} : ∀ {M : List Tr}, (∀ e ∈ M, cE 0 e.2.1 = false → ∀ x ∈ gI fu m e, p x.2.1 = false) → (M.flatMap (gI fu m)).filter (fun e => p e.2.1) = ((M.filter fun e => cE 0 e.2.1).flatMap (gI fu m)).filter fun e => p e.2.1
  | [], _ => rfl
  | e :: M, h => by
    have ih := flat_filter (p := p) (M := M) fun x hx => h x (.tail _ hx)
    rw [List.flatMap_cons, List.filter_append, ih, List.filter_cons]
    cases hc : cE 0 e.2.1 with
    | true => rw [if_pos rfl, List.flatMap_cons, List.filter_append]
    | false =>
      rw [if_neg (by simp)]
      have : (gI fu m e).filter (fun e => p e.2.1) = [] := List.filter_eq_nil_iff.2 fun x hx => by rw [h e (.head _) hc x hx]; simp
      rw [this, List.nil_append]
theorem c_up {m : Nat} {e x : Tr} (he : GdS e.2.1) (hf : 1000 < fu) (hx : x ∈ gI fu m e) : Nxt e.2.1 x.2.1 ∧ pP m x.2.1 = true := by
  obtain ⟨o, ho, rfl⟩ := List.mem_map.1 hx
  exact nxt_mem he hf ho
theorem mea (hf : 1000 < fu) : ∀ (t : Nat) {M : List Tr} {L : List SW}, Ord L → OkM M → (M.filter fun e => cE 0 e.2.1).Perm (toTr L) →
    sumF (fun e => shutE e && ieq e.2.1.2.2 1) (runP fu (t + 1) M) 0 = sumF (fun e => cE 1 e.2.1) (toTr (aftP fu qM (t + 1) L)) 0
  | 0, M, L, hL, hM, p => by
    show sumF _ ((M.flatMap (gI fu 0)).foldl addM []) 0 = sumF _ (toTr (foldS (L.flatMap (gS fu (qM 0))) [])) 0
    have e0 : qM 0 = pP 0 := by
      funext o
      simp [qM]
    have hX := hM.step (m := 0) hf
    have hk := flat_ok (fu := fu) (p := pP 0) hL hf
    rw [e0]
    have h1 : sumF (fun e => shutE e && ieq e.2.1.2.2 1) ((M.flatMap (gI fu 0)).foldl addM []) 0 = sumF (fun e => cE 1 e.2.1) ((M.flatMap (gI fu 0)).foldl addM []) 0 := by
      refine sumF_congr (fun e he => ?_) _
      rcases foldM_mem he with ⟨a, ha, _, q2⟩ | ⟨a, ha, _⟩
      · obtain ⟨b, hb, hm⟩ := List.mem_flatMap.1 ha
        have h2 := pP0 (c_up (hM b hb).2 hf hm).2
        rw [q2] at h2
        obtain ⟨k, s, w⟩ := e
        simp only at h2
        rw [shut_of h2.1 h2.2]
        unfold cE
        rw [ieq_eq]
        simp only [Bool.true_and]
        by_cases hc : s.2.2 = 1 <;> simp [hc]
      · cases ha
    rw [h1, sumF_filter, sumF_filter (M := toTr _)]
    refine sumF_perm ?_ 0
    refine (filt (p := cE 1) hX).trans ?_
    have h3 := flat_filter (fu := fu) (m := 0) (p := cE 1) (M := M) fun e he hc x hx => by
      have h4 := c_up (hM e he).2 hf hx
      have h5 := pP0 h4.2
      have h6 := h4.1.2.2.1 h5.1 h5.2
      have h7 := (hM e he).2.1
      unfold cE at hc ⊢
      rw [decide_eq_false_iff_not] at hc ⊢
      omega
    rw [h3]
    have h8 : (((M.filter fun e => cE 0 e.2.1).flatMap (gI fu 0)).filter fun e => cE 1 e.2.1).Perm (toTr ((L.flatMap (gS fu (pP 0))).filter fun x => cE 1 x.1)) := by
      rw [toTr_filter, ← tr_flat]
      exact (flatMap_perm _ p).filter _
    refine (fold_tr (fun c hc => hk c ((List.mem_filter.1 hc).1)) h8).trans ?_
    have h9 := (fold_tr hk (L := toTr (L.flatMap (gS fu (pP 0)))) (.refl _)).symm.filter fun e => cE 1 e.2.1
    refine List.Perm.symm (h9.trans ((filt (p := cE 1) (fun e he => ?_)).trans ?_))
    · obtain ⟨c, hc, rfl⟩ := List.mem_map.1 he
      exact ⟨rfl, (hk c hc).1⟩
    · refine fold_tr (fun c hc => hk c ((List.mem_filter.1 hc).1)) ?_
      rw [toTr_filter]
  | t + 1, M, L, hL, hM, p => by
    have hX := hM.step (m := t + 1) hf
    show sumF _ (runP fu (t + 1) ((M.flatMap (gI fu (t + 1))).foldl addM [])) 0 = sumF _ (toTr (aftP fu qM (t + 1) (foldS (L.flatMap (gS fu (qM (t + 1)))) []))) 0
    refine mea hf t (round_ord hL hf) hX.fold ?_
    refine (filt (p := cE 0) hX).trans ?_
    have h3 := flat_filter (fu := fu) (m := t + 1) (p := cE 0) (M := M) fun e he hc x hx => by
      have h4 := (c_up (hM e he).2 hf hx).1.2.1
      have h7 := (hM e he).2.1
      unfold cE at hc ⊢
      rw [decide_eq_false_iff_not] at hc ⊢
      omega
    have e0 : qM (t + 1) = fun o => pP (t + 1) o && cE 0 o := by
      funext o
      simp [qM]
    rw [h3, e0, gS_and]
    have hk := flat_ok (fu := fu) (p := pP (t + 1)) hL hf
    refine fold_tr (fun c hc => hk c ((List.mem_filter.1 hc).1)) ?_
    rw [toTr_filter, ← tr_flat]
    exact (flatMap_perm _ p).filter _
theorem cndM_eq {n : Nat} (hn : n ≤ 6) (t : Nat) (ht : (t : Int) < ((2 * n : Nat) : Int)) : cndM (n : Int) (((2 * n : Nat) : Int) - (t : Int) - 1) = qM t := by
  funext o
  unfold cndM qM pP cE llen
  rw [imul2 (by omega), isub_id (a := ((2 * n : Nat) : Int)) (by omega) (by omega), isub_id (by omega) (by omega), show ((2 * n : Nat) : Int) - (((2 * n : Nat) : Int) - (t : Int) - 1) - 1 = (t : Int) by omega, ile_eq, ile_eq, ieq_eq, ieq_eq]
  by_cases h2 : o.1.length ≤ t <;> by_cases h3 : o.2.1.length ≤ t <;> by_cases h4 : o.2.2 = 0 <;> by_cases h5 : t = 0 <;> simp [h2, h3, h4, h5]
theorem mbs_eq (x0 : Int) (hf : 100000000 < fu) : ∃ r, F_spec_MeandersByStates fu x0 = some r ∧ F_impl_MeandersByStates fu x0 = some r := by
  unfold F_spec_MeandersByStates F_impl_MeandersByStates
  rw [l1In_eq, in_eq, bd_of, bd_of]
  by_cases h1 : 1 ≤ x0 ∧ x0 ≤ 6
  · have e1 : (decide (1 ≤ x0) && decide (x0 ≤ 6)) = true := by simpa using h1
    rw [e1]
    obtain ⟨n, rfl⟩ : ∃ n : Nat, x0 = n := ⟨x0.toNat, by omega⟩
    have hn : n ≤ 6 := by omega
    simp only [show bnot true = false from rfl, cond_false]
    obtain ⟨L, g1, g2, g3, g4, g5, g6, g7⟩ := closings_eq (fu := fu) (s := ([], [], 0)) (t := 2 * n) start_good (by omega) hf
    simp only at g1
    have h2 := aft_eq (fu := fu) (cnd := cndM (n : Int)) (q := qM) (pts := ((2 * n : Nat) : Int)) hf (by omega) (by omega) (fun t' h' => cndM_eq hn t' h') (2 * n) fu [(([], [], 0), 1)] (by omega) (by omega) (one_ord start_good) (pow_le (by omega))
    rw [Int.sub_self] at h2
    have s2 : F_impl_StartState fu = some ([], [], 0) := rfl
    rw [imul2 (by omega), h2.1, bd_of, s2, bd_of, sumL_eq (by omega) hf, bd_of]
    simp only
    rw [g1, bd_of, gd_t ⟨by omega, by rw [tly_len]; simp [lrep]⟩, tly_gat (by omega) (fun e he _ => inL7 (g5 e he)), gatR]
    obtain ⟨t, ht⟩ : ∃ t, 2 * n = t + 1 := ⟨2 * n - 1, by omega⟩
    rw [ht]
    have := mea (fu := fu) (by omega) t (M := [(keyP ([], [], 0), ([], [], 0), 1)]) (L := [(([], [], 0), 1)]) (one_ord start_good) (fun e he => by simp at he; rw [he]; exact ⟨rfl, start_good⟩) (.refl _)
    rw [this]
    refine ⟨_, rfl, ?_⟩
    congr 2
    refine sumF_congr (fun e he => ?_) _
    unfold cE oneE
    rw [ieq_eq]
    by_cases hc : e.2.1.2.2 = 1 <;> simp [hc]
  · have e1 : (decide (1 ≤ x0) && decide (x0 ≤ 6)) = false := by rw [← Bool.not_eq_true]; simpa using h1
    rw [e1]
    exact ⟨_, rfl, rfl⟩
theorem law_MeandersByStates {x0 : Int} (_ : (Lit.int .i64 x0).wf = true) : F_laws_FnExactMeandersByStates 200000000 x0 = some true := by
  obtain ⟨r, e1, e2⟩ := mbs_eq (fu := 200000000) x0 (by omega)
  unfold F_laws_FnExactMeandersByStates
  rw [e1, bd_of, e2, bd_of, ine_f rfl, cond_false, bne_self, bd_of, cond_false]
end
end Go.Proofs.Ytdbflchpbhkanaa.AL
