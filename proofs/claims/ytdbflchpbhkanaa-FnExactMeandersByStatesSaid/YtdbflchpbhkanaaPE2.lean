/- Rounds over states: by a map under keys and by an ordered list. No condition. -/
import Derived.Test.YtdbflchpbhkanaaPE1
import Derived.Test.YtdbflchpbhkanaaGK3
namespace Go.Proofs.Ytdbflchpbhkanaa.AL
open Go
set_option linter.unusedVariables false
set_option linter.unusedSimpArgs false
section
variable {fu : Nat}
def stp (fu : Nat) (s : St3) (k : Int) : St3 × Bool := (F_spec_stStep fu s.1 s.2.1 s.2.2 k).getD (([], [], 0), false)
def nx1 (fu : Nat) (p : St3 → Bool) (s : St3) (k : Int) : List St3 := if (stp fu s k).2 = true ∧ p (stp fu s k).1 = true then [(stp fu s k).1] else []
def nxt (fu : Nat) (p : St3 → Bool) (s : St3) : List St3 := nx1 fu p s 0 ++ (nx1 fu p s 1 ++ (nx1 fu p s 2 ++ nx1 fu p s 3))
theorem nx1_mem {p : St3 → Bool} {s o : St3} {k : Int} (hs : GdS s) (hf : 1000 < fu) (h0 : 0 ≤ k) (h3 : k < 4) (h : o ∈ nx1 fu p s k) : Nxt s o ∧ p o = true := by
  unfold nx1 at h
  split at h
  · rename_i hc
    simp only [List.mem_singleton] at h
    obtain ⟨o1, o2, ok, e1, e2, e3⟩ := step_ok (u := s.1) (d := s.2.1) (c := s.2.2) hs hf h0 h3
    have : stp fu s k = (o1, ok) := by unfold stp; rw [e1]; rfl
    rw [this] at h hc
    rw [h]
    exact ⟨(e3 hc.1).2, hc.2⟩
  · cases h
theorem nxt_mem {p : St3 → Bool} {s o : St3} (hs : GdS s) (hf : 1000 < fu) (h : o ∈ nxt fu p s) : Nxt s o ∧ p o = true := by
  unfold nxt at h
  simp only [List.mem_append] at h
  rcases h with h | h | h | h
  · exact nx1_mem hs hf (by omega) (by omega) h
  · exact nx1_mem hs hf (by omega) (by omega) h
  · exact nx1_mem hs hf (by omega) (by omega) h
  · exact nx1_mem hs hf (by omega) (by omega) h
theorem nx1_len {p : St3 → Bool} {s : St3} {k : Int} : (nx1 fu p s k).length ≤ 1 := by unfold nx1; split <;> simp
theorem nxt_len {p : St3 → Bool} {s : St3} : (nxt fu p s).length ≤ 4 := by
  have h0 := nx1_len (fu := fu) (p := p) (s := s) (k := 0)
  have h1 := nx1_len (fu := fu) (p := p) (s := s) (k := 1)
  have h2 := nx1_len (fu := fu) (p := p) (s := s) (k := 2)
  have h3 := nx1_len (fu := fu) (p := p) (s := s) (k := 3)
  unfold nxt
  simp only [List.length_append]
  omega
def pP (m : Nat) (o : St3) : Bool := decide (o.1.length ≤ m ∧ o.2.1.length ≤ m)
theorem pI_eq {left : Int} {m : Nat} (hl : left = (m : Int) + 1) (hm : m ≤ 1000) (o : St3) : ilt (isub .i64 left 1) (if llen o.2.1 > llen o.1 then llen o.2.1 else llen o.1) = !pP m o := by
  rw [hl, isub_id (by omega) (by omega), ilt_eq]
  unfold pP llen
  by_cases h1 : o.1.length ≤ m ∧ o.2.1.length ≤ m
  · rw [decide_eq_true h1]
    refine decide_eq_false ?_
    split <;> omega
  · rw [decide_eq_false h1]
    refine decide_eq_true ?_
    split <;> omega
theorem st4_step {s : St3} {left : Int} {m n : Nat} {k : Int} (hs : GdS s) (hf : 1000 < fu) (hl : left = (m : Int) + 1) (hm : m ≤ 1000) (h0 : 0 ≤ k) (h3 : k < 4) {r : List (ByteArray × St3)} (h : st4 fu left s n (k + 1) = some r) :
    st4 fu left s (n + 1) k = some ((nx1 fu (pP m) s k).map (fun o => (keyP o, o)) ++ r) := by
  obtain ⟨o1, o2, ok, e1, e2, e3⟩ := step_ok (u := s.1) (d := s.2.1) (c := s.2.2) hs hf h0 h3
  have hst : stp fu s k = (o1, ok) := by unfold stp; rw [e1]; rfl
  have hk : iadd .i64 k 1 = k + 1 := iadd_id (by omega) (by omega)
  simp only [st4]
  rw [ilt_t h3, cond_true, e2, bd_of, hk]
  unfold nx1
  rw [hst]
  simp only
  cases ok with
  | false =>
    show st4 fu left s n (k + 1) = _
    rw [h, if_neg (by simp)]
    rfl
  | true =>
    obtain ⟨rfl, hx⟩ := e3 rfl
    show (bif ilt (isub .i64 left 1) _ then _ else _) = _
    rw [pI_eq hl hm]
    cases hp : pP m o2 with
    | false =>
      show st4 fu left s n (k + 1) = _
      rw [h, if_neg (by simp)]
      rfl
    | true =>
      rw [if_pos ⟨rfl, rfl⟩]
      show bd (F_impl_State_key fu o2.1 o2.2.1 o2.2.2) _ = _
      rw [key_eq hx.1 hf, bd_of, h, bd_of]
      rfl
theorem st4_eq {s : St3} {left : Int} {m : Nat} (hs : GdS s) (hf : 1000 < fu) (hl : left = (m : Int) + 1) (hm : m ≤ 1000) : st4 fu left s fu 0 = some ((nxt fu (pP m) s).map fun o => (keyP o, o)) := by
  obtain ⟨n, hn⟩ : ∃ n, fu = n + 1 + 1 + 1 + 1 + 1 := ⟨fu - 5, by omega⟩
  have e4 : st4 fu left s (n + 1) 4 = some [] := by simp only [st4]; rw [ilt_f (by omega), cond_false]
  have e3 := st4_step (k := 3) hs hf hl hm (by omega) (by omega) e4
  have e2 := st4_step (k := 2) hs hf hl hm (by omega) (by omega) e3
  have e1 := st4_step (k := 1) hs hf hl hm (by omega) (by omega) e2
  have e0 := st4_step (k := 0) hs hf hl hm (by omega) (by omega) e1
  rw [← hn] at e0
  rw [e0]
  unfold nxt
  simp
def gI (fu m : Nat) (e : Tr) : List Tr := (nxt fu (pP m) e.2.1).map fun o => (keyP o, o, e.2.2)
theorem ctE_eq {e : Tr} {left : Int} {m : Nat} (hs : GdS e.2.1) (hf : 1000 < fu) (hl : left = (m : Int) + 1) (hm : m ≤ 1000) : ctE fu left e = some (gI fu m e) := by
  unfold ctE
  rw [st4_eq hs hf hl hm, bd_of, List.map_map]
  rfl
theorem conts_eq {left : Int} {m : Nat} (hf : 1000 < fu) (hl : left = (m : Int) + 1) (hm : m ≤ 1000) : ∀ {M : List Tr}, (∀ e ∈ M, GdS e.2.1) → conts fu left M = some (M.flatMap (gI fu m))
  | [], _ => rfl
  | e :: r, h => by
    unfold conts
    rw [ctE_eq (h e (.head _)) hf hl hm, bd_of, conts_eq hf hl hm fun x hx => h x (.tail _ hx), bd_of]
    rfl
def OkM (M : List Tr) : Prop := ∀ e ∈ M, e.1 = keyP e.2.1 ∧ GdS e.2.1
theorem putM_mem {k : ByteArray} {s : St3} {w : Int} : ∀ {M : List Tr} {e : Tr}, e ∈ putM k s w M → (e.1 = k ∧ e.2.1 = s) ∨ ∃ a ∈ M, a.1 = e.1 ∧ a.2.1 = e.2.1
  | [], e, h => by simp [putM] at h; exact .inl (by rw [h]; exact ⟨rfl, rfl⟩)
  | a :: r, e, h => by
    unfold putM at h
    split at h
    · rename_i hk
      rcases List.mem_cons.1 h with h | h
      · exact .inl (by rw [h]; exact ⟨hk.symm, rfl⟩)
      · exact .inr ⟨e, .tail _ h, rfl, rfl⟩
    · rcases List.mem_cons.1 h with h | h
      · exact .inr ⟨a, .head _, by rw [h], by rw [h]⟩
      · exact (putM_mem h).imp id fun ⟨x, hx, q⟩ => ⟨x, .tail _ hx, q⟩
theorem foldM_mem : ∀ {L M : List Tr} {e : Tr}, e ∈ L.foldl addM M → (∃ a ∈ L, a.1 = e.1 ∧ a.2.1 = e.2.1) ∨ ∃ a ∈ M, a.1 = e.1 ∧ a.2.1 = e.2.1
  | [], M, e, h => .inr ⟨e, h, rfl, rfl⟩
  | c :: L, M, e, h => by
    rw [List.foldl_cons] at h
    rcases foldM_mem h with ⟨a, ha, q⟩ | ⟨a, ha, q⟩
    · exact .inl ⟨a, .tail _ ha, q⟩
    · rcases putM_mem ha with ⟨h1, h2⟩ | ⟨b, hb, h1, h2⟩
      · exact .inl ⟨c, .head _, h1.symm.trans q.1, h2.symm.trans q.2⟩
      · exact .inr ⟨b, hb, h1.trans q.1, h2.trans q.2⟩
theorem OkM.fold {L : List Tr} (h : OkM L) : OkM (L.foldl addM []) := fun e he => by
  rcases foldM_mem he with ⟨a, ha, q1, q2⟩ | ⟨a, ha, _⟩
  · have := h a ha
    rw [← q1, ← q2]
    exact this
  · cases ha
theorem OkM.step {M : List Tr} {m : Nat} (h : OkM M) (hf : 1000 < fu) : OkM (M.flatMap (gI fu m)) := fun e he => by
  obtain ⟨a, ha, hm⟩ := List.mem_flatMap.1 he
  obtain ⟨o, ho, rfl⟩ := List.mem_map.1 hm
  exact ⟨rfl, (nxt_mem (h a ha).2 hf ho).1.1⟩
def runP (fu : Nat) : Nat → List Tr → List Tr
  | 0, M => M
  | t + 1, M => runP fu t ((M.flatMap (gI fu t)).foldl addM [])
theorem run_eq (hf : 1000 < fu) : ∀ (t n : Nat) (M : List Tr), t < n → t ≤ 100 → OkM M → run_L fu n (t : Int) M = some (runP fu t M)
  | 0, n, M, hn, _, _ => by
    cases n with
    | zero => omega
    | succ n =>
      simp only [run_L]
      rw [ilt_f (by omega), cond_false]
      rfl
  | t + 1, n, M, hn, ht, h => by
    cases n with
    | zero => omega
    | succ n =>
      simp only [run_L]
      rw [ilt_t (by omega), cond_true, conts_eq hf (m := t) (by omega) (by omega) (fun e he => (h e he).2), bd_of, gd_t (consK_of (h.step hf)), isub_id (by omega) (by omega), show ((t + 1 : Nat) : Int) - 1 = (t : Int) by omega, run_eq hf t n _ (by omega) (by omega) (h.step hf).fold]
      rfl
def gS (fu : Nat) (p : St3 → Bool) (c : SW) : List SW := (nxt fu p c.1).map fun o => (o, c.2)
theorem gS_ok {p : St3 → Bool} {c : SW} (hs : GdS c.1) (hw : InR c.2) (hf : 1000 < fu) : ∀ x ∈ gS fu p c, GdS x.1 ∧ InR x.2 := fun x hx => by
  obtain ⟨o, ho, rfl⟩ := List.mem_map.1 hx
  exact ⟨(nxt_mem hs hf ho).1.1, hw⟩
theorem foldS_app {a b N : List SW} : foldS (a ++ b) N = foldS b (foldS a N) := List.foldl_append
theorem aft4_step {c : SW} {p : St3 → Bool} {n : Nat} {k : Int} {N : List SW} (hs : GdS c.1) (hw : InR c.2) (hN : Ord N) (hl : N.length < 90000000) (hf : 100000000 < fu) (h0 : 0 ≤ k) (h3 : k < 4) :
    aft4 fu p c (n + 1) k N = aft4 fu p c n (k + 1) (foldS ((nx1 fu p c.1 k).map fun o => (o, c.2)) N) := by
  obtain ⟨o1, o2, ok, e1, e2, e3⟩ := step_ok (u := c.1.1) (d := c.1.2.1) (c := c.1.2.2) hs (by omega : 1000 < fu) h0 h3
  have hst : stp fu c.1 k = (o1, ok) := by unfold stp; rw [e1]; rfl
  have hk : iadd .i64 k 1 = k + 1 := iadd_id (by omega) (by omega)
  simp only [aft4]
  rw [ilt_t h3, cond_true, e1, bd_of, hk]
  unfold nx1
  rw [hst]
  simp only
  cases ok with
  | false => rw [if_neg (by simp)]; rfl
  | true =>
    cases hp : p o1 with
    | false => rw [if_neg (by simp)]; rfl
    | true =>
      rw [if_pos ⟨rfl, rfl⟩]
      have hx := (e3 rfl).2
      show bd (F_spec_stPut fu N o1 c.2) _ = _
      rw [put_eq hN hx.1 (by omega) (by omega) (by omega), bd_of]
      rfl
theorem aft4_eq {c : SW} {p : St3 → Bool} {N : List SW} (hs : GdS c.1) (hw : InR c.2) (hN : Ord N) (hl : N.length < 80000000) (hf : 100000000 < fu) : aft4 fu p c fu 0 N = some (foldS (gS fu p c) N) := by
  obtain ⟨n, hn⟩ : ∃ n, fu = n + 1 + 1 + 1 + 1 + 1 := ⟨fu - 5, by omega⟩
  have ok1 : ∀ k : Int, 0 ≤ k → k < 4 → ∀ x ∈ (nx1 fu p c.1 k).map (fun o => (o, c.2)), GdS x.1 ∧ InR x.2 := fun k h0 h3 x hx => by
    obtain ⟨o, ho, rfl⟩ := List.mem_map.1 hx
    exact ⟨(nx1_mem hs (by omega) h0 h3 ho).1.1, hw⟩
  have len1 : ∀ k : Int, ((nx1 fu p c.1 k).map (fun o => (o, c.2))).length ≤ 1 := fun k => by rw [List.length_map]; exact nx1_len
  have f0 := Ord.fold hN (ok1 0 (by omega) (by omega))
  have l0 := len1 0
  have f1 := Ord.fold f0.1 (ok1 1 (by omega) (by omega))
  have l1 := len1 1
  have f2 := Ord.fold f1.1 (ok1 2 (by omega) (by omega))
  have l2 := len1 2
  have key : aft4 fu p c (n + 1 + 1 + 1 + 1 + 1) 0 N = some (foldS (gS fu p c) N) := by
    rw [aft4_step hs hw hN (by omega) hf (by omega) (by omega)]
    rw [show (0 : Int) + 1 = 1 by omega, aft4_step hs hw f0.1 (by omega) hf (by omega) (by omega)]
    rw [show (1 : Int) + 1 = 2 by omega, aft4_step hs hw f1.1 (by omega) hf (by omega) (by omega)]
    rw [show (2 : Int) + 1 = 3 by omega, aft4_step hs hw f2.1 (by omega) hf (by omega) (by omega)]
    simp only [aft4]
    rw [ilt_f (by omega), cond_false]
    unfold gS nxt
    simp only [List.map_append, foldS_app]
  rw [← hn] at key
  exact key
theorem gS_len {p : St3 → Bool} : ∀ (L : List SW), (L.flatMap (gS fu p)).length ≤ 4 * L.length
  | [] => by simp
  | c :: L => by
    have := gS_len (p := p) L
    have h4 := nxt_len (fu := fu) (p := p) (s := c.1)
    rw [List.flatMap_cons, List.length_append]
    unfold gS at this ⊢
    rw [List.length_map]
    simp only [List.length_cons]
    omega
theorem flat_ok {p : St3 → Bool} {L : List SW} (hL : Ord L) (hf : 1000 < fu) : ∀ x ∈ L.flatMap (gS fu p), GdS x.1 ∧ InR x.2 := fun x hx => by
  obtain ⟨c, hc, hx⟩ := List.mem_flatMap.1 hx
  exact gS_ok (hL.good c hc) (hL.inR c hc) hf x hx
theorem aft2_eq {p : St3 → Bool} {L : List SW} (hL : Ord L) (hl : L.length ≤ 18000000) (hf : 100000000 < fu) : aft2 fu p L fu 0 [] = some (foldS (L.flatMap (gS fu p)) []) := by
  obtain ⟨out, hq, e⟩ := loop_inv (fun n (N : List SW) k => aft2 fu p L n k N) L.length (fun k N => N = foldS ((L.take k).flatMap (gS fu p)) []) (fun o => o = foldS (L.flatMap (gS fu p)) [])
    (fun n k N hk hp => by
      have hm := List.getElem_mem hk
      have ht : ∀ x ∈ (L.take k).flatMap (gS fu p), GdS x.1 ∧ InR x.2 := fun x hx => by
        obtain ⟨c, hc, hx⟩ := List.mem_flatMap.1 hx
        have hc' := List.mem_of_mem_take hc
        exact gS_ok (hL.good c hc') (hL.inR c hc') (by omega) x hx
      have ho := Ord.fold Ord.nil ht
      rw [← hp] at ho
      have hlen := gS_len (fu := fu) (p := p) (L.take k)
      rw [List.length_take] at hlen
      have hNl := ho.2
      simp only [List.length_nil] at hNl
      simp only [aft2]
      rw [ilt_t (by unfold llen; omega), cond_true, gd_t (inL_nat hk), gat_nat hk, iadd_id (by omega) (by omega), aft4_eq (hL.good _ hm) (hL.inR _ hm) ho.1 (by omega) hf, bd_of]
      refine .inr ⟨_, ?_, rfl⟩
      rw [List.take_succ_eq_append_getElem hk, List.flatMap_append, foldS_app, ← hp, List.flatMap_singleton])
    (fun n N hp => by
      simp only [aft2]
      rw [ilt_f (by unfold llen; omega), cond_false]
      exact ⟨_, by rw [hp, List.take_length], rfl⟩) fu [] (by omega) (by simp [foldS])
  rw [e, hq]
def aftP (fu : Nat) (q : Nat → St3 → Bool) : Nat → List SW → List SW
  | 0, L => L
  | t + 1, L => aftP fu q t (foldS (L.flatMap (gS fu (q t))) [])
theorem aft_eq {cnd : Int → St3 → Bool} {q : Nat → St3 → Bool} {pts : Int} (hf : 100000000 < fu) (h0 : 0 ≤ pts) (h1 : pts ≤ 100) (hq : ∀ t : Nat, (t : Int) < pts → cnd (pts - (t : Int) - 1) = q t) : ∀ (t n : Nat) (L : List SW), (t : Int) ≤ pts → t < n → Ord L → L.length * 4 ^ t ≤ 18000000 →
    aft_L fu cnd pts n (pts - (t : Int)) L = some (aftP fu q t L) ∧ Ord (aftP fu q t L) ∧ (aftP fu q t L).length ≤ 18000000
  | 0, n, L, _, hn, hL, hl => by
    cases n with
    | zero => omega
    | succ n =>
      simp only [aft_L]
      rw [ilt_f (by omega), cond_false]
      exact ⟨rfl, hL, by show L.length ≤ 18000000; simpa using hl⟩
  | t + 1, n, L, ht, hn, hL, hl => by
    cases n with
    | zero => omega
    | succ n =>
      have hp : 0 < 4 ^ t := Nat.pow_pos (by omega)
      have hl2 : L.length * 4 * 4 ^ t ≤ 18000000 := by rw [Nat.pow_succ] at hl; rw [Nat.mul_assoc, Nat.mul_comm 4 (4 ^ t)]; exact hl
      have hl3 : L.length * 4 ≤ 18000000 := Nat.le_trans (Nat.le_mul_of_pos_right _ hp) hl2
      have ho := Ord.fold Ord.nil (flat_ok (p := q t) hL (by omega : 1000 < fu))
      have hlen := gS_len (fu := fu) (p := q t) L
      simp only [List.length_nil] at ho
      simp only [aft_L]
      rw [ilt_t (by omega), cond_true, show pts - ((t + 1 : Nat) : Int) = pts - (t : Int) - 1 by omega, hq t (by omega), aft2_eq hL (by omega) hf, bd_of, iadd_id (by omega) (by omega), show pts - (t : Int) - 1 + 1 = pts - (t : Int) by omega]
      refine aft_eq hf h0 h1 hq t n _ (by omega) (by omega) ho.1 ?_
      exact Nat.le_trans (Nat.mul_le_mul_right _ (by omega : (foldS (L.flatMap (gS fu (q t))) []).length ≤ L.length * 4)) hl2
theorem tr_flat {m : Nat} : ∀ (L : List SW), (toTr L).flatMap (gI fu m) = toTr (L.flatMap (gS fu (pP m)))
  | [] => rfl
  | c :: L => by
    show gI fu m (keyP c.1, c.1, c.2) ++ (toTr L).flatMap (gI fu m) = _
    rw [tr_flat L, List.flatMap_cons]
    unfold toTr gI gS
    simp
theorem both (hf : 1000 < fu) : ∀ (t : Nat) {M : List Tr} {L : List SW}, Ord L → M.Perm (toTr L) → (runP fu t M).Perm (toTr (aftP fu pP t L))
  | 0, M, L, _, p => p
  | t + 1, M, L, hL, p => by
    have hk := flat_ok (p := pP t) hL hf
    refine both hf t (Ord.fold Ord.nil hk).1 (fold_tr hk ?_)
    rw [← tr_flat]
    exact flatMap_perm _ p
end
end Go.Proofs.Ytdbflchpbhkanaa.AL
