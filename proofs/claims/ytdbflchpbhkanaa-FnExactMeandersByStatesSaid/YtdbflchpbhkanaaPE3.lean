/- Sums over states: ways to close. No condition. -/
import Derived.Test.YtdbflchpbhkanaaPE2
import Derived.Test.YtdbflchpbhkanaaGK4
import Derived.Test.YtdbflchpbhkanaaGK9
import Derived.Test.YtdbflchpbhkanaaGK10
namespace Go.Proofs.Ytdbflchpbhkanaa.AL
open Go
set_option linter.unusedVariables false
set_option linter.unusedSimpArgs false
section
variable {fu : Nat}
def sumF (p : Tr → Bool) (M : List Tr) (a : Int) : Int := M.foldl (fun a e => bif p e then iadd .i64 a e.2.2 else a) a
theorem sumF_cons {p : Tr → Bool} {e : Tr} {M : List Tr} {a : Int} : sumF p (e :: M) a = sumF p M (bif p e then iadd .i64 a e.2.2 else a) := rfl
theorem iadd_comm3 (a b c : Int) : iadd .i64 (iadd .i64 a b) c = iadd .i64 (iadd .i64 a c) b := by rw [iadd_iadd, iadd_iadd, Int.add_comm]
theorem sumF_perm {p : Tr → Bool} {M M' : List Tr} (h : M.Perm M') : ∀ a, sumF p M a = sumF p M' a := by
  unfold sumF
  induction h with
  | nil => intro a; rfl
  | cons x _ ih => intro a; exact ih _
  | swap x y l =>
    intro a
    simp only [List.foldl_cons]
    congr 1
    cases p x <;> cases p y <;> simp only [cond_true, cond_false]
    exact iadd_comm3 _ _ _
  | trans _ _ h1 h2 => intro a; exact (h1 a).trans (h2 a)
theorem sumF_congr {p q : Tr → Bool} : ∀ {M : List Tr}, (∀ e ∈ M, p e = q e) → ∀ a, sumF p M a = sumF q M a
  | [], _, a => rfl
  | e :: M, h, a => by
    rw [sumF_cons, sumF_cons, h e (.head _), sumF_congr fun x hx => h x (.tail _ hx)]
theorem sumF_filter {p : Tr → Bool} : ∀ {M : List Tr} (a : Int), sumF p M a = sumF (fun _ => true) (M.filter p) a
  | [], a => rfl
  | e :: M, a => by
    rw [List.filter_cons]
    cases h : p e with
    | true =>
      rw [if_pos rfl]
      show sumF p M (bif p e then _ else _) = sumF _ (M.filter p) _
      rw [h]
      exact sumF_filter _
    | false =>
      rw [if_neg (by simp)]
      show sumF p M (bif p e then _ else _) = _
      rw [h]
      exact sumF_filter _
def tly (sel : Tr → Bool) (o : List Int) (M : List Tr) : List Int := M.foldl (fun o e => bif sel e then lset o e.2.1.2.2 (iadd .i64 (gat 0 o e.2.1.2.2) e.2.2) else o) o
theorem tly_cons {sel : Tr → Bool} {o : List Int} {e : Tr} {M : List Tr} : tly sel o (e :: M) = tly sel (bif sel e then lset o e.2.1.2.2 (iadd .i64 (gat 0 o e.2.1.2.2) e.2.2) else o) M := rfl
theorem gat_lset {o : List Int} {i j x : Int} (hi : inL o i) (hj : 0 ≤ j) : gat 0 (lset o i x) j = if i = j then x else gat 0 o j := by
  have h1 := hi.1
  have h2 := hi.2
  have h3 : i.toNat < o.length := by omega
  rw [gat_eq, gat_eq]
  unfold lset
  simp only [List.getD_eq_getElem?_getD]
  by_cases e : i = j
  · subst e
    rw [if_pos rfl, List.getElem?_set_self h3]
    rfl
  · rw [if_neg e, List.getElem?_set_ne (by omega)]
theorem tly_len {sel : Tr → Bool} : ∀ {M : List Tr} {o : List Int}, (tly sel o M).length = o.length
  | [], o => rfl
  | e :: M, o => by
    rw [tly_cons, tly_len]
    cases hs : sel e
    · rfl
    · simp [lset]
theorem tly_gat {sel : Tr → Bool} {j : Int} (hj : 0 ≤ j) : ∀ {M : List Tr} {o : List Int}, (∀ e ∈ M, sel e = true → inL o e.2.1.2.2) → gat 0 (tly sel o M) j = sumF (fun e => sel e && ieq e.2.1.2.2 j) M (gat 0 o j)
  | [], o, _ => rfl
  | e :: M, o, h => by
    have h' : ∀ x ∈ M, sel x = true → inL (bif sel e then lset o e.2.1.2.2 (iadd .i64 (gat 0 o e.2.1.2.2) e.2.2) else o) x.2.1.2.2 := fun x hx hs => by
      have := h x (.tail _ hx) hs
      cases sel e
      · exact this
      · unfold inL at this ⊢
        simpa [lset] using this
    rw [tly_cons, tly_gat hj h', sumF_cons]
    congr 1
    cases hs : sel e with
    | false => rfl
    | true =>
      rw [cond_true, Bool.true_and, gat_lset (h e (.head _) hs) hj]
      by_cases hc : e.2.1.2.2 = j
      · rw [if_pos hc, ieq_t hc, hc]; rfl
      · rw [if_neg hc, ieq_f hc]; rfl
theorem sumL_eq {p : SW → Bool} {L : List SW} {a : Int} (hl : L.length ≤ 100000000) (hf : 100000000 < fu) : sum_L p L fu a 0 = some (sumF (fun e => p e.2) (toTr L) a) := by
  obtain ⟨out, hq, e⟩ := loop_inv (fun n (a : Int) k => sum_L p L n a k) L.length (fun k b => b = sumF (fun e => p e.2) (toTr (L.take k)) a) (fun o => o = sumF (fun e => p e.2) (toTr L) a)
    (fun n k b hk hp => by
      simp only [sum_L]
      rw [ilt_t (by unfold llen; omega), cond_true, gd_t (inL_nat hk), gat_nat hk, show iadd .i64 (k : Int) 1 = ((k + 1 : Nat) : Int) by rw [iadd_id (by omega) (by omega)]; omega]
      refine .inr ⟨_, ?_, rfl⟩
      rw [List.take_succ_eq_append_getElem hk, hp]
      unfold sumF toTr
      rw [List.map_append, List.foldl_append]
      rfl)
    (fun n b hp => by
      simp only [sum_L]
      rw [ilt_f (by unfold llen; omega), cond_false]
      exact ⟨_, by rw [hp, List.take_length], rfl⟩) fu a (by omega) rfl
  rw [e, hq]
theorem one_inR : InR 1 := rfl
theorem cndA_eq {left : Int} (h1 : left ≤ 100) (t : Nat) (ht : (t : Int) < left) : cndA left (left - (t : Int) - 1) = pP t := by
  funext o
  unfold cndA pP llen
  rw [isub_id (a := left) (by omega) (by omega), isub_id (by omega) (by omega), show left - (left - (t : Int) - 1) - 1 = (t : Int) by omega, ile_eq, ile_eq]
  by_cases h2 : o.1.length ≤ t <;> by_cases h3 : o.2.1.length ≤ t <;> simp [h2, h3]
theorem pow_le {t : Nat} (h : t ≤ 12) : 1 * 4 ^ t ≤ 18000000 := by
  have : 4 ^ t ≤ 4 ^ 12 := Nat.pow_le_pow_right (by omega) h
  omega
theorem one_ord {s : St3} (h : GdS s) : Ord [(s, 1)] := ⟨List.pairwise_singleton _ _, fun e he => by simp at he; rw [he]; exact h, fun e he => by simp at he; rw [he]; exact one_inR⟩
theorem after_eq {s : St3} {t : Nat} (h : GdS s) (ht : t ≤ 12) (hf : 100000000 < fu) : ∃ C L, F_impl_run fu s.1 s.2.1 s.2.2 (t : Int) = some C ∧ F_spec_stAfter fu s.1 s.2.1 s.2.2 (t : Int) (t : Int) = some L ∧ C.Perm (toTr L) ∧ Ord L ∧ L.length ≤ 18000000 ∧ C = runP fu t [(keyP s, s, 1)] ∧ L = aftP fu pP t [(s, 1)] := by
  have hok : OkM [(keyP s, s, 1)] := fun e he => by simp at he; rw [he]; exact ⟨rfl, h⟩
  have h1 := run_eq (fu := fu) (by omega) t fu [(keyP s, s, 1)] (by omega) (by omega) hok
  have h2 := aft_eq (fu := fu) (cnd := cndA (t : Int)) (q := pP) (pts := (t : Int)) hf (by omega) (by omega) (fun t' h' => cndA_eq (by omega) t' h') t fu [(s, 1)] (by omega) (by omega) (one_ord h) (pow_le ht)
  rw [Int.sub_self] at h2
  refine ⟨_, _, ?_, h2.1, both (by omega) t (one_ord h) (.refl _), h2.2.1, h2.2.2, rfl, rfl⟩
  unfold F_impl_run
  rw [key_eq h (by omega), bd_of]
  exact h1
theorem closings_eq {s : St3} {t : Nat} (h : GdS s) (ht : t ≤ 12) (hf : 100000000 < fu) : ∃ L, F_impl_closings fu s.1 s.2.1 s.2.2 (t : Int) = some (tly shutE (lrep 7 (0 : Int)) (runP fu t [(keyP s, s, 1)])) ∧ F_spec_stAfter fu s.1 s.2.1 s.2.2 (t : Int) (t : Int) = some L ∧ Ord L ∧ L.length ≤ 18000000 ∧ (∀ e ∈ runP fu t [(keyP s, s, 1)], 0 ≤ e.2.1.2.2 ∧ e.2.1.2.2 < 7) ∧ (runP fu t [(keyP s, s, 1)]).Perm (toTr L) ∧ L = aftP fu pP t [(s, 1)] := by
  obtain ⟨C, L, h1, h2, h3, h4, h5, h6, h7⟩ := after_eq h ht hf
  have hc : ∀ e ∈ C, 0 ≤ e.2.1.2.2 ∧ e.2.1.2.2 < 7 := fun e he => by
    obtain ⟨x, hx, rfl⟩ := List.mem_map.1 (h3.mem_iff.1 he)
    have := (h4.good x hx).1
    simp only
    omega
  rw [← h6]
  refine ⟨L, ?_, h2, h4, h5, hc, h3, h7⟩
  unfold F_impl_closings
  rw [h1, bd_of, gd_t fun e he _ => hc e he]
  rfl
theorem inL7 {c : Int} (h : 0 ≤ c ∧ c < 7) : inL (lrep 7 (0 : Int)) c := ⟨h.1, h.2⟩
end
end Go.Proofs.Ytdbflchpbhkanaa.AL
