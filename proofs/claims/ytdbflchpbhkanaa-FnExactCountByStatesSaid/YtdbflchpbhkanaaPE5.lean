/- The law of counts by states. No condition. -/
import Derived.Test.YtdbflchpbhkanaaPE4
import Derived.Test.YtdbflchpbhkanaaG8
namespace Go.Proofs.Ytdbflchpbhkanaa.AL
open Go
set_option linter.unusedVariables false
set_option linter.unusedSimpArgs false
section
variable {fu : Nat}
theorem imul2 {n : Nat} (h : n ≤ 100) : imul .i64 2 (n : Int) = ((2 * n : Nat) : Int) := by
  unfold imul
  rw [wrF_eq, wrap_id (by omega) (by omega)]
  omega
theorem start_good : GdS ([], [], 0) := by decide
theorem foldS_mem : ∀ {cl N : List SW} {e : SW}, e ∈ foldS cl N → (∃ c ∈ cl, e.1 = c.1) ∨ e ∈ N
  | [], N, e, h => .inr h
  | c :: cl, N, e, h => by
    rcases foldS_mem (cl := cl) (N := insP N c.1 c.2) h with ⟨x, hx, q⟩ | h
    · exact .inl ⟨x, .tail _ hx, q⟩
    · rcases ins_mem h with h | h
      · exact .inl ⟨c, .head _, h⟩
      · exact .inr h
theorem round_mem {p : St3 → Bool} {L : List SW} {e : SW} (h : e ∈ foldS (L.flatMap (gS fu p)) []) : ∃ c ∈ L, e.1 ∈ nxt fu p c.1 := by
  rcases foldS_mem h with ⟨x, hx, q⟩ | h
  · obtain ⟨c, hc, hx⟩ := List.mem_flatMap.1 hx
    obtain ⟨o, ho, rfl⟩ := List.mem_map.1 hx
    exact ⟨c, hc, q ▸ ho⟩
  · cases h
theorem round_ord {p : St3 → Bool} {L : List SW} (hL : Ord L) (hf : 1000 < fu) : Ord (foldS (L.flatMap (gS fu p)) []) := (Ord.fold Ord.nil (flat_ok hL hf)).1
def potS (s : St3) : Int := 4 * s.2.2 + s.1.length + s.2.1.length
theorem aftP_pot {q : Nat → St3 → Bool} (hf : 1000 < fu) : ∀ (t : Nat) {L : List SW} {B : Int}, Ord L → (∀ e ∈ L, potS e.1 ≤ B) → ∀ e ∈ aftP fu q t L, potS e.1 ≤ B + 2 * t
  | 0, L, B, _, h, e, he => by
    have := h e he
    omega
  | t + 1, L, B, hL, h, e, he => by
    have := aftP_pot hf t (B := B + 2) (round_ord hL hf) (fun x hx => by
      obtain ⟨c, hc, ho⟩ := round_mem hx
      have h1 := (nxt_mem (hL.good c hc) hf ho).1.2.2.2
      have h2 := h c hc
      unfold potS at h2 ⊢
      omega) e he
    omega
theorem aftP_last {q : Nat → St3 → Bool} (hf : 1000 < fu) : ∀ (t : Nat) {L : List SW}, Ord L → ∀ e ∈ aftP fu q (t + 1) L, q 0 e.1 = true
  | 0, L, hL, e, he => by
    obtain ⟨c, hc, ho⟩ := round_mem (show e ∈ foldS (L.flatMap (gS fu (q 0))) [] from he)
    exact (nxt_mem (hL.good c hc) hf ho).2
  | t + 1, L, hL, e, he => aftP_last hf t (round_ord hL hf) e he
theorem shut_of {k : ByteArray} {s : St3} {w : Int} (h1 : s.1 = []) (h2 : s.2.1 = []) : shutE (k, s, w) = true := by
  unfold shutE
  simp only [h1, h2]
  rfl
theorem pP0 {s : St3} (h : pP 0 s = true) : s.1 = [] ∧ s.2.1 = [] := by
  have := of_decide_eq_true h
  exact ⟨List.eq_nil_of_length_eq_zero (by omega), List.eq_nil_of_length_eq_zero (by omega)⟩
theorem gatR {m j : Int} : gat 0 (lrep m (0 : Int)) j = 0 := by
  rw [gat_eq]
  simp only [List.getD_eq_getElem?_getD, lrep]
  cases h1 : (List.replicate m.toNat (0 : Int))[j.toNat]? with
  | none => rfl
  | some v =>
    have := List.mem_of_getElem? h1
    rw [List.mem_replicate] at this
    simp [this.2]
theorem byL_eq {L : List SW} {o : List Int} (hl : L.length ≤ 100000000) (hf : 100000000 < fu) (hi : ∀ e ∈ L, inL o e.1.2.2) : by_L L fu o 0 = some (tly (fun _ => true) o (toTr L)) := by
  obtain ⟨out, hq, e⟩ := loop_inv (fun n (b : List Int) k => by_L L n b k) L.length (fun k b => b = tly (fun _ => true) o (toTr (L.take k))) (fun b => b = tly (fun _ => true) o (toTr L))
    (fun n k b hk hp => by
      have hb : b.length = o.length := by rw [hp, tly_len]
      have hin : inL b L[k].1.2.2 := by
        have := hi _ (List.getElem_mem hk)
        unfold inL at this ⊢
        omega
      simp only [by_L]
      rw [ilt_t (by unfold llen; omega), cond_true, gd_t (inL_nat hk), gat_nat hk, gd_t hin, show iadd .i64 (k : Int) 1 = ((k + 1 : Nat) : Int) by rw [iadd_id (by omega) (by omega)]; omega]
      refine .inr ⟨_, ?_, rfl⟩
      rw [List.take_succ_eq_append_getElem hk, hp]
      unfold tly toTr
      rw [List.map_append, List.foldl_append]
      rfl)
    (fun n b hp => by
      simp only [by_L]
      rw [ilt_f (by unfold llen; omega), cond_false]
      exact ⟨_, by rw [hp, List.take_length], rfl⟩) fu o (by omega) rfl
  rw [e, hq]
theorem cbs_eq (x0 : Int) (hf : 100000000 < fu) : ∃ r, F_spec_CountByStates fu x0 = some r ∧ F_impl_CountByStates fu x0 = some r ∧ r.1.length ≤ 7 := by
  unfold F_spec_CountByStates F_impl_CountByStates
  rw [l1In_eq, arch_eq, bd_of, bd_of]
  by_cases h1 : 0 ≤ x0 ∧ x0 ≤ 6
  · have e1 : (decide (0 ≤ x0) && decide (x0 ≤ 6)) = true := by simpa using h1
    rw [e1]
    simp only [show bnot true = false from rfl, cond_false]
    obtain ⟨n, rfl⟩ : ∃ n : Nat, x0 = n := ⟨x0.toNat, by omega⟩
    have hn : n ≤ 6 := by omega
    obtain ⟨L, g1, g2, g3, g4, g5, g6, g7⟩ := closings_eq (fu := fu) (s := ([], [], 0)) (t := 2 * n) start_good (by omega) hf
    simp only at g1 g2
    have hpot := aftP_pot (fu := fu) (q := pP) (by omega) (2 * n) (L := [(([], [], 0), 1)]) (B := 0) (one_ord start_good) (fun e he => by simp at he; rw [he]; decide)
    rw [← g7] at hpot
    have hsh : ∀ e ∈ toTr L, shutE e = true := fun e he => by
      obtain ⟨x, hx, rfl⟩ := List.mem_map.1 he
      rw [g7] at hx
      cases hn0 : 2 * n with
      | zero =>
        rw [hn0] at hx
        have : x = (([], [], 0), 1) := by simpa using (show x ∈ [(([], [], 0), 1)] from hx)
        rw [this]
        rfl
      | succ t =>
        rw [hn0] at hx
        have := pP0 (aftP_last (fu := fu) (by omega) t (one_ord start_good) x hx)
        exact shut_of this.1 this.2
    have en : iadd .i64 (n : Int) 1 = ((n + 1 : Nat) : Int) := by rw [iadd_id (by omega) (by omega)]; omega
    have ll : (lrep ((n + 1 : Nat) : Int) (0 : Int)).length = n + 1 := by simp [lrep]
    have hin : ∀ e ∈ L, inL (lrep ((n + 1 : Nat) : Int) (0 : Int)) e.1.2.2 := fun e he => by
      have h2 := hpot e he
      have h3 := (g3.good e he).1
      unfold potS at h2
      unfold inL
      rw [ll]
      omega
    have s1 : F_spec_stBy fu (n : Int) = some (tly (fun _ => true) (lrep ((n + 1 : Nat) : Int) (0 : Int)) (toTr L)) := by
      unfold F_spec_stBy
      rw [en, gd_t (by omega), imul2 (by omega), g2, bd_of, byL_eq (by omega) hf hin]
    have s2 : F_impl_StartState fu = some ([], [], 0) := rfl
    rw [s1, s2, bd_of, bd_of, imul2 (by omega)]
    simp only
    have l7 : (tly shutE (lrep 7 (0 : Int)) (runP fu (2 * n) [(keyP ([], [], 0), ([], [], 0), 1)])).length = 7 := by rw [tly_len]; rfl
    rw [g1, bd_of, en, gd_t (subL_mk (by omega) (by omega) (by rw [l7]; omega))]
    refine ⟨_, rfl, ?_, by simp only; rw [tly_len, ll]; omega⟩
    congr 2
    unfold lsub
    rw [Int.toNat_natCast, Int.toNat_zero, Nat.sub_zero, List.drop_zero]
    refine List.ext_getElem (by rw [List.length_take, l7, tly_len, ll]; omega) fun j h2 h3 => ?_
    rw [tly_len, ll] at h3
    rw [List.getElem_take, ← gat_nat (d := 0) (by omega), ← gat_nat (d := 0) (by rw [tly_len, ll]; omega), tly_gat (by omega) (fun e he _ => inL7 (g5 e he)), tly_gat (by omega) (fun e he _ => by
      obtain ⟨x, hx, rfl⟩ := List.mem_map.1 he
      exact hin x hx), gatR, gatR, sumF_perm g6]
    exact sumF_congr (fun e he => by rw [hsh e he]) _
  · have e1 : (decide (0 ≤ x0) && decide (x0 ≤ 6)) = false := by rw [← Bool.not_eq_true]; simpa using h1
    rw [e1]
    exact ⟨_, rfl, rfl, by simp⟩
theorem law_CountByStates {x0 : Int} (_ : (Lit.int .i64 x0).wf = true) : F_laws_FnExactCountByStates 200000000 x0 = some true := by
  obtain ⟨r, e1, e2, l⟩ := cbs_eq (fu := 200000000) x0 (by omega)
  unfold F_laws_FnExactCountByStates
  have q1 := eqIntS_eq (fu := 200000000) (xs := r.1) (by omega) (by omega)
  have m1 := markIntS_eq (fu := 200000000) (xs := r.1) (m := 1) (by omega) (by omega) (by omega)
  have h3 := heldIntS_eq (fu := 200000000) (m := 1) (len := r.1.length) (by omega) (by omega) (by omega)
  have n1 : ilt (1 + (r.1.length : Int)) 0 = false := ilt_f (by omega)
  rw [e1, bd_of, e2, bd_of, q1, bd_of]
  show bd (some (bne' r.2 r.2)) _ = _
  rw [bne_self, bd_of, cond_false, m1, bd_of]
  simp only
  rw [h3, bd_of, n1, cond_false, ine_f rfl, cond_false, bd_of, q1, bd_of]
  show bd (some (bne' r.2 r.2)) _ = _
  rw [bne_self, bd_of, cond_false, bd_of, n1, cond_false, ine_f rfl, cond_false]
end
end Go.Proofs.Ytdbflchpbhkanaa.AL
