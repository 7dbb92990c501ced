/- A state put into an ordered list is a tally. No condition. -/
import Derived.Test.YtdbflchpbhkanaaPD9
namespace Go.Proofs.Ytdbflchpbhkanaa.AL
open Go
set_option linter.unusedVariables false
set_option linter.unusedSimpArgs false
def insP : List SW → St3 → Int → List SW
  | [], s, w => [(s, w)]
  | e :: r, s, w => if ltS e.1 s = true then e :: insP r s w else if e.1 = s then (s, iadd .i64 e.2 w) :: r else (s, w) :: e :: r
def SrtS (L : List SW) : Prop := L.Pairwise fun a b => ltS a.1 b.1 = true
def InR (w : Int) : Prop := iadd .i64 0 w = w
theorem inR_add (a b : Int) : InR (iadd .i64 a b) := by
  unfold InR
  have h := iadd_iadd a b 0
  have h1 : iadd .i64 0 (iadd .i64 a b) = iadd .i64 (iadd .i64 a b) 0 := by unfold iadd; rw [Int.add_comm]
  rw [h1, h, Int.add_zero]
theorem ins_mem : ∀ {L : List SW} {s : St3} {w : Int} {x : SW}, x ∈ insP L s w → x.1 = s ∨ x ∈ L
  | [], s, w, x, h => by simp [insP] at h; exact .inl (by rw [h])
  | e :: r, s, w, x, h => by
    unfold insP at h
    split at h
    · rcases List.mem_cons.1 h with h | h
      · exact .inr (h ▸ .head _)
      · exact (ins_mem h).imp id fun h => .tail _ h
    · split at h
      · rcases List.mem_cons.1 h with h | h
        · exact .inl (by rw [h])
        · exact .inr (.tail _ h)
      · rcases List.mem_cons.1 h with h | h
        · exact .inl (by rw [h])
        · exact .inr h
theorem ins_inR : ∀ {L : List SW} {s : St3} {w : Int}, InR w → (∀ e ∈ L, InR e.2) → ∀ e ∈ insP L s w, InR e.2
  | [], s, w, hw, _, e, h => by simp [insP] at h; rw [h]; exact hw
  | a :: r, s, w, hw, hL, e, h => by
    unfold insP at h
    split at h
    · rcases List.mem_cons.1 h with h | h
      · exact h ▸ hL a (.head _)
      · exact ins_inR hw (fun e he => hL e (.tail _ he)) e h
    · split at h
      · rcases List.mem_cons.1 h with h | h
        · rw [h]; exact inR_add _ _
        · exact hL e (.tail _ h)
      · rcases List.mem_cons.1 h with h | h
        · rw [h]; exact hw
        · exact hL e h
theorem ins_len : ∀ {L : List SW} {s : St3} {w : Int}, (insP L s w).length ≤ L.length + 1
  | [], s, w => by simp [insP]
  | a :: r, s, w => by
    unfold insP
    split
    · have := ins_len (L := r) (s := s) (w := w)
      simp
      omega
    · split <;> simp
theorem lt_of {s t : St3} (h : ltS s t = false) (hn : s ≠ t) : ltS t s = true := by
  cases h2 : ltS t s with
  | true => rfl
  | false => exact absurd (ltS_tri h h2) hn
theorem ins_srt : ∀ {L : List SW} {s : St3} {w : Int}, SrtS L → SrtS (insP L s w)
  | [], s, w, _ => List.pairwise_singleton _ _
  | a :: r, s, w, h => by
    have h' := List.pairwise_cons.1 h
    unfold insP
    split
    · rename_i h1
      refine List.pairwise_cons.2 ⟨fun x hx => ?_, ins_srt h'.2⟩
      rcases ins_mem hx with hx | hx
      · rw [hx]; exact h1
      · exact h'.1 x hx
    · rename_i h1
      split
      · rename_i h2
        exact List.pairwise_cons.2 ⟨fun x hx => h2 ▸ h'.1 x hx, h'.2⟩
      · rename_i h2
        have h3 := lt_of (by simpa using h1) h2
        refine List.pairwise_cons.2 ⟨fun x hx => ?_, h⟩
        rcases List.mem_cons.1 hx with rfl | hx
        · exact h3
        · exact lex_trans h3 (h'.1 x hx)
def toTr (L : List SW) : List Tr := L.map fun e => (keyP e.1, e.1, e.2)
theorem look_none {k : ByteArray} : ∀ {L : List SW}, (∀ x ∈ L, keyP x.1 ≠ k) → lookM (toTr L) k = none
  | [], _ => rfl
  | e :: r, h => by
    show (if k = keyP e.1 then _ else lookM (toTr r) k) = none
    rw [if_neg (fun e' => h e (.head _) e'.symm), look_none fun x hx => h x (.tail _ hx)]
theorem look_cons {e : SW} {r : List SW} {q : ByteArray} : lookM (toTr (e :: r)) q = if q = keyP e.1 then some (e.1, e.2) else lookM (toTr r) q := rfl
theorem look_ins {s : St3} {w : Int} (hs : GdS s) (hw : InR w) : ∀ {L : List SW}, SrtS L → (∀ e ∈ L, GdS e.1) → ∀ q, lookM (toTr (insP L s w)) q = lookM (addM (toTr L) (keyP s, s, w)) q
  | [], _, _, q => by
    rw [look_add]
    show (if q = keyP s then some (s, w) else none) = if q = keyP s then some (s, iadd .i64 0 w) else none
    rw [hw]
  | e :: r, h, hg, q => by
    have h' := List.pairwise_cons.1 h
    have ge := hg e (.head _)
    rw [look_add]
    unfold insP
    by_cases h1 : ltS e.1 s = true
    · rw [if_pos h1]
      have hne : keyP e.1 ≠ keyP s := fun e' => by
        have := key_inj ge hs e'
        rw [this, show ltS s s = false from lex_irr _] at h1
        cases h1
      have ih := look_ins hs hw (L := r) h'.2 (fun x hx => hg x (.tail _ hx)) q
      rw [look_cons, ih, look_add, look_cons, look_cons, if_neg (fun e' : keyP s = keyP e.1 => hne e'.symm)]
      simp only
      by_cases hq : q = keyP e.1
      · rw [if_pos hq, if_neg (fun e' => hne (hq.symm.trans e')), if_pos hq]
      · rw [if_neg hq, if_neg hq]
    · rw [if_neg h1]
      by_cases h2 : e.1 = s
      · rw [if_pos h2, look_cons, look_cons, look_cons]
        simp only [h2, if_true, Option.map_some, Option.getD_some]
        by_cases hq : q = keyP s
        · rw [if_pos hq, if_pos hq]
        · rw [if_neg hq, if_neg hq, if_neg hq]
      · rw [if_neg h2]
        have h3 := lt_of (by simpa using h1) h2
        have hn : lookM (toTr (e :: r)) (keyP s) = none := look_none fun x hx e' => by
          have := key_inj (hg x hx) hs e'
          have h4 : ltS s x.1 = true := by
            rcases List.mem_cons.1 hx with rfl | hx
            · exact h3
            · exact lex_trans h3 (h'.1 x hx)
          rw [this, show ltS s s = false from lex_irr _] at h4
          cases h4
        rw [look_cons]
        simp only [hn, Option.map_none, Option.getD_none]
        rw [hw]
theorem srt_keys : ∀ {L : List SW}, SrtS L → (∀ e ∈ L, GdS e.1) → ((toTr L).map (·.1)).Nodup
  | [], _, _ => by simp [toTr]
  | e :: r, h, hg => by
    have h' := List.pairwise_cons.1 h
    show (keyP e.1 :: (toTr r).map (·.1)).Nodup
    refine List.nodup_cons.2 ⟨fun hm => ?_, srt_keys h'.2 fun x hx => hg x (.tail _ hx)⟩
    obtain ⟨y, hy, e'⟩ := List.mem_map.1 hm
    obtain ⟨x, hx, rfl⟩ := List.mem_map.1 hy
    have := key_inj (hg x (.tail _ hx)) (hg e (.head _)) e'
    have h4 := h'.1 x hx
    rw [this, show ltS e.1 e.1 = false from lex_irr _] at h4
    cases h4
def foldS (cl N : List SW) : List SW := cl.foldl (fun N c => insP N c.1 c.2) N
structure Ord (L : List SW) : Prop where
  srt : SrtS L
  good : ∀ e ∈ L, GdS e.1
  inR : ∀ e ∈ L, InR e.2
theorem Ord.ins {L : List SW} (h : Ord L) {s : St3} {w : Int} (hs : GdS s) (hw : InR w) : Ord (insP L s w) := ⟨ins_srt h.srt, fun e he => (ins_mem he).elim (fun e' => e' ▸ hs) (h.good e), ins_inR hw h.inR⟩
theorem Ord.nil : Ord [] := ⟨List.Pairwise.nil, by simp, by simp⟩
theorem Ord.fold : ∀ {cl N : List SW}, Ord N → (∀ c ∈ cl, GdS c.1 ∧ InR c.2) → Ord (foldS cl N) ∧ (foldS cl N).length ≤ N.length + cl.length
  | [], N, h, _ => ⟨h, by simp [foldS]⟩
  | c :: cl, N, h, hc => by
    have h1 := hc c (.head _)
    have := Ord.fold (cl := cl) (h.ins h1.1 h1.2) fun x hx => hc x (.tail _ hx)
    refine ⟨this.1, Nat.le_trans this.2 ?_⟩
    have := ins_len (L := N) (s := c.1) (w := c.2)
    simp
    omega
theorem fold_look2 : ∀ {cl N : List SW} {M0 : List Tr}, Ord N → (∀ c ∈ cl, GdS c.1 ∧ InR c.2) → (∀ q, lookM (toTr N) q = lookM M0 q) → ∀ q, lookM (toTr (foldS cl N)) q = lookM ((toTr cl).foldl addM M0) q
  | [], N, M0, _, _, h => h
  | c :: cl, N, M0, hN, hc, h => by
    have h1 := hc c (.head _)
    refine fold_look2 (cl := cl) (hN.ins h1.1 h1.2) (fun x hx => hc x (.tail _ hx)) fun q => ?_
    rw [look_ins h1.1 h1.2 hN.srt hN.good, look_add, look_add, h, h]
theorem consK_of {L : List Tr} (h : ∀ e ∈ L, e.1 = keyP e.2.1 ∧ GdS e.2.1) : ConsK L := fun a ha b hb e => by
  have h1 := h a ha
  have h2 := h b hb
  rw [h1.1, h2.1] at e
  exact key_inj h1.2 h2.2 e
theorem fold_tr {cl : List SW} (hc : ∀ c ∈ cl, GdS c.1 ∧ InR c.2) {L : List Tr} (p : L.Perm (toTr cl)) : (L.foldl addM []).Perm (toTr (foldS cl [])) := by
  have hk : ConsK (toTr cl) := consK_of fun e he => by
    obtain ⟨c, hcm, rfl⟩ := List.mem_map.1 he
    exact ⟨rfl, (hc c hcm).1⟩
  have ho := Ord.fold Ord.nil hc
  refine (fold_perm p (hk.perm p.symm)).trans ?_
  exact perm_of_look (fold_keys _ (by simp)) (srt_keys ho.1.srt ho.1.good) fun k => (fold_look2 Ord.nil hc (fun _ => rfl) k).symm
section
variable {fu : Nat}
theorem quo2 {a b : Nat} (ha : a ≤ 1000000000) (hb : b ≤ 1000000000) : iquo .i64 (iadd .i64 (a : Int) (b : Int)) 2 = (((a + b) / 2 : Nat) : Int) := by
  rw [iadd_id (by omega) (by omega)]
  unfold iquo
  rw [Int.tdiv_eq_ediv_of_nonneg (by omega), wrap_id (by omega) (by omega)]
  omega
theorem putL_eq {L : List SW} {s : St3} (hL : Ord L) (hs : GdS s) (hf : 1000 < fu) (hl : L.length ≤ 100000000) : ∀ (n lo hi : Nat), lo ≤ hi → hi ≤ L.length → hi - lo < n → (∀ i (h : i < L.length), i < lo → ltS L[i].1 s = true) → (∀ i (h : i < L.length), hi ≤ i → ltS L[i].1 s = false) →
    ∃ p : Nat, p ≤ L.length ∧ put_L fu L s n (lo : Int) (hi : Int) = some ((p : Int), (p : Int)) ∧ (∀ i (h : i < L.length), i < p → ltS L[i].1 s = true) ∧ ∀ i (h : i < L.length), p ≤ i → ltS L[i].1 s = false := by
  intro n
  induction n with
  | zero => intro lo hi _ _ h; omega
  | succ n ih =>
    intro lo hi h1 h2 h3 hlo hhi
    simp only [put_L]
    by_cases h : lo < hi
    · have hm1 : (lo + hi) / 2 < hi := by omega
      have hm2 : lo ≤ (lo + hi) / 2 := by omega
      rw [quo2 (by omega) (by omega)]
      generalize (lo + hi) / 2 = m at *
      have hm : m < L.length := by omega
      rw [ilt_t (by omega), cond_true, gd_t (inL_nat hm), gat_nat hm, less_eq (hL.good _ (List.getElem_mem hm)) hs hf, bd_of]
      have hp := List.pairwise_iff_getElem.1 hL.srt
      cases hb : ltS L[m].1 s with
      | true =>
        rw [cond_true, iadd_id (by omega) (by omega), show (m : Int) + 1 = ((m + 1 : Nat) : Int) by omega]
        refine ih (m + 1) hi (by omega) h2 (by omega) (fun i hi' him => ?_) hhi
        by_cases e : i = m
        · subst e; exact hb
        · exact lex_trans (hp i m hi' hm (by omega)) hb
      | false =>
        rw [cond_false]
        refine ih lo m hm2 (by omega) (by omega) hlo (fun i hi' him => ?_)
        by_cases e : i = m
        · subst e; exact hb
        · cases hc : ltS L[i].1 s with
          | false => rfl
          | true =>
            have h9 : ltS L[m].1 s = true := lex_trans (hp m i hm hi' (by omega)) hc
            rw [h9] at hb
            cases hb
    · rw [ilt_f (by omega), cond_false]
      obtain rfl : lo = hi := by omega
      exact ⟨lo, h2, rfl, hlo, hhi⟩
theorem ins_app {s : St3} {w : Int} {B : List SW} : ∀ {A : List SW}, (∀ e ∈ A, ltS e.1 s = true) → insP (A ++ B) s w = A ++ insP B s w
  | [], _ => rfl
  | e :: A, h => by
    show (if ltS e.1 s = true then e :: insP (A ++ B) s w else _) = _
    rw [if_pos (h e (.head _)), ins_app fun x hx => h x (.tail _ hx)]
    rfl
theorem put_eq {L : List SW} {s : St3} {w : Int} (hL : Ord L) (hs : GdS s) (hf : 1000 < fu) (hl : L.length ≤ 100000000) (hlf : L.length < fu) : F_spec_stPut fu L s w = some (insP L s w) := by
  unfold F_spec_stPut
  obtain ⟨p, h1, h2, h3, h4⟩ := putL_eq (fu := fu) hL hs hf hl fu 0 L.length (by omega) (Nat.le_refl _) (by omega) (fun i _ h => by omega) (fun i h h' => by omega)
  rw [Int.natCast_zero] at h2
  unfold llen
  rw [h2, bd_of]
  simp only
  have hA : ∀ e ∈ L.take p, ltS e.1 s = true := fun e he => by
    obtain ⟨i, hi, rfl⟩ := List.getElem_of_mem he
    rw [List.getElem_take]
    rw [List.length_take] at hi
    exact h3 i (by omega) (by omega)
  have e0 : insP L s w = L.take p ++ insP (L.drop p) s w := by
    conv => lhs; rw [← List.take_append_drop p L]
    exact ins_app hA
  rw [e0]
  by_cases hp : p < L.length
  · have ge := hL.good _ (List.getElem_mem hp)
    have h5 := h4 p hp (Nat.le_refl _)
    rw [ilt_t (by omega), cond_true, gd_t (inL_nat hp), gat_nat hp, less_eq hs ge hf, bd_of, bd_of, List.drop_eq_getElem_cons hp]
    unfold insP
    rw [if_neg (by rw [h5]; simp)]
    by_cases h6 : L[p].1 = s
    · have : ltS s L[p].1 = false := by rw [h6]; exact lex_irr _
      rw [this, if_pos h6]
      show gd _ _ = _
      rw [gd_t (inL_nat hp), lset_nat, List.set_eq_take_append_cons_drop, if_pos hp, h6]
    · have : ltS s L[p].1 = true := lt_of h5 h6
      rw [this, if_neg h6]
      show gd _ (gd _ _) = _
      rw [gd_t (by omega), gd_t (by omega), Int.toNat_natCast, List.drop_eq_getElem_cons hp]
  · rw [ilt_f (by omega), cond_false, bd_of, cond_false, gd_t (by omega), gd_t (by omega), Int.toNat_natCast, List.drop_of_length_le (by omega)]
    rfl
end
end Go.Proofs.Ytdbflchpbhkanaa.AL
