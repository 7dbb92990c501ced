/- Groups of points, by the program's queue and by the reference's bits: the same. No condition. -/
import Derived.Test.YtigpmjebldgekaaPSL1
namespace Go.Proofs.Ytigpmjebldgekaa.AL
open Go
set_option linter.unusedVariables false
set_option linter.unusedSimpArgs false
section
variable {fu N : Nat} {t b : Nat → Nat} {i : Nat}
@[simp] theorem row_len : (row N t).length = N := by simp [row]
@[simp] theorem llen_row : llen (row N t) = (N : Int) := by simp [llen]
theorem gat_row {k : Nat} (h : k < N) : gat 0 (row N t) (k : Int) = ((t k : Nat) : Int) := by
  unfold row
  rw [gat_nats (by simpa using h)]
  simp
theorem inL_row {k : Nat} (h : k < N) : inL (row N t) (k : Int) := inL_nat (by simpa using h)
theorem ieq_nat {a b : Nat} : ieq (a : Int) (b : Int) = (a == b) := by
  rw [ieq_eq]
  by_cases h : a = b
  · subst h; simp
  · have : ((a : Int) == (b : Int)) = false := by simpa using fun q => h (by omega)
    rw [this]; simp [h]
theorem nats_cons {k : Nat} {l : List Nat} : nats (k :: l) = (k : Int) :: nats l := rfl
theorem nats_app {l l' : List Nat} : nats (l ++ l') = nats l ++ nats l' := by simp [nats]
theorem gat_bool {s : List Bool} {k : Nat} {v : Bool} (h : s[k]? = some v) : gat false s (k : Int) = v := by
  obtain ⟨h1, h2⟩ := List.getElem?_eq_some_iff.1 h
  rw [gat_nat h1, h2]
theorem count_set_true {s : List Bool} {k : Nat} (h : s[k]? = some false) : (s.set k true).count false + 1 = s.count false := by
  obtain ⟨h1, h2⟩ := List.getElem?_eq_some_iff.1 h
  rw [List.count_set h1, h2]
  have : 0 < s.count false := List.count_pos_iff.2 (by rw [← h2]; exact List.getElem_mem h1)
  simp; omega
theorem grp_L2 (ht : Grp.Inv N t) (hb : Grp.Inv N b) (hi : i < N) (hn : ¬ Grp.Old t b i i) (hN : N ≤ 1000) {c2 c3 : List (List Int)} {c4 c5 : Int} : ∀ (d n : Nat) (own left : List Nat) (seen : List Bool) (path : Bool),
    Grp.Walk N t b i own left seen path → 2 * seen.count false + left.length ≤ d → d < n → d ≤ 100000 →
    ∃ own' seen' path', Grp.Walk N t b i own' [] seen' path' ∧ F_impl_Seaweed_groups_L2 fu (row N t) (row N b) c2 c3 c4 c5 n seen (nats own) path (nats left) = some (seen', nats own', path', []) := by
  intro d
  induction d with
  | zero =>
    intro n own left seen path h hd hn' hdd
    cases left with
    | cons k l => simp at hd
    | nil =>
      cases n with
      | zero => omega
      | succ n =>
        refine ⟨own, seen, path, h, ?_⟩
        simp only [F_impl_Seaweed_groups_L2]
        rw [ilt_f (by simp [llen, nats]), cond_false]
        rfl
  | succ d ih =>
    intro n own left seen path h hd hn' hdd
    cases n with
    | zero => omega
    | succ n =>
      cases left with
      | nil =>
        refine ⟨own, seen, path, h, ?_⟩
        simp only [F_impl_Seaweed_groups_L2]
        rw [ilt_f (by simp [llen, nats]), cond_false]
        rfl
      | cons k left =>
        have rk := h.lf k (by simp)
        have hk : k < N := rk.lt ht hb hi
        have hks : k < seen.length := by rw [h.len]; exact hk
        have e0 : gat 0 (nats (k :: left)) 0 = (k : Int) := by rw [nats_cons]; simp [gat_eq]
        have e1 : lsub (nats (k :: left)) 1 (llen (nats (k :: left))) = nats left := by
          simp [lsub, nats_cons, llen]
          rw [List.take_of_length_le (by simp)]
        have hown : own.length ≤ N := by
          have := h.nodup.length_le_of_subset (l₂ := List.range N) (fun x hx => List.mem_range.2 ((h.ow x hx).lt ht hb hi))
          simpa using this
        obtain ⟨v, hv⟩ : ∃ v, seen[k]? = some v := ⟨_, List.getElem?_eq_getElem hks⟩
        simp only [F_impl_Seaweed_groups_L2, e0, e1]
        rw [ilt_t (by simp only [llen_nats, List.length_cons]; omega), cond_true, gd_t (by exact ⟨by omega, by simp⟩), gd_t (subL_mk (by omega) (by simp [llen]; omega) (by simp [llen])), gd_t (inL_nat hks), gat_bool hv]
        cases v with
        | true =>
          rw [cond_true]
          exact ih n own left seen path (h.skip ht hb hi hn hv) (by simp at hd; omega) (by omega) (by omega)
        | false =>
          rw [cond_false, gd_t (inL_nat hks)]
          have e2 : (bif path then some true else gd (inL (row N t) (k : Int)) (bif (ieq (gat 0 (row N t) (k : Int)) (k : Int)) then some true else gd (inL (row N b) (k : Int)) (some (ieq (gat 0 (row N b) (k : Int)) (k : Int))))) = some (path || Grp.tip t b k) := by
            rw [gd_t (inL_row hk), gd_t (inL_row hk), gat_row hk, gat_row hk, ieq_nat, ieq_nat]
            unfold Grp.tip
            cases path <;> cases (t k == k) <;> rfl
          rw [e2, bd_of, gd_t (inL_row hk), gd_t (inL_row hk), gat_row hk, gat_row hk, gd_t (by simp; omega), gd_t (by simp at hd ⊢; omega)]
          have hc := count_set_true hv
          have := ih n (own ++ [k]) (left ++ [t k, b k]) (seen.set k true) (path || Grp.tip t b k) (h.take ht hb hi hv) (by simp at hd ⊢; omega) (by omega) (by omega)
          rw [nats_app, nats_app] at this
          exact this
theorem told_old {p : Bool} (h : Grp.Old t b i i) : Grp.told N t b p (i + 1) = Grp.told N t b p i := by
  rw [Grp.told, if_pos h]
theorem told_yes {p : Bool} (h : ¬ Grp.Old t b i i) (e : (Grp.cls N t b i).any (Grp.tip t b) = p) : Grp.told N t b p (i + 1) = Grp.told N t b p i ++ [nats (Grp.cls N t b i)] := by
  rw [Grp.told, if_neg h, if_pos e]
  rfl
theorem told_no {p : Bool} (h : ¬ Grp.Old t b i i) (e : (Grp.cls N t b i).any (Grp.tip t b) ≠ p) : Grp.told N t b p (i + 1) = Grp.told N t b p i := by
  rw [Grp.told, if_neg h, if_neg e]
theorem grp_L1 (ht : Grp.Inv N t) (hb : Grp.Inv N b) (hN : N ≤ 1000) (hf : 100000 < fu) : ∀ (d i n : Nat) (seen : List Bool), i + d = N → d < n → seen.length = N →
    (∀ j, j < N → (seen[j]? = some true ↔ Grp.Old t b i j)) →
    ∃ seen', F_impl_Seaweed_groups_L1 fu (row N t) (row N b) (N : Int) n (Grp.told N t b true i) (Grp.told N t b false i) seen (i : Int) = some (Grp.told N t b true N, Grp.told N t b false N, seen', (N : Int)) := by
  intro d
  induction d with
  | zero =>
    intro i n seen hi hn hl hs
    cases n with
    | zero => omega
    | succ n =>
      refine ⟨seen, ?_⟩
      simp only [F_impl_Seaweed_groups_L1]
      have : i = N := by omega
      subst this
      rw [ilt_f (by omega), cond_false]
  | succ d ih =>
    intro i n seen hi hn hl hs
    cases n with
    | zero => omega
    | succ n =>
      have hiN : i < N := by omega
      have l1 := Grp.told_len (n := N) (t := t) (b := b) (p := true) i
      have l2 := Grp.told_len (n := N) (t := t) (b := b) (p := false) i
      obtain ⟨v, hv⟩ : ∃ v, seen[i]? = some v := ⟨_, List.getElem?_eq_getElem (by omega)⟩
      simp only [F_impl_Seaweed_groups_L1]
      rw [ilt_t (by omega), cond_true, gd_t (inL_nat (by omega)), gat_bool hv, iadd_id (by omega) (by omega), show ((i : Int) + 1) = ((i + 1 : Nat) : Int) by omega]
      cases v with
      | true =>
        have ho := (hs i hiN).1 hv
        rw [cond_true, ← told_old (p := true) ho, ← told_old (p := false) ho]
        exact ih (i + 1) n seen (by omega) (by omega) hl fun j hj => by rw [hs j hj, Grp.Old.succ_of_old (n := N) ho]
      | false =>
        have ho : ¬ Grp.Old t b i i := fun h => by
          have := (hs i hiN).2 h
          rw [hv] at this; cases this
        obtain ⟨own, seen', path, hw, e⟩ := grp_L2 (fu := fu) ht hb hiN ho hN (c2 := Grp.told N t b true i) (c3 := Grp.told N t b false i) (c4 := (N : Int)) (c5 := (i : Int)) 3000 fu [] [i] seen false (Grp.Walk.start hl hs) (by
          have := List.count_le_length (a := false) (l := seen)
          simp; omega) (by omega) (by omega)
        rw [cond_false]
        rw [show ([(i : Int)] : List Int) = nats [i] from rfl, show (@List.nil Int) = nats [] from rfl, e, bd_of]
        have hso : F_slices_Sort_Sint fu (nats own) = some (nats (Grp.cls N t b i)) := by
          have hown : own.length ≤ N := by
            have := hw.nodup.length_le_of_subset (l₂ := List.range N) (fun x hx => List.mem_range.2 ((hw.ow x hx).lt ht hb hiN))
            simpa using this
          have h0 : 0 < own.length := by
            have : i ∈ own := by simpa using hw.first
            exact List.length_pos_of_mem this
          unfold F_slices_Sort_Sint
          rw [gd_t ⟨by simpa using h0, by simp; omega⟩]
          exact congrArg some (hw.sorted ht hb hiN)
        simp only
        rw [hso, bd_of, gd_t (by omega), gd_t (by omega)]
        have hp := hw.end_path ht hb hiN
        have hs' := hw.end_seen
        cases hpath : path with
        | true =>
          rw [cond_true]
          have := ih (i + 1) n seen' (by omega) (by omega) hw.len hs'
          rw [told_yes ho (by rw [← hp, hpath]), told_no ho (by rw [← hp, hpath]; simp)] at this
          exact this
        | false =>
          rw [cond_false]
          have := ih (i + 1) n seen' (by omega) (by omega) hw.len hs'
          rw [told_no ho (by rw [← hp, hpath]; simp), told_yes ho (by rw [← hp, hpath])] at this
          exact this
theorem groups_eq {ps qs : List Nat} (hf : 100000 < fu) (h1 : ps.length ≤ 1000) (h2 : qs.length ≤ 1000) (h3 : ps.sum ≤ 1000) (h4 : qs.sum = ps.sum) :
    F_impl_Seaweed_groups fu (nats ps) (nats qs) = some (Grp.told ps.sum (Grp.arcF ps) (Grp.arcF qs) true ps.sum, Grp.told ps.sum (Grp.arcF ps) (Grp.arcF qs) false ps.sum) := by
  unfold F_impl_Seaweed_groups
  rw [arcsI_eq (by omega) h1 h3, arcsI_eq (by omega) h2 (by omega), bd_of, bd_of, llen_row, gd_t (by omega)]
  have hq := Grp.arcF_inv qs
  rw [h4] at hq ⊢
  obtain ⟨s, e⟩ := grp_L1 (fu := fu) (Grp.arcF_inv ps) hq h3 hf ps.sum 0 fu (List.replicate ps.sum false) (by omega) (by omega) (by simp) fun j hj => by
    rw [List.getElem?_replicate]
    simp only [if_pos hj, Option.some.injEq, Bool.false_eq_true, false_iff]
    exact Grp.Old.zero
  have e2 : lrep ((ps.sum : Nat) : Int) false = List.replicate ps.sum false := by simp [lrep]
  rw [e2]
  rw [Int.natCast_zero] at e
  have e3 : F_impl_Seaweed_groups_L1 fu (row ps.sum (Grp.arcF ps)) (row ps.sum (Grp.arcF qs)) (ps.sum : Int) fu [] [] (List.replicate ps.sum false) 0 = _ := e
  rw [e3, bd_of]
end
end Go.Proofs.Ytigpmjebldgekaa.AL
