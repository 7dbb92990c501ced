/- Closed stretches and the shortest one: the program's and the reference's are one. No condition. -/
import Derived.Test.YtbckijeffiofdaaPA5
namespace Go.Proofs.Ytbckijeffiofdaa.AL
open Go Go.Proofs.Ytbckijeffiofdaa.Arch
set_option linter.unusedVariables false
set_option linter.unusedSimpArgs false
section
variable {fu : Nat} {p q : List Int} {i j : Int}
def Shut (p : List Int) (i j : Int) : Prop := ∀ x : Int, i ≤ x → x ≤ j → i ≤ gat 0 p x ∧ gat 0 p x ≤ j
theorem closed_L1 {n : Nat} : ∀ (k : Int), F_impl_Meander_isClosed_L1 fu i j p q n k = F_spec_siClosed_L1 fu i j p q n k := by
  induction n with
  | zero => intros; rfl
  | succ n ih => intro k; simp only [F_impl_Meander_isClosed_L1, F_spec_siClosed_L1, in_eq, l1In_eq, ih]
theorem closed_eq : F_impl_Meander_isClosed fu p q i j = F_spec_siClosed fu p q i j := by
  unfold F_impl_Meander_isClosed F_spec_siClosed
  rw [closed_L1]
theorem siClosed_L (h0 : 0 ≤ i) (hj : j < p.length) (hq : p.length = q.length) (hl : p.length ≤ 1000) : ∀ (d n : Nat) (k : Int), k + (d : Int) = j + 1 → d < n → i ≤ k →
    ∃ r : LR Bool Int, F_spec_siClosed_L1 fu i j p q n k = some r ∧ (r = .ret false ∨ (∃ y, r = .brk y) ∧ ∀ x : Int, k ≤ x → x ≤ j → (i ≤ gat 0 p x ∧ gat 0 p x ≤ j) ∧ i ≤ gat 0 q x ∧ gat 0 q x ≤ j) := by
  intro d
  induction d with
  | zero =>
    intro n k hk hn hi
    cases n with
    | zero => omega
    | succ n =>
      refine ⟨.brk k, ?_, .inr ⟨⟨k, rfl⟩, fun x h1 h2 => by omega⟩⟩
      simp only [F_spec_siClosed_L1]
      rw [ile_f (by omega), cond_false]
  | succ d ih =>
    intro n k hk hn hi
    cases n with
    | zero => omega
    | succ n =>
      have hpk : inL p k := inL_mk (by omega) (by omega)
      have hqk : inL q k := inL_mk (by omega) (by omega)
      simp only [F_spec_siClosed_L1, l1In_eq, bd_of]
      rw [ile_t (by omega), cond_true, gd_t hpk]
      cases h1 : (decide (i ≤ gat 0 p k) && decide (gat 0 p k ≤ j))
      · refine ⟨.ret false, rfl, .inl rfl⟩
      · rw [show bnot true = false from rfl, cond_false, gd_t hqk, bd_of]
        cases h2 : (decide (i ≤ gat 0 q k) && decide (gat 0 q k ≤ j))
        · exact ⟨.ret false, rfl, .inl rfl⟩
        · rw [show bnot true = false from rfl, cond_false, iadd_id (by omega) (by omega)]
          obtain ⟨r, e, hr⟩ := ih n (k + 1) (by omega) (by omega) (by omega)
          refine ⟨r, e, ?_⟩
          rcases hr with hr | ⟨hb, hr⟩
          · exact .inl hr
          · refine .inr ⟨hb, fun x hx1 hx2 => ?_⟩
            by_cases hx : x = k
            · subst hx
              simp only [Bool.and_eq_true, decide_eq_true_eq] at h1 h2
              exact ⟨h1, h2⟩
            · exact hr x (by omega) hx2
theorem siClosed_eq (h0 : 0 ≤ i) (hij : i ≤ j) (hj : j < p.length) (hq : p.length = q.length) (hl : p.length ≤ 1000) (hf : 2000 < fu) :
    ∃ b, F_spec_siClosed fu p q i j = some b ∧ (b = true → Shut p i j ∧ Shut q i j) := by
  obtain ⟨r, e, hr⟩ := siClosed_L (fu := fu) h0 hj hq hl (j + 1 - i).toNat fu i (by omega) (by omega) (by omega)
  unfold F_spec_siClosed
  rw [e, bd_of]
  rcases hr with rfl | ⟨⟨y, rfl⟩, hr⟩
  · exact ⟨false, rfl, fun h => by cases h⟩
  · exact ⟨true, rfl, fun _ => ⟨fun x h1 h2 => (hr x h1 h2).1, fun x h1 h2 => (hr x h1 h2).2⟩⟩
theorem str_L2 {n : Nat} {m : Int} : ∀ (l : List (List Int)) (y : Int), F_impl_Meander_stretches_L2 fu p q i m n l y = F_spec_siAll_L2 fu p q (llen p) i n l y := by
  induction n with
  | zero => intros; rfl
  | succ n ih => intro l y; simp only [F_impl_Meander_stretches_L2, F_spec_siAll_L2, closed_eq, ih]
theorem str_L1 {n : Nat} : ∀ (l : List (List Int)) (y : Int), F_impl_Meander_stretches_L1 fu p q (llen p) n l y = F_spec_siAll_L1 fu p q (llen p) n l y := by
  induction n with
  | zero => intros; rfl
  | succ n ih => intro l y; simp only [F_impl_Meander_stretches_L1, F_spec_siAll_L1, str_L2, ih]
theorem str_eq : F_impl_Meander_stretches fu p q = F_spec_siAll fu p q := by
  unfold F_impl_Meander_stretches F_spec_siAll
  rw [str_L1]
def Str (p q : List Int) (r : List Int) : Prop := ∃ i j : Int, r = [i, j] ∧ 0 ≤ i ∧ i < j ∧ j < p.length ∧ j - i + 1 < p.length ∧ Shut p i j ∧ Shut q i j
theorem all_L2 (hq : p.length = q.length) (hl : p.length ≤ 100) (hf : 2000 < fu) (h0 : 0 ≤ i) : ∀ (d n : Nat) (l : List (List Int)) (k : Int), k + (d : Int) = p.length → d < n → i < k → l.length + d ≤ 100000 → (∀ r ∈ l, Str p q r) →
    ∃ l' : List (List Int), F_spec_siAll_L2 fu p q (llen p) i n l k = some (l', (p.length : Int)) ∧ l'.length ≤ l.length + d ∧ ∀ r ∈ l', Str p q r := by
  intro d
  induction d with
  | zero =>
    intro n l k hk hn hi hll hs
    cases n with
    | zero => omega
    | succ n =>
      refine ⟨l, ?_, by omega, hs⟩
      simp only [F_spec_siAll_L2, llen]
      have : k = p.length := by omega
      subst this
      rw [ilt_f (by omega), cond_false]
  | succ d ih =>
    intro n l k hk hn hi hll hs
    cases n with
    | zero => omega
    | succ n =>
      simp only [F_spec_siAll_L2, llen]
      rw [ilt_t (by omega), cond_true, isub_id (by omega) (by omega), iadd_id (a := k - i) (by omega) (by omega), iadd_id (a := k) (by omega) (by omega)]
      obtain ⟨b, e, hb⟩ := siClosed_eq (fu := fu) (i := i) (j := k) (p := p) (q := q) h0 (by omega) (by omega) hq (by omega) hf
      rw [e, bd_of]
      have skip : ∃ l', F_spec_siAll_L2 fu p q (p.length : Int) i n l (k + 1) = some (l', (p.length : Int)) ∧ l'.length ≤ l.length + (d + 1) ∧ ∀ r ∈ l', Str p q r := by
        obtain ⟨l', e1, e2, e3⟩ := ih n l (k + 1) (by omega) (by omega) (by omega) (by omega) hs
        exact ⟨l', e1, by omega, e3⟩
      by_cases c : k - i + 1 < p.length
      · rw [ilt_t c, cond_true, bd_of]
        cases b with
        | false => exact skip
        | true =>
          rw [cond_true, gd_t (by omega)]
          obtain ⟨h1, h2⟩ := hb rfl
          obtain ⟨l', e1, e2, e3⟩ := ih n (lapp l [[i, k]]) (k + 1) (by omega) (by omega) (by omega) (by simp [lapp]; omega) (fun r hr => by
            rcases List.mem_append.1 hr with hr | hr
            · exact hs r hr
            · simp at hr
              subst hr
              exact ⟨i, k, rfl, h0, hi, by omega, c, h1, h2⟩)
          exact ⟨l', e1, by simp [lapp] at e2; omega, e3⟩
      · rw [ilt_f c, cond_false, bd_of, cond_false]
        exact skip
theorem all_L1 (hq : p.length = q.length) (hl : p.length ≤ 100) (hf : 2000 < fu) : ∀ (d n : Nat) (l : List (List Int)) (k : Int), k + (d : Int) = p.length → d < n → 0 ≤ k → l.length + d * 100 ≤ 100000 → (∀ r ∈ l, Str p q r) →
    ∃ l' : List (List Int), F_spec_siAll_L1 fu p q (llen p) n l k = some (l', (p.length : Int)) ∧ l'.length ≤ l.length + d * 100 ∧ ∀ r ∈ l', Str p q r := by
  intro d
  induction d with
  | zero =>
    intro n l k hk hn hi hll hs
    cases n with
    | zero => omega
    | succ n =>
      refine ⟨l, ?_, by omega, hs⟩
      simp only [F_spec_siAll_L1, llen]
      have : k = p.length := by omega
      subst this
      rw [ilt_f (by omega), cond_false]
  | succ d ih =>
    intro n l k hk hn hi hll hs
    cases n with
    | zero => omega
    | succ n =>
      simp only [F_spec_siAll_L1]
      rw [show llen p = (p.length : Int) from rfl, ilt_t (by omega), cond_true, iadd_id (by omega) (by omega)]
      obtain ⟨l1, e1, e2, e3⟩ := all_L2 (fu := fu) hq hl hf hi d fu l (k + 1) (by omega) (by omega) (by omega) (by omega) hs
      rw [show llen p = (p.length : Int) from rfl] at e1
      rw [e1, bd_of]
      obtain ⟨l', g1, g2, g3⟩ := ih n l1 (k + 1) (by omega) (by omega) (by omega) (by omega) e3
      exact ⟨l', g1, by omega, g3⟩
theorem siAll_eq (hq : p.length = q.length) (hl : p.length ≤ 100) (hf : 2000 < fu) : ∃ S, F_spec_siAll fu p q = some S ∧ S.length ≤ 10000 ∧ ∀ r ∈ S, Str p q r := by
  obtain ⟨l', e1, e2, e3⟩ := all_L1 (fu := fu) hq hl hf p.length fu [] 0 (by omega) (by omega) (by omega) (by simp; omega) (by simp)
  unfold F_spec_siAll
  have e4 : F_spec_siAll_L1 fu p q (llen p) fu (@List.nil (List Int)) 0 = _ := e1
  rw [e4, bd_of]
  exact ⟨l', rfl, by simp at e2; omega, e3⟩
theorem sh_L {S : List (List Int)} {b : Bool} (hS : ∀ r ∈ S, Str p q r) (hSl : S.length ≤ 10000) : ∀ (d n : Nat) (k y : Int), k + (d : Int) = S.length → d < n → 0 ≤ k → (ilt y 0 = true ∨ inL S y) →
    ∃ y', F_spec_siShortest_L1 fu b S (llen S) n y k = some (y', (S.length : Int)) ∧ F_impl_Meander_shortest_L1 fu b S (llen S) n y k = some (y', (S.length : Int)) ∧ ((ilt y' 0 = true ∧ d = 0) ∨ inL S y') := by
  intro d
  induction d with
  | zero =>
    intro n k y hk hn h0 hy
    cases n with
    | zero => omega
    | succ n =>
      refine ⟨y, ?_, ?_, hy.imp (fun h => ⟨h, rfl⟩) id⟩
      · simp only [F_spec_siShortest_L1, llen]
        have : k = S.length := by omega
        subst this
        rw [ilt_f (by omega), cond_false]
      · simp only [F_impl_Meander_shortest_L1, llen]
        have : k = S.length := by omega
        subst this
        rw [ilt_f (by omega), cond_false]
  | succ d ih =>
    intro n k y hk hn h0 hy
    cases n with
    | zero => omega
    | succ n =>
      have hkS : inL S k := inL_mk h0 (by omega)
      have row : ∀ z : Int, inL S z → ∃ i j : Int, gat [] S z = [i, j] ∧ 0 ≤ i ∧ i < j ∧ j < p.length := fun z hz => by
        have := hS (gat [] S z) (List.mem_of_getElem? (gat_get hz))
        obtain ⟨i, j, e, a1, a2, a3, _⟩ := this
        exact ⟨i, j, e, a1, a2, a3⟩
      obtain ⟨i, j, ek, k1, k2, k3⟩ := row k hkS
      have two : ∀ (a b : Int), inL [a, b] 1 ∧ inL [a, b] 0 := fun a b => ⟨⟨by omega, by simp⟩, ⟨by omega, by simp⟩⟩
      have next : ∀ z : Int, inL S z → ∃ y', F_spec_siShortest_L1 fu b S (llen S) n z (iadd .i64 k 1) = some (y', (S.length : Int)) ∧ F_impl_Meander_shortest_L1 fu b S (llen S) n z (iadd .i64 k 1) = some (y', (S.length : Int)) ∧ ((ilt y' 0 = true ∧ d + 1 = 0) ∨ inL S y') := fun z hz => by
        rw [iadd_id (by omega) (by omega)]
        cases d with
        | succ d =>
          obtain ⟨y', a, b, c⟩ := ih n (k + 1) z (by omega) (by omega) (by omega) (.inr hz)
          exact ⟨y', a, b, c.imp (fun h => by omega) id⟩
        | zero =>
          refine ⟨z, ?_, ?_, .inr hz⟩
          · cases n with
            | zero => omega
            | succ n =>
              simp only [F_spec_siShortest_L1, llen]
              rw [ilt_f (by omega), cond_false]
              exact congrArg some (Prod.ext rfl (show k + 1 = (S.length : Int) by omega))
          · cases n with
            | zero => omega
            | succ n =>
              simp only [F_impl_Meander_shortest_L1, llen]
              rw [ilt_f (by omega), cond_false]
              exact congrArg some (Prod.ext rfl (show k + 1 = (S.length : Int) by omega))
      simp only [F_spec_siShortest_L1, F_impl_Meander_shortest_L1]
      rw [show ilt k (llen S) = true from ilt_t (by simp only [llen]; omega), cond_true, cond_true, gd_t hkS, gd_t hkS, ek]
      simp only [gd_t (two i j).1, gd_t (two i j).2]
      rcases hy with hy | hy
      · rw [rnL_t hy]
        have e1 : ieq (llen ([] : List Int)) 0 = true := rfl
        have e2 : lemp ([] : List Int) = true := rfl
        have g1 : ilt y 0 = true ∨ ([] : List Int) ≠ [] := .inl hy
        rw [e1, e2]
        simp only [cond_true, bd_of, gd_t g1]
        exact next k hkS
      · obtain ⟨a, c, ey, y1, y2, y3⟩ := row y hy
        rw [rnL_f (ilt_in hy), ey]
        have e1 : ieq (llen [a, c]) 0 = false := rfl
        have e2 : lemp [a, c] = false := rfl
        have g1 : ilt y 0 = true ∨ [a, c] ≠ [] := .inr (by simp)
        rw [e1, e2]
        simp only [cond_false, gd_t (two a c).1, gd_t (two a c).2, gd_t g1]
        have done : ∀ (x : Bool), ∃ y', (bd (some x) fun s24 => bif s24 then F_spec_siShortest_L1 fu b S (llen S) n k (iadd .i64 k 1) else F_spec_siShortest_L1 fu b S (llen S) n y (iadd .i64 k 1)) = some (y', (S.length : Int)) ∧
            (bd (some x) fun s24 => bif s24 then F_impl_Meander_shortest_L1 fu b S (llen S) n k (iadd .i64 k 1) else F_impl_Meander_shortest_L1 fu b S (llen S) n y (iadd .i64 k 1)) = some (y', (S.length : Int)) ∧ ((ilt y' 0 = true ∧ d + 1 = 0) ∨ inL S y') := fun x => by
          cases x
          · exact next y hy
          · exact next k hkS
        generalize ilt (isub .i64 (gat 0 [i, j] 1) (gat 0 [i, j] 0)) (isub .i64 (gat 0 [a, c] 1) (gat 0 [a, c] 0)) = t1
        generalize ieq (isub .i64 (gat 0 [i, j] 1) (gat 0 [i, j] 0)) (isub .i64 (gat 0 [a, c] 1) (gat 0 [a, c] 0)) = t2
        cases t1
        · cases b
          · exact done false
          · exact done t2
        · exact done true
theorem short_eq2 {b : Bool} (hq : p.length = q.length) (hl : p.length ≤ 100) (hf : 100000 < fu) : ∃ r S, F_spec_siAll fu p q = some S ∧ S.length ≤ 10000 ∧ (∀ r ∈ S, Str p q r) ∧ F_spec_siShortest fu p q b = some r ∧ F_impl_Meander_shortest fu p q b = some r ∧ ((r = [] ∧ S = []) ∨ (Str p q r ∧ S ≠ [])) := by
  obtain ⟨S, e, hSl, hS⟩ := siAll_eq (fu := fu) hq hl (by omega)
  obtain ⟨y, e1, e2, hy⟩ := sh_L (fu := fu) (b := b) hS hSl S.length fu 0 (-1) (by omega) (by omega) (by omega) (.inl rfl)
  unfold F_spec_siShortest F_impl_Meander_shortest
  rw [str_eq, e]
  simp only [bd_of, e1, e2]
  rcases hy with ⟨hy, hz⟩ | hy
  · simp only [hy, cond_true]
    exact ⟨[], S, rfl, hSl, hS, rfl, rfl, .inl ⟨rfl, List.length_eq_zero_iff.1 hz⟩⟩
  · have hm := hS _ (List.mem_of_getElem? (gat_get (d := []) hy))
    have hne : gat [] S y ≠ [] := by
      obtain ⟨i, j, e, _⟩ := hm
      rw [e]; simp
    simp only [ilt_in hy, cond_false, gd_t hne]
    refine ⟨_, S, rfl, hSl, hS, rfl, rfl, .inr ⟨hm, fun h => ?_⟩⟩
    subst h
    have := hy.2
    have := hy.1
    simp at *
    omega
theorem short_eq {b : Bool} (hq : p.length = q.length) (hl : p.length ≤ 100) (hf : 100000 < fu) : ∃ r, F_spec_siShortest fu p q b = some r ∧ F_impl_Meander_shortest fu p q b = some r ∧ (r = [] ∨ Str p q r) := by
  obtain ⟨r, S, _, _, _, a, b, c⟩ := short_eq2 (fu := fu) (b := b) hq hl hf
  exact ⟨r, a, b, c.imp (fun h => h.1) (fun h => h.1)⟩
end
end Go.Proofs.Ytbckijeffiofdaa.AL
