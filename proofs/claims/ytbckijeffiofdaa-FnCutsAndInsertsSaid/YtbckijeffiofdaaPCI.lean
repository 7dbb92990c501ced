/- The law CutsAndInserts. No condition. -/
import Derived.Test.YtbckijeffiofdaaPAD
import Derived.Test.YtbckijeffiofdaaG1
import Derived.Test.YtbckijeffiofdaaG2
import Derived.Test.YtbckijeffiofdaaG3
import Derived.Test.YtbckijeffiofdaaG4
import Derived.Test.YtbckijeffiofdaaG5
import Derived.Test.YtbckijeffiofdaaG6
import Derived.Test.YtbckijeffiofdaaG7
import Derived.Test.YtbckijeffiofdaaG8
import Derived.Test.YtbckijeffiofdaaG9
import Derived.Test.YtbckijeffiofdaaG10
import Derived.Test.YtbckijeffiofdaaG11
import Derived.Test.YtbckijeffiofdaaG12
import Derived.Test.YtbckijeffiofdaaG13
import Derived.Test.YtbckijeffiofdaaG14
import Derived.Test.YtbckijeffiofdaaG15
import Derived.Test.YtbckijeffiofdaaG16
import Derived.KernelRfl
namespace Go.Proofs.Ytbckijeffiofdaa.AL
open Go Go.Proofs.Ytbckijeffiofdaa.Arch
set_option linter.unusedVariables false
set_option linter.unusedSimpArgs false
set_option maxRecDepth 100000
section
variable {fu : Nat} {p q : List Int} {i j : Int}
theorem ySame_L {xs : List Int} (hx : xs.length ≤ 4294967296) : ∀ (d k n : Nat), k + d = xs.length → d < n → F_laws_ySame_L1 fu xs xs (xs.length : Int) n (k : Int) = some (.brk (xs.length : Int)) := by
  intro d
  induction d with
  | zero =>
    intro k n hk hn
    cases n with
    | zero => omega
    | succ n =>
      have : k = xs.length := by omega
      subst this
      simp only [F_laws_ySame_L1]
      rw [ilt_f (by omega), cond_false]
  | succ d ih =>
    intro k n hk hn
    cases n with
    | zero => omega
    | succ n =>
      simp only [F_laws_ySame_L1]
      rw [ilt_t (by omega), cond_true, gd_t (inL_nat (by omega)), gd_t (inL_nat (by omega)), ine_f rfl, cond_false, iadd_id (by omega) (by omega)]
      exact ih (k + 1) n (by omega) (by omega)
theorem ySame_eq {xs : List Int} (hx : xs.length ≤ 4294967296) (hf : xs.length < fu) : F_laws_ySame fu xs xs = some true := by
  unfold F_laws_ySame
  have h := ySame_L (fu := fu) hx xs.length 0 fu (by omega) hf
  rw [Int.natCast_zero] at h
  rw [ine_f rfl, cond_false]
  simp only [llen]
  rw [h]
  rfl
theorem yPair_eq {x : PL} (h1 : x.1.length ≤ 100) (h2 : x.2.length ≤ 100) (hf : 1000 < fu) : F_laws_yPair fu x.1 x.2 x.1 x.2 = some true := by
  unfold F_laws_yPair
  rw [ySame_eq (by omega) (by omega), bd_of, cond_true, ySame_eq (by omega) (by omega), bd_of]
theorem yRows_L {S : List (List Int)} (hS : S.length ≤ 10000) (hf : 20000 < fu) (hr : ∀ r ∈ S, r.length ≤ 100) : ∀ (d k n : Nat), k + d = S.length → d < n → F_laws_yRows_L1 fu S S (S.length : Int) n (k : Int) = some (.brk (S.length : Int)) := by
  intro d
  induction d with
  | zero =>
    intro k n hk hn
    cases n with
    | zero => omega
    | succ n =>
      have : k = S.length := by omega
      subst this
      simp only [F_laws_yRows_L1]
      rw [ilt_f (by omega), cond_false]
  | succ d ih =>
    intro k n hk hn
    cases n with
    | zero => omega
    | succ n =>
      have hk' : k < S.length := by omega
      have h1 := hr _ (List.getElem_mem hk')
      simp only [F_laws_yRows_L1]
      rw [ilt_t (by omega), cond_true, gd_t (inL_nat hk'), gd_t (inL_nat hk'), gat_nat hk', ySame_eq (by omega) (by omega), bd_of, show bnot true = false from rfl, cond_false, iadd_id (by omega) (by omega)]
      exact ih (k + 1) n (by omega) (by omega)
theorem yRows_eq {S : List (List Int)} (hS : S.length ≤ 10000) (hf : 20000 < fu) (hr : ∀ r ∈ S, r.length ≤ 100) : F_laws_yRows fu S S = some true := by
  unfold F_laws_yRows
  have h := yRows_L (fu := fu) hS hf hr S.length 0 fu (by omega) (by omega)
  rw [Int.natCast_zero] at h
  rw [ine_f rfl, cond_false]
  simp only [llen]
  rw [h]
  rfl
def stB (p q : List Int) (i j : Int) : Bool := goodP p q && (decide (0 ≤ i) && (decide (i < j) && decide (j < p.length)))
theorem stretch_eq (hB : Brief (p, q)) (hi : -1 ≤ i ∧ i ≤ 100) (hf : 1000 < fu) : F_impl_isStretch fu p q i j = some (stB p q i j) ∧ F_spec_siStretch fu p q i j = some (stB p q i j) := by
  have hl : p.length ≤ 14 := hB.1
  unfold F_impl_isStretch F_spec_siStretch stB
  rw [IsPair_go hB hf, mePair_go hB hf, bd_of, bd_of]
  have hn : llen p = (p.length : Int) := rfl
  generalize llen p = n at hn ⊢
  cases goodP p q
  · exact ⟨rfl, rfl⟩
  · rw [cond_true, cond_true, isub_id (a := n) (b := 2) (by omega) (by omega), isub_id (a := n) (b := 1) (by omega) (by omega), in_eq, l1In_eq, l1In_eq, bd_of, bd_of, iadd_id (by omega) (by omega), in_eq]
    simp only [bd_of, ilt_eq, Bool.true_and]
    constructor
    · by_cases a : 0 ≤ i ∧ i ≤ n - 2
      · rw [show (decide (0 ≤ i) && decide (i ≤ n - 2)) = true by simp [a.1, a.2], cond_true]
        congr 1
        rw [Bool.eq_iff_iff]
        simp
        omega
      · rw [show (decide (0 ≤ i) && decide (i ≤ n - 2)) = false by rw [← Bool.not_eq_true]; simp; omega, cond_false]
        congr 1
        symm
        rw [← Bool.not_eq_true]
        simp
        omega
    · by_cases a : 0 ≤ j ∧ j ≤ n - 1
      · rw [show (decide (0 ≤ j) && decide (j ≤ n - 1)) = true by simp [a.1, a.2], cond_true]
        by_cases b : 0 ≤ i ∧ i ≤ n - 1
        · rw [show (decide (0 ≤ i) && decide (i ≤ n - 1)) = true by simp [b.1, b.2], cond_true]
          congr 1
          rw [Bool.eq_iff_iff]
          simp
          omega
        · rw [show (decide (0 ≤ i) && decide (i ≤ n - 1)) = false by rw [← Bool.not_eq_true]; simp; omega, cond_false]
          congr 1
          symm
          rw [← Bool.not_eq_true]
          simp
          omega
      · rw [show (decide (0 ≤ j) && decide (j ≤ n - 1)) = false by rw [← Bool.not_eq_true]; simp; omega, cond_false]
        congr 1
        symm
        rw [← Bool.not_eq_true]
        simp
        omega
theorem closed_L (h0 : 0 ≤ i) (hj : j < p.length) (hq : p.length = q.length) (hl : p.length ≤ 1000) (hs : Shut p i j) (ht : Shut q i j) : ∀ (d n : Nat) (k : Int), k + (d : Int) = j + 1 → d < n → i ≤ k → ∃ y, F_spec_siClosed_L1 fu i j p q n k = some (.brk y) := by
  intro d
  induction d with
  | zero =>
    intro n k hk hn hi
    cases n with
    | zero => omega
    | succ n =>
      simp only [F_spec_siClosed_L1]
      rw [ile_f (by omega), cond_false]
      exact ⟨k, rfl⟩
  | succ d ih =>
    intro n k hk hn hi
    cases n with
    | zero => omega
    | succ n =>
      have s1 := hs k (by omega) (by omega)
      have s2 := ht k (by omega) (by omega)
      simp only [F_spec_siClosed_L1, l1In_eq, bd_of]
      rw [ile_t (by omega), cond_true, gd_t (inL_mk (by omega) (by omega)), show (decide (i ≤ gat 0 p k) && decide (gat 0 p k ≤ j)) = true by simp [s1], show bnot true = false from rfl, cond_false, gd_t (inL_mk (by omega) (by omega)), bd_of, show (decide (i ≤ gat 0 q k) && decide (gat 0 q k ≤ j)) = true by simp [s2], show bnot true = false from rfl, cond_false, iadd_id (by omega) (by omega)]
      exact ih n (k + 1) (by omega) (by omega) (by omega)
theorem closed_true (h0 : 0 ≤ i) (hij : i ≤ j) (hj : j < p.length) (hq : p.length = q.length) (hl : p.length ≤ 1000) (hf : 2000 < fu) (hs : Shut p i j) (ht : Shut q i j) : F_spec_siClosed fu p q i j = some true := by
  obtain ⟨y, e⟩ := closed_L (fu := fu) h0 hj hq hl hs ht (j + 1 - i).toNat fu i (by omega) (by omega) (by omega)
  unfold F_spec_siClosed
  rw [e]
  rfl
theorem cut_yes {I J : Nat} (hg : goodP p q = true) (hIJ : I < J) (hJ : J < p.length) (hs : Shut p I J) (ht : Shut q I J) (hf : 5000 < fu) :
    F_impl_InsideOf fu p q (I : Int) (J : Int) = some ((innL p I J, innL q I J), true) ∧ F_spec_InsideOf fu p q (I : Int) (J : Int) = some ((innL p I J, innL q I J), true) ∧
    F_impl_OutsideOf fu p q (I : Int) (J : Int) = some ((outL p I J, outL q I J), true) ∧ F_spec_OutsideOf fu p q (I : Int) (J : Int) = some ((outL p I J, outL q I J), true) ∧
    F_impl_IsClosed fu p q (I : Int) (J : Int) = some (true, true) ∧ F_spec_IsClosed fu p q (I : Int) (J : Int) = some (true, true) := by
  obtain ⟨g1, g2, g3, g4, g5, g6, _⟩ := good_of hg
  have hB : Brief (p, q) := ⟨by show p.length ≤ 14; omega, by show q.length ≤ 14; omega⟩
  obtain ⟨s1, s2⟩ := stretch_eq (fu := fu) (i := (I : Int)) (j := (J : Int)) hB (by omega) (by omega)
  have hst : stB p q (I : Int) (J : Int) = true := by
    unfold stB
    rw [hg]
    simp
    omega
  rw [hst] at s1 s2
  have c2 := closed_true (fu := fu) (i := (I : Int)) (j := (J : Int)) (by omega) (by omega) (by omega) g1 (by omega) (by omega) hs ht
  have c1 : F_impl_Meander_isClosed fu p q (I : Int) (J : Int) = some true := by rw [closed_eq]; exact c2
  obtain ⟨i1, i2⟩ := inside_eq (fu := fu) (p := p) (q := q) (I := I) (J := J) (by omega) hJ g1 (by omega) (by omega) hs g5 ht g6
  obtain ⟨o1, o2⟩ := outside_eq (fu := fu) (p := p) (q := q) (I := I) (J := J) (by omega) hJ g1 (by omega) (by omega) hs g5 ht g6
  unfold F_impl_InsideOf F_spec_InsideOf F_impl_OutsideOf F_spec_OutsideOf F_impl_IsClosed F_spec_IsClosed
  rw [s1, s2]
  simp only [bd_of, show bnot true = false from rfl, cond_false, c1, c2, i1, i2, o1, o2, and_self]
theorem cut_all (hB : Brief (p, q)) (hi : -1 ≤ i ∧ i ≤ 100) (hf : 5000 < fu) :
    (∃ b, F_impl_InsideOf fu p q i j = some (([], []), false) ∧ F_spec_InsideOf fu p q i j = some (([], []), false) ∧ F_impl_OutsideOf fu p q i j = some (([], []), false) ∧ F_spec_OutsideOf fu p q i j = some (([], []), false) ∧
      F_impl_IsClosed fu p q i j = some (false, b) ∧ F_spec_IsClosed fu p q i j = some (false, b)) ∨
    ∃ I J : Nat, i = I ∧ j = J ∧ goodP p q = true ∧ I < J ∧ J < p.length ∧ Shut p I J ∧ Shut q I J := by
  obtain ⟨s1, s2⟩ := stretch_eq (fu := fu) (i := i) (j := j) hB hi (by omega)
  cases hst : stB p q i j
  · rw [hst] at s1 s2
    refine .inl ⟨false, ?_⟩
    unfold F_impl_InsideOf F_spec_InsideOf F_impl_OutsideOf F_spec_OutsideOf F_impl_IsClosed F_spec_IsClosed
    rw [s1, s2]
    simp only [bd_of, show bnot false = true from rfl, cond_true, and_self]
  · rw [hst] at s1 s2
    have hst' := hst
    simp only [stB, Bool.and_eq_true, decide_eq_true_eq] at hst'
    obtain ⟨hg, h0, h1, h2⟩ := hst'
    obtain ⟨g1, g2, g3, g4, g5, g6, _⟩ := good_of hg
    obtain ⟨b, e, hb⟩ := siClosed_eq (fu := fu) (p := p) (q := q) h0 (by omega) h2 g1 (by omega) (by omega)
    have e1 : F_impl_Meander_isClosed fu p q i j = some b := by rw [closed_eq]; exact e
    cases b
    · refine .inl ⟨true, ?_⟩
      unfold F_impl_InsideOf F_spec_InsideOf F_impl_OutsideOf F_spec_OutsideOf F_impl_IsClosed F_spec_IsClosed
      rw [s1, s2]
      simp only [bd_of, show bnot true = false from rfl, cond_false, e, e1, show bnot false = true from rfl, cond_true, and_self]
    · obtain ⟨t1, t2⟩ := hb rfl
      refine .inr ⟨i.toNat, j.toNat, by omega, by omega, hg, by omega, by omega, ?_, ?_⟩
      · rw [show ((i.toNat : Nat) : Int) = i by omega, show ((j.toNat : Nat) : Int) = j by omega]
        exact t1
      · rw [show ((i.toNat : Nat) : Int) = i by omega, show ((j.toNat : Nat) : Int) = j by omega]
        exact t2
def putOk (p q : List Int) (i : Int) (r t : List Int) : Bool := goodP p q && (goodP r t && (decide (0 ≤ i) && (decide (i ≤ p.length) && decide ((p.length : Int) + r.length ≤ 12))))
theorem insert_all {r t : List Int} (hB : Brief (p, q)) (hC : Brief (r, t)) (hf : 5000 < fu) :
    (putOk p q i r t = false ∧ F_impl_InsertPair fu p q i r t = some (([], []), false) ∧ F_spec_InsertPair fu p q i r t = some (([], []), false)) ∨
    ∃ k : Nat, i = k ∧ k ≤ p.length ∧ goodP p q = true ∧ goodP r t = true ∧ p.length + r.length ≤ 12 ∧ F_impl_InsertPair fu p q i r t = some ((putZ p k r, putZ q k t), true) ∧ F_spec_InsertPair fu p q i r t = some ((putZ p k r, putZ q k t), true) := by
  have hl : p.length ≤ 14 := hB.1
  have hm : r.length ≤ 14 := hC.1
  unfold F_impl_InsertPair F_spec_InsertPair
  rw [IsPair_go hB (by omega), mePair_go hB (by omega), IsPair_go hC (by omega), mePair_go hC (by omega)]
  simp only [bd_of, in_eq, l1In_eq]
  have hn : llen p = (p.length : Int) := rfl
  have hk : llen r = (r.length : Int) := rfl
  generalize llen p = n at hn ⊢
  generalize llen r = m at hk ⊢
  rw [iadd_id (a := n) (by omega) (by omega)]
  unfold putOk
  cases hg : goodP p q
  · exact .inl ⟨rfl, rfl, rfl⟩
  cases hh : goodP r t
  · exact .inl ⟨rfl, rfl, rfl⟩
  simp only [show bnot true = false from rfl, cond_false, Bool.true_and]
  by_cases a : 0 ≤ i ∧ i ≤ n
  · rw [show (decide (0 ≤ i) && decide (i ≤ n)) = true by simp [a.1, a.2], show bnot true = false from rfl, cond_false, bd_of]
    by_cases b : (12 : Int) < n + m
    · rw [ilt_t b]
      refine .inl ⟨?_, rfl, rfl⟩
      rw [← Bool.not_eq_true]
      simp
      omega
    · simp only [ilt_f b, cond_false, bd_of]
      obtain ⟨g1, g2, g3, g4, g5, g6, _⟩ := good_of hg
      obtain ⟨h1, h2, h3, h4, h5, h6, _⟩ := good_of hh
      have e : i = ((i.toNat : Nat) : Int) := by omega
      refine .inr ⟨i.toNat, e, by omega, trivial, trivial, by omega, ?_, ?_⟩
      · rw [e, inserted_eq (fu := fu) (p := p) (q := r) (by omega) (by omega) (by omega) g3 h3 (by omega), bd_of, inserted_eq (fu := fu) (p := q) (q := t) (by omega) (by omega) (by omega) g4 h4 (by omega), bd_of]
        rfl
      · rw [e, siPut_eq (fu := fu) (p := p) (q := r) (by omega) (by omega) (by omega) g3 h3 (by omega), bd_of, siPut_eq (fu := fu) (p := q) (q := t) (by omega) (by omega) (by omega) g4 h4 (by omega), bd_of]
        rfl
  · rw [show (decide (0 ≤ i) && decide (i ≤ n)) = false by rw [← Bool.not_eq_true]; simp; omega, show bnot false = true from rfl, cond_true]
    refine .inl ⟨?_, rfl, rfl⟩
    rw [← Bool.not_eq_true]
    simp
    omega
end
section
variable {p q : List Int} {x : List Int}
theorem good_mk (hp : ArcS p) (hq : ArcS q) (hl : p.length = q.length) (hn : p.length ≤ 12) : goodP p q = true := by
  simp only [goodP, sysB, Bool.and_eq_true, decide_eq_true_eq]
  exact ⟨⟨⟨hn, (arcB_iff p).2 hp⟩, by omega, (arcB_iff q).2 hq⟩, hl⟩
theorem compOf (hg : goodP p q = true) : F_impl_ComponentsOf 2000000 p q = some (((compN p q : Nat) : Int), true) ∧ compN p q ≤ 12 := by
  obtain ⟨g1, g2, g3, g4, g5, g6, g7, g8⟩ := good_of hg
  have hB : Brief (p, q) := ⟨by show p.length ≤ 14; omega, by show q.length ≤ 14; omega⟩
  unfold F_impl_ComponentsOf
  rw [IsPair_go hB (by omega), bd_of, hg, show bnot true = false from rfl, cond_false, comp_eq ⟨g7, g8, by omega⟩ (by omega), bd_of]
  refine ⟨rfl, ?_⟩
  have := List.length_filter_le (fun i => leastB p q i) (List.range p.length)
  unfold compN
  simp at this
  omega
theorem bne_s (b : Bool) : bne' b b = false := by cases b <;> rfl
theorem beq_s (b : Bool) : beq' b b = true := by cases b <;> rfl
theorem ine_s (a : Int) : ine a a = false := ine_f rfl
theorem tail_ok (w : Bytes x) : (
    bd (F_spec_DrawClosedStretches 2000000 x) fun r56 =>
    bd (F_impl_ClosedStretches 2000000 r56.1 r56.2) fun r57 =>
    bd (F_spec_ClosedStretches 2000000 r56.1 r56.2) fun r58 =>
    bd (F_impl_ShortestClosed 2000000 r56.1 r56.2) fun r59 =>
    bd (F_spec_ShortestClosed 2000000 r56.1 r56.2) fun r60 =>
    bd (F_impl_IsWhole 2000000 r56.1 r56.2) fun r61 =>
    bd (F_spec_IsWhole 2000000 r56.1 r56.2) fun r62 =>
    bd (
      bif (bne' r57.2 r58.2) then
        some true
      else
        bd (F_laws_yRows 2000000 r57.1 r58.1) fun r63 =>
        bif (bnot r63) then
          some true
        else
          bif (bne' r59.2.2 r60.2.2) then
            some true
          else
            bif (ine r59.1 r60.1) then
              some true
            else
              bif (ine r59.2.1 r60.2.1) then
                some true
              else
                bif (bne' r61.2 r62.2) then
                  some true
                else
                  bif (bne' r61.1 r62.1) then
                    some true
                  else
                    some (bne' r59.2.2 (ilt 0 (llen r57.1)))) fun s957 =>
    bif s957 then
      some false
    else
      bif (bnot r57.2) then
        some true
      else
        bif (ilt 0 (llen r56.1)) then
          some (beq' r61.1 (ieq (llen r57.1) 0))
        else
          some (beq' r61.1 false)) = some true := by
  obtain ⟨p, q, e, hB⟩ := drawStretches_ok (fu := 2000000) w (by omega)
  have n1 : bnot true = false := rfl
  have n2 : bnot false = true := rfl
  rw [e, bd_of]
  simp only
  unfold F_impl_ClosedStretches F_spec_ClosedStretches F_impl_ShortestClosed F_spec_ShortestClosed F_impl_IsWhole F_spec_IsWhole
  rw [IsPair_go hB (by omega), mePair_go hB (by omega)]
  cases hg : goodP p q
  · have hy := yRows_eq (fu := 2000000) (S := []) (by simp) (by omega) (by simp)
    simp only [bd_of, n1, n2, cond_true, cond_false, bne_s, ine_s, hy]
    rfl
  · obtain ⟨g1, g2, _⟩ := good_of hg
    obtain ⟨r, S, e1, hS, hT, e2, e3, hr⟩ := short_eq2 (fu := 2000000) (p := p) (q := q) (b := false) g1 (by omega) (by omega)
    have hy := yRows_eq (fu := 2000000) (S := S) hS (by omega) (fun r hr => by
      obtain ⟨i, j, rfl, _⟩ := hT r hr
      simp)
    have w1 : F_impl_Meander_isWhole 2000000 p q = F_spec_siWhole 2000000 p q := by
      unfold F_impl_Meander_isWhole F_spec_siWhole
      rw [str_eq]
    have w2 : F_spec_siWhole 2000000 p q = some (bif ilt 0 (llen p) then ieq (llen S) 0 else false) := by
      unfold F_spec_siWhole
      rw [e1, bd_of]
      cases ilt 0 (llen p) <;> rfl
    rw [w1, w2, str_eq, e1]
    simp only [bd_of, n1, cond_false, e2, e3]
    rcases hr with ⟨rfl, rfl⟩ | ⟨⟨i, j, rfl, _⟩, hne⟩
    · rw [show lemp ([] : List Int) = true from rfl, show ieq (llen ([] : List Int)) 0 = true from rfl]
      simp only [cond_true, bd_of, bne_s, ine_s, cond_false, hy, n1]
      cases ilt 0 (llen p) <;> rfl
    · rw [show lemp [i, j] = false from rfl, show ieq (llen [i, j]) 0 = false from rfl]
      have h3 : ilt 0 (llen S) = true := ilt_t (by have := List.length_pos_iff.2 hne; simp only [llen]; omega)
      simp only [cond_false, gd_t (in2 i j).1, gd_t (in2 i j).2, bd_of, bne_s, ine_s, hy, n1, h3]
      cases ilt 0 (llen p)
      · rfl
      · simp only [cond_true, beq_s]
theorem arc_two {r : List Int} (h : ArcS r) (h0 : 0 < r.length) : 2 ≤ r.length := by
  have a := ArcS.lo' h 0 (by omega) (by omega)
  have b := ArcS.hi' h 0 (by omega) (by omega)
  have c := ArcS.ne' h 0 (by omega) (by omega)
  omega
theorem mid_ok (w : Bytes x) : (
    bd (F_spec_DrawInsertPair 2000000 x) fun r40 =>
    bd (F_impl_InsertPair 2000000 r40.1.1 r40.1.2 r40.2.1 r40.2.2.1 r40.2.2.2) fun r41 =>
    bd (F_spec_InsertPair 2000000 r40.1.1 r40.1.2 r40.2.1 r40.2.2.1 r40.2.2.2) fun r42 =>
    bd (
      bif (bne' r41.2 r42.2) then
        some true
      else
        bd (F_laws_yPair 2000000 r41.1.1 r41.1.2 r42.1.1 r42.1.2) fun r43 =>
        some (bnot r43)) fun s685 =>
    bif s685 then
      some false
    else
      bd (
        bif r41.2 then
          some (ilt 0 (llen r40.2.2.1))
        else
          some false) fun s702 =>
      bif s702 then
        bd (F_impl_InsideOf 2000000 r41.1.1 r41.1.2 r40.2.1 (isub .i64 (iadd .i64 r40.2.1 (llen r40.2.2.1)) 1)) fun r44 =>
        bd (F_impl_OutsideOf 2000000 r41.1.1 r41.1.2 r40.2.1 (isub .i64 (iadd .i64 r40.2.1 (llen r40.2.2.1)) 1)) fun r45 =>
        bd (
          bif (bnot r44.2) then
            some true
          else
            bd (F_laws_yPair 2000000 r44.1.1 r44.1.2 r40.2.2.1 r40.2.2.2) fun r46 =>
            bif (bnot r46) then
              some true
            else
              bif (bnot r45.2) then
                some true
              else
                bd (F_laws_yPair 2000000 r45.1.1 r45.1.2 r40.1.1 r40.1.2) fun r47 =>
                some (bnot r47)) fun s759 =>
        bif s759 then
          some false
        else
          bd (F_spec_DrawClosedStretches 2000000 x) fun r48 =>
          bd (F_impl_ClosedStretches 2000000 r48.1 r48.2) fun r49 =>
          bd (F_spec_ClosedStretches 2000000 r48.1 r48.2) fun r50 =>
          bd (F_impl_ShortestClosed 2000000 r48.1 r48.2) fun r51 =>
          bd (F_spec_ShortestClosed 2000000 r48.1 r48.2) fun r52 =>
          bd (F_impl_IsWhole 2000000 r48.1 r48.2) fun r53 =>
          bd (F_spec_IsWhole 2000000 r48.1 r48.2) fun r54 =>
          bd (
            bif (bne' r49.2 r50.2) then
              some true
            else
              bd (F_laws_yRows 2000000 r49.1 r50.1) fun r55 =>
              bif (bnot r55) then
                some true
              else
                bif (bne' r51.2.2 r52.2.2) then
                  some true
                else
                  bif (ine r51.1 r52.1) then
                    some true
                  else
                    bif (ine r51.2.1 r52.2.1) then
                      some true
                    else
                      bif (bne' r53.2 r54.2) then
                        some true
                      else
                        bif (bne' r53.1 r54.1) then
                          some true
                        else
                          some (bne' r51.2.2 (ilt 0 (llen r49.1)))) fun s856 =>
          bif s856 then
            some false
          else
            bif (bnot r49.2) then
              some true
            else
              bif (ilt 0 (llen r48.1)) then
                some (beq' r53.1 (ieq (llen r49.1) 0))
              else
                some (beq' r53.1 false)
      else
        bd (F_spec_DrawClosedStretches 2000000 x) fun r56 =>
        bd (F_impl_ClosedStretches 2000000 r56.1 r56.2) fun r57 =>
        bd (F_spec_ClosedStretches 2000000 r56.1 r56.2) fun r58 =>
        bd (F_impl_ShortestClosed 2000000 r56.1 r56.2) fun r59 =>
        bd (F_spec_ShortestClosed 2000000 r56.1 r56.2) fun r60 =>
        bd (F_impl_IsWhole 2000000 r56.1 r56.2) fun r61 =>
        bd (F_spec_IsWhole 2000000 r56.1 r56.2) fun r62 =>
        bd (
          bif (bne' r57.2 r58.2) then
            some true
          else
            bd (F_laws_yRows 2000000 r57.1 r58.1) fun r63 =>
            bif (bnot r63) then
              some true
            else
              bif (bne' r59.2.2 r60.2.2) then
                some true
              else
                bif (ine r59.1 r60.1) then
                  some true
                else
                  bif (ine r59.2.1 r60.2.1) then
                    some true
                  else
                    bif (bne' r61.2 r62.2) then
                      some true
                    else
                      bif (bne' r61.1 r62.1) then
                        some true
                      else
                        some (bne' r59.2.2 (ilt 0 (llen r57.1)))) fun s957 =>
        bif s957 then
          some false
        else
          bif (bnot r57.2) then
            some true
          else
            bif (ilt 0 (llen r56.1)) then
              some (beq' r61.1 (ieq (llen r57.1) 0))
            else
              some (beq' r61.1 false)) = some true := by
  have ht := tail_ok w
  have n1 : bnot true = false := rfl
  have n2 : bnot false = true := rfl
  obtain ⟨p, q, i, r, t, e, hB, hC, i0, i1⟩ := drawInsert_ok (fu := 2000000) w (by omega)
  rw [e, bd_of]
  simp only
  rcases insert_all (fu := 2000000) (i := i) hB hC (by omega) with ⟨_, e1, e2⟩ | ⟨k, rfl, hk, hg, hh, hs, e1, e2⟩
  · have hy := yPair_eq (fu := 2000000) (x := ([], [])) (by simp) (by simp) (by omega)
    simp only at hy
    rw [e1, e2]
    simp only [bd_of, bne_s, cond_false, hy, n1]
    exact ht
  · obtain ⟨g1, g2, g3, g4, g5, g6, g7, g8⟩ := good_of hg
    obtain ⟨h1, h2, h3, h4, h5, h6, h7, h8⟩ := good_of hh
    have lp := putZ_len (p := p) (q := r) (k := k) hk
    have lq := putZ_len (p := q) (q := t) (k := k) (by omega)
    have hy := yPair_eq (fu := 2000000) (x := (putZ p k r, putZ q k t)) (by simp only; omega) (by simp only; omega) (by omega)
    simp only at hy
    rw [e1, e2]
    simp only [bd_of, bne_s, cond_false, hy, n1, cond_true]
    by_cases hr : 0 < r.length
    · have r2 := arc_two h7 hr
      have gg : goodP (putZ p k r) (putZ q k t) = true := good_mk (arc_put hk g7 h7) (arc_put (by omega) g8 h8) (by omega) (by omega)
      have s1 := shut_put (p := p) (q := r) (k := k) hk hr h5
      have s2 := shut_put (p := q) (q := t) (k := k) (by omega) (by omega) h6
      rw [show k + t.length - 1 = k + r.length - 1 by omega] at s2
      obtain ⟨c1, c2, c3, c4, c5, c6⟩ := cut_yes (fu := 2000000) (I := k) (J := k + r.length - 1) gg (by omega) (by omega) s1 s2 (by omega)
      have f1 := inn_put (p := p) (q := r) (k := k) hk hr
      have f2 := inn_put (p := q) (q := t) (k := k) (by omega) (by omega)
      have f3 := out_put (p := p) (q := r) (k := k) hk hr g5
      have f4 := out_put (p := q) (q := t) (k := k) (by omega) (by omega) g6
      rw [show k + t.length - 1 = k + r.length - 1 by omega] at f2 f4
      rw [f1, f2] at c1
      rw [f3, f4] at c3
      have hJ : isub .i64 (iadd .i64 (k : Int) (llen r)) 1 = ((k + r.length - 1 : Nat) : Int) := by
        rw [iadd_id (by simp only [llen]; omega) (by simp only [llen]; omega), isub_id (by simp only [llen]; omega) (by simp only [llen]; omega)]
        simp only [llen]
        omega
      have y1 := yPair_eq (fu := 2000000) (x := (r, t)) (by simp only; omega) (by simp only; omega) (by omega)
      have y2 := yPair_eq (fu := 2000000) (x := (p, q)) (by simp only; omega) (by simp only; omega) (by omega)
      simp only at y1 y2
      rw [ilt_t (show (0 : Int) < llen r by simp only [llen]; omega), hJ, c1, c3]
      simp only [bd_of, cond_true, n1, cond_false, y1, y2]
      exact ht
    · rw [ilt_f (show ¬ (0 : Int) < llen r by simp only [llen]; omega)]
      simp only [cond_false]
      exact ht
theorem law_FnCutsAndInserts {code more : List Int} (lc : code.length ≤ maxLen) (wc : ∀ n ∈ code, (Lit.int .u8 n).wf = true) (lm : more.length ≤ maxLen) (wm : ∀ n ∈ more, (Lit.int .u8 n).wf = true) : F_laws_FnCutsAndInserts 2000000 code more = some true := by
  have hm := mid_ok (x := more) wm
  have n1 : bnot true = false := rfl
  have n2 : bnot false = true := rfl
  unfold F_laws_FnCutsAndInserts
  obtain ⟨b, hb⟩ : ∃ b, F_laws_big 2000000 code more = some b := by
    unfold F_laws_big
    cases ilt 1048576 (llen code)
    · exact ⟨_, rfl⟩
    · exact ⟨_, rfl⟩
  rw [hb, bd_of]
  cases b
  case true => rfl
  obtain ⟨p, q, i, j, e, hB, i0, i1, j0, j1⟩ := drawInside_ok (fu := 2000000) (x := code) wc (by omega)
  rw [cond_false, e, bd_of]
  simp only
  rcases cut_all (fu := 2000000) (i := i) (j := j) hB ⟨i0, i1⟩ (by omega) with ⟨b, c1, c2, c3, c4, c5, c6⟩ | ⟨I, J, rfl, rfl, hg, hIJ, hJ, hs, ht⟩
  · have hy := yPair_eq (fu := 2000000) (x := ([], [])) (by simp) (by simp) (by omega)
    simp only at hy
    rw [c1, c2, c3, c4, c5, c6]
    simp only [bd_of, bne_s, cond_false, hy, n1]
    exact hm
  · obtain ⟨c1, c2, c3, c4, c5, c6⟩ := cut_yes (fu := 2000000) hg hIJ hJ hs ht (by omega)
    obtain ⟨g1, g2, g3, g4, g5, g6, g7, g8⟩ := good_of hg
    have a1 : (innL p I J).length = J + 1 - I := innL_len (by omega)
    have a2 : (innL q I J).length = J + 1 - I := innL_len (by omega)
    have b1 := outL_len (p := p) (I := I) (J := J) (by omega) hJ
    have b2 := outL_len (p := q) (I := I) (J := J) (by omega) (by omega)
    have k1 : goodP (innL p I J) (innL q I J) = true := good_mk (arc_inn (by omega) hJ hs g7) (arc_inn (by omega) (by omega) ht g8) (by omega) (by omega)
    have k2 : goodP (outL p I J) (outL q I J) = true := good_mk (arc_out (by omega) hJ hs g7) (arc_out (by omega) (by omega) ht g8) (by omega) (by omega)
    obtain ⟨d1, d2⟩ := compOf k1
    obtain ⟨d3, d4⟩ := compOf k2
    obtain ⟨d5, d6⟩ := compOf hg
    have add := comp_add (p := p) (q := q) (I := I) (J := J) ⟨g7, g8, by omega⟩ (by omega) hJ hs ht
    have p1 := put_back (p := p) (I := I) (J := J) (by omega) hJ hs g5
    have p2 := put_back (p := q) (I := I) (J := J) (by omega) (by omega) ht g6
    have ins : F_impl_InsertPair 2000000 (outL p I J) (outL q I J) (I : Int) (innL p I J) (innL q I J) = some ((p, q), true) := by
      rcases insert_all (fu := 2000000) (p := outL p I J) (q := outL q I J) (i := (I : Int)) (r := innL p I J) (t := innL q I J) ⟨by simp only; omega, by simp only; omega⟩ ⟨by simp only; omega, by simp only; omega⟩ (by omega) with ⟨hx, _⟩ | ⟨k, hk, _, _, _, _, e1, _⟩
      · unfold putOk at hx
        rw [k1, k2] at hx
        rw [← Bool.not_eq_true] at hx
        exact absurd (by simp; omega) hx
      · have : k = I := by omega
        subst this
        rw [p1, p2] at e1
        exact e1
    have y1 := yPair_eq (fu := 2000000) (x := (innL p I J, innL q I J)) (by simp only; omega) (by simp only; omega) (by omega)
    have y2 := yPair_eq (fu := 2000000) (x := (outL p I J, outL q I J)) (by simp only; omega) (by simp only; omega) (by omega)
    have y3 := yPair_eq (fu := 2000000) (x := (p, q)) (by simp only; omega) (by simp only; omega) (by omega)
    simp only at y1 y2 y3
    rw [c1, c2, c3, c4, c5, c6]
    simp only [bd_of, bne_s, cond_false, y1, y2, n1, cond_true, d1, d3, d5, ins]
    rw [iadd_id (by omega) (by omega), ine_f (show ((compN (innL p I J) (innL q I J) : Nat) : Int) + ((compN (outL p I J) (outL q I J) : Nat) : Int) = ((compN p q : Nat) : Int) by omega)]
    simp only [cond_false, y3, bd_of, n1]
    exact hm
end
end Go.Proofs.Ytbckijeffiofdaa.AL
