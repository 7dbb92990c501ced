/- The pieces that are told are what is left of cutting. No condition. -/
import Derived.Test.YtbckijeffiofdaaPCU
import Derived.Test.YtbckijeffiofdaaPCI
import Derived.Test.YtbckijeffiofdaaG1
import Derived.Test.YtbckijeffiofdaaG2
import Derived.Test.YtbckijeffiofdaaG3
import Derived.Test.YtbckijeffiofdaaG4
import Derived.Test.YtbckijeffiofdaaG5
import Derived.Test.YtbckijeffiofdaaG6
import Derived.Test.YtbckijeffiofdaaG7
import Derived.Test.YtbckijeffiofdaaG8
import Derived.Test.YtbckijeffiofdaaG9
import Derived.Test.YtbckijeffiofdaaG10
import Derived.Test.YtbckijeffiofdaaG11
import Derived.Test.YtbckijeffiofdaaG12
import Derived.Test.YtbckijeffiofdaaG13
import Derived.Test.YtbckijeffiofdaaG14
import Derived.Test.YtbckijeffiofdaaG15
import Derived.Test.YtbckijeffiofdaaG16
import Derived.Test.YtbckijeffiofdaaG17
import Derived.Test.YtbckijeffiofdaaG18
import Derived.Test.YtbckijeffiofdaaG19
namespace Go.Proofs.Ytbckijeffiofdaa.AL
open Go Go.Proofs.Ytbckijeffiofdaa.Arch
set_option linter.unusedVariables false
set_option linter.unusedSimpArgs false
set_option maxRecDepth 100000
section
variable {fu : Nat} {p q : List Int} {b : Bool}
theorem full_L2 (hq : p.length = q.length) (hl : p.length ≤ 100) (hf : 2000 < fu) {I : Nat} : ∀ (n k : Nat) (l l' : List (List Int)) (e : Int), I < k → F_spec_siAll_L2 fu p q (p.length : Int) (I : Int) n l (k : Int) = some (l', e) →
    (∀ r ∈ l, r ∈ l') ∧ ∀ x : Nat, k ≤ x → Cl p q I x → [(I : Int), (x : Int)] ∈ l' := by
  intro n
  induction n with
  | zero => intro k l l' e hk h; cases h
  | succ n ih =>
    intro k l l' e hk h
    simp only [F_spec_siAll_L2] at h
    by_cases c : (k : Int) < (p.length : Int)
    · rw [ilt_t c, cond_true, isub_id (by omega) (by omega), iadd_id (by omega) (by omega), iadd_id (by omega) (by omega), show (k : Int) + 1 = ((k + 1 : Nat) : Int) by omega] at h
      have step : ∀ (z : Bool) (hz : Cl p q I k → z = true), (bif z then gd (l.length + 1 ≤ 4294967296) (F_spec_siAll_L2 fu p q (p.length : Int) (I : Int) n (lapp l [[(I : Int), (k : Int)]]) ((k + 1 : Nat) : Int)) else F_spec_siAll_L2 fu p q (p.length : Int) (I : Int) n l ((k + 1 : Nat) : Int)) = some (l', e) →
          (∀ r ∈ l, r ∈ l') ∧ ∀ x : Nat, k ≤ x → Cl p q I x → [(I : Int), (x : Int)] ∈ l' := by
        intro z hz h
        cases z with
        | false =>
          obtain ⟨a, b⟩ := ih (k + 1) l l' e (by omega) h
          refine ⟨a, fun x hx hc => ?_⟩
          by_cases ex : x = k
          · subst ex
            have := hz hc
            cases this
          · exact b x (by omega) hc
        | true =>
          obtain ⟨g, h⟩ := gd_some h
          obtain ⟨a, b⟩ := ih (k + 1) _ l' e (by omega) h
          refine ⟨fun r hr => a r (List.mem_append_left _ hr), fun x hx hc => ?_⟩
          by_cases ex : x = k
          · subst ex
            exact a _ (List.mem_append_right _ (by simp))
          · exact b x (by omega) hc
      by_cases c2 : (k : Int) - (I : Int) + 1 < (p.length : Int)
      · rw [ilt_t c2, cond_true] at h
        obtain ⟨z, hz, h⟩ := bd_some h
        obtain ⟨y, hy, hz⟩ := bd_some hz
        obtain rfl := Option.some.inj hz
        refine step y (fun hc => ?_) h
        obtain ⟨c3, c4, c5, c6, c7⟩ := hc
        rw [closed_true (by omega) (by omega) (by omega) hq (by omega) hf c6 c7] at hy
        exact (Option.some.inj hy).symm
      · rw [ilt_f c2, cond_false, bd_of] at h
        exact step false (fun hc => by obtain ⟨c3, c4, c5, _⟩ := hc; omega) h
    · rw [ilt_f c, cond_false] at h
      obtain ⟨rfl, _⟩ := Prod.mk.inj (Option.some.inj h)
      exact ⟨fun r hr => hr, fun x hx hc => by obtain ⟨c3, c4, c5, _⟩ := hc; omega⟩
theorem full_L1 (hq : p.length = q.length) (hl : p.length ≤ 100) (hf : 2000 < fu) : ∀ (n k : Nat) (l l' : List (List Int)) (e : Int), F_spec_siAll_L1 fu p q (p.length : Int) n l (k : Int) = some (l', e) →
    (∀ r ∈ l, r ∈ l') ∧ ∀ I x : Nat, k ≤ I → Cl p q I x → [(I : Int), (x : Int)] ∈ l' := by
  intro n
  induction n with
  | zero => intro k l l' e h; cases h
  | succ n ih =>
    intro k l l' e h
    simp only [F_spec_siAll_L1] at h
    by_cases c : (k : Int) < (p.length : Int)
    · rw [ilt_t c, cond_true, iadd_id (by omega) (by omega), show (k : Int) + 1 = ((k + 1 : Nat) : Int) by omega] at h
      obtain ⟨⟨l2, e2⟩, h2, h⟩ := bd_some h
      obtain ⟨a1, b1⟩ := full_L2 hq hl hf (I := k) fu (k + 1) l l2 e2 (by omega) h2
      obtain ⟨a2, b2⟩ := ih (k + 1) l2 l' e h
      refine ⟨fun r hr => a2 r (a1 r hr), fun I x hI hc => ?_⟩
      by_cases ex : I = k
      · subst ex
        exact a2 _ (b1 x (by have := hc.1; omega) hc)
      · exact b2 I x (by omega) hc
    · rw [ilt_f c, cond_false] at h
      obtain ⟨rfl, _⟩ := Prod.mk.inj (Option.some.inj h)
      exact ⟨fun r hr => hr, fun I x hI hc => by obtain ⟨c3, c4, _⟩ := hc; omega⟩
theorem full_eq (hq : p.length = q.length) (hl : p.length ≤ 100) (hf : 2000 < fu) {S : List (List Int)} (h : F_spec_siAll fu p q = some S) {I J : Nat} (hc : Cl p q I J) : [(I : Int), (J : Int)] ∈ S := by
  unfold F_spec_siAll at h
  obtain ⟨⟨l, e⟩, h1, h⟩ := bd_some h
  obtain rfl := Option.some.inj h
  exact (full_L1 hq hl hf fu 0 [] l e h1).2 I J (by omega) hc
def wid (r : List Int) : Int := gat 0 r 1 - gat 0 r 0
theorem least_L {S : List (List Int)} (hS : ∀ r ∈ S, Str p q r) (hl : p.length ≤ 100) (hSl : S.length ≤ 10000) : ∀ (n : Nat) (k : Nat) (y y' e : Int), (ilt y 0 = true ∨ inL S y) → F_spec_siShortest_L1 fu b S (llen S) n y (k : Int) = some (y', e) →
    (inL S y → inL S y' ∧ wid (gat [] S y') ≤ wid (gat [] S y)) ∧ ∀ z : Nat, k ≤ z → z < S.length → inL S y' ∧ wid (gat [] S y') ≤ wid (gat [] S (z : Int)) := by
  intro n
  induction n with
  | zero => intro k y y' e hy h; cases h
  | succ n ih =>
    intro k y y' e hy h
    simp only [F_spec_siShortest_L1] at h
    by_cases c : (k : Int) < llen S
    · have hkS : inL S (k : Int) := ⟨by omega, c⟩
      have row : ∀ z : Int, inL S z → ∃ i j : Int, gat [] S z = [i, j] ∧ 0 ≤ i ∧ i < j ∧ j < p.length := fun z hz => by
        obtain ⟨i, j, e, a1, a2, a3, _⟩ := hS (gat [] S z) (List.mem_of_getElem? (gat_get hz))
        exact ⟨i, j, e, a1, a2, a3⟩
      rw [ilt_t c, cond_true, gd_t hkS] at h
      obtain ⟨s, hs, h⟩ := bd_some h
      have hlen : S.length ≤ 10000 := hSl
      have c' : (k : Int) < (S.length : Int) := c
      have hn : iadd .i64 (k : Int) 1 = ((k + 1 : Nat) : Int) := by rw [iadd_id (by omega) (by omega)]; omega
      rw [hn] at h
      -- s tells: taken anew, or not
      have key : (s = true ∧ (inL S y → wid (gat [] S (k : Int)) ≤ wid (gat [] S y))) ∨ (s = false ∧ inL S y ∧ wid (gat [] S y) ≤ wid (gat [] S (k : Int))) := by
        obtain ⟨i, j, ek, k1, k2, k3⟩ := row k hkS
        rcases hy with hy | hy
        · rw [rnL_t hy, show ieq (llen ([] : List Int)) 0 = true from rfl, cond_true] at hs
          refine .inl ⟨(Option.some.inj hs).symm, fun h => ?_⟩
          have := h.1
          rw [ilt_eq] at hy
          simp at hy
          omega
        · obtain ⟨a, c', ey, y1, y2, y3⟩ := row y hy
          rw [rnL_f (ilt_in hy), ey, ek, show ieq (llen [a, c']) 0 = false from rfl, cond_false] at hs
          simp only [gd_t (in2 a c').1, gd_t (in2 a c').2, gd_t (in2 i j).1, gd_t (in2 i j).2, (gat2 a c').1, (gat2 a c').2, (gat2 i j).1, (gat2 i j).2] at hs
          rw [isub_id (a := j) (b := i) (by omega) (by omega), isub_id (a := c') (b := a) (by omega) (by omega)] at hs
          unfold wid
          rw [ey, ek, (gat2 a c').1, (gat2 a c').2, (gat2 i j).1, (gat2 i j).2]
          by_cases lt : j - i < c' - a
          · rw [ilt_t lt, cond_true] at hs
            exact .inl ⟨(Option.some.inj hs).symm, fun _ => by omega⟩
          · rw [ilt_f lt, cond_false] at hs
            cases b
            · rw [cond_false] at hs
              exact .inr ⟨(Option.some.inj hs).symm, hy, by omega⟩
            · rw [cond_true] at hs
              by_cases eq : j - i = c' - a
              · rw [ieq_t eq] at hs
                exact .inl ⟨(Option.some.inj hs).symm, fun _ => by omega⟩
              · rw [ieq_f eq] at hs
                exact .inr ⟨(Option.some.inj hs).symm, hy, by omega⟩
      rcases key with ⟨rfl, kw⟩ | ⟨rfl, ky, kw⟩
      · rw [cond_true] at h
        obtain ⟨a1, a2⟩ := ih (k + 1) _ y' e (.inr hkS) h
        obtain ⟨a3, a4⟩ := a1 hkS
        refine ⟨fun hy => ⟨a3, by have := kw hy; omega⟩, fun z hz hz2 => ?_⟩
        by_cases ez : z = k
        · subst ez
          exact ⟨a3, a4⟩
        · exact a2 z (by omega) hz2
      · rw [cond_false] at h
        obtain ⟨a1, a2⟩ := ih (k + 1) _ y' e (.inr ky) h
        obtain ⟨a3, a4⟩ := a1 ky
        refine ⟨fun _ => ⟨a3, a4⟩, fun z hz hz2 => ?_⟩
        by_cases ez : z = k
        · subst ez
          exact ⟨a3, by omega⟩
        · exact a2 z (by omega) hz2
    · rw [ilt_f c, cond_false] at h
      obtain ⟨rfl, _⟩ := Prod.mk.inj (Option.some.inj h)
      exact ⟨fun h => ⟨h, Int.le_refl _⟩, fun z hz hz2 => absurd (show (k : Int) < llen S by simp only [llen]; omega) c⟩
theorem short_min (hq : p.length = q.length) (hl : p.length ≤ 100) (hf : 100000 < fu) {r : List Int} (h : F_spec_siShortest fu p q b = some r) : (r = [] ∧ ∀ I J, ¬ Cl p q I J) ∨ ∃ I J : Nat, r = [(I : Int), (J : Int)] ∧ Mn p q I J := by
  obtain ⟨r2, S, e1, hSl, hS, e2, e3, hr⟩ := short_eq2 (fu := fu) (b := b) hq hl hf
  obtain rfl : r = r2 := Option.some.inj (h.symm.trans e2)
  rcases hr with ⟨rfl, rfl⟩ | ⟨⟨i, j, rfl, h1, h2, h3, h4, h5, h6⟩, hne⟩
  · refine .inl ⟨rfl, fun I J hc => ?_⟩
    have := full_eq hq hl (by omega) e1 hc
    cases this
  · refine .inr ⟨i.toNat, j.toNat, by rw [show ((i.toNat : Nat) : Int) = i by omega, show ((j.toNat : Nat) : Int) = j by omega], ?_⟩
    have ei : ((i.toNat : Nat) : Int) = i := by omega
    have ej : ((j.toNat : Nat) : Int) = j := by omega
    unfold F_spec_siShortest at h
    rw [e1, bd_of] at h
    obtain ⟨⟨y', e⟩, g, h⟩ := bd_some h
    have g' : F_spec_siShortest_L1 fu b S (llen S) fu (-1) ((0 : Nat) : Int) = some (y', e) := g
    obtain ⟨_, hmin⟩ := least_L hS hl hSl fu 0 (-1) y' e (.inl rfl) g'
    have hpos := List.length_pos_iff.2 hne
    obtain ⟨hy, _⟩ := hmin 0 (by omega) hpos
    simp only at h
    rw [ilt_in hy, cond_false] at h
    obtain ⟨_, h⟩ := gd_some h
    have hrow : gat [] S y' = [i, j] := Option.some.inj h
    refine ⟨⟨by omega, by omega, by omega, by rw [ei, ej]; exact h5, by rw [ei, ej]; exact h6⟩, fun A B hA hB hAB s t => ?_⟩
    have hm := full_eq hq hl (by omega) e1 (I := A) (J := B) ⟨hAB, by omega, by omega, s, t⟩
    obtain ⟨z, hz⟩ := List.getElem?_of_mem hm
    have hlt := (List.getElem?_eq_some_iff.1 hz).1
    obtain ⟨_, hw⟩ := hmin z (by omega) hlt
    have ez : gat [] S (z : Int) = [(A : Int), (B : Int)] := by rw [gat_nat hlt]; exact (List.getElem?_eq_some_iff.1 hz).2
    rw [hrow, ez] at hw
    unfold wid at hw
    rw [(gat2 _ _).1, (gat2 _ _).2, (gat2 _ _).1, (gat2 _ _).2] at hw
    omega
theorem own_some {r s : List Int} (h : F_spec_l1Own fu r = some s) : s = r := by
  unfold F_spec_l1Own at h
  obtain ⟨_, h⟩ := gd_some h
  exact (Option.some.inj h).symm.trans (by simp [lapp])
theorem cuts_L (hf : 100000 < fu) : ∀ (n : Nat) (p q : List Int) (L L' : List PL) (r p' q' s' : List Int), Two p q → p.length ≤ 100 → F_spec_siShortest fu p q b = some r → F_spec_siPieces_L1 fu b n p q L r = some (p', q', L', s') → ∃ R, L' ++ [(p', q')] = L ++ R ∧ Cuts p q R := by
  intro n
  induction n with
  | zero => intro p q L L' r p' q' s' ht hl hr h; cases h
  | succ n ih =>
    intro p q L L' r p' q' s' ht hl hr h
    have hlen := ht.len
    simp only [F_spec_siPieces_L1] at h
    rcases short_min (by omega) hl hf hr with ⟨rfl, hn⟩ | ⟨I, J, rfl, m⟩
    · rw [ilt_f (by simp [llen]), cond_false] at h
      have h := Option.some.inj h
      simp only [Prod.mk.injEq] at h
      obtain ⟨rfl, rfl, rfl, _⟩ := h
      exact ⟨_, rfl, .done hn⟩
    · have m' := m
      obtain ⟨⟨c1, c2, c3, c4, c5⟩, _⟩ := m'
      obtain ⟨i1, i2⟩ := inside_eq (fu := fu) (p := p) (q := q) (I := I) (J := J) (by omega) c2 (by omega) (by omega) (by omega) c4 (sys_joint ht.sp) c5 (sys_joint ht.sq)
      obtain ⟨o1, o2⟩ := outside_eq (fu := fu) (p := p) (q := q) (I := I) (J := J) (by omega) c2 (by omega) (by omega) (by omega) c4 (sys_joint ht.sp) c5 (sys_joint ht.sq)
      simp only [ilt_t (show (0 : Int) < llen [(I : Int), (J : Int)] by simp [llen]), cond_true, gd_t (in2 (I : Int) (J : Int)).1, gd_t (in2 (I : Int) (J : Int)).2, (gat2 (I : Int) (J : Int)).1, (gat2 (I : Int) (J : Int)).2, i2, o2, bd_of] at h
      obtain ⟨_, h⟩ := gd_some h
      obtain ⟨r7, h7, h⟩ := bd_some h
      obtain ⟨R, e, c⟩ := ih _ _ _ _ _ _ _ _ (m.two_out ht) (by rw [outL_len (by omega) c2]; omega) h7 h
      refine ⟨_, ?_, .cut m c⟩
      rw [e]
      simp [lapp]
theorem cuts_pieces (hf : 100000 < fu) (ht : Two p q) (hl : p.length ≤ 100) {R : List PL} (h : F_spec_siPieces fu p q b = some R) : Cuts p q R := by
  have hlen := ht.len
  unfold F_spec_siPieces at h
  obtain ⟨r, hr, h⟩ := bd_some h
  rcases short_min (by omega) hl hf hr with ⟨rfl, hn⟩ | ⟨I, J, rfl, m⟩
  · rw [ilt_f (by simp [llen]), cond_false] at h
    obtain ⟨x, hx, k1⟩ := bd_some h
    obtain ⟨y, hy, k2⟩ := bd_some k1
    obtain ⟨_, k3⟩ := gd_some k2
    have k4 := Option.some.inj k3
    rw [own_some hx, own_some hy] at k4
    rw [← k4]
    exact .done hn
  · have m' := m
    obtain ⟨⟨c1, c2, c3, c4, c5⟩, _⟩ := m'
    obtain ⟨i1, i2⟩ := inside_eq (fu := fu) (p := p) (q := q) (I := I) (J := J) (by omega) c2 (by omega) (by omega) (by omega) c4 (sys_joint ht.sp) c5 (sys_joint ht.sq)
    obtain ⟨o1, o2⟩ := outside_eq (fu := fu) (p := p) (q := q) (I := I) (J := J) (by omega) c2 (by omega) (by omega) (by omega) c4 (sys_joint ht.sp) c5 (sys_joint ht.sq)
    simp only [ilt_t (show (0 : Int) < llen [(I : Int), (J : Int)] by simp [llen]), cond_true, gd_t (in2 (I : Int) (J : Int)).1, gd_t (in2 (I : Int) (J : Int)).2, (gat2 (I : Int) (J : Int)).1, (gat2 (I : Int) (J : Int)).2, i2, o2, bd_of] at h
    obtain ⟨_, h⟩ := gd_some h
    obtain ⟨r4, h4, h⟩ := bd_some h
    obtain ⟨⟨p', q', L', s'⟩, h5, h⟩ := bd_some h
    simp only at h
    obtain ⟨x, hx, k1⟩ := bd_some h
    obtain ⟨y, hy, k2⟩ := bd_some k1
    obtain ⟨_, k3⟩ := gd_some k2
    have k4 := Option.some.inj k3
    rw [own_some hx, own_some hy] at k4
    obtain ⟨K, e, c⟩ := cuts_L hf fu _ _ _ _ _ _ _ _ (m.two_out ht) (by rw [outL_len (by omega) c2]; omega) h4 h5
    rw [← k4]
    show Cuts p q (L' ++ [(p', q')])
    rw [e]
    exact .cut m c
end
end Go.Proofs.Ytbckijeffiofdaa.AL
