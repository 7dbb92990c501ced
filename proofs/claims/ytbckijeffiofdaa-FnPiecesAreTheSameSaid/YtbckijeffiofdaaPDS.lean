/- What the draws of pairs answer. No condition. -/
import Derived.Test.YtbckijeffiofdaaPIN
import Derived.Test.YtbckijeffiofdaaPC4
import Derived.Test.YtbckijeffiofdaaG1
import Derived.Test.YtbckijeffiofdaaG2
import Derived.Test.YtbckijeffiofdaaG3
import Derived.Test.YtbckijeffiofdaaG4
import Derived.Test.YtbckijeffiofdaaG5
import Derived.Test.YtbckijeffiofdaaG6
import Derived.Test.YtbckijeffiofdaaG7
import Derived.Test.YtbckijeffiofdaaG8
import Derived.Test.YtbckijeffiofdaaG9
import Derived.Test.YtbckijeffiofdaaG10
import Derived.Test.YtbckijeffiofdaaG11
import Derived.Test.YtbckijeffiofdaaG12
import Derived.Test.YtbckijeffiofdaaG13
import Derived.Test.YtbckijeffiofdaaG14
import Derived.Test.YtbckijeffiofdaaG15
import Derived.Test.YtbckijeffiofdaaG16
import Derived.Test.YtbckijeffiofdaaG17
import Derived.Test.YtbckijeffiofdaaG18
import Derived.Test.YtbckijeffiofdaaG19
import Derived.KernelRfl
namespace Go.Proofs.Ytbckijeffiofdaa.AL
open Go Go.Proofs.Ytbckijeffiofdaa.Arch
set_option linter.unusedVariables false
set_option linter.unusedSimpArgs false
set_option maxRecDepth 100000
def Brief (x : PL) : Prop := x.1.length ≤ 14 ∧ x.2.length ≤ 14
def goodP (p q : List Int) : Bool := (sysB p && sysB q) && decide (p.length = q.length)
theorem sys_low {p : List Int} (h : sysB p = true) : Low p ∧ p.length ≤ 12 := by
  simp only [sysB, Bool.and_eq_true, decide_eq_true_eq] at h
  refine ⟨fun x hx => ?_, h.1⟩
  obtain ⟨i, hi⟩ := List.getElem?_of_mem hx
  have hlt := (List.getElem?_eq_some_iff.1 hi).1
  have hj := sys_joint ((arcB_iff p).1 h.2) i hlt
  have e : gat 0 p (i : Int) = x := by rw [gat_nat hlt]; exact (List.getElem?_eq_some_iff.1 hi).2
  rw [e] at hj
  omega
theorem good_of {p q : List Int} (h : goodP p q = true) : p.length = q.length ∧ p.length ≤ 12 ∧ Low p ∧ Low q ∧ Joint p ∧ Joint q ∧ ArcS p ∧ ArcS q := by
  simp only [goodP, Bool.and_eq_true, decide_eq_true_eq] at h
  obtain ⟨l1, n1⟩ := sys_low h.1.1
  obtain ⟨l2, n2⟩ := sys_low h.1.2
  have a1 : ArcS p := (arcB_iff p).1 (by have := h.1.1; simp only [sysB, Bool.and_eq_true] at this; exact this.2)
  have a2 : ArcS q := (arcB_iff q).1 (by have := h.1.2; simp only [sysB, Bool.and_eq_true] at this; exact this.2)
  exact ⟨h.2, n1, l1, l2, sys_joint a1, sys_joint a2, a1, a2⟩
section
variable {fu : Nat} {x : List Int} {at' seed : Int}
theorem mePair_go {p q : List Int} (h : Brief (p, q)) (hf : 1000 < fu) : F_spec_mePair fu p q = some (goodP p q) := by
  obtain ⟨h1, h2⟩ := h
  simp only at h1 h2
  exact mePair_eq (by omega) (by omega) (by omega) (by omega)
theorem IsPair_go {p q : List Int} (h : Brief (p, q)) (hf : 1000 < fu) : F_impl_IsPair fu p q = some (goodP p q) := by
  obtain ⟨h1, h2⟩ := h
  simp only at h1 h2
  exact IsPair_eq (by omega) (by omega) (by omega) (by omega)
theorem own_go {p : List Int} (h : p.length ≤ 100000) : F_spec_l1Own fu p = some p := by
  unfold F_spec_l1Own
  rw [gd_t (by simp; omega)]
  simp [lapp]
theorem pair_ok {n : Int} (hn0 : 0 ≤ n) (hn : n ≤ 6) (w : Bytes x) (h0 : 0 ≤ at') (h1 : at' ≤ 1152921504606846000) (hf : 1000 < fu) : ∃ p a s, F_spec_l1Cur_pair fu x at' seed n = some (p, a, s) ∧ at' ≤ a ∧ a ≤ at' + 100 ∧ Brief p := by
  unfold F_spec_l1Cur_pair
  rw [iadd_id (by omega) (by omega)]
  obtain ⟨b, a1, s1, e1, g0, g1, g2, g3⟩ := pick_ok (fu := fu) (seed := seed) (n := n + 1) w h0 (by omega)
  rw [e1, bd_of]
  simp only
  obtain ⟨p, a2, s2, e2, k0, k1, k2⟩ := sure_ok (fu := fu) (seed := s1) (n := b) (at' := a1) (by omega) (by omega) w (by omega) (by omega) (by omega)
  rw [e2, bd_of]
  simp only
  obtain ⟨q, a3, s3, e3, i0, i1, i2⟩ := sure_ok (fu := fu) (seed := s2) (n := b) (at' := a2) (by omega) (by omega) w (by omega) (by omega) (by omega)
  rw [e3, bd_of]
  simp only
  obtain ⟨c, a4, s4, e4, q0, q1, q2, q3⟩ := pick_ok (fu := fu) (seed := s3) (n := 16) (at' := a3) w (by omega) (by omega)
  rw [e4, bd_of]
  simp only
  cases ieq c 0
  case true =>
    rw [cond_true]
    obtain ⟨r, a5, s5, e5, t0, t1, t2⟩ := system_ok (fu := fu) (seed := s4) (n := n) (at' := a4) hn0 hn w (by omega) (by omega) hf
    rw [e5, bd_of]
    exact ⟨_, _, _, rfl, by show at' ≤ a5; omega, by show a5 ≤ at' + 100; omega, t2, by show q.length ≤ 14; omega⟩
  rw [cond_false]
  cases ieq c 1
  case true =>
    rw [cond_true]
    obtain ⟨r, a5, s5, e5, t0, t1, t2⟩ := system_ok (fu := fu) (seed := s4) (n := n) (at' := a4) hn0 hn w (by omega) (by omega) hf
    rw [e5, bd_of]
    exact ⟨_, _, _, rfl, by show at' ≤ a5; omega, by show a5 ≤ at' + 100; omega, by show p.length ≤ 14; omega, t2⟩
  rw [cond_false]
  cases ieq c 2
  case true =>
    rw [cond_true]
    obtain ⟨r, e5, hr⟩ := rainbow_ok (fu := fu) (n := b) (by omega) (by omega) hf
    obtain ⟨t, e6, ht⟩ := flat_ok (fu := fu) (n := b) (by omega) (by omega) hf
    rw [e5, bd_of, e6, bd_of]
    exact ⟨_, _, _, rfl, by show at' ≤ a4; omega, by show a4 ≤ at' + 100; omega, by show r.length ≤ 14; omega, by show t.length ≤ 14; omega⟩
  rw [cond_false]
  cases ieq c 3
  case true =>
    rw [cond_true, own_go (by omega), bd_of]
    exact ⟨_, _, _, rfl, by show at' ≤ a4; omega, by show a4 ≤ at' + 100; omega, by show p.length ≤ 14; omega, by show p.length ≤ 14; omega⟩
  rw [cond_false]
  exact ⟨_, _, _, rfl, by show at' ≤ a4; omega, by show a4 ≤ at' + 100; omega, by show p.length ≤ 14; omega, by show q.length ≤ 14; omega⟩
theorem patch_L (w : Bytes x) (hf : 1000 < fu) : ∀ (d m : Nat) (at' s : Int) (p q : List Int), d < m → 0 ≤ at' → at' + 200 * d ≤ 1152921504606845000 → p.length = q.length → p.length ≤ 12 → (∀ v ∈ p, 0 ≤ v ∧ v ≤ 1000 - 12 * (d : Int)) → (∀ v ∈ q, 0 ≤ v ∧ v ≤ 1000 - 12 * (d : Int)) → d ≤ 10 →
    ∃ (a s1 : Int) (p1 q1 : List Int) (c : Int), F_spec_l1Cur_patched_L1 fu x m at' s p q (d : Int) = some (a, s1, p1, q1, c) ∧ at' ≤ a ∧ a ≤ at' + 200 * d ∧ p1.length ≤ 12 ∧ q1.length ≤ 12 := by
  intro d
  induction d with
  | zero =>
    intro m at' s p q hm h0 h1 hl hl2 hp hq hd
    cases m with
    | zero => omega
    | succ m =>
      simp only [F_spec_l1Cur_patched_L1]
      rw [ilt_f (by omega), cond_false]
      exact ⟨_, _, _, _, _, rfl, by omega, by omega, hl2, by omega⟩
  | succ d ih =>
    intro m at' s p q hm h0 h1 hl hl2 hp hq hd
    cases m with
    | zero => omega
    | succ m =>
      simp only [F_spec_l1Cur_patched_L1]
      rw [ilt_t (by omega), cond_true]
      obtain ⟨b, a1, s1, e1, g0, g1, hb⟩ := pair_ok (fu := fu) (seed := s) (n := 2) (at' := at') (by omega) (by omega) w h0 (by omega) hf
      rw [e1, bd_of]
      simp only
      rw [mePair_go hb hf, bd_of, isub_id (by omega) (by omega), show ((d + 1 : Nat) : Int) - 1 = (d : Int) by omega]
      have hp' : ∀ v ∈ p, 0 ≤ v ∧ v ≤ 1000 - 12 * (d : Int) := fun v hv => by have := hp v hv; omega
      have hq' : ∀ v ∈ q, 0 ≤ v ∧ v ≤ 1000 - 12 * (d : Int) := fun v hv => by have := hq v hv; omega
      cases hg : goodP b.1 b.2
      · rw [cond_false, bd_of, cond_false]
        obtain ⟨a2, s2, p2, q2, c2, e2, u0, u1, u2, u3⟩ := ih m a1 s1 p q (by omega) (by omega) (by omega) hl hl2 hp' hq' (by omega)
        exact ⟨_, _, _, _, _, e2, by omega, by omega, u2, u3⟩
      · obtain ⟨b1, b2, b3, b4, _⟩ := good_of hg
        rw [cond_true, bd_of, iadd_id (a := llen p) (by simp only [llen]; omega) (by simp only [llen]; omega)]
        by_cases hs : llen p + llen b.1 ≤ 12
        · rw [ile_t hs, cond_true, iadd_id (a := llen p) (by simp only [llen]; omega) (by simp only [llen]; omega)]
          obtain ⟨i, a2, s2, e2, t0, t1, t2, t3⟩ := pick_ok (fu := fu) (seed := s1) (n := llen p + 1) (at' := a1) w (by omega) (by omega)
          rw [e2, bd_of]
          simp only
          have hi : i = ((i.toNat : Nat) : Int) := by omega
          have hk : i.toNat ≤ p.length := by simp only [llen] at t3; omega
          have lowp : Low p := fun v hv => by have := hp v hv; omega
          have lowq : Low q := fun v hv => by have := hq v hv; omega
          simp only [llen] at hs
          rw [hi, siPut_eq (fu := fu) (by omega) (by omega) hk lowp b3 hf, bd_of, siPut_eq (fu := fu) (by omega) (by omega) (by omega) lowq b4 hf, bd_of]
          have hr : ∀ (p r : List Int), (∀ v ∈ p, 0 ≤ v ∧ v ≤ 1000 - 12 * ((d + 1 : Nat) : Int)) → Low r → (∀ v ∈ r, v ≤ 500) → r.length ≤ 12 → i.toNat ≤ 12 → ∀ v ∈ putZ p i.toNat r, 0 ≤ v ∧ v ≤ 1000 - 12 * (d : Int) := by
            intro p r hp lr hr hn hi v hv
            unfold putZ at hv
            rcases List.mem_append.1 hv with hv | hv
            · rcases List.mem_append.1 hv with hv | hv
              · obtain ⟨z, hz, rfl⟩ := List.mem_map.1 hv
                have := hp z (List.mem_of_mem_take hz)
                unfold insV
                split <;> omega
              · obtain ⟨z, hz, rfl⟩ := List.mem_map.1 hv
                have := lr z hz
                have := hr z hz
                omega
            · obtain ⟨z, hz, rfl⟩ := List.mem_map.1 hv
              have := hp z (List.mem_of_mem_drop hz)
              unfold insV
              split <;> omega
          have small : ∀ r : List Int, Joint r → r.length ≤ 12 → ∀ v ∈ r, v ≤ 500 := fun r hj hn v hv => by
            obtain ⟨z, hz⟩ := List.getElem?_of_mem hv
            have hlt := (List.getElem?_eq_some_iff.1 hz).1
            have h2 := hj z hlt
            rw [gat_nat hlt, (List.getElem?_eq_some_iff.1 hz).2] at h2
            omega
          obtain ⟨_, _, _, _, j1, j2, _⟩ := good_of hg
          obtain ⟨a3, s3, p3, q3, c3, e3, u0, u1, u2, u3⟩ := ih m a2 s2 (putZ p i.toNat b.1) (putZ q i.toNat b.2) (by omega) (by omega) (by omega) (by rw [putZ_len hk, putZ_len (by omega)]; omega) (by rw [putZ_len hk]; omega)
            (hr p b.1 hp b3 (small b.1 j1 (by omega)) (by omega) (by omega)) (hr q b.2 hq b4 (small b.2 j2 (by omega)) (by omega) (by omega)) (by omega)
          exact ⟨_, _, _, _, _, e3, by omega, by omega, u2, u3⟩
        · rw [ile_f hs, cond_false]
          obtain ⟨a2, s2, p2, q2, c2, e2, u0, u1, u2, u3⟩ := ih m a1 s1 p q (by omega) (by omega) (by omega) hl hl2 hp' hq' (by omega)
          exact ⟨_, _, _, _, _, e2, by omega, by omega, u2, u3⟩
theorem patched_ok (w : Bytes x) (hf : 1000 < fu) : ∃ p a s, F_spec_l1Cur_patched fu x 0 0 = some (p, a, s) ∧ 0 ≤ a ∧ a ≤ 1000 ∧ Brief p := by
  unfold F_spec_l1Cur_patched
  obtain ⟨b, a1, s1, e1, g0, g1, hb⟩ := pair_ok (fu := fu) (seed := 0) (n := 3) (at' := 0) (by omega) (by omega) w (by omega) (by omega) hf
  rw [e1, bd_of]
  simp only
  rw [mePair_go hb hf, bd_of]
  cases hg : goodP b.1 b.2
  · rw [show bnot false = true from rfl, cond_true, bd_of, cond_true]
    exact ⟨_, _, _, rfl, by show (0 : Int) ≤ a1; omega, by show a1 ≤ 1000; omega, hb⟩
  · obtain ⟨o, a2, s2, e2, u0, u1⟩ := one_ok (fu := fu) (seed := s1) (n := 6) (at' := a1) w (by omega) (by omega)
    rw [show bnot true = false from rfl, cond_false, e2, bd_of, bd_of]
    cases o
    · rw [cond_false]
      simp only
      obtain ⟨i, a3, s3, e3, t0, t1, t2, t3⟩ := pick_ok (fu := fu) (seed := s2) (n := 4) (at' := a2) w (by omega) (by omega)
      rw [e3, bd_of]
      simp only
      obtain ⟨b1, b2, b3, b4, j1, j2, _⟩ := good_of hg
      have low2 : ∀ r : List Int, Joint r → r.length ≤ 12 → ∀ v ∈ r, 0 ≤ v ∧ v ≤ 1000 - 12 * (i.toNat : Int) := fun r hj hn v hv => by
        obtain ⟨z, hz⟩ := List.getElem?_of_mem hv
        have hlt := (List.getElem?_eq_some_iff.1 hz).1
        have h2 := hj z hlt
        rw [gat_nat hlt, (List.getElem?_eq_some_iff.1 hz).2] at h2
        omega
      obtain ⟨a4, s4, p4, q4, c4, e4, v0, v1, v2, v3⟩ := patch_L (fu := fu) w hf i.toNat fu a3 s3 b.1 b.2 (by omega) (by omega) (by omega) b1 b2 (low2 _ j1 b2) (low2 _ j2 (by omega)) (by omega)
      rw [show ((i.toNat : Nat) : Int) = i by omega] at e4
      rw [e4, bd_of]
      exact ⟨_, _, _, rfl, by show (0 : Int) ≤ a4; omega, by show a4 ≤ 1000; omega, by show p4.length ≤ 14; omega, by show q4.length ≤ 14; omega⟩
    · rw [cond_true]
      exact ⟨_, _, _, rfl, by show (0 : Int) ≤ a2; omega, by show a2 ≤ 1000; omega, hb⟩
end
end Go.Proofs.Ytbckijeffiofdaa.AL
