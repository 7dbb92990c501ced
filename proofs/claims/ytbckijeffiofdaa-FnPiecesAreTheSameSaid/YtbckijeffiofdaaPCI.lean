/- The law CutsAndInserts. No condition. -/
import Derived.Test.YtbckijeffiofdaaPAD
import Derived.Test.YtbckijeffiofdaaG1
import Derived.Test.YtbckijeffiofdaaG2
import Derived.Test.YtbckijeffiofdaaG3
import Derived.Test.YtbckijeffiofdaaG4
import Derived.Test.YtbckijeffiofdaaG5
import Derived.Test.YtbckijeffiofdaaG6
import Derived.Test.YtbckijeffiofdaaG7
import Derived.Test.YtbckijeffiofdaaG8
import Derived.Test.YtbckijeffiofdaaG9
import Derived.Test.YtbckijeffiofdaaG10
import Derived.Test.YtbckijeffiofdaaG11
import Derived.Test.YtbckijeffiofdaaG12
import Derived.Test.YtbckijeffiofdaaG13
import Derived.Test.YtbckijeffiofdaaG14
import Derived.Test.YtbckijeffiofdaaG15
import Derived.Test.YtbckijeffiofdaaG16
import Derived.Test.YtbckijeffiofdaaG17
import Derived.Test.YtbckijeffiofdaaG18
import Derived.Test.YtbckijeffiofdaaG19
import Derived.KernelRfl
namespace Go.Proofs.Ytbckijeffiofdaa.AL
open Go Go.Proofs.Ytbckijeffiofdaa.Arch
set_option linter.unusedVariables false
set_option linter.unusedSimpArgs false
set_option maxRecDepth 100000
section
variable {fu : Nat} {p q : List Int} {i j : Int}
theorem ySame_L {xs : List Int} (hx : xs.length ≤ 4294967296) : ∀ (d k n : Nat), k + d = xs.length → d < n → F_laws_ySame_L1 fu xs xs (xs.length : Int) n (k : Int) = some (.brk (xs.length : Int)) := by
  intro d
  induction d with
  | zero =>
    intro k n hk hn
    cases n with
    | zero => omega
    | succ n =>
      have : k = xs.length := by omega
      subst this
      simp only [F_laws_ySame_L1]
      rw [ilt_f (by omega), cond_false]
  | succ d ih =>
    intro k n hk hn
    cases n with
    | zero => omega
    | succ n =>
      simp only [F_laws_ySame_L1]
      rw [ilt_t (by omega), cond_true, gd_t (inL_nat (by omega)), gd_t (inL_nat (by omega)), ine_f rfl, cond_false, iadd_id (by omega) (by omega)]
      exact ih (k + 1) n (by omega) (by omega)
theorem ySame_eq {xs : List Int} (hx : xs.length ≤ 4294967296) (hf : xs.length < fu) : F_laws_ySame fu xs xs = some true := by
  unfold F_laws_ySame
  have h := ySame_L (fu := fu) hx xs.length 0 fu (by omega) hf
  rw [Int.natCast_zero] at h
  rw [ine_f rfl, cond_false]
  simp only [llen]
  rw [h]
  rfl
theorem yPair_eq {x : PL} (h1 : x.1.length ≤ 100) (h2 : x.2.length ≤ 100) (hf : 1000 < fu) : F_laws_yPair fu x.1 x.2 x.1 x.2 = some true := by
  unfold F_laws_yPair
  rw [ySame_eq (by omega) (by omega), bd_of, cond_true, ySame_eq (by omega) (by omega), bd_of]
theorem closed_L (h0 : 0 ≤ i) (hj : j < p.length) (hq : p.length = q.length) (hl : p.length ≤ 1000) (hs : Shut p i j) (ht : Shut q i j) : ∀ (d n : Nat) (k : Int), k + (d : Int) = j + 1 → d < n → i ≤ k → ∃ y, F_spec_siClosed_L1 fu i j p q n k = some (.brk y) := by
  intro d
  induction d with
  | zero =>
    intro n k hk hn hi
    cases n with
    | zero => omega
    | succ n =>
      simp only [F_spec_siClosed_L1]
      rw [ile_f (by omega), cond_false]
      exact ⟨k, rfl⟩
  | succ d ih =>
    intro n k hk hn hi
    cases n with
    | zero => omega
    | succ n =>
      have s1 := hs k (by omega) (by omega)
      have s2 := ht k (by omega) (by omega)
      simp only [F_spec_siClosed_L1, l1In_eq, bd_of]
      rw [ile_t (by omega), cond_true, gd_t (inL_mk (by omega) (by omega)), show (decide (i ≤ gat 0 p k) && decide (gat 0 p k ≤ j)) = true by simp [s1], show bnot true = false from rfl, cond_false, gd_t (inL_mk (by omega) (by omega)), bd_of, show (decide (i ≤ gat 0 q k) && decide (gat 0 q k ≤ j)) = true by simp [s2], show bnot true = false from rfl, cond_false, iadd_id (by omega) (by omega)]
      exact ih n (k + 1) (by omega) (by omega) (by omega)
theorem closed_true (h0 : 0 ≤ i) (hij : i ≤ j) (hj : j < p.length) (hq : p.length = q.length) (hl : p.length ≤ 1000) (hf : 2000 < fu) (hs : Shut p i j) (ht : Shut q i j) : F_spec_siClosed fu p q i j = some true := by
  obtain ⟨y, e⟩ := closed_L (fu := fu) h0 hj hq hl hs ht (j + 1 - i).toNat fu i (by omega) (by omega) (by omega)
  unfold F_spec_siClosed
  rw [e]
  rfl
end
section
variable {p q : List Int} {x : List Int}
theorem good_mk (hp : ArcS p) (hq : ArcS q) (hl : p.length = q.length) (hn : p.length ≤ 12) : goodP p q = true := by
  simp only [goodP, sysB, Bool.and_eq_true, decide_eq_true_eq]
  exact ⟨⟨⟨hn, (arcB_iff p).2 hp⟩, by omega, (arcB_iff q).2 hq⟩, hl⟩
theorem compOf (hg : goodP p q = true) : F_impl_ComponentsOf 2000000 p q = some (((compN p q : Nat) : Int), true) ∧ compN p q ≤ 12 := by
  obtain ⟨g1, g2, g3, g4, g5, g6, g7, g8⟩ := good_of hg
  have hB : Brief (p, q) := ⟨by show p.length ≤ 14; omega, by show q.length ≤ 14; omega⟩
  unfold F_impl_ComponentsOf
  rw [IsPair_go hB (by omega), bd_of, hg, show bnot true = false from rfl, cond_false, comp_eq ⟨g7, g8, by omega⟩ (by omega), bd_of]
  refine ⟨rfl, ?_⟩
  have := List.length_filter_le (fun i => leastB p q i) (List.range p.length)
  unfold compN
  simp at this
  omega
theorem bne_s (b : Bool) : bne' b b = false := by cases b <;> rfl
theorem ine_s (a : Int) : ine a a = false := ine_f rfl
theorem arc_two {r : List Int} (h : ArcS r) (h0 : 0 < r.length) : 2 ≤ r.length := by
  have a := ArcS.lo' h 0 (by omega) (by omega)
  have b := ArcS.hi' h 0 (by omega) (by omega)
  have c := ArcS.ne' h 0 (by omega) (by omega)
  omega
end
end Go.Proofs.Ytbckijeffiofdaa.AL
