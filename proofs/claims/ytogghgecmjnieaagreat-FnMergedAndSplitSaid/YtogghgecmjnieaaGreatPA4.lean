/- All systems of at most six arches, told one by one. No condition. -/
import Derived.Test.YtogghgecmjnieaaGreatPA3
import Derived.KernelRfl
namespace Go.Proofs.YtogghgecmjnieaaGreat.AL
open Go Go.Proofs.YtogghgecmjnieaaGreat.Arch
set_option linter.unusedVariables false
set_option linter.unusedSimpArgs false
set_option maxRecDepth 100000
def bld : List Bool → Nat → List Nat → List Int → List Int
 | [], _, _, out => out
 | true :: bs, i, O, out => bld bs (i + 1) (i :: O) out
 | false :: bs, i, [], out => bld bs (i + 1) [] out
 | false :: bs, i, j :: O, out => bld bs (i + 1) O ((out.set i (j : Int)).set j (i : Int))
def bitsOf (p : List Int) : Nat → Nat → List Bool
 | _, 0 => []
 | i, d + 1 => decide (gat 0 p i > i) :: bitsOf p (i + 1) d
theorem gat_set {xs : List Int} {j : Nat} {x : Int} {k : Int} (h : j < xs.length) (hk : 0 ≤ k) : gat 0 (xs.set j x) k = if k = (j : Int) then x else gat 0 xs k := by
 rw [gat_eq, gat_eq, List.getD_eq_getElem?_getD, List.getD_eq_getElem?_getD, List.getElem?_set]
 by_cases e : k = (j : Int)
 ·subst e
  simp [h]
 ·have : ¬ j = k.toNat := by omega
  simp [e, this]
theorem bld_eq {p : List Int} (s : ArcS p) : ∀ (d i : Nat) (O : List Nat) (out : List Int), i + d = p.length → out.length = p.length → O.map (fun j : Nat => (j : Int)) = openAt p i i →
  (∀ k : Int, 0 ≤ k → k < p.length → (k < i ∧ gat 0 p k < i) → gat 0 out k = gat 0 p k) → bld (bitsOf p i d) i O out = p := by
 intro d
 induction d with
 | zero =>
  intro i O out hi hl hO ho
  have : i = p.length := by omega
  subst this
  simp only [bitsOf, bld]
  refine List.ext_getElem? fun k => ?_
  by_cases hk : k < p.length
  ·have h := ho (k : Int) (by omega) (by omega) ⟨by omega, ArcS.hi' s _ (by omega) (by omega)⟩
   rw [gat_nat (by omega), gat_nat hk] at h
   rw [List.getElem?_eq_getElem (by omega), List.getElem?_eq_getElem hk, h]
  ·rw [List.getElem?_eq_none (by omega), List.getElem?_eq_none (by omega)]
 | succ d ih =>
  intro i O out hi hl hO ho
  have hlo := ArcS.lo' s i (by omega) (by omega)
  have hhi := ArcS.hi' s i (by omega) (by omega)
  have hne := ArcS.ne' s i (by omega) (by omega)
  have hin := ArcS.inv' s i (by omega) (by omega)
  simp only [bitsOf]
  by_cases c : gat 0 p i > i
  ·rw [show decide (gat 0 p (i : Int) > (i : Int)) = true by simp; omega]
   simp only [bld]
   refine ih (i + 1) (i :: O) out (by omega) hl ?_ fun k h0 h1 h2 => ?_
   ·have e : openAt p ((i + 1 : Nat) : Int) (i + 1) = (i : Int) :: openAt p i i := by
     rw [openAt_cons _ _ _ (show gat 0 p (i : Int) ≥ ((i + 1 : Nat) : Int) by omega)]
     congr 1
     have := openAt_raise p i i (fun a h0 h1 h2 => by
      have := ArcS.inv' s a h0 (by omega)
      have h2' : gat 0 p a = i := h2
      rw [h2'] at this
      omega)
     exact this
    rw [e, List.map_cons, hO]
   ·refine ho k h0 h1 ⟨?_, ?_⟩
    ·by_cases e : k = i
     ·subst e; omega
     ·omega
    ·by_cases e : gat 0 p k = i
     ·have := ArcS.inv' s k h0 h1
      rw [e] at this
      omega
     ·omega
  ·rw [show decide (gat 0 p (i : Int) > (i : Int)) = false by simp; omega]
   have hv : gt p (gt p i) = i := hin
   have e := openAt_head p i (gt p i) hv hlo i (show gat 0 p i < i by omega) (fun a h1 h2 h3 => by
     have h1' : gat 0 p i < a := h1
     have h3' : gat 0 p a ≥ i := h3
     have h4' := ArcS.cr' s (gat 0 p i) a hlo hhi h1' (by rw [hin]; omega)
     have h5 := ArcS.inv' s a (by omega) (by omega)
     rw [hin] at h4'
     have : gat 0 p a = i := by omega
     rw [this] at h5
     omega) (fun a h0 h1 h2 => by
     have h2' : gat 0 p a = i := h2
     have := ArcS.inv' s a h0 (by omega)
     rw [h2'] at this
     exact this.symm)
   have e2 : openAt p ((i + 1 : Nat) : Int) (i + 1) = openAt p ((i : Int) + 1) i := openAt_skip _ _ _ (show ¬ gat 0 p (i : Int) ≥ ((i + 1 : Nat) : Int) by omega)
   rw [e] at hO
   cases O with
   | nil => simp at hO
   | cons j O =>
    simp only [List.map_cons, List.cons.injEq] at hO
    have hj : (j : Int) = gat 0 p i := hO.1
    simp only [bld]
    refine ih (i + 1) O _ (by omega) (by simp [hl]) (by rw [hO.2, e2]) fun k h0 h1 h2 => ?_
    rw [gat_set (by simp; omega) h0, gat_set (by omega) h0]
    by_cases k1 : k = (j : Int)
    ·rw [if_pos k1, k1, hj, hin]
    ·rw [if_neg k1]
     by_cases k2 : k = (i : Int)
     ·rw [if_pos k2, k2, hj]
     ·rw [if_neg k2]
      refine ho k h0 h1 ⟨by omega, ?_⟩
      by_cases e : gat 0 p k = i
      ·have := ArcS.inv' s k h0 h1
       rw [e] at this
       omega
      ·omega
def allBits : Nat → List (List Bool)
 | 0 => [[]]
 | n + 1 => (allBits n).flatMap fun b => [true :: b, false :: b]
theorem mem_allBits : ∀ (b : List Bool), b ∈ allBits b.length
 | [] => by simp [allBits]
 | x :: b => by
  simp only [allBits, List.length_cons, List.mem_flatMap]
  exact ⟨b, mem_allBits b, by cases x <;> simp⟩
theorem bits_len {p : List Int} : ∀ (d i : Nat), (bitsOf p i d).length = d
 | 0, i => rfl
 | d + 1, i => by simp [bitsOf, bits_len d (i + 1)]
def dyck : List Bool → Nat → Bool
 | [], o => o == 0
 | true :: bs, o => dyck bs (o + 1)
 | false :: _, 0 => false
 | false :: bs, o + 1 => dyck bs o
theorem dyck_of {p : List Int} (s : ArcS p) : ∀ (d i : Nat) (o : Nat), i + d = p.length → o = (openAt p i i).length → dyck (bitsOf p i d) o = true := by
 intro d
 induction d with
 | zero =>
  intro i o hi ho
  have : i = p.length := by omega
  subst this
  have h2 : openAt p p.length p.length = [] := by
   cases e : openAt p p.length p.length with
   | nil => rfl
   | cons a l =>
    have : a ∈ openAt p p.length p.length := by rw [e]; exact List.mem_cons_self
    rw [mem_openAt] at this
    have := s.hi a this.1 this.2.1
    omega
  rw [h2] at ho
  subst ho
  rfl
 | succ d ih =>
  intro i o hi ho
  have hlo := ArcS.lo' s i (by omega) (by omega)
  have hhi := ArcS.hi' s i (by omega) (by omega)
  have hne := ArcS.ne' s i (by omega) (by omega)
  have hin := ArcS.inv' s i (by omega) (by omega)
  simp only [bitsOf]
  by_cases c : gat 0 p i > i
  ·rw [show decide (gat 0 p (i : Int) > (i : Int)) = true by simp; omega]
   simp only [dyck]
   refine ih (i + 1) (o + 1) (by omega) ?_
   have e : openAt p ((i + 1 : Nat) : Int) (i + 1) = (i : Int) :: openAt p i i := by
    rw [openAt_cons _ _ _ (show gat 0 p (i : Int) ≥ ((i + 1 : Nat) : Int) by omega)]
    congr 1
    have := openAt_raise p i i (fun a h0 h1 h2 => by
     have := ArcS.inv' s a h0 (by omega)
     have h2' : gat 0 p a = i := h2
     rw [h2'] at this
     omega)
    exact this
   rw [e, List.length_cons, ← ho]
  ·rw [show decide (gat 0 p (i : Int) > (i : Int)) = false by simp; omega]
   have hv : gt p (gt p i) = i := hin
   have e := openAt_head p i (gt p i) hv hlo i (show gat 0 p i < i by omega) (fun a h1 h2 h3 => by
     have h1' : gat 0 p i < a := h1
     have h3' : gat 0 p a ≥ i := h3
     have h4' := ArcS.cr' s (gat 0 p i) a hlo hhi h1' (by rw [hin]; omega)
     have h5 := ArcS.inv' s a (by omega) (by omega)
     rw [hin] at h4'
     have : gat 0 p a = i := by omega
     rw [this] at h5
     omega) (fun a h0 h1 h2 => by
     have h2' : gat 0 p a = i := h2
     have := ArcS.inv' s a h0 (by omega)
     rw [h2'] at this
     exact this.symm)
   have e2 : openAt p ((i + 1 : Nat) : Int) (i + 1) = openAt p ((i : Int) + 1) i := openAt_skip _ _ _ (show ¬ gat 0 p (i : Int) ≥ ((i + 1 : Nat) : Int) by omega)
   rw [e, List.length_cons] at ho
   subst ho
   simp only [dyck]
   exact ih (i + 1) _ (by omega) (by rw [e2])
def sysN (n : Nat) : List (List Int) := ((allBits n).filter fun b => dyck b 0).map fun b => bld b 0 [] (List.replicate n 0)
theorem mem_sysN {p : List Int} (h : sysB p = true) : p.length ≤ 12 ∧ p.length % 2 = 0 ∧ p ∈ sysN p.length := by
 unfold sysB at h
 rw [Bool.and_eq_true, decide_eq_true_eq] at h
 have s := (arcB_iff p).1 h.2
 refine ⟨h.1, even_of_sys s, ?_⟩
 have e := bld_eq s p.length 0 [] (List.replicate p.length 0) (by omega) (by simp) (by simp [openAt]) (fun k _ _ h2 => by omega)
 unfold sysN
 rw [List.mem_map]
 refine ⟨bitsOf p 0 p.length, List.mem_filter.2 ⟨?_, dyck_of s p.length 0 0 (by omega) (by simp [openAt])⟩, e⟩
 have := mem_allBits (bitsOf p 0 p.length)
 rwa [bits_len] at this
theorem sys_lens {p : List Int} (hp : sysB p = true) : p.length = 0 ∨ p.length = 2 ∨ p.length = 4 ∨ p.length = 6 ∨ p.length = 8 ∨ p.length = 10 ∨ p.length = 12 := by
 obtain ⟨h1, h2, h3⟩ := mem_sysN hp
 omega
end Go.Proofs.YtogghgecmjnieaaGreat.AL
