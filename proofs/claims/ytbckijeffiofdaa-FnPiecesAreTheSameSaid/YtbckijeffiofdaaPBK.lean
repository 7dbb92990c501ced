/- What is cut out and put back, and what is put in and cut out. No condition. -/
import Derived.Test.YtbckijeffiofdaaPDT
import Derived.KernelRfl
namespace Go.Proofs.Ytbckijeffiofdaa.AL
open Go Go.Proofs.Ytbckijeffiofdaa.Arch
set_option linter.unusedVariables false
set_option linter.unusedSimpArgs false
set_option maxRecDepth 100000
section
variable {p q : List Int} {k I J : Nat}
theorem gat_some {l : List Int} {i : Nat} {v : Int} (h : l[i]? = some v) : gat 0 l (i : Int) = v := by
  rw [gat_eq, Int.toNat_natCast, List.getD_eq_getElem?_getD, h]
  rfl
theorem some_gat {l : List Int} {i : Nat} (h : i < l.length) : l[i]? = some (gat 0 l (i : Int)) := by
  rw [gat_nat h, List.getElem?_eq_getElem h]
theorem inn_get (hIJ : I ≤ J) {z : Nat} (hz : z < J + 1 - I) : gat 0 (innL p I J) (z : Int) = gat 0 p ((I + z : Nat) : Int) - (I : Int) := by
  refine gat_some ?_
  unfold innL
  simp [hz]
theorem arc_inn (hIJ : I ≤ J) (hJ : J < p.length) (hs : Shut p I J) (hp : ArcS p) : ArcS (innL p I J) := by
  have hil : (innL p I J).length = J + 1 - I := innL_len hIJ
  have G (i : Int) (h0 : 0 ≤ i) (h1 : i < (innL p I J).length) : gat 0 (innL p I J) i = gat 0 p (I + i) - I := by
    have := inn_get (p := p) hIJ (z := i.toNat) (by omega)
    rw [show ((i.toNat : Nat) : Int) = i by omega, show ((I + i.toNat : Nat) : Int) = (I : Int) + i by omega] at this
    exact this
  have R (i : Int) (h0 : 0 ≤ i) (h1 : i < (innL p I J).length) : 0 ≤ gat 0 (innL p I J) i ∧ gat 0 (innL p I J) i < (innL p I J).length := by
    have := hs (I + i) (by omega) (by omega)
    rw [G i h0 h1]
    omega
  refine ⟨fun i h0 h1 => (R i h0 h1).1, fun i h0 h1 => (R i h0 h1).2, fun i h0 h1 => ?_, fun i h0 h1 => ?_, fun a b h0 h1 h2 h3 => ?_⟩
  · show gat 0 (innL p I J) i ≠ i
    have := ArcS.ne' hp (I + i) (by omega) (by omega)
    rw [G i h0 h1]
    omega
  · show gat 0 (innL p I J) (gat 0 (innL p I J) i) = i
    obtain ⟨r0, r1⟩ := R i h0 h1
    rw [G _ r0 r1, G i h0 h1, show (I : Int) + (gat 0 p (I + i) - I) = gat 0 p (I + i) by omega, ArcS.inv' hp (I + i) (by omega) (by omega)]
    omega
  · have h3 : b < gat 0 (innL p I J) a := h3
    show a ≤ gat 0 (innL p I J) b ∧ gat 0 (innL p I J) b ≤ gat 0 (innL p I J) a
    have := R a h0 h1
    rw [G a h0 h1] at h3 this ⊢
    rw [G b (by omega) (by omega)]
    have := ArcS.cr' hp (I + a) (I + b) (by omega) (by omega) (by omega) (by omega)
    omega
theorem arc_out (hIJ : I ≤ J) (hJ : J < p.length) (hs : Shut p I J) (hp : ArcS p) : ArcS (outL p I J) := by
  have hol := outL_len hIJ hJ
  have hr := sys_joint hp
  have U (z : Nat) (hz : z < (outL p I J).length) : up I J z < p.length ∧ gat 0 (outL p I J) (z : Int) = dn I J (gat 0 p ((up I J z : Nat) : Int)) ∧ ¬ ((I : Int) ≤ gat 0 p ((up I J z : Nat) : Int) ∧ gat 0 p ((up I J z : Nat) : Int) ≤ (J : Int)) := by
    have hlt : up I J z < p.length := by unfold up; split <;> omega
    exact ⟨hlt, outL_get hIJ hJ (by omega), out_of hs hr hlt (by unfold up inN; split <;> simp <;> omega)⟩
  have D (v : Int) (h0 : 0 ≤ v) (hn : ¬ ((I : Int) ≤ v ∧ v ≤ (J : Int))) : 0 ≤ dn I J v ∧ ((up I J (dn I J v).toNat : Nat) : Int) = v := by
    unfold dn up
    split <;> split <;> omega
  have R (z : Nat) (hz : z < (outL p I J).length) : 0 ≤ gat 0 (outL p I J) (z : Int) ∧ gat 0 (outL p I J) (z : Int) < (outL p I J).length ∧ ((up I J (gat 0 (outL p I J) (z : Int)).toNat : Nat) : Int) = gat 0 p ((up I J z : Nat) : Int) := by
    obtain ⟨u1, u2, u3⟩ := U z hz
    have j := hr _ u1
    obtain ⟨d1, d2⟩ := D _ j.1 u3
    rw [u2]
    refine ⟨d1, ?_, d2⟩
    unfold dn
    split <;> omega
  have mono (a b : Nat) : a < b ↔ up I J a < up I J b := by unfold up; split <;> split <;> omega
  have N (i : Int) (h0 : 0 ≤ i) (h1 : i < (outL p I J).length) : i = ((i.toNat : Nat) : Int) ∧ i.toNat < (outL p I J).length := ⟨by omega, by omega⟩
  refine ⟨fun i h0 h1 => ?_, fun i h0 h1 => ?_, fun i h0 h1 => ?_, fun i h0 h1 => ?_, fun a b h0 h1 h2 h3 => ?_⟩
  · have := R _ (N i h0 h1).2
    rw [← (N i h0 h1).1] at this
    exact this.1
  · have := R _ (N i h0 h1).2
    rw [← (N i h0 h1).1] at this
    exact this.2.1
  · show gat 0 (outL p I J) i ≠ i
    obtain ⟨e, hz⟩ := N i h0 h1
    obtain ⟨r0, r1, r2⟩ := R _ hz
    have := ArcS.ne' hp ((up I J i.toNat : Nat) : Int) (by omega) (by have := (U _ hz).1; omega)
    intro h
    rw [← e, h] at r2
    exact this r2.symm
  · show gat 0 (outL p I J) (gat 0 (outL p I J) i) = i
    obtain ⟨e, hz⟩ := N i h0 h1
    obtain ⟨r0, r1, r2⟩ := R _ hz
    rw [← e] at r0 r1 r2
    obtain ⟨e2, hz2⟩ := N _ r0 r1
    obtain ⟨s0, s1, s2⟩ := R _ hz2
    rw [← e2] at s0 s1 s2
    rw [r2, ArcS.inv' hp _ (by omega) (by have := (U _ hz).1; omega)] at s2
    have s3 : up I J (gat 0 (outL p I J) (gat 0 (outL p I J) i)).toNat = up I J i.toNat := by omega
    have := mono (gat 0 (outL p I J) (gat 0 (outL p I J) i)).toNat i.toNat
    have := mono i.toNat (gat 0 (outL p I J) (gat 0 (outL p I J) i)).toNat
    omega
  · have h3 : b < gat 0 (outL p I J) a := h3
    show a ≤ gat 0 (outL p I J) b ∧ gat 0 (outL p I J) b ≤ gat 0 (outL p I J) a
    obtain ⟨ea, ha⟩ := N a h0 h1
    obtain ⟨r0, r1, r2⟩ := R _ ha
    rw [← ea] at r0 r1 r2
    obtain ⟨eb, hb⟩ := N b (by omega) (by omega)
    obtain ⟨s0, s1, s2⟩ := R _ hb
    rw [← eb] at s0 s1 s2
    have m1 := mono a.toNat b.toNat
    have m2 := mono b.toNat (gat 0 (outL p I J) a).toNat
    have ua := (U _ ha).1
    obtain ⟨c1, c2⟩ := ArcS.cr' hp ((up I J a.toNat : Nat) : Int) ((up I J b.toNat : Nat) : Int) (by omega) (by omega) (by omega) (by omega)
    have m3 := mono (gat 0 (outL p I J) b).toNat a.toNat
    have m4 := mono (gat 0 (outL p I J) a).toNat (gat 0 (outL p I J) b).toNat
    omega
end
end Go.Proofs.Ytbckijeffiofdaa.AL
