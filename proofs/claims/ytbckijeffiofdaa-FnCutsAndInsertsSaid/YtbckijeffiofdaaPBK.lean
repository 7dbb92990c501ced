/- What is cut out and put back, and what is put in and cut out. No condition. -/
import Derived.Test.YtbckijeffiofdaaPDT
import Derived.KernelRfl
namespace Go.Proofs.Ytbckijeffiofdaa.AL
open Go Go.Proofs.Ytbckijeffiofdaa.Arch
set_option linter.unusedVariables false
set_option linter.unusedSimpArgs false
set_option maxRecDepth 100000
section
variable {p q : List Int} {k I J : Nat}
theorem gat_some {l : List Int} {i : Nat} {v : Int} (h : l[i]? = some v) : gat 0 l (i : Int) = v := by
  rw [gat_eq, Int.toNat_natCast, List.getD_eq_getElem?_getD, h]
  rfl
theorem some_gat {l : List Int} {i : Nat} (h : i < l.length) : l[i]? = some (gat 0 l (i : Int)) := by
  rw [gat_nat h, List.getElem?_eq_getElem h]
theorem putZ_ins (hk : k ≤ p.length) {z : Nat} (hz : z < p.length) : gat 0 (putZ p k q) ((insN k q.length z : Nat) : Int) = insV k q.length (gat 0 p (z : Int)) := by
  refine gat_some ?_
  unfold putZ insN
  by_cases c : k ≤ z
  · rw [if_pos c, List.getElem?_append_right (by simp; omega)]
    simp [show min k p.length = k by omega]
    rw [List.getElem?_eq_getElem (by omega), gat_nat hz]
    simp [show k + (z + q.length - (k + q.length)) = z by omega]
  · rw [if_neg c, List.append_assoc, List.getElem?_append_left (by simp; omega)]
    rw [gat_nat hz]
    simp [List.getElem?_take, show z < k by omega, hz]
theorem putZ_in (hk : k ≤ p.length) {z : Nat} (hz : z < q.length) : gat 0 (putZ p k q) ((k + z : Nat) : Int) = gat 0 q (z : Int) + (k : Int) := by
  refine gat_some ?_
  unfold putZ
  rw [List.getElem?_append_left (by simp; omega), List.getElem?_append_right (by simp; omega), gat_nat hz]
  simp [show min k p.length = k by omega, hz]
theorem putZ_cases (hk : k ≤ p.length) {i : Nat} (hi : i < (putZ p k q).length) : (∃ z, z < p.length ∧ i = insN k q.length z) ∨ ∃ z, z < q.length ∧ i = k + z := by
  rw [putZ_len hk] at hi
  unfold insN
  by_cases a : i < k
  · exact .inl ⟨i, by omega, by rw [if_neg (by omega)]⟩
  · by_cases b : i < k + q.length
    · exact .inr ⟨i - k, by omega, by omega⟩
    · exact .inl ⟨i - q.length, by omega, by rw [if_pos (by omega)]; omega⟩
theorem insV_of {m : Nat} {v : Int} (h : 0 ≤ v) : insV k m v = ((insN k m v.toNat : Nat) : Int) := by
  have := insV_nat (k := k) (m := m) (y := v.toNat)
  rw [show ((v.toNat : Nat) : Int) = v by omega] at this
  exact this
theorem put_back (hIJ : I ≤ J) (hJ : J < p.length) (hs : Shut p I J) (hr : Joint p) : putZ (outL p I J) I (innL p I J) = p := by
  have hil : (innL p I J).length = J + 1 - I := innL_len hIJ
  have hol := outL_len hIJ hJ
  refine (putZ_get (by rw [hol]; omega) (by rw [hil, hol]; omega) (fun z hz => ?_) (fun z hz => ?_)).symm
  · rw [hol] at hz
    rw [hil, outL_get hIJ hJ hz]
    have hu : insN I (J + 1 - I) z = up I J z := by unfold insN up; split <;> split <;> omega
    have hlt : up I J z < p.length := by unfold up; split <;> omega
    have hno := out_of hs hr hlt (by unfold up inN; split <;> simp <;> omega)
    rw [hu, some_gat hlt]
    unfold insV dn
    have := hr _ hlt
    congr 1
    split <;> split <;> omega
  · rw [hil] at hz
    rw [some_gat (by omega)]
    unfold innL
    rw [gat_some (show ((List.range' I (J + 1 - I)).map fun x : Nat => gat 0 p (x : Int) - (I : Int))[z]? = some (gat 0 p ((I + z : Nat) : Int) - (I : Int)) by simp [hz])]
    congr 1
    omega
theorem shut_put (hk : k ≤ p.length) (hq : 0 < q.length) (hj : Joint q) : Shut (putZ p k q) (k : Int) ((k + q.length - 1 : Nat) : Int) := fun x h0 h1 => by
  have e : x = ((k + (x.toNat - k) : Nat) : Int) := by omega
  have hz : x.toNat - k < q.length := by omega
  have := hj _ hz
  rw [e, putZ_in hk hz]
  omega
theorem inn_put (hk : k ≤ p.length) (hq : 0 < q.length) : innL (putZ p k q) k (k + q.length - 1) = q := by
  unfold innL
  refine List.ext_getElem? fun i => ?_
  by_cases h : i < q.length
  · rw [some_gat h]
    simp [show i < k + q.length - 1 + 1 - k by omega]
    have := putZ_in (p := p) (q := q) hk h
    rw [show ((k + i : Nat) : Int) = (k : Int) + (i : Int) by omega] at this
    omega
  · rw [List.getElem?_eq_none (by simp; omega), List.getElem?_eq_none (by omega)]
theorem out_put (hk : k ≤ p.length) (hq : 0 < q.length) (hj : Joint p) : outL (putZ p k q) k (k + q.length - 1) = p := by
  have hl : (putZ p k q).length = p.length + q.length := putZ_len hk
  have hol : (outL (putZ p k q) k (k + q.length - 1)).length = p.length := by rw [outL_len (by omega) (by omega), hl]; omega
  refine List.ext_getElem? fun i => ?_
  by_cases h : i < p.length
  · rw [some_gat h, some_gat (by rw [hol]; exact h), outL_get (by omega) (by omega) (by omega)]
    have hu : up k (k + q.length - 1) i = insN k q.length i := by unfold insN up; split <;> split <;> omega
    have := hj i h
    rw [hu, putZ_ins hk h]
    unfold insV dn
    congr 1
    split <;> split <;> omega
  · rw [List.getElem?_eq_none (by rw [hol]; omega), List.getElem?_eq_none (by omega)]
theorem arc_put (hk : k ≤ p.length) (hp : ArcS p) (hq : ArcS q) : ArcS (putZ p k q) := by
  have hl : (putZ p k q).length = p.length + q.length := putZ_len hk
  have P (z : Nat) (hz : z < p.length) : 0 ≤ gat 0 p (z : Int) ∧ gat 0 p (z : Int) < p.length ∧ gat 0 p (z : Int) ≠ z ∧ gat 0 p (gat 0 p (z : Int)) = z := ⟨ArcS.lo' hp z (by omega) (by omega), ArcS.hi' hp z (by omega) (by omega), ArcS.ne' hp z (by omega) (by omega), ArcS.inv' hp z (by omega) (by omega)⟩
  have Q (z : Nat) (hz : z < q.length) : 0 ≤ gat 0 q (z : Int) ∧ gat 0 q (z : Int) < q.length ∧ gat 0 q (z : Int) ≠ z ∧ gat 0 q (gat 0 q (z : Int)) = z := ⟨ArcS.lo' hq z (by omega) (by omega), ArcS.hi' hq z (by omega) (by omega), ArcS.ne' hq z (by omega) (by omega), ArcS.inv' hq z (by omega) (by omega)⟩
  have C (i : Int) (h0 : 0 ≤ i) (h1 : i < (putZ p k q).length) : (∃ z, z < p.length ∧ i = ((insN k q.length z : Nat) : Int)) ∨ ∃ z, z < q.length ∧ i = ((k + z : Nat) : Int) := by
    rcases putZ_cases (p := p) (q := q) (k := k) hk (i := i.toNat) (by omega) with ⟨z, a, b⟩ | ⟨z, a, b⟩
    · exact .inl ⟨z, a, by omega⟩
    · exact .inr ⟨z, a, by omega⟩
  have all (i : Int) (h0 : 0 ≤ i) (h1 : i < (putZ p k q).length) : 0 ≤ gat 0 (putZ p k q) i ∧ gat 0 (putZ p k q) i < (putZ p k q).length ∧ gat 0 (putZ p k q) i ≠ i ∧ gat 0 (putZ p k q) (gat 0 (putZ p k q) i) = i := by
    rcases C i h0 h1 with ⟨z, hz, rfl⟩ | ⟨z, hz, rfl⟩
    · obtain ⟨a, b, c, d⟩ := P z hz
      have hz2 : (gat 0 p (z : Int)).toNat < p.length := by omega
      have h2 := putZ_ins (q := q) hk hz2
      rw [show (((gat 0 p (z : Int)).toNat : Nat) : Int) = gat 0 p (z : Int) by omega, d] at h2
      rw [putZ_ins hk hz, insV_of a, h2, insV_nat, hl]
      refine ⟨by omega, ?_, ?_, rfl⟩
      · unfold insN
        split <;> omega
      · unfold insN
        split <;> split <;> omega
    · obtain ⟨a, b, c, d⟩ := Q z hz
      have hz2 : (gat 0 q (z : Int)).toNat < q.length := by omega
      have h2 := putZ_in (p := p) hk hz2
      rw [show ((k + (gat 0 q (z : Int)).toNat : Nat) : Int) = gat 0 q (z : Int) + k by omega, show (((gat 0 q (z : Int)).toNat : Nat) : Int) = gat 0 q (z : Int) by omega, d] at h2
      rw [putZ_in hk hz, h2, hl]
      refine ⟨by omega, by omega, by omega, by omega⟩
  refine ⟨fun i h0 h1 => (all i h0 h1).1, fun i h0 h1 => (all i h0 h1).2.1, fun i h0 h1 => (all i h0 h1).2.2.1, fun i h0 h1 => (all i h0 h1).2.2.2, fun a b h0 h1 h2 h3 => ?_⟩
  have h3 : b < gat 0 (putZ p k q) a := h3
  show a ≤ gat 0 (putZ p k q) b ∧ gat 0 (putZ p k q) b ≤ gat 0 (putZ p k q) a
  have hb := (all a h0 h1).2.1
  rcases C a h0 h1 with ⟨y, hy, rfl⟩ | ⟨y, hy, rfl⟩
  · obtain ⟨a1, a2, a3, a4⟩ := P y hy
    rw [putZ_ins hk hy] at h3 hb ⊢
    rcases C b (by omega) (by omega) with ⟨z, hz, rfl⟩ | ⟨z, hz, rfl⟩
    · obtain ⟨b1, b2, b3, b4⟩ := P z hz
      rw [putZ_ins hk hz]
      have e1 : (y : Int) < z := by unfold insN at h2; split at h2 <;> split at h2 <;> omega
      have e2 : (z : Int) < gat 0 p (y : Int) := by unfold insN at h3; unfold insV at h3; split at h3 <;> split at h3 <;> omega
      obtain ⟨c1, c2⟩ := ArcS.cr' hp y z (by omega) (by omega) e1 e2
      unfold insN insV
      constructor
      · split <;> split <;> omega
      · split <;> split <;> omega
    · obtain ⟨b1, b2, b3, b4⟩ := Q z hz
      rw [putZ_in hk hz]
      unfold insN at h2 ⊢
      unfold insV at h3 ⊢
      split at h2 <;> split at h3 <;> constructor <;> (try split) <;> omega
  · obtain ⟨a1, a2, a3, a4⟩ := Q y hy
    rw [putZ_in hk hy] at h3 hb ⊢
    have hz : b.toNat - k < q.length := by omega
    have e : b = ((k + (b.toNat - k) : Nat) : Int) := by omega
    rw [e] at h2 h3 ⊢
    rw [putZ_in hk hz]
    obtain ⟨c1, c2⟩ := ArcS.cr' hq y ((b.toNat - k : Nat) : Int) (by omega) (by omega) (by omega) (by omega)
    omega
theorem inn_get (hIJ : I ≤ J) {z : Nat} (hz : z < J + 1 - I) : gat 0 (innL p I J) (z : Int) = gat 0 p ((I + z : Nat) : Int) - (I : Int) := by
  refine gat_some ?_
  unfold innL
  simp [hz]
theorem arc_inn (hIJ : I ≤ J) (hJ : J < p.length) (hs : Shut p I J) (hp : ArcS p) : ArcS (innL p I J) := by
  have hil : (innL p I J).length = J + 1 - I := innL_len hIJ
  have G (i : Int) (h0 : 0 ≤ i) (h1 : i < (innL p I J).length) : gat 0 (innL p I J) i = gat 0 p (I + i) - I := by
    have := inn_get (p := p) hIJ (z := i.toNat) (by omega)
    rw [show ((i.toNat : Nat) : Int) = i by omega, show ((I + i.toNat : Nat) : Int) = (I : Int) + i by omega] at this
    exact this
  have R (i : Int) (h0 : 0 ≤ i) (h1 : i < (innL p I J).length) : 0 ≤ gat 0 (innL p I J) i ∧ gat 0 (innL p I J) i < (innL p I J).length := by
    have := hs (I + i) (by omega) (by omega)
    rw [G i h0 h1]
    omega
  refine ⟨fun i h0 h1 => (R i h0 h1).1, fun i h0 h1 => (R i h0 h1).2, fun i h0 h1 => ?_, fun i h0 h1 => ?_, fun a b h0 h1 h2 h3 => ?_⟩
  · show gat 0 (innL p I J) i ≠ i
    have := ArcS.ne' hp (I + i) (by omega) (by omega)
    rw [G i h0 h1]
    omega
  · show gat 0 (innL p I J) (gat 0 (innL p I J) i) = i
    obtain ⟨r0, r1⟩ := R i h0 h1
    rw [G _ r0 r1, G i h0 h1, show (I : Int) + (gat 0 p (I + i) - I) = gat 0 p (I + i) by omega, ArcS.inv' hp (I + i) (by omega) (by omega)]
    omega
  · have h3 : b < gat 0 (innL p I J) a := h3
    show a ≤ gat 0 (innL p I J) b ∧ gat 0 (innL p I J) b ≤ gat 0 (innL p I J) a
    have := R a h0 h1
    rw [G a h0 h1] at h3 this ⊢
    rw [G b (by omega) (by omega)]
    have := ArcS.cr' hp (I + a) (I + b) (by omega) (by omega) (by omega) (by omega)
    omega
theorem arc_out (hIJ : I ≤ J) (hJ : J < p.length) (hs : Shut p I J) (hp : ArcS p) : ArcS (outL p I J) := by
  have hol := outL_len hIJ hJ
  have hr := sys_joint hp
  have U (z : Nat) (hz : z < (outL p I J).length) : up I J z < p.length ∧ gat 0 (outL p I J) (z : Int) = dn I J (gat 0 p ((up I J z : Nat) : Int)) ∧ ¬ ((I : Int) ≤ gat 0 p ((up I J z : Nat) : Int) ∧ gat 0 p ((up I J z : Nat) : Int) ≤ (J : Int)) := by
    have hlt : up I J z < p.length := by unfold up; split <;> omega
    exact ⟨hlt, outL_get hIJ hJ (by omega), out_of hs hr hlt (by unfold up inN; split <;> simp <;> omega)⟩
  have D (v : Int) (h0 : 0 ≤ v) (hn : ¬ ((I : Int) ≤ v ∧ v ≤ (J : Int))) : 0 ≤ dn I J v ∧ ((up I J (dn I J v).toNat : Nat) : Int) = v := by
    unfold dn up
    split <;> split <;> omega
  have R (z : Nat) (hz : z < (outL p I J).length) : 0 ≤ gat 0 (outL p I J) (z : Int) ∧ gat 0 (outL p I J) (z : Int) < (outL p I J).length ∧ ((up I J (gat 0 (outL p I J) (z : Int)).toNat : Nat) : Int) = gat 0 p ((up I J z : Nat) : Int) := by
    obtain ⟨u1, u2, u3⟩ := U z hz
    have j := hr _ u1
    obtain ⟨d1, d2⟩ := D _ j.1 u3
    rw [u2]
    refine ⟨d1, ?_, d2⟩
    unfold dn
    split <;> omega
  have mono (a b : Nat) : a < b ↔ up I J a < up I J b := by unfold up; split <;> split <;> omega
  have N (i : Int) (h0 : 0 ≤ i) (h1 : i < (outL p I J).length) : i = ((i.toNat : Nat) : Int) ∧ i.toNat < (outL p I J).length := ⟨by omega, by omega⟩
  refine ⟨fun i h0 h1 => ?_, fun i h0 h1 => ?_, fun i h0 h1 => ?_, fun i h0 h1 => ?_, fun a b h0 h1 h2 h3 => ?_⟩
  · have := R _ (N i h0 h1).2
    rw [← (N i h0 h1).1] at this
    exact this.1
  · have := R _ (N i h0 h1).2
    rw [← (N i h0 h1).1] at this
    exact this.2.1
  · show gat 0 (outL p I J) i ≠ i
    obtain ⟨e, hz⟩ := N i h0 h1
    obtain ⟨r0, r1, r2⟩ := R _ hz
    have := ArcS.ne' hp ((up I J i.toNat : Nat) : Int) (by omega) (by have := (U _ hz).1; omega)
    intro h
    rw [← e, h] at r2
    exact this r2.symm
  · show gat 0 (outL p I J) (gat 0 (outL p I J) i) = i
    obtain ⟨e, hz⟩ := N i h0 h1
    obtain ⟨r0, r1, r2⟩ := R _ hz
    rw [← e] at r0 r1 r2
    obtain ⟨e2, hz2⟩ := N _ r0 r1
    obtain ⟨s0, s1, s2⟩ := R _ hz2
    rw [← e2] at s0 s1 s2
    rw [r2, ArcS.inv' hp _ (by omega) (by have := (U _ hz).1; omega)] at s2
    have s3 : up I J (gat 0 (outL p I J) (gat 0 (outL p I J) i)).toNat = up I J i.toNat := by omega
    have := mono (gat 0 (outL p I J) (gat 0 (outL p I J) i)).toNat i.toNat
    have := mono i.toNat (gat 0 (outL p I J) (gat 0 (outL p I J) i)).toNat
    omega
  · have h3 : b < gat 0 (outL p I J) a := h3
    show a ≤ gat 0 (outL p I J) b ∧ gat 0 (outL p I J) b ≤ gat 0 (outL p I J) a
    obtain ⟨ea, ha⟩ := N a h0 h1
    obtain ⟨r0, r1, r2⟩ := R _ ha
    rw [← ea] at r0 r1 r2
    obtain ⟨eb, hb⟩ := N b (by omega) (by omega)
    obtain ⟨s0, s1, s2⟩ := R _ hb
    rw [← eb] at s0 s1 s2
    have m1 := mono a.toNat b.toNat
    have m2 := mono b.toNat (gat 0 (outL p I J) a).toNat
    have ua := (U _ ha).1
    obtain ⟨c1, c2⟩ := ArcS.cr' hp ((up I J a.toNat : Nat) : Int) ((up I J b.toNat : Nat) : Int) (by omega) (by omega) (by omega) (by omega)
    have m3 := mono (gat 0 (outL p I J) b).toNat a.toNat
    have m4 := mono (gat 0 (outL p I J) a).toNat (gat 0 (outL p I J) b).toNat
    omega
end
end Go.Proofs.Ytbckijeffiofdaa.AL
