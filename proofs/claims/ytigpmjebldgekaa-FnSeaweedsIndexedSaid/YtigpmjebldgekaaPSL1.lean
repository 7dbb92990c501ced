/- Arcs of parts, as the program and as the reference tell them. No condition. -/
import Derived.Test.YtigpmjebldgekaaPS1
import Derived.Test.YtigpmjebldgekaaPSG
namespace Go.Proofs.Ytigpmjebldgekaa.AL
open Go
set_option linter.unusedVariables false
set_option linter.unusedSimpArgs false
def nats (l : List Nat) : List Int := l.map Int.ofNat
@[simp] theorem nats_len {l : List Nat} : (nats l).length = l.length := by simp [nats]
@[simp] theorem llen_nats {l : List Nat} : llen (nats l) = (l.length : Int) := by simp [llen]
theorem nats_get {l : List Nat} {k : Nat} (h : k < (nats l).length) : (nats l)[k] = ((l[k]'(by simpa using h) : Nat) : Int) := by simp [nats]
theorem gat_nats {l : List Nat} {k : Nat} (h : k < l.length) : gat 0 (nats l) (k : Int) = ((l[k] : Nat) : Int) := by rw [gat_nat (by simpa using h), nats_get]
theorem inL_nats {l : List Nat} {k : Nat} (h : k < l.length) : inL (nats l) (k : Int) := inL_nat (by simpa using h)
section
variable {fu : Nat}
theorem arc_el {f m k : Nat} (hk : k < m) (h : f + m ≤ 100000) : isub .i64 (isub .i64 (iadd .i64 (f : Int) (m : Int)) 1) (k : Int) = ((f + m - 1 - k : Nat) : Int) := by
  rw [iadd_id (by omega) (by omega), isub_id (b := 1) (by omega) (by omega), isub_id (by omega) (by omega)]
  omega
theorem arcsI_L2 {f m : Nat} {a : List Int} {b c : Int} (hm : f + m ≤ 100000) : ∀ (d k n : Nat) (l : List Int), k + d = m → d < n → l.length + d ≤ 100000 →
    F_impl_arcs_L2 fu (m : Int) (f : Int) a b c n l (k : Int) = some (l ++ nats ((List.range' k d).map fun i => f + m - 1 - i), (m : Int)) := by
  intro d
  induction d with
  | zero =>
    intro k n l hk hn hl
    cases n with
    | zero => omega
    | succ n =>
      simp only [F_impl_arcs_L2]
      rw [ilt_f (by omega), cond_false]
      simp [nats]; omega
  | succ d ih =>
    intro k n l hk hn hl
    cases n with
    | zero => omega
    | succ n =>
      simp only [F_impl_arcs_L2]
      rw [ilt_t (by omega), cond_true, gd_t (by simp; omega), iadd_id (a := (k : Int)) (b := 1) (by omega) (by omega), arc_el (by omega) hm]
      have := ih (k + 1) n (lapp l [((f + m - 1 - k : Nat) : Int)]) (by omega) (by omega) (by simp [lapp]; omega)
      rw [show ((k : Int) + 1) = ((k + 1 : Nat) : Int) by omega, this, List.range'_succ]
      simp [lapp, nats]
theorem arcsS_L2 {f m : Nat} {a : List Int} {b c : Int} (hm : f + m ≤ 100000) : ∀ (d k n : Nat) (l : List Int), k + d = m → d < n → l.length + d ≤ 100000 →
    F_spec_swArcs_L2 fu (f : Int) (m : Int) a b c n l (k : Int) = some (l ++ nats ((List.range' k d).map fun i => f + m - 1 - i), (m : Int)) := by
  intro d
  induction d with
  | zero =>
    intro k n l hk hn hl
    cases n with
    | zero => omega
    | succ n =>
      simp only [F_spec_swArcs_L2]
      rw [ilt_f (by omega), cond_false]
      simp [nats]; omega
  | succ d ih =>
    intro k n l hk hn hl
    cases n with
    | zero => omega
    | succ n =>
      simp only [F_spec_swArcs_L2]
      rw [ilt_t (by omega), cond_true, gd_t (by simp; omega), iadd_id (a := (k : Int)) (b := 1) (by omega) (by omega), arc_el (by omega) hm]
      have := ih (k + 1) n (lapp l [((f + m - 1 - k : Nat) : Int)]) (by omega) (by omega) (by simp [lapp]; omega)
      rw [show ((k : Int) + 1) = ((k + 1 : Nat) : Int) by omega, this, List.range'_succ]
      simp [lapp, nats]
theorem arcL_drop {ps : List Nat} {k : Nat} (h : k < ps.length) (f : Nat) : Grp.arcL f (ps.drop k) = (List.range ps[k]).map (fun i => f + ps[k] - 1 - i) ++ Grp.arcL (f + ps[k]) (ps.drop (k + 1)) := by
  rw [List.drop_eq_getElem_cons h]
  rfl
theorem sum_drop {ps : List Nat} {k : Nat} (h : k < ps.length) : (ps.drop k).sum = ps[k] + (ps.drop (k + 1)).sum := by
  rw [List.drop_eq_getElem_cons h, List.sum_cons]
theorem arcsI_L1 {ps : List Nat} (hf : 1000 < fu) (hl : ps.length ≤ 1000) : ∀ (d k n : Nat) (l : List Int), k + d = ps.length → d < n → l.length + (ps.drop k).sum ≤ 1000 →
    F_impl_arcs_L1 fu (nats ps) (ps.length : Int) n l (k : Int) = some (l ++ nats (Grp.arcL l.length (ps.drop k)), (ps.length : Int)) := by
  intro d
  induction d with
  | zero =>
    intro k n l hk hn hs
    cases n with
    | zero => omega
    | succ n =>
      simp only [F_impl_arcs_L1]
      rw [ilt_f (by omega), cond_false, List.drop_of_length_le (by omega)]
      simp [Grp.arcL, nats]; omega
  | succ d ih =>
    intro k n l hk hn hs
    cases n with
    | zero => omega
    | succ n =>
      have hk' : k < ps.length := by omega
      have hsum := sum_drop hk'
      simp only [F_impl_arcs_L1]
      rw [ilt_t (by omega), cond_true, gd_t (inL_nats hk'), gat_nats hk']
      have h2 := arcsI_L2 (fu := fu) (f := l.length) (m := ps[k]) (a := nats ps) (b := (ps.length : Int)) (c := (k : Int)) (by omega) ps[k] 0 fu l (by omega) (by omega) (by omega)
      rw [Int.natCast_zero] at h2
      simp only [llen]
      rw [h2, bd_of, iadd_id (by omega) (by omega), show ((k : Int) + 1) = ((k + 1 : Nat) : Int) by omega, ih (k + 1) n _ (by omega) (by omega) (by simp; omega), arcL_drop hk']
      simp [nats, List.range_eq_range']
theorem arcsS_L1 {ps : List Nat} (hf : 1000 < fu) (hl : ps.length ≤ 1000) : ∀ (d k n : Nat) (l : List Int), k + d = ps.length → d < n → l.length + (ps.drop k).sum ≤ 1000 →
    F_spec_swArcs_L1 fu (nats ps) (ps.length : Int) n l (l.length : Int) (k : Int) = some (l ++ nats (Grp.arcL l.length (ps.drop k)), ((l.length + (ps.drop k).sum : Nat) : Int), (ps.length : Int)) := by
  intro d
  induction d with
  | zero =>
    intro k n l hk hn hs
    cases n with
    | zero => omega
    | succ n =>
      simp only [F_spec_swArcs_L1]
      rw [ilt_f (by omega), cond_false, List.drop_of_length_le (by omega)]
      simp [Grp.arcL, nats]; omega
  | succ d ih =>
    intro k n l hk hn hs
    cases n with
    | zero => omega
    | succ n =>
      have hk' : k < ps.length := by omega
      have hsum := sum_drop hk'
      simp only [F_spec_swArcs_L1]
      rw [ilt_t (by omega), cond_true, gd_t (inL_nats hk'), gat_nats hk']
      have h2 := arcsS_L2 (fu := fu) (f := l.length) (m := ps[k]) (a := nats ps) (b := (ps.length : Int)) (c := (k : Int)) (by omega) ps[k] 0 fu l (by omega) (by omega) (by omega)
      rw [Int.natCast_zero] at h2
      have ih' := ih (k + 1) n (l ++ nats ((List.range' 0 ps[k]).map fun i => l.length + ps[k] - 1 - i)) (by omega) (by omega) (by simp; omega)
      rw [h2, bd_of, iadd_id (a := (k : Int)) (by omega) (by omega), iadd_id (a := (l.length : Int)) (by omega) (by omega), show ((k : Int) + 1) = ((k + 1 : Nat) : Int) by omega]
      simp only
      rw [show (l.length : Int) + ((ps[k] : Nat) : Int) = ((l ++ nats ((List.range' 0 ps[k]).map fun i => l.length + ps[k] - 1 - i)).length : Int) by simp, ih', arcL_drop hk', hsum]
      simp [nats, List.range_eq_range']
      omega
def row (n : Nat) (t : Nat → Nat) : List Int := nats ((List.range n).map t)
theorem arcsI_eq {ps : List Nat} (hf : 1000 < fu) (hl : ps.length ≤ 1000) (hs : ps.sum ≤ 1000) : F_impl_arcs fu (nats ps) = some (row ps.sum (Grp.arcF ps)) := by
  have := arcsI_L1 (fu := fu) (ps := ps) hf hl ps.length 0 fu [] (by omega) (by omega) (by simpa using hs)
  rw [Int.natCast_zero] at this
  unfold F_impl_arcs
  rw [llen_nats, this, bd_of]
  simp [row, Grp.arcF_map]
theorem arcsS_eq {ps : List Nat} (hf : 1000 < fu) (hl : ps.length ≤ 1000) (hs : ps.sum ≤ 1000) : F_spec_swArcs fu (nats ps) = some (row ps.sum (Grp.arcF ps)) := by
  have := arcsS_L1 (fu := fu) (ps := ps) hf hl ps.length 0 fu [] (by omega) (by omega) (by simpa using hs)
  simp only [List.length_nil, Int.natCast_zero] at this
  unfold F_spec_swArcs
  rw [llen_nats, this, bd_of]
  simp [row, Grp.arcF_map]
end
end Go.Proofs.Ytigpmjebldgekaa.AL
