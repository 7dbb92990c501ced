/- Texts compared, marked and held. No condition. -/
import Derived.Test.YtbckijeffiofdaaPT6
import Derived.KernelRfl
namespace Go.Proofs.Ytbckijeffiofdaa.AL
open Go
set_option linter.unusedVariables false
set_option linter.unusedSimpArgs false
set_option maxRecDepth 100000
section
theorem mkOk : ((List.range 10).all fun k : Nat => (F_laws_markText 2000000 (k : Int)).isSome) = true := by kernel_rfl
def mt (m : Int) : ByteArray := (F_laws_markText 2000000 m).getD ByteArray.empty
theorem mt_eq {m : Int} (h0 : 0 ≤ m) (h1 : m < 10) : F_laws_markText 2000000 m = some (mt m) := by
  have := List.all_eq_true.1 mkOk m.toNat (by simp; omega)
  rw [Int.toNat_of_nonneg h0] at this
  obtain ⟨t, ht⟩ := Option.isSome_iff_exists.1 this
  unfold mt
  rw [ht]
  rfl
def marksT : Int → Nat → List ByteArray
  | _, 0 => []
  | m, n + 1 => mt m :: marksT (m + 1) n
theorem marksT_len : ∀ (n : Nat) (m : Int), (marksT m n).length = n
  | 0, _ => rfl
  | n + 1, m => by simp [marksT, marksT_len n]
theorem markT_L : ∀ (rest pre : List ByteArray) (k n : Nat) (m : Int), pre.length = k → rest.length < n → 0 ≤ m → m + (rest.length : Int) ≤ 9 → k + rest.length ≤ 100 →
    F_laws_markStringS_L1 2000000 n (pre ++ rest) m (k : Int) = some (pre ++ marksT m rest.length, m + (rest.length : Int), ((k + rest.length : Nat) : Int)) := by
  intro rest
  induction rest with
  | nil =>
    intro pre k n m hk hn h0 h1 h2
    cases n with
    | zero => simp at hn
    | succ n =>
      simp only [F_laws_markStringS_L1]
      rw [ilt_f (by simp [llen]; omega), cond_false]
      simp [marksT]
  | cons x rest ih =>
    intro pre k n m hk hn h0 h1 h2
    simp only [List.length_cons] at h1 h2 hn
    cases n with
    | zero => omega
    | succ n =>
      simp only [F_laws_markStringS_L1]
      rw [ilt_t (by simp [llen]; omega), cond_true, mt_eq h0 (by omega), bd_of, gd_t (inL_nat (by simp; omega)), lsetS hk, iadd_id (by omega) (by omega), iadd_id (by omega) (by omega), show ((k : Int) + 1) = ((k + 1 : Nat) : Int) by omega]
      have := ih (pre ++ [mt m]) (k + 1) n (m + 1) (by simp [hk]) (by omega) (by omega) (by omega) (by omega)
      rw [show pre ++ [mt m] ++ rest = pre ++ mt m :: rest by simp] at this
      rw [this]
      simp [marksT]
      omega
theorem heldT_L : ∀ (d : Nat) (pre : List ByteArray) (k n : Nat) (m : Int), pre.length = k → d < n → 0 ≤ m → m + (d : Int) ≤ 9 → k + d ≤ 100 →
    F_laws_heldStringS_L1 2000000 (pre ++ marksT m d) n m (k : Int) = some (.brk (m + (d : Int), ((k + d : Nat) : Int))) := by
  intro d
  induction d with
  | zero =>
    intro pre k n m hk hn h0 h1 h2
    cases n with
    | zero => omega
    | succ n =>
      simp only [F_laws_heldStringS_L1]
      rw [ilt_f (by simp [llen, marksT_len]; omega), cond_false]
      simp
  | succ d ih =>
    intro pre k n m hk hn h0 h1 h2
    cases n with
    | zero => omega
    | succ n =>
      have hne : sne' (mt m) (mt m) = false := by simp [sne']
      simp only [F_laws_heldStringS_L1]
      rw [ilt_t (by simp [llen, marksT_len]; omega), cond_true, gd_t (inL_nat (by simp [marksT_len]; omega)), mt_eq h0 (by omega), bd_of, show marksT m (d + 1) = mt m :: marksT (m + 1) d from rfl, gatS hk, hne, cond_false, iadd_id (by omega) (by omega), iadd_id (by omega) (by omega), show ((k : Int) + 1) = ((k + 1 : Nat) : Int) by omega]
      have := ih (pre ++ [mt m]) (k + 1) n (m + 1) (by simp [hk]) (by omega) (by omega) (by omega) (by omega)
      rw [show pre ++ [mt m] ++ marksT (m + 1) d = pre ++ mt m :: marksT (m + 1) d by simp] at this
      rw [this]
      congr 3
      · omega
      · congr 1
        omega
end
end Go.Proofs.Ytbckijeffiofdaa.AL
