/- Texts compared, marked and held. No condition. -/
import Derived.Test.YtcbdgkgdopkofaaDoorPJ3
import Derived.KernelRfl
namespace Go.Proofs.YtcbdgkgdopkofaaDoor.AL
open Go
set_option linter.unusedVariables false
set_option linter.unusedSimpArgs false
set_option maxRecDepth 100000
section
theorem gatS {pre rest : List ByteArray} {r : ByteArray} {k : Nat} (h : pre.length = k) : gat (ByteArray.mk #[]) (pre ++ r :: rest) (k : Int) = r := by
  subst h
  simp [gat_eq]
theorem lsetS {pre rest : List ByteArray} {r r' : ByteArray} {k : Nat} (h : pre.length = k) : lset (pre ++ r :: rest) (k : Int) r' = pre ++ r' :: rest := by
  subst h
  simp [lset]
theorem mkOk : ((List.range 100).all fun k : Nat => (F_laws_markText 2000000 (k : Int)).isSome) = true := by kernel_rfl
def mt (m : Int) : ByteArray := (F_laws_markText 2000000 m).getD ByteArray.empty
theorem mt_eq {m : Int} (h0 : 0 ≤ m) (h1 : m < 100) : F_laws_markText 2000000 m = some (mt m) := by
  have := List.all_eq_true.1 mkOk m.toNat (by simp; omega)
  rw [Int.toNat_of_nonneg h0] at this
  obtain ⟨t, ht⟩ := Option.isSome_iff_exists.1 this
  unfold mt
  rw [ht]
  rfl
def marksT : Int → Nat → List ByteArray
  | _, 0 => []
  | m, n + 1 => mt m :: marksT (m + 1) n
theorem marksT_len : ∀ (n : Nat) (m : Int), (marksT m n).length = n
  | 0, _ => rfl
  | n + 1, m => by simp [marksT, marksT_len n]
theorem markT_L : ∀ (rest pre : List ByteArray) (k n : Nat) (m : Int), pre.length = k → rest.length < n → 0 ≤ m → m + (rest.length : Int) ≤ 99 → k + rest.length ≤ 100 →
    F_laws_markStringS_L1 2000000 n (pre ++ rest) m (k : Int) = some (pre ++ marksT m rest.length, m + (rest.length : Int), ((k + rest.length : Nat) : Int)) := by
  intro rest
  induction rest with
  | nil =>
    intro pre k n m hk hn h0 h1 h2
    cases n with
    | zero => simp at hn
    | succ n =>
      simp only [F_laws_markStringS_L1]
      rw [ilt_f (by simp [llen]; omega), cond_false]
      simp [marksT]
  | cons x rest ih =>
    intro pre k n m hk hn h0 h1 h2
    simp only [List.length_cons] at h1 h2 hn
    cases n with
    | zero => omega
    | succ n =>
      simp only [F_laws_markStringS_L1]
      rw [ilt_t (by simp [llen]; omega), cond_true, mt_eq h0 (by omega), bd_of, gd_t (inL_nat (by simp; omega)), lsetS hk, iadd_id (by omega) (by omega), iadd_id (by omega) (by omega), show ((k : Int) + 1) = ((k + 1 : Nat) : Int) by omega]
      have := ih (pre ++ [mt m]) (k + 1) n (m + 1) (by simp [hk]) (by omega) (by omega) (by omega) (by omega)
      rw [show pre ++ [mt m] ++ rest = pre ++ mt m :: rest by simp] at this
      rw [this]
      simp [marksT]
      omega
theorem heldT_L : ∀ (d : Nat) (pre : List ByteArray) (k n : Nat) (m : Int), pre.length = k → d < n → 0 ≤ m → m + (d : Int) ≤ 99 → k + d ≤ 100 →
    F_laws_heldStringS_L1 2000000 (pre ++ marksT m d) n m (k : Int) = some (.brk (m + (d : Int), ((k + d : Nat) : Int))) := by
  intro d
  induction d with
  | zero =>
    intro pre k n m hk hn h0 h1 h2
    cases n with
    | zero => omega
    | succ n =>
      simp only [F_laws_heldStringS_L1]
      rw [ilt_f (by simp [llen, marksT_len]; omega), cond_false]
      simp
  | succ d ih =>
    intro pre k n m hk hn h0 h1 h2
    cases n with
    | zero => omega
    | succ n =>
      have hne : sne' (mt m) (mt m) = false := by simp [sne']
      simp only [F_laws_heldStringS_L1]
      rw [ilt_t (by simp [llen, marksT_len]; omega), cond_true, gd_t (inL_nat (by simp [marksT_len]; omega)), mt_eq h0 (by omega), bd_of, show marksT m (d + 1) = mt m :: marksT (m + 1) d from rfl, gatS hk, hne, cond_false, iadd_id (by omega) (by omega), iadd_id (by omega) (by omega), show ((k : Int) + 1) = ((k + 1 : Nat) : Int) by omega]
      have := ih (pre ++ [mt m]) (k + 1) n (m + 1) (by simp [hk]) (by omega) (by omega) (by omega) (by omega)
      rw [show pre ++ [mt m] ++ marksT (m + 1) d = pre ++ mt m :: marksT (m + 1) d by simp] at this
      rw [this]
      congr 3
      · omega
      · congr 1
        omega
end
section
theorem eqT_L {X : List ByteArray} (hX : X.length ≤ 100) : ∀ (d k n : Nat), k + d = X.length → d < n → F_laws_eqStringS_L1 2000000 X X n (k : Int) = some (.brk (X.length : Int)) := by
  intro d
  induction d with
  | zero =>
    intro k n hk hn
    cases n with
    | zero => omega
    | succ n =>
      have : k = X.length := by omega
      subst this
      simp only [F_laws_eqStringS_L1, llen]
      rw [ilt_f (by omega), cond_false]
  | succ d ih =>
    intro k n hk hn
    cases n with
    | zero => omega
    | succ n =>
      have hk' : k < X.length := by omega
      have hne : ∀ y : ByteArray, sne' y y = false := fun y => by simp [sne']
      simp only [F_laws_eqStringS_L1, llen]
      rw [ilt_t (by omega), cond_true, gd_t (inL_nat hk'), gd_t (inL_nat hk'), hne, cond_false, iadd_id (by omega) (by omega), show ((k : Int) + 1) = ((k + 1 : Nat) : Int) by omega]
      exact ih (k + 1) n (by omega) (by omega)
theorem eqT_eq {X : List ByteArray} (hX : X.length ≤ 100) : F_laws_eqStringS 2000000 X X = some true := by
  have := eqT_L hX X.length 0 2000000 (by omega) (by omega)
  rw [Int.natCast_zero] at this
  unfold F_laws_eqStringS
  rw [ine_f rfl, cond_false, this, bd_of]
  rfl
theorem markT_eq {X : List ByteArray} (hX : X.length ≤ 60) : F_laws_markStringS 2000000 X 1 = some (1 + (X.length : Int), marksT 1 X.length) := by
  have := markT_L X [] 0 2000000 1 rfl (by omega) (by omega) (by omega) (by omega)
  rw [Int.natCast_zero] at this
  unfold F_laws_markStringS
  rw [show F_laws_markStringS_L1 2000000 2000000 X 1 0 = _ from this, bd_of]
  rfl
theorem heldT_eq {d : Nat} (hX : d ≤ 60) : F_laws_heldStringS 2000000 (marksT 1 d) 1 = some (1 + (d : Int)) := by
  have := heldT_L d [] 0 2000000 1 rfl (by omega) (by omega) (by omega) (by omega)
  rw [Int.natCast_zero] at this
  unfold F_laws_heldStringS
  rw [show F_laws_heldStringS_L1 2000000 (marksT 1 d) 2000000 1 0 = _ from this, bd_of]
  rfl
end
end Go.Proofs.YtcbdgkgdopkofaaDoor.AL
