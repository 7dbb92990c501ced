/- The standard library's insertion sort of strings is insertion one after the other. No condition. -/
import Derived.Test.YtbckijeffiofdaaPT1
import Derived.Test.YtbckijeffiofdaaG1
import Derived.Test.YtbckijeffiofdaaG2
import Derived.Test.YtbckijeffiofdaaG3
import Derived.Test.YtbckijeffiofdaaG4
import Derived.Test.YtbckijeffiofdaaG5
import Derived.Test.YtbckijeffiofdaaG6
import Derived.Test.YtbckijeffiofdaaG7
import Derived.Test.YtbckijeffiofdaaG8
import Derived.Test.YtbckijeffiofdaaG9
import Derived.Test.YtbckijeffiofdaaG10
import Derived.Test.YtbckijeffiofdaaG11
import Derived.Test.YtbckijeffiofdaaG12
import Derived.Test.YtbckijeffiofdaaG13
import Derived.Test.YtbckijeffiofdaaG14
import Derived.Test.YtbckijeffiofdaaG15
import Derived.Test.YtbckijeffiofdaaG16
import Derived.Test.YtbckijeffiofdaaG17
import Derived.Test.YtbckijeffiofdaaG18
import Derived.Test.YtbckijeffiofdaaG19
namespace Go.Proofs.Ytbckijeffiofdaa.AL
open Go
set_option linter.unusedVariables false
set_option linter.unusedSimpArgs false
section
variable {fu : Nat} {x : ByteArray}
theorem insS_last {y : ByteArray} (h : sle' y x = false) : ∀ l : List ByteArray, insS x (l ++ [y]) = insS x l ++ [y]
  | [] => by simp [insS, h]
  | z :: l => by
    simp only [List.cons_append, insS]
    split
    · rw [insS_last h l]; rfl
    · rfl
theorem insS_all : ∀ {l : List ByteArray}, (∀ y ∈ l, sle' y x = true) → insS x l = l ++ [x]
  | [], _ => rfl
  | z :: l, h => by
    simp only [insS]
    rw [if_pos (h z (by simp)), insS_all fun y hy => h y (by simp [hy])]
    rfl
def SortS (l : List ByteArray) : Prop := l.Pairwise fun a b => sle' a b = true
theorem gatS {pre rest : List ByteArray} {r : ByteArray} {k : Nat} (h : pre.length = k) : gat (ByteArray.mk #[]) (pre ++ r :: rest) (k : Int) = r := by
  subst h
  simp [gat_eq]
theorem lsetS {pre rest : List ByteArray} {r r' : ByteArray} {k : Nat} (h : pre.length = k) : lset (pre ++ r :: rest) (k : Int) r' = pre ++ r' :: rest := by
  subst h
  simp [lset]
theorem less_eq (a b : ByteArray) : F_cmp_Less_string fu a b = some (slt' a b) := by
  unfold F_cmp_Less_string F_cmp_isNaN_string
  have : sne' a a = false := by simp [sne']
  rw [this]
  rfl
theorem isort_L2 {k1 k2 : Int} : ∀ (d : Nat) (l rest : List ByteArray) (n : Nat), l.length = d → SortS l → (l ++ x :: rest).length ≤ 4294967296 → l.length < n → ∃ j, F_slices_insertionSortOrdered_string_L2 fu 0 k1 k2 n (l ++ x :: rest) (l.length : Int) = some (insS x l ++ rest, j) := by
  intro d
  induction d with
  | zero =>
    intro l rest n hd hs hl hn
    have : l = [] := List.eq_nil_of_length_eq_zero hd
    subst this
    cases n with
    | zero => simp at hn
    | succ n =>
      simp only [F_slices_insertionSortOrdered_string_L2]
      rw [ilt_f (by simp), cond_false, bd_of, cond_false]
      exact ⟨_, rfl⟩
  | succ d ih =>
    intro l rest n hd hs hl hn
    obtain ⟨l', y, rfl⟩ : ∃ l' y, l = l' ++ [y] := by
      rcases List.eq_nil_or_concat l with rfl | ⟨l', y, rfl⟩
      · simp at hd
      · exact ⟨l', y, by simp⟩
    have hd' : l'.length = d := by simpa using hd
    have hs2 := List.pairwise_append.1 hs
    cases n with
    | zero => simp at hn
    | succ n =>
      have e0 : l' ++ [y] ++ x :: rest = l' ++ y :: x :: rest := by simp
      have hj : isub .i64 (((l' ++ [y]).length : Nat) : Int) 1 = (l'.length : Int) := by
        simp only [List.length_append, List.length_cons] at hl ⊢
        rw [isub_id (by omega) (by omega)]
        simp
      have gx : gat (ByteArray.mk #[]) (l' ++ [y] ++ x :: rest) (((l' ++ [y]).length : Nat) : Int) = x := gatS rfl
      have gy : gat (ByteArray.mk #[]) (l' ++ [y] ++ x :: rest) (l'.length : Int) = y := by rw [e0]; exact gatS rfl
      have i1 : inL (l' ++ [y] ++ x :: rest) (((l' ++ [y]).length : Nat) : Int) := inL_nat (by simp)
      have i2 : inL (l' ++ [y] ++ x :: rest) (l'.length : Int) := inL_nat (by simp)
      simp only [F_slices_insertionSortOrdered_string_L2]
      rw [ilt_t (by simp only [List.length_append, List.length_cons]; omega), cond_true, hj, gd_t i1, gd_t i2, gx, gy, less_eq, bd_of, bd_of, slt_not]
      cases h : sle' y x
      · have s1 : lset (l' ++ [y] ++ x :: rest) (((l' ++ [y]).length : Nat) : Int) y = l' ++ [y] ++ y :: rest := lsetS rfl
        have s2 : lset (l' ++ [y] ++ y :: rest) (l'.length : Int) x = l' ++ x :: y :: rest := by
          rw [show l' ++ [y] ++ y :: rest = l' ++ y :: y :: rest by simp]
          exact lsetS rfl
        have i3 : inL (l' ++ [y] ++ y :: rest) (l'.length : Int) := inL_nat (by simp)
        rw [show (!false) = true from rfl, cond_true, gd_t i2, gd_t i1, gd_t i1, s1, gd_t i3, s2]
        obtain ⟨j, hj2⟩ := ih l' (y :: rest) n hd' hs2.1 (by simpa using hl) (by simp at hn; omega)
        rw [hj2, insS_last h]
        exact ⟨j, by simp⟩
      · rw [show (!true) = false from rfl, cond_false]
        refine ⟨(((l' ++ [y]).length : Nat) : Int), ?_⟩
        rw [insS_all fun z hz => ?_]
        · simp
        · rcases List.mem_append.1 hz with hz | hz
          · exact sle_trans (hs2.2.2 z hz y (by simp)) h
          · have : z = y := by simpa using hz
            rw [this]; exact h
theorem insS_mem {y : ByteArray} : ∀ {l : List ByteArray}, y ∈ insS x l → y = x ∨ y ∈ l
  | [], h => by simpa [insS] using h
  | z :: l, h => by
    simp only [insS] at h
    split at h
    · rcases List.mem_cons.1 h with rfl | h
      · exact .inr (by simp)
      · rcases insS_mem h with h | h
        · exact .inl h
        · exact .inr (by simp [h])
    · rcases List.mem_cons.1 h with rfl | h
      · exact .inl rfl
      · exact .inr h
theorem insS_sort : ∀ {l : List ByteArray}, SortS l → SortS (insS x l)
  | [], _ => by simp [insS, SortS]
  | z :: l, h => by
    have hc := List.pairwise_cons.1 h
    simp only [insS]
    by_cases hz : sle' z x = true
    · rw [if_pos hz]
      refine List.pairwise_cons.2 ⟨fun y hy => ?_, insS_sort hc.2⟩
      rcases insS_mem hy with rfl | hy
      · exact hz
      · exact hc.1 y hy
    · rw [if_neg hz]
      have hx : sle' x z = true := sle_of_lt (by rw [slt_not]; simpa using hz)
      refine List.pairwise_cons.2 ⟨fun y hy => ?_, h⟩
      rcases List.mem_cons.1 hy with rfl | hy
      · exact hx
      · exact sle_trans hx (hc.1 y hy)
def allS (l : List ByteArray) (xs : List ByteArray) : List ByteArray := xs.foldl (fun l x => insS x l) l
theorem allS_sort : ∀ (xs l : List ByteArray), SortS l → SortS (allS l xs)
  | [], l, h => h
  | x :: xs, l, h => allS_sort xs _ (insS_sort h)
theorem isort_L1 {k1 : Int} : ∀ (xs l : List ByteArray) (n : Nat), SortS l → (l ++ xs).length ≤ 1000 → 2000 < fu → xs.length < n → k1 = ((l ++ xs).length : Int) → F_slices_insertionSortOrdered_string_L1 fu 0 k1 n (l ++ xs) (l.length : Int) = some (allS l xs, k1) := by
  intro xs
  induction xs with
  | nil =>
    intro l n hs hl hf hn hk
    cases n with
    | zero => simp at hn
    | succ n =>
      simp only [F_slices_insertionSortOrdered_string_L1]
      rw [ilt_f (by rw [hk]; simp), cond_false, hk]
      simp [allS]
  | cons x xs ih =>
    intro l n hs hl hf hn hk
    cases n with
    | zero => simp at hn
    | succ n =>
      have hl' := hl
      simp only [List.length_append, List.length_cons] at hl'
      obtain ⟨j, hj⟩ := isort_L2 (fu := fu) (k1 := k1) (k2 := (l.length : Int)) (x := x) l.length l xs fu rfl hs (by omega) (by omega)
      simp only [F_slices_insertionSortOrdered_string_L1]
      rw [ilt_t (by rw [hk]; simp; omega), cond_true, hj, bd_of, iadd_id (by omega) (by omega), show ((l.length : Int) + 1) = (((insS x l).length : Nat) : Int) by rw [insS_len]; omega]
      exact ih (insS x l) n (insS_sort hs) (by simp [insS_len]; omega) hf (by simp at hn; omega) (by rw [hk]; simp [insS_len]; omega)
end
end Go.Proofs.Ytbckijeffiofdaa.AL
