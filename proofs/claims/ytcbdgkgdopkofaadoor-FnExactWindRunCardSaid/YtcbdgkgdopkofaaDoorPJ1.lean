/- Texts of seaweeds: the program's and the reference's are one. No condition. -/
import Derived.Test.YtcbdgkgdopkofaaDoorPJ0
import Derived.Test.YtcbdgkgdopkofaaDoorG1
import Derived.Test.YtcbdgkgdopkofaaDoorG2
import Derived.Test.YtcbdgkgdopkofaaDoorG3
import Derived.Test.YtcbdgkgdopkofaaDoorG4
import Derived.Test.YtcbdgkgdopkofaaDoorG5
import Derived.Test.YtcbdgkgdopkofaaDoorG6
import Derived.Test.YtcbdgkgdopkofaaDoorG7
import Derived.Test.YtcbdgkgdopkofaaDoorG8
import Derived.Test.YtcbdgkgdopkofaaDoorGJoin
namespace Go.Proofs.YtcbdgkgdopkofaaDoor.AL
open Go
set_option linter.unusedVariables false
set_option linter.unusedSimpArgs false
def num (x : Int) : ByteArray := (F_strconv_Itoa 10 x).getD (ByteArray.mk #[])
def numOk (fu : Nat) (x : Int) : Bool := decide (F_strconv_Itoa fu x = some (num x)) && decide (F_spec_l1Num fu x = some (num x)) && decide (1 ≤ (num x).data.toList.length) && decide ((num x).data.toList.length ≤ 2)
def to20 : List Int := [1, 2, 3, 4, 5, 6, 7, 8, 9, 10, 11, 12, 13, 14, 15, 16, 17, 18, 19, 20]
theorem nums_ok (m : Nat) : to20.all (numOk (m + 10)) = true := by kernel_rfl
section
variable {fu : Nat} {p q : List Int} {x : Int}
theorem in20 (hp : inW p = true) (hx : x ∈ p) : x ∈ to20 := by
  have h := List.all_eq_true.1 hp _ hx
  simp at h
  have : x = 1 ∨ x = 2 ∨ x = 3 ∨ x = 4 ∨ x = 5 ∨ x = 6 ∨ x = 7 ∨ x = 8 ∨ x = 9 ∨ x = 10 ∨ x = 11 ∨ x = 12 ∨ x = 13 ∨ x = 14 ∨ x = 15 ∨ x = 16 ∨ x = 17 ∨ x = 18 ∨ x = 19 ∨ x = 20 := by omega
  simpa [to20] using this
theorem num_at (hp : inW p = true) (hx : x ∈ p) (hf : 20 < fu) : F_strconv_Itoa fu x = some (num x) ∧ F_spec_l1Num fu x = some (num x) ∧ 1 ≤ (num x).data.toList.length ∧ (num x).data.toList.length ≤ 2 := by
  obtain ⟨m, rfl⟩ : ∃ m, fu = m + 10 := ⟨fu - 10, by omega⟩
  have h := List.all_eq_true.1 (nums_ok m) x (in20 hp hx)
  simp only [numOk, Bool.and_eq_true, decide_eq_true_eq] at h
  exact ⟨h.1.1.1, h.1.1.2, h.1.2, h.2⟩
def sumT (p : List Int) : ByteArray := joinS (p.map num) (ByteArray.mk #[43])
def sideT (p : List Int) : ByteArray := if p.length = 0 then ByteArray.mk #[45] else sumT p
def sw2T (p q : List Int) : ByteArray := sapp (sapp (sideT p) (ByteArray.mk #[124])) (sideT q)
theorem sumT_nil : sumT [] = ByteArray.mk #[] := rfl
theorem joinTail_len {l : List Int} (h : ∀ y ∈ l, 1 ≤ (num y).data.toList.length ∧ (num y).data.toList.length ≤ 2) :
    (Lib.joinTail [43] ((l.map num).map (·.data.toList))).length ≤ 3 * l.length := by
  induction l with
  | nil => simp [Lib.joinTail]
  | cons a l ih =>
    have h1 := h a (by simp)
    have h2 := ih fun y hy => h y (by simp [hy])
    simp only [Lib.joinTail, List.map_cons, List.flatten_cons, List.length_append, List.length_cons, List.length_nil] at h2 ⊢
    omega
theorem sumT_len (hp : inW p = true) : (Lib.join ((p.map num).map (·.data.toList)) [43]).length ≤ 3 * p.length := by
  cases p with
  | nil => simp [Lib.join_nil]
  | cons a l =>
    have h0 : ∀ y ∈ a :: l, 1 ≤ (num y).data.toList.length ∧ (num y).data.toList.length ≤ 2 := fun y hy => (num_at (fu := 30) hp hy (by omega)).2.2
    have h1 := joinTail_len (l := l) fun y hy => h0 y (by simp [hy])
    have h2 := h0 a (by simp)
    simp only [List.map_cons, Lib.join_cons, List.length_append, List.length_cons]
    omega
theorem sumT_toList (p : List Int) : (sumT p).data.toList = Lib.join ((p.map num).map (·.data.toList)) [43] := by simp [sumT, joinS]
theorem size_toList (b : ByteArray) : b.size = b.data.toList.length := Array.length_toList.symm
theorem ba_ext {a b : ByteArray} (h : a.data.toList = b.data.toList) : a = b := by
  cases a; cases b
  simp only at h
  rw [Array.toList_inj] at h
  rw [h]
theorem sapp_toList (a b : ByteArray) : (sapp a b).data.toList = a.data.toList ++ b.data.toList := by
  simp [sapp, ByteArray.data_append]
theorem sumT_size (hp : inW p = true) : (sumT p).size ≤ 3 * p.length := by
  rw [size_toList, sumT_toList]
  exact sumT_len hp
theorem sumT_one (a : Int) : sumT [a] = num a := ba_ext (by rw [sumT_toList]; simp [Lib.join_one])
theorem sumT_snoc {a : Int} (h : p ≠ []) : sumT (p ++ [a]) = sapp (sapp (sumT p) (ByteArray.mk #[43])) (num a) := by
  refine ba_ext ?_
  rw [sapp_toList, sapp_toList, sumT_toList, sumT_toList]
  cases p with
  | nil => exact absurd rfl h
  | cons b l =>
    simp only [List.cons_append, List.map_cons, List.map_append, List.map_nil, Lib.join_cons, Lib.joinTail, List.flatten_append, List.flatten_cons, List.flatten_nil, List.append_nil, List.append_assoc]
theorem seq_nil {b : ByteArray} : seq' b (ByteArray.mk #[]) = decide (b.size = 0) := by
  obtain ⟨⟨l⟩⟩ := b
  unfold seq'
  rw [ByteArray.toList_mk]
  cases l <;> simp [ByteArray.size]
end
end Go.Proofs.YtcbdgkgdopkofaaDoor.AL
