/- Insertion: both ways make the same system, told one by one. No condition. -/
import Derived.Test.YtbckijeffiofdaaPA4
namespace Go.Proofs.Ytbckijeffiofdaa.AL
open Go Go.Proofs.Ytbckijeffiofdaa.Arch
set_option linter.unusedVariables false
set_option linter.unusedSimpArgs false
set_option maxRecDepth 100000
def insQ (p q : List Int) (k : Nat) : Bool := match F_impl_inserted 2000000 p (k : Int) q, F_spec_siPut 2000000 p (k : Int) q with
  | some a, some b => decide (a = b) && decide (a.length ≤ 12)
  | _, _ => false
def insK (n a b : Nat) : Bool := (sysN n).all fun p => [0, 2, 4, 6, 8, 10, 12].all fun m => decide (12 < n + m) || (sysN m).all fun q => (List.range' a (b - a)).all fun k => insQ p q k
theorem ins0 : insK 0 0 1 = true := by kernel_rfl
theorem ins2 : insK 2 0 3 = true := by kernel_rfl
theorem ins4 : insK 4 0 5 = true := by kernel_rfl
theorem ins6 : insK 6 0 7 = true := by kernel_rfl
theorem ins8 : insK 8 0 9 = true := by kernel_rfl
theorem ins10 : insK 10 0 6 = true := by kernel_rfl
theorem ins10' : insK 10 6 11 = true := by kernel_rfl
theorem ins12 : insK 12 0 4 = true := by kernel_rfl
theorem ins12' : insK 12 4 8 = true := by kernel_rfl
theorem ins12'' : insK 12 8 13 = true := by kernel_rfl
theorem ins_at {n a b : Nat} (h : insK n a b = true) {p q : List Int} {k : Nat} (hp : p ∈ sysN n) (hq : q ∈ sysN q.length) (hm : q.length ∈ [0, 2, 4, 6, 8, 10, 12]) (hl : n + q.length ≤ 12) (h0 : a ≤ k) (h1 : k < b) : insQ p q k = true := by
  have h := List.all_eq_true.1 (List.all_eq_true.1 h p hp) _ hm
  rw [Bool.or_eq_true] at h
  rcases h with h | h
  · simp at h; omega
  · exact List.all_eq_true.1 (List.all_eq_true.1 h q hq) k (List.mem_range'_1.2 ⟨h0, by omega⟩)
theorem ins_eq {p q : List Int} {k : Int} (hp : sysB p = true) (hq : sysB q = true) (hl : p.length + q.length ≤ 12) (h0 : 0 ≤ k) (h1 : k ≤ p.length) : ∃ r, F_impl_inserted 2000000 p k q = some r ∧ F_spec_siPut 2000000 p k q = some r ∧ r.length ≤ 12 := by
  obtain ⟨a1, a2, a3⟩ := mem_sysN hp
  obtain ⟨b1, b2, b3⟩ := mem_sysN hq
  have hm2 : q.length ∈ [0, 2, 4, 6, 8, 10, 12] := by simpa using sys_lens hq
  have h2 : insQ p q k.toNat = true := by
    have hk : k.toNat < p.length + 1 := by omega
    rcases sys_lens hp with e | e | e | e | e | e | e <;> rw [e] at a3 hl hk
    · exact ins_at ins0 a3 b3 hm2 hl (Nat.zero_le _) hk
    · exact ins_at ins2 a3 b3 hm2 hl (Nat.zero_le _) hk
    · exact ins_at ins4 a3 b3 hm2 hl (Nat.zero_le _) hk
    · exact ins_at ins6 a3 b3 hm2 hl (Nat.zero_le _) hk
    · exact ins_at ins8 a3 b3 hm2 hl (Nat.zero_le _) hk
    · by_cases c : k.toNat < 6
      · exact ins_at ins10 a3 b3 hm2 hl (Nat.zero_le _) c
      · exact ins_at ins10' a3 b3 hm2 hl (by omega) hk
    · by_cases c : k.toNat < 4
      · exact ins_at ins12 a3 b3 hm2 hl (Nat.zero_le _) c
      · by_cases c2 : k.toNat < 8
        · exact ins_at ins12' a3 b3 hm2 hl (by omega) c2
        · exact ins_at ins12'' a3 b3 hm2 hl (by omega) hk
  unfold insQ at h2
  rw [show ((k.toNat : Nat) : Int) = k by omega] at h2
  split at h2
  · rename_i a b ea eb
    simp at h2
    obtain ⟨rfl, h3⟩ := h2
    exact ⟨a, ea, eb, h3⟩
  · cases h2
end Go.Proofs.Ytbckijeffiofdaa.AL
