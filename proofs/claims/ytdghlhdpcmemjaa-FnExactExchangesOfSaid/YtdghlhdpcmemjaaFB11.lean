/- Pairs: boxes of two lists, the two checks. No condition. -/
import Derived.Test.YtdghlhdpcmemjaaFB6
import Derived.Test.YtdghlhdpcmemjaaFB5
namespace Go.Proofs.Ytdghlhdpcmemjaa.AL
open Go Go.Proofs.Ytdghlhdpcmemjaa.Arch
attribute [local simp] aBin' aBin aBinI aUn aNil flatV
set_option linter.unusedVariables false
set_option linter.unusedSimpArgs false
set_option maxRecDepth 4096

def faT (P : Program) (s : TypeId) (f : Nat) : Option Nat := match P.underlying s with
  | some (.struct fields) => match fields[f]? with
    | some fl => match sizeT P fl.type with
      | some (_ + 1) => some fl.offset
      | _ => none
    | none => none
  | _ => none
theorem fa_of {P : Program} {G : AH} {s : TypeId} {f k i off g : Nat} {o : AO} (hf : faT P s f = some k) (ha : alive G i g = some o) : aFieldAddr P G s (ptrAt i off g) f = some (ptrAt i (off + k) g) := by
  unfold faT at hf
  unfold aFieldAddr ptrAt
  simp only [ha]
  split at hf
  · rename_i fields hu
    simp only [hu]
    split at hf
    · rename_i fl hfl
      simp only [hfl]
      split at hf
      · rename_i n hn
        cases hf
        simp only [hn]
      · cases hf
    · cases hf
  · cases hf
theorem fa38_1 : faT Try.prog 38 1 = some 1 := by kernel_rfl
theorem size38 : sizeT Try.prog 38 = some 2 := by kernel_rfl
theorem agg38 : aggT Try.prog 38 = some true := by kernel_rfl
structure Mbox (G : AH) (i : Nat) (a b : Value) : Prop where
  ex : ∃ o, G[i]? = some o ∧ o.gen = 0 ∧ o.cells = [a, b]
section
variable {G H : AH} {i n : Nat} {a b : Value}
theorem Mbox.new {e : TypeId} : Mbox (H ++ [⟨[a, b], e, 1, 0, false⟩]) H.length a b := ⟨⟨_, by simp; rfl, rfl, rfl⟩⟩
theorem Mbox.agree (h : Mbox H i a b) (ha : Agree n H G) (hi : i < n) : Mbox G i a b := by
  obtain ⟨o, h1, h2⟩ := h.ex
  exact ⟨⟨o, by rw [ha i hi, h1], h2⟩⟩
theorem Mbox.lt (h : Mbox H i a b) : i < H.length := by
  obtain ⟨o, h1, _⟩ := h.ex
  exact (List.getElem?_eq_some_iff.1 h1).1
theorem Mbox.f1 (h : Mbox G i a b) : aFieldAddr Try.prog G 38 (ptrAt i 0 0) 1 = some (ptrAt i 1 0) := by
  obtain ⟨o, h1, h2, h3⟩ := h.ex
  exact fa_of (o := o) fa38_1 (by simp [alive, h1, h2])
theorem Mbox.l0 (h : Mbox G i a b) : aLoad Try.prog G 22 (ptrAt i 0 0) = some a := by
  obtain ⟨o, h1, h2, h3⟩ := h.ex
  simp [aLoad, ptrAt, alive, h1, h2, h3, size22, agg22]
theorem Mbox.l1 (h : Mbox G i a b) : aLoad Try.prog G 22 (ptrAt i 1 0) = some b := by
  obtain ⟨o, h1, h2, h3⟩ := h.ex
  simp [aLoad, ptrAt, alive, h1, h2, h3, size22, agg22]
theorem Mbox.l (h : Mbox G i a b) : aLoad Try.prog G 38 (ptrAt i 0 0) = some (.agg #[a, b]) := by
  obtain ⟨o, h1, h2, h3⟩ := h.ex
  simp [aLoad, ptrAt, alive, h1, h2, h3, size38, agg38]
end
end Go.Proofs.Ytdghlhdpcmemjaa.AL
