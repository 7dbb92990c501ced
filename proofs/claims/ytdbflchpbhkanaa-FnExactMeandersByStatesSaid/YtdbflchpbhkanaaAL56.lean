/- AL, part 56: structs within structs; a list that was made, told. No condition. -/
import Derived.Test.YtdbflchpbhkanaaAL54
import Derived.Test.YtdbflchpbhkanaaALD
namespace Go.Proofs.Ytdbflchpbhkanaa.AL
open Go Go.RowKit
set_option linter.unusedVariables false
set_option linter.unusedSimpArgs false
section
variable {P : Program} {G H : AH} {B : Nat → Prop} {l : List Item} {p x u : Value} {cells : List Value} {t e : TypeId} {k off o m : Nat}
theorem Sep.loadSub (h : Sep G B l) (hk : l[k]? = some (AL.box p cells)) (hs : sizeT P e = some m) (hb : aggT P e = some true) (ho : off + m ≤ cells.length) : aLoad P G e (fldP p off) = some (.agg ((cells.drop off).take m).toArray) := by
  obtain ⟨i, ⟨rfl, q, h1, h2, rfl, h3⟩, _⟩ := h.boxAt hk
  have hal : alive G i 0 = some q := by simp [alive, h1, h2]
  simp [ptrAt, fldP, aLoad, hal, hs, hb, ho]
theorem Sep.fieldSub (h : Sep G B l) (hk : l[k]? = some (AL.box p cells)) (hf : fldT P t m = some off) : aFieldAddr P G t (fldP p o) m = some (fldP p (o + off)) := by
  obtain ⟨i, ⟨rfl, q, h1, h2, rfl, h3⟩, _⟩ := h.boxAt hk
  have hal : alive G i 0 = some q := by simp [alive, h1, h2]
  unfold fldT at hf
  split at hf
  · rename_i fields hu
    split at hf
    · rename_i fl hfl
      split at hf
      · rename_i hz
        cases hf
        simp [ptrAt, fldP, aFieldAddr, hal, hu, hfl, hz]
      · cases hf
    · cases hf
  · cases hf
theorem Sep.ownN (h : Sep G (Fr H) l) (hk : l[k]? = some (flat u e cells)) (hn : cells ≠ []) : OwnN G H.length e u cells := by
  refine ⟨?_, fun c => absurd c hn⟩
  obtain ⟨F, ⟨h1, rfl⟩, h2⟩ := h.get hk
  rcases h1 with ⟨_, rfl⟩ | ⟨i, off, g, c, q, _, rfl, h3⟩
  · exact absurd rfl hn
  · exact .inr ⟨i, off, g, c, q, (h2 i (by simp [ids, idOf])).1, rfl, h3⟩
theorem told_list {f : FuncId} {args : List Value} (hp : PlainL cells) (hn : cells ≠ []) (h : ACallP P f args H (fun u G => OwnN G H.length e u cells ∧ Agree H.length H G)) : ACallT P f args H (fun u G => AgB (Fr H) H G ∧ ∃ u0 : Value, u = u0 ∧ Sep G (Fr H) [flat u0 e cells]) := by
  have := ACallP.list hp h
  unfold tellV tellH at this
  rw [if_neg hn, if_neg hn] at this
  refine ⟨_, _, this, AgB.of (Agree.app _ _), _, rfl, ?_⟩
  refine ⟨fun _ => [H.length], fun j it hj => ?_, fun a b ha hb hab => by simp at ha hb; omega⟩
  cases j with
  | zero =>
    simp at hj
    subst hj
    refine ⟨⟨.inr ⟨H.length, 0, 0, cells.length + 1, objL e cells, Nat.zero_le _, rfl, by simp, rfl, rfl, rfl, rfl, by simp [objL], by simp [objL]⟩, by simp [ids, idOf, mkL]⟩, fun i hi => ?_⟩
    simp at hi
    subst hi
    exact ⟨Nat.le_refl _, by simp⟩
  | succ j => simp at hj
end
end Go.Proofs.Ytdbflchpbhkanaa.AL
