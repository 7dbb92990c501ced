/- AL, part 54: code whose ends are many (rounds in whatever order), told in the manner of code with one end. No condition. -/
import Derived.Test.YtdbflchpbhkanaaAL51
namespace Go.Proofs.Ytdbflchpbhkanaa.AL
open Go Go.RowKit
set_option linter.unusedVariables false
set_option linter.unusedSimpArgs false
section
variable {P : Program} {nt : Nat} {env : Env} {H : AH} {Q : Exit → Env → AH → Prop} {c x y : Code} {ops : Array Oper} {id : Nat}
theorem DWp.aw (h : DWp P nt c Q env H) : AWp P nt c Q env H := by
  obtain ⟨x, env', H', a, g, q⟩ := h
  exact a.mono (by rintro y e G ⟨rfl, rfl, rfl⟩; exact q)
theorem AWp.seqD (h : DWp P nt x (andThen (AWp P nt y Q) Q) env H) : AWp P nt (.seq x y) Q env H := .seq h.aw
theorem AWp.sr (h : ∀ K : Env → AH → Prop, (∀ env H, AWp P nt y Q env H → K env H) → ARunD P nt ops 0 K 0 ops.toList env H) : AWp P nt (.seq (.region id ops false) y) Q env H := .seqD (DWp.region h)
theorem AWp.reg (h : ∀ K : Env → AH → Prop, (∀ env H, Q .normal env H → K env H) → ARunD P nt ops 0 K 0 ops.toList env H) : AWp P nt (.region id ops false) Q env H := (DWp.region h).aw
theorem AWp.sd {B : List Nat} (k : Nat) (hm : P.follows .mixedOrders = true) (hc : chk ops B k = true) (hk : k ≤ ops.size) (h : ∀ K : Env → AH → Prop, (∀ env H, AWp P nt y Q env H → K env H) → ARunD P nt ops k K 0 ops.toList env H) : AWp P nt (.seq (.region id ops true) y) Q env H := .seqD (DWp.drawn k hm hc hk h)
theorem AWp.sl {B : List Nat} {X0 : List Nat} {π σ : List Nat} (k : Nat) (K : Nat → Bool) (N : Option Nat) (hm : P.follows .mixedOrders = true) (hp : okP ops.size π σ = true) (hc : chkL (rlL π σ ops.toList).toArray B k X0 = true) (hk : k ≤ ops.size)
    (h : ∀ NN : Env → AH → Prop, (∀ env H, AWp P nt y Q env H → NN env H) → ARunL P nt (rl0 π σ ops.toList).toArray k K N X0 NN 0 (rl0 π σ ops.toList) env H) : AWp P nt (.seq (.region id ops true) y) Q env H := .seqD (DWp.drawn0 k K N hm hp hc hk h)
theorem AWp.cond' {c : Operand} {t : Bool} (hc : aev env c = some (.bool t)) (h1 : t = true → AWp P nt x Q env H) (h2 : t = false → AWp P nt y Q env H) : AWp P nt (.cond c x y) Q env H := by
  cases t with
  | true => exact .ct hc (h1 rfl)
  | false => exact .cf hc (h2 rfl)
theorem AWp.blk (h : AWp P nt c (leaves id Q) env H) : AWp P nt (.block id c) Q env H := AWp.block (h.mono fun x e G q => by
  cases x with
  | exit id' =>
    simp only [leaves] at q ⊢
    exact q
  | _ => exact q)
end
def unseen (N : Nat) (seen : List Nat) : Nat := ((List.range N).filter fun s => !seen.contains s).length
theorem unseen_lt {N s : Nat} {seen : List Nat} (hs : s < N) (hn : s ∉ seen) : unseen N (seen ++ [s]) < unseen N seen := by
  unfold unseen
  have e : (List.range N).filter (fun a => !(seen ++ [s]).contains a) = ((List.range N).filter fun a => !seen.contains a).filter fun a => a != s := by
    rw [List.filter_filter]
    congr 1
    funext a
    by_cases h1 : a ∈ seen <;> by_cases h2 : a = s <;> simp [h1, h2]
  rw [e, List.length_filter_lt_length_iff_exists]
  exact ⟨s, by simp [hs, hn], by simp⟩
end Go.Proofs.Ytdbflchpbhkanaa.AL
