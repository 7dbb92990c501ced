/- AL, part 19: a function that hands back a pair of new lists. No condition. -/
import Derived.Test.YtbckijeffiofdaaAL16
namespace Go.Proofs.Ytbckijeffiofdaa.AL
open Go Go.RowKit
set_option linter.unusedVariables false
set_option linter.unusedSimpArgs false

theorem Canon.two {H H' : AH} {e : TypeId} {v1 v2 : Value} {c1 c2 : List Value} (hw : WF H) (hH : H <+: H') (hf1 : Fresh H' H.length e v1 c1) (hf2 : Fresh H' H.length e v2 c2) (hd : idOf v1 ≠ idOf v2) (hp1 : PlainL c1) (hp2 : PlainL c2) :
    ∃ ext ρ, H' = H ++ ext ∧ Canon H ext [objL e c1, objL e c2] ρ ∧ vr3 H.length ρ (packed [.agg #[mkL H.length c1.length, mkL (H.length + 1) c2.length]]) (packed [.agg #[v1, v2]]) := by
  obtain ⟨i, off, g, c, o, h0, rfl, h1, h2, h3, h4, h5, h6, h7⟩ := hf1
  obtain ⟨j, off', g', c', o', k0, rfl, k1, k2, k3, k4, k5, k6, k7⟩ := hf2
  have hij : i ≠ j := fun e => hd (by simp [idOf, e])
  obtain ⟨ext, rfl⟩ := hH
  have cell : ∀ {cells : List Value} {o : AO} {off : Nat} {ρ : List Src}, PlainL cells → (o.cells.drop off).take cells.length = cells → ∀ (m : Nat) (x : Value), cells[m]? = some x → ∃ r, o.cells[off + m]? = some r ∧ vr0 H.length ρ x r := by
    intro cells o off ρ hp ht m x hx
    refine ⟨x, ?_, vr0_flatplain (hp x (List.mem_of_getElem? hx))⟩
    have hlt := (List.getElem?_eq_some_iff.1 hx).1
    rw [← ht, List.getElem?_take, if_pos hlt, List.getElem?_drop] at hx
    exact hx
  refine ⟨ext, [⟨i, off, g⟩, ⟨j, off', g'⟩], rfl, ⟨rfl, fun o ho c hc => hw o ho c hc, fun m n s t h1 h2 hne => ?_, fun m s n q1 q2 => ?_⟩, ?_⟩
  · match m, n, h1, h2 with
    | 0, 0, _, _ => exact absurd rfl hne
    | 0, 1, h1, h2 => simp at h1 h2; subst h1 h2; exact hij
    | 1, 0, h1, h2 => simp at h1 h2; subst h1 h2; exact fun e => hij e.symm
    | 1, 1, _, _ => exact absurd rfl hne
    | m + 2, _, h1, _ => simp at h1
    | 0, n + 2, _, h2 => simp at h2
    | 1, n + 2, _, h2 => simp at h2
  · match m, q1, q2 with
    | 0, q1, q2 =>
      simp at q1 q2
      subst q1 q2
      exact ⟨h0, o, h1, h2, rfl, h3.symm, h4.symm, rfl, h5, h6, fun m x hx => cell hp1 h7 m x hx⟩
    | 1, q1, q2 =>
      simp at q1 q2
      subst q1 q2
      exact ⟨k0, o', k1, k2, rfl, k3.symm, k4.symm, rfl, k5, k6, fun m x hx => cell hp2 k7 m x hx⟩
    | m + 2, q1, _ => simp at q1
  · have e1 : vr0 H.length [⟨i, off, g⟩, ⟨j, off', g'⟩] (mkL H.length c1.length) (.slice (some ⟨i, off, some g⟩) c1.length c) := by
      unfold mkL vr0
      exact ⟨rfl, fun h => by omega, .inr ⟨Nat.le_refl _, rfl, ⟨i, off, g⟩, by simp, rfl, rfl, by simp⟩⟩
    have e2 : vr0 H.length [⟨i, off, g⟩, ⟨j, off', g'⟩] (mkL (H.length + 1) c2.length) (.slice (some ⟨j, off', some g'⟩) c2.length c') := by
      unfold mkL vr0
      exact ⟨rfl, fun h => by omega, .inr ⟨Nat.le_succ _, rfl, ⟨j, off', g'⟩, by simp, rfl, rfl, by simp⟩⟩
    exact .cons e1 (.cons e2 .nil)
theorem good_two {H : AH} {e : TypeId} {c1 c2 : List Value} (hw : WF H) (hp1 : PlainL c1) (hp2 : PlainL c2) : Good H (packed [.agg #[mkL H.length c1.length, mkL (H.length + 1) c2.length]]) (H ++ [objL e c1, objL e c2]) := by
  refine ⟨?_, ?_, by simp⟩
  · intro o ho c hc
    simp only [List.mem_append, List.mem_cons, List.not_mem_nil, or_false] at ho
    rcases ho with ho | rfl | rfl
    · exact R0_mono (by simp) (hw o ho c hc)
    · exact R0_plain (hp1 c hc)
    · exact R0_plain (hp2 c hc)
  · simp [packed, R3, R2, R0, mkL]
/-- A FUNCTION THAT HANDS BACK A PAIR OF NEW LISTS. -/
theorem ACall.two {P : Program} {f : FuncId} {fn : Func} {c : Code} {args : List Value} {H : AH} {rs : List ResultVar} {nt : Nat} {e : TypeId} {c1 c2 : List Value} (hf : P.funcs[f]? = some fn) (hb : fn.body = some c) (hn : (fn.name == "runtime.NumGoroutine") = false)
    (hr : fn.results.toList = rs) (ht : args.length + (fn.ntmps - args.length) = nt) (hp1 : PlainL c1) (hp2 : PlainL c2)
    (h : WF H → AWp P nt c (fun x env' H' => (x = .normal ∨ x = .ret) ∧ H <+: H' ∧ ∃ v1 v2, Fresh H' H.length e v1 c1 ∧ Fresh H' H.length e v2 c2 ∧ idOf v1 ≠ idOf v2 ∧ aresults P H' env' rs = some [.agg #[v1, v2]]) (fun t => args[t]?) H) :
    ACall P f args H (.agg #[mkL H.length c1.length, mkL (H.length + 1) c2.length]) (H ++ [objL e c1, objL e c2]) :=
  ACall.of_body hf hb hn (fun hw _ => good_two hw hp1 hp2) rfl (fun hw => by
    rw [ht]
    refine (h hw).mono ?_
    rintro x env' H' ⟨he, hpre, v1, v2, hf1, hf2, hd, hv⟩
    obtain ⟨ext, ρ, h1, h2, h3⟩ := Canon.two hw hpre hf1 hf2 hd hp1 hp2
    exact ⟨he, _, ext, ρ, by rw [hr]; exact hv, h1, h2, h3⟩)
/-- A contract with a fact that tells what was made, told anew. -/
theorem ACallP.told {P : Program} {f : FuncId} {args : List Value} {H H1 news : AH} {v : Value} {Post : Value → AH → Prop} (h : ACallP P f args H Post) (hgood : WF H → Good H v (H1 ++ news)) (hl : H.length = H1.length)
    (hp : WF H → ∀ u H', Post u H' → ∃ ext ρ, H' = H1 ++ ext ∧ Canon H1 ext news ρ ∧ vr3 H1.length ρ v u) : ACall P f args H v (H1 ++ news) :=
  ⟨h.enters, fun hw _ => hgood hw, fun β w args' R wf hR ha => (h.calls β w args' R wf hR ha).mono fun e w' ⟨u, v', β', H', he, hpost, hg, R', E, t⟩ => by
    obtain ⟨ext, ρ, rfl, C, hv⟩ := hp wf u H' hpost
    obtain ⟨R'', E'⟩ := C.rel R' R hl E
    exact ⟨v', _, he, R'', E', t.renamed R' C hv⟩⟩
/-- A list that was made, or nil where it is empty. -/
def OwnN (H : AH) (N : Nat) (e : TypeId) (v : Value) (cs : List Value) : Prop := Own H N e v cs ∧ (cs = [] → v = .slice none 0 0)
def tellV (N : Nat) (cs : List Value) : Value := if cs = [] then .slice none 0 0 else mkL N cs.length
def tellH (H : AH) (e : TypeId) (cs : List Value) : AH := if cs = [] then H else H ++ [objL e cs]
theorem ACallP.list {P : Program} {f : FuncId} {args : List Value} {H : AH} {e : TypeId} {cs : List Value} (hp : PlainL cs) (h : ACallP P f args H (fun u G => OwnN G H.length e u cs ∧ Agree H.length H G)) : ACall P f args H (tellV H.length cs) (tellH H e cs) := by
  unfold tellV tellH
  by_cases c : cs = []
  · rw [if_pos c, if_pos c]
    have key := ACallP.told (H1 := H) (news := []) (v := .slice none 0 0) h (fun hw => by rw [List.append_nil]; exact ⟨hw, rfl, Nat.le_refl _⟩) rfl (fun hw u G ⟨⟨_, hu⟩, ha⟩ => by
      obtain ⟨L, rfl⟩ := ha.to_pre
      rw [hu c]
      exact ⟨L, [], rfl, Canon.none H L hw, vr3_plain rfl⟩)
    rwa [List.append_nil] at key
  · rw [if_neg c, if_neg c]
    refine ACallP.told (H1 := H) (news := [objL e cs]) h (fun hw => good_list (rest := []) hw hp (fun v hv => by cases hv)) rfl (fun hw u G ⟨⟨ho, _⟩, ha⟩ => ?_)
    have hf : Fresh G H.length e u cs := by
      rcases ho with ⟨_, h0⟩ | hf
      · exact absurd h0 c
      · exact hf
    obtain ⟨ext, ρ, h1, h2, h3⟩ := Canon.list (rest := []) hw ha.to_pre hf hp (fun v hv => by cases hv)
    exact ⟨ext, ρ, h1, h2, h3⟩
end Go.Proofs.Ytbckijeffiofdaa.AL
