/- AL, part 34: a loop's first round by itself; a slot that holds a row or nil; what is nil where it is empty. No condition. -/
import Derived.Test.YtbckijeffiofdaaAL33
namespace Go.Proofs.Ytbckijeffiofdaa.AL
open Go Go.RowKit
set_option linter.unusedVariables false
set_option linter.unusedSimpArgs false
section
variable {P : Program} {nt : Nat} {env : Env} {H : AH} {Q : Exit → Env → AH → Prop} {c : Code}
/-- Where a loop, begun here, ends. -/
def DLoop (P : Program) (nt : Nat) (c : Code) (Q : Exit → Env → AH → Prop) (env : Env) (H : AH) : Prop :=
  ∃ x env' H' k, DRun P nt c x env' H' k env H ∧ (WF H → ER H.length env → WF H' ∧ ER H'.length env' ∧ H.length ≤ H'.length) ∧ Q x env' H'
theorem DLoop.wp (h : DLoop P nt c Q env H) : DWp P nt (.loop c) Q env H := by
  obtain ⟨x, env', H', k, r, g, q⟩ := h
  refine ⟨x, env', H', AWp.loop (fun n e G => DRun P nt c x env' H' n e G) k r ?_, g, q⟩
  intro n e G r
  cases r with
  | stop hx a =>
    refine a.mono ?_
    rintro y e G ⟨rfl, rfl, rfl⟩
    cases y with
    | normal => exact absurd rfl hx
    | _ => exact ⟨rfl, rfl, rfl⟩
  | step a r =>
    refine a.mono ?_
    rintro y e G ⟨rfl, rfl, rfl⟩
    exact ⟨_, Nat.lt_succ_self _, r⟩
theorem DLoop.step (h : DWp P nt c (andThen (DLoop P nt c Q) Q) env H) : DLoop P nt c Q env H := by
  obtain ⟨x, env1, H1, a1, g1, q⟩ := h
  cases x with
  | normal =>
    obtain ⟨x2, env2, H2, k, r, g2, q2⟩ := q
    refine ⟨x2, env2, H2, k + 1, .step a1 r, fun a b => ?_, q2⟩
    obtain ⟨w1, r1, l1⟩ := g1 a b
    obtain ⟨w2, r2, l2⟩ := g2 w1 r1
    exact ⟨w2, r2, Nat.le_trans l1 l2⟩
  | _ => exact ⟨_, env1, H1, 0, .stop (by simp) a1, g1, q⟩
theorem DLoop.of (I : Nat → Env → AH → Prop) (n : Nat) (h0 : I n env H)
    (round : ∀ n env H, I n env H → DWp P nt c (andThen (fun env' H' => ∃ m, m < n ∧ I m env' H') Q) env H) : DLoop P nt c Q env H := by
  have key : ∀ n env H, I n env H → DLoop P nt c Q env H := by
    intro n
    induction n using Nat.strongRecOn with
    | _ n ih =>
      intro env H hI
      refine DLoop.step ((round n env H hI).mono fun x e G q => ?_)
      cases x with
      | normal =>
        obtain ⟨m, hm, hI'⟩ := q
        exact ih m hm e G hI'
      | _ => exact q
  exact key n env H h0
end
section
variable {P : Program} {G H : AH} {t e : TypeId} {v : Value} {C : List Value} {X : List (List Int)} {xs : List Int} {o : Int}
/-- Is it empty? -/
def lemp {α : Type} (xs : List α) : Bool := xs.isEmpty
theorem nil_q (hu : P.underlying t = some (.slice e)) (h : Sl H v (ints xs)) (hn : xs = [] → v = .slice none 0 0) : aBin' P H .eql t v (.slice none 0 0) = some (.bool (lemp xs)) := by
  cases xs with
  | nil => rw [hn rfl]; exact nil_tt hu
  | cons x xs =>
    refine (nil_ff hu h ?_).trans rfl
    rintro rfl
    rcases h with ⟨_, h⟩ | ⟨_, _, _, _, _, h, _⟩
    · cases h
    · cases h
theorem nil_nq (hu : P.underlying t = some (.slice e)) (h : Sl H v (ints xs)) (hn : xs = [] → v = .slice none 0 0) : aBin' P H .neq t v (.slice none 0 0) = some (.bool (bnot (lemp xs))) := by
  cases xs with
  | nil => rw [hn rfl]; exact nil_ne_ff hu
  | cons x xs =>
    refine (nil_ne_tt hu h ?_).trans rfl
    rintro rfl
    rcases h with ⟨_, h⟩ | ⟨_, _, _, _, _, h, _⟩
    · cases h
    · cases h
/-- A row told by its place, or nil. -/
def rnV (C : List Value) (o : Int) : Value := bif ilt o 0 then .slice none 0 0 else gat nilV C o
def rnL (X : List (List Int)) (o : Int) : List Int := bif ilt o 0 then [] else gat [] X o
@[simp] theorem rnV_m1 : rnV C (-1) = .slice none 0 0 := rfl
theorem rnV_t (h : ilt o 0 = true) : rnV C o = .slice none 0 0 := by simp [rnV, h]
theorem rnV_f (h : ilt o 0 = false) : rnV C o = gat nilV C o := by simp [rnV, h]
theorem rnL_t (h : ilt o 0 = true) : rnL X o = [] := by simp [rnL, h]
theorem rnL_f (h : ilt o 0 = false) : rnL X o = gat [] X o := by simp [rnL, h]
theorem ilt_in {α : Type} {X : List α} (h : inL X o) : ilt o 0 = false := by rw [ilt_eq]; simp; exact h.1
theorem rnV_in {α : Type} {X : List α} (h : inL X o) : gat nilV C o = rnV C o := (rnV_f (ilt_in h)).symm
theorem rn_sl (h : RdC G v C (X.map ints)) (ho : ilt o 0 = true ∨ inL X o) : Sl G (rnV C o) (ints (rnL X o)) := by
  rcases ho with ho | ho
  · rw [rnV_t ho, rnL_t ho]
    exact .inl ⟨rfl, rfl⟩
  · rw [rnV_f (ilt_in ho), rnL_f (ilt_in ho)]
    exact h.rowAt [] ho
theorem rn_nil (h : ilt o 0 = true ∨ rnL X o ≠ []) (hx : rnL X o = []) : rnV C o = .slice none 0 0 := by
  rcases h with h | h
  · exact rnV_t h
  · exact absurd hx h
end
section
variable {P : Program} {G H : AH} {B : Nat → Prop} {l : List Item} {t t2 e : TypeId} {q : EInfo} {n : Int} {s x : Value}
theorem cells_fn {f : Fn} {a cs : Array Value} : (Value.func f a cs).cells = #[.func f a cs] := rfl
theorem tup_fn {f : Fn} {a cs : Array Value} : isTup (.func f a cs) = false := rfl
theorem cap_nil (hu : P.underlying t = some (.slice e)) : aCap P t (.slice none 0 0) = some (.int .i64 0) := by simp [aCap, hu]
theorem len_nil (he : elemT P t = some e) : aLen P H t (.slice none 0 0) = some (.int .i64 0) := by
  have hu := elemT_some he
  simp [aLen, hu]
theorem slice_nil (he : elemT P t = some e) (hs : sizeT P e = some 1) : aSlice P H t (.slice none 0 0) none (some (.int .i64 0)) none = some (.slice none 0 0) :=
  aSub01 (G := H) (xs := ([] : List Int)) (f := Value.int .i64) (.inl ⟨rfl, rfl⟩) he hs ⟨by omega, by omega, by simp⟩
theorem apN_none (h : srcD P t2 = false) : aAppend P H t t2 s x = none := by
  unfold aAppend
  split
  · split
    · rw [if_neg (by rw [h]; simp)]
    · rfl
  · rfl
theorem Sep.apM {α : Type} {f : α → Value} (h : Sep G B l) (hN : Up B G.length) (he : elemT P t = some e) (hq : einfo P e = some q) (hq1 : q.size = 1) (ht : intT P t2 = true) (d : α) (hz : q.zero.cells.getD 0 default = f d) (hi : 0 < n ∧ n ≤ 4294967296) :
    ∃ v G', aApM P G t t2 (.slice none 0 0) (.int .i64 n) = some (v, G') ∧ Sep G' B (l ++ [flat v e ((lrep n d).map f)]) ∧ Agree G.length G G' ∧ isTup v = false := by
  have hm : aApM P G t t2 (.slice none 0 0) (.int .i64 n) = some (.slice (some ⟨G.length, 0, some 0⟩) n.toNat (n.toNat + 1), G ++ [⟨List.replicate n.toNat (q.zero.cells.getD 0 default), e, 1, 0, false⟩]) := by
    simp only [aApM, he, hq, hq1, ht, hi.1, hi.2, and_self, if_true, aNew]
  have h1 := (h.lit hN e (List.replicate n.toNat (q.zero.cells.getD 0 default)) (n.toNat + 1)).weak (k := l.length) (by simp; rfl)
  refine ⟨_, _, hm, ?_, Agree.app _ _, rfl⟩
  have e1 : (lrep n d).map f = List.replicate n.toNat (q.zero.cells.getD 0 default) := by rw [hz]; simp [lrep]
  rw [e1]
  simpa using h1
theorem SlSl.two {v v1 v2 : Value} {x1 x2 : List Int} (h : Sl G v [v1, v2]) (h1 : Sl G v1 (ints x1)) (h2 : Sl G v2 (ints x2)) : SlSl G v (List.map ints [x1, x2]) :=
  ⟨[v1, v2], h, rfl, fun k c xs hc hx => by
    match k, hc, hx with
    | 0, hc, hx => simp at hc hx; subst hc hx; exact h1
    | 1, hc, hx => simp at hc hx; subst hc hx; exact h2
    | k + 2, hc, hx => simp at hc⟩
end
end Go.Proofs.Ytbckijeffiofdaa.AL
