/- impl.CountByStates: its answer is cut out of the tally, with a cap. No condition. -/
import Derived.Test.YtdbflchpbhkanaaG7
namespace Go.Proofs.Ytdbflchpbhkanaa.AL
open Go Go.RowKit
set_option linter.unusedVariables false
set_option linter.unusedSimpArgs false
set_option maxRecDepth 4096
attribute [local simp] n_fn b_add b_sub b_mul b_lt b_le b_gt b_ge b_eq b_ne u_not
section
variable {α : Type} {P : Program} {G H : AH} {B : Nat → Prop} {l : List Item} {k N : Nat} {u v : Value} {e t : TypeId} {xs : List α} {f : α → Value} {b : Int}
def cutV (v : Value) (b : Int) : Value := match v with
  | .slice (some ⟨i, off, some g⟩) n c => .slice (some ⟨i, off, some g⟩) b.toNat b.toNat
  | v => v
theorem aCut (h : Sl G v (xs.map f)) (hn : xs ≠ []) (he : elemT P t = some e) (hs : sizeT P e = some 1) (hg : subL xs 0 b) : aSlice P G t v none (some (.int .i64 b)) (some (.int .i64 b)) = some (cutV v b) := by
  unfold subL at hg
  rcases h with ⟨rfl, h0⟩ | ⟨i, off, g, c, o, rfl, h2, h3, h4, h5⟩
  · exact absurd (by simpa using h0) hn
  · have hbx : b.toNat ≤ xs.length := by omega
    have h6 : (b.toNat : Int) ≤ b ∧ b ≤ xs.length := by omega
    simp [aSlice, h2, he, hs, idxV, hg.2.1, h5, hbx, cutV, h6.1, h6.2]
    omega
theorem cutOwn (h : Own G N e u (xs.map f)) (hg : subL xs 0 b) : Own G N e (cutV u b) ((lsub xs 0 b).map f) ∧ idOf (cutV u b) = idOf u := by
  have hl := lsub_len hg
  rcases h with ⟨rfl, h0⟩ | ⟨i, off, g, c, o, h0, rfl, h1, h2, h3, h4, h5, h6, h7⟩
  · have hx : xs = [] := by simpa using h0
    subst hx
    exact ⟨.inl ⟨rfl, by simp [lsub]⟩, rfl⟩
  · simp only [List.length_map] at h6 h7 ⊢
    refine ⟨.inr ⟨i, off, g, _, o, h0, by simp only [cutV, List.length_map, hl, Int.toNat_zero, Nat.sub_zero]; rfl, h1, h2, h3, h4, h5, ?_, by rw [List.length_map, hl]; exact cells_sub (off := off) h7 hg⟩, rfl⟩
    unfold subL at hg
    simp only [List.length_map, hl]
    omega
theorem Sep.recut (h : Sep G B l) (hk : l[k]? = some (flat u e (xs.map f))) (hg : subL xs 0 b) : Sep G B (l.set k (flat (cutV u b) e ((lsub xs 0 b).map f))) := h.turn hk fun F ⟨p, q⟩ => by
  obtain ⟨o, hi⟩ := cutOwn p hg
  exact ⟨F, ⟨o, by rw [q]; unfold ids; rw [hi]⟩, fun _ h => h⟩
end
def F_impl_CountByStates (fu : Nat) (x0 : Int) : Option (List Int × Bool) :=
  bd (F_impl_isArches fu x0) fun r1 =>
  bif bnot r1 then
    some ([], false)
  else
    bd (F_impl_StartState fu) fun r2 =>
    bd (F_impl_closings fu r2.1 r2.2.1 r2.2.2 (imul .i64 2 x0)) fun r3 =>
    gd (subL r3 0 (iadd .i64 x0 1)) (some (lsub r3 0 (iadd .i64 x0 1), true))
theorem closings_ne {fu : Nat} {x0 x1 : List Int} {x2 n : Int} {r : List Int} (h : F_impl_closings fu x0 x1 x2 n = some r) : r.length = 7 := by
  obtain ⟨C, hC, h⟩ := bd_some h
  obtain ⟨hin, h⟩ := gd_some h
  obtain rfl := Option.some.inj h
  rw [clo_len]
  rfl
theorem F_impl_CountByStates_w {fu : Nat} {H : AH} {x0 : Int} {r : (List Int × Bool)} (hF : F_impl_CountByStates fu x0 = some r) :
    ACallT Try.prog 9 [(Value.int .i64 x0)] H (fun u G => AgB (Fr H) H G ∧ ∃ u0 : Value, u = (Value.tuple #[u0, (Value.bool r.2)]) ∧ Sep G (Fr H) [flat u0 3 (ints r.1)]) := by
  refine ACallT.of_body (nt := 16) (rs := [.tmp 2, .tmp 3]) Try.func9 rfl rfl rfl rfl ?_
  have A0 : AgB (Fr H) H H := .refl _ _
  have S0 : Sep H (Fr H) [] := .nil
  have hB := Fr.up H
  unfold F_impl_CountByStates at hF
  refine .sr fun K hK => ?_
  simp []
  apply hK
  clear hK K
  refine .seq ?_
  obtain ⟨r1, hc1, hF⟩ := bd_some hF
  refine .sr fun K hK => ?_
  simp []
  refine CallD.t (F_impl_isArches_w (fu := fu) hc1) ?_
  rintro _ G3 ⟨a6, rfl, S7⟩
  have A5 := A0.ext (hB.le A0.1) a6.agree
  have S4 : Sep G3 (Fr H) [] := S0.app a6.agree S7 (fun _ h => h) (hB.le A0.1)
  simp [a6.pre]
  apply hK
  clear hK K
  refine DWp.cond' (t := (bnot r1)) (by simp []) (fun hb8 => ?_) (fun hb8 => ?_)
  · replace hF := cd_t hb8 hF
    refine .sr fun K hK => ?_
    simp []
    apply hK
    clear hK K
    refine DWp.ret ?_
    simp only [andThen, leaves]
    have S9 := S4.nilItem (hB.le A5.1) 3
    obtain rfl := Option.some.inj hF
    exact ⟨by simp, [(Value.slice none 0 0), (Value.bool false)], by simp [], A5, (Value.slice none 0 0), rfl, S9.pick [0] (by decide) rfl⟩
  · replace hF := cd_f hb8 hF
    refine DWp.skip ?_
    simp only [andThen, leaves]
    obtain ⟨r2, hc9, hF⟩ := bd_some hF
    obtain ⟨r3, hc16, hF⟩ := bd_some hF
    obtain ⟨g1, hF⟩ := gd_some hF
    obtain rfl := Option.some.inj hF
    have hne : r3 ≠ [] := fun e => by
      have := closings_ne hc16
      rw [e] at this
      cases this
    refine .sr fun K hK => ?_
    simp []
    refine CallD.t (F_impl_StartState_w (fu := fu) hc9) ?_
    rintro _ G11 ⟨a14, c10_u0, c10_u1, rfl, S15⟩
    have A13 := A5.ext (hB.le A5.1) a14.agree
    have S12 : Sep G11 (Fr H) [flat c10_u0 3 (ints r2.1), flat c10_u1 3 (ints r2.2.1)] := S4.app a14.agree S15 (fun _ h => h) (hB.le A5.1)
    simp [a14.pre, ((S12.sl (k := 0) rfl).tup), ((S12.sl (k := 1) rfl).tup)]
    refine CallD.t (F_impl_closings_w (fu := fu) (S12.sl (k := 0) rfl) (S12.sl (k := 1) rfl) hc16) ?_
    rintro c17_u0 G18 ⟨a21, _, rfl, S22⟩
    have A20 := A13.ext (hB.le A13.1) a21.agree
    have S19 : Sep G18 (Fr H) [flat c10_u0 3 (ints r2.1), flat c10_u1 3 (ints r2.2.1), flat c17_u0 3 (ints r3)] := S12.app a21.agree S22 (fun _ h => h) (hB.le A13.1)
    have q1 := aCut (P := Try.prog) (t := 25) (S19.sl (k := 2) rfl) hne kelL kszI g1
    have S20 := (S19.recut (k := 2) rfl g1).pick [2] (by decide) rfl
    replace S20 : Sep G18 (Fr H) [flat (cutV c17_u0 (iadd .i64 x0 1)) 3 (ints (lsub r3 0 (iadd .i64 x0 1)))] := S20
    simp [a14.pre, a21.pre, q1, (S20.sl (k := 0) rfl).tup]
    apply hK
    clear hK K
    refine DWp.ret ?_
    exact ⟨by simp, [cutV c17_u0 (iadd .i64 x0 1), .bool true], by simp [(S20.sl (k := 0) rfl).tup], A20, _, rfl, S20⟩
end Go.Proofs.Ytdbflchpbhkanaa.AL
