/- The law FnExactWaysToClose holds: for every input it returns true, and each argument reads afterwards as it read before. -/
import Derived.Test.YtdbflchpbhkanaaRows
import Derived.Test.YtdbflchpbhkanaaFLFnExactWaysToClose
import Derived.Test.YtdbflchpbhkanaaALC
import Derived.Test.YtdbflchpbhkanaaQHead
import Derived.WalkKit
import Derived.ProofKit
import Derived.OpenShut
import Derived.ShutString
import Derived.ChangeOld
import Derived.Below
import Derived.SizedLaws
import Derived.Lib.SmallJoins
namespace Go.Proofs.Ytdbflchpbhkanaa.fnExactWaysToClose
open Go.ChangeShapes Go.WideShapes Go.ChangeAt Go.RowKit Go.Joins
open Go.ChangeMaps (open_string shut_string)
set_option linter.unusedVariables false
theorem own : ownKnob Try.prog.godebug = none := by kernel_rfl
theorem laidOut : laidOutB Try.prog = true := by kernel_rfl
def IsRow (k : IntKind) (w : World) (a : Option Addr) (len cap : Nat) (zs : List Int) : Prop := (⟨a, len, cap, zs, k⟩ : AL.Rin).ok w ∧ (∀ n ∈ zs, (Lit.int k n).wf = true) ∧ cap ≤ maxLen
set_option maxRecDepth 100000 in
theorem isRow_some {k : IntKind} {rch : Reach} {base : Nat} {t e : TypeId} {w : World} {x : Addr} {len cap : Nat} {zs : List Int} (ht : Try.prog.underlying t = some (.slice e)) (h : Value.okWide Try.prog w rch base t (.slice (some x) len cap)) (hl : len ≤ cap) (hm : cap ≤ maxLen) (hz : zs.length = cap)
    (hc : ∀ i, i < zs.length → w.cell? (x.add i) = some (.int k (zs.getD i 0))) (hw : ∀ n ∈ zs, (Lit.int k n).wf = true) : IsRow k w (some x) len cap zs := by
  have h1 := AL.slice_in (P := Try.prog) (w := w) ht h
  exact ⟨⟨h1.1, h1.2, hl, hz, hc⟩, hw, hm⟩
set_option maxRecDepth 100000 in
theorem isRow_cell {k : IntKind} {rch : Reach} {base i : Nat} {t : TypeId} {fs : Array Field} {w : World} {x : Addr} {len cap : Nat} {zs : List Int} {cs : Array Value} (ht : Try.prog.underlying t = some (.struct fs)) (h : Value.okWide Try.prog w rch base t (.agg cs)) (hi : cs[i]? = some (.slice (some x) len cap)) (hl : len ≤ cap) (hm : cap ≤ maxLen) (hz : zs.length = cap)
    (hc : ∀ i, i < zs.length → w.cell? (x.add i) = some (.int k (zs.getD i 0))) (hw : ∀ n ∈ zs, (Lit.int k n).wf = true) : IsRow k w (some x) len cap zs := by
  have h1 := AL.agg_in (P := Try.prog) (w := w) ht h hi
  exact ⟨⟨h1.1, h1.2, hl, hz, hc⟩, hw, hm⟩
theorem walk (a0_0 : Option Addr) (len0_0 cap0_0 : Nat) (z0_0 : List Int) (a0_1 : Option Addr) (len0_1 cap0_1 : Nat) (z0_1 : List Int) (a0_2 : Int) (a1 : Int) (a2 : Int) (w : World) (w0_0 : IsRow .i64 w a0_0 len0_0 cap0_0 z0_0) (w0_1 : IsRow .i64 w a0_1 len0_1 cap0_1 z0_1) (w0_2 : (Lit.int .i64 a0_2).wf = true) (w1 : (Lit.int .i64 a1).wf = true) (w2 : (Lit.int .i64 a2).wf = true) :
    Calls Try.prog 5 #[.agg #[.slice a0_0 len0_0 cap0_0, .slice a0_1 len0_1 cap0_1, .int .i64 a0_2], .int .i64 a1, .int .i64 a2] w fun e w' => e = .returned (.bool true) ∧ Below w.heap.size w w' := by
  refine AL.law_calls (rs := [(⟨a0_0, len0_0, cap0_0, z0_0, .i64⟩ : AL.Rin), (⟨a0_1, len0_1, cap0_1, z0_1, .i64⟩ : AL.Rin)]) (abs := [.agg #[(((⟨a0_0, len0_0, cap0_0, z0_0, .i64⟩ : AL.Rin).abs 0)), (((⟨a0_1, len0_1, cap0_1, z0_1, .i64⟩ : AL.Rin).abs 1)), (.int .i64 a0_2)], (.int .i64 a1), (.int .i64 a2)]) (AL.FnExactWaysToClose (AL.inH [(⟨a0_0, len0_0, cap0_0, z0_0, .i64⟩ : AL.Rin), (⟨a0_1, len0_1, cap0_1, z0_1, .i64⟩ : AL.Rin)]) (((⟨a0_0, len0_0, cap0_0, z0_0, .i64⟩ : AL.Rin).abs 0)) _ (((⟨a0_1, len0_1, cap0_1, z0_1, .i64⟩ : AL.Rin).abs 1)) _ a0_2 a1 a2 (AL.in_sl (rs := [(⟨a0_0, len0_0, cap0_0, z0_0, .i64⟩ : AL.Rin), (⟨a0_1, len0_1, cap0_1, z0_1, .i64⟩ : AL.Rin)]) (k := 0) rfl w0_0.1) (fun n hn => w0_0.2.1 n (List.mem_of_mem_take hn)) (AL.val_len w0_0.1 w0_0.2.2) (AL.in_sl (rs := [(⟨a0_0, len0_0, cap0_0, z0_0, .i64⟩ : AL.Rin), (⟨a0_1, len0_1, cap0_1, z0_1, .i64⟩ : AL.Rin)]) (k := 1) rfl w0_1.1) (fun n hn => w0_1.2.1 n (List.mem_of_mem_take hn)) (AL.val_len w0_1.1 w0_1.2.2) w0_2 w1 w2) ?_ ?_ ?_
  · intro r hr
    simp only [List.mem_cons, List.not_mem_nil, or_false] at hr
    rcases hr with rfl | rfl
    · exact w0_0.1
    · exact w0_1.1
  · intro x hx
    simp only [List.mem_cons, List.not_mem_nil, or_false] at hx
    rcases hx with rfl | rfl | rfl
    · exact (by simp only [AL.R2, List.all_toArray, List.all_cons, List.all_nil, Bool.and_true, Bool.and_eq_true]; exact ⟨AL.in_R0 (rs := [(⟨a0_0, len0_0, cap0_0, z0_0, .i64⟩ : AL.Rin), (⟨a0_1, len0_1, cap0_1, z0_1, .i64⟩ : AL.Rin)]) (r := (⟨a0_0, len0_0, cap0_0, z0_0, .i64⟩ : AL.Rin)) (k := 0) rfl, AL.in_R0 (rs := [(⟨a0_0, len0_0, cap0_0, z0_0, .i64⟩ : AL.Rin), (⟨a0_1, len0_1, cap0_1, z0_1, .i64⟩ : AL.Rin)]) (r := (⟨a0_1, len0_1, cap0_1, z0_1, .i64⟩ : AL.Rin)) (k := 1) rfl, rfl⟩)
    · exact rfl
    · exact rfl
  · exact .cons (AL.T2.agg (.cons (.one (AL.in_T0 (rs := [(⟨a0_0, len0_0, cap0_0, z0_0, .i64⟩ : AL.Rin), (⟨a0_1, len0_1, cap0_1, z0_1, .i64⟩ : AL.Rin)]) (r := (⟨a0_0, len0_0, cap0_0, z0_0, .i64⟩ : AL.Rin)) (k := 0) rfl w0_0.1)) (.cons (.one (AL.in_T0 (rs := [(⟨a0_0, len0_0, cap0_0, z0_0, .i64⟩ : AL.Rin), (⟨a0_1, len0_1, cap0_1, z0_1, .i64⟩ : AL.Rin)]) (r := (⟨a0_1, len0_1, cap0_1, z0_1, .i64⟩ : AL.Rin)) (k := 1) rfl w0_1.1)) (.cons (.one (.plain rfl)) (.nil))))) (.cons (AL.plain_T2 rfl) (.cons (AL.plain_T2 rfl) (.nil)))
set_option maxRecDepth 100000 in
theorem lifted (os : Os) (started : os.Started) (H : Type) (enc : TypeId × Value → H) :
    ReturnsInHanded {} Try.checked os 5 .any (Rows.fnExactWaysToCloseSpec.pre6 enc Try.prog Try.f5 Rows.fnExactWaysToCloseRow.domain false) (Rows.fnExactWaysToCloseSpec.post enc Try.prog Try.f5 false true false false) := by
  refine returnsInHanded_of_change_sized (C := Try.checked) own started (by kernel_rfl) Try.func5
    (ChangeSpec.witness6 (enc := enc) (C := Try.checked) false ⟨#[], #[.agg #[.slice none 0 0, .slice none 0 0, .int .i64 0], .int .i64 0, .int .i64 0], []⟩ 8 (by kernel_rfl) (by kernel_rfl) (by kernel_rfl) (by kernel_rfl)) ?_
  intro W base args ds gs before hval0 hW hcnd hsz0 _
  have hsz : (DataW.weightsEach Try.prog (Try.f5.params.toList ++ Rows.fnExactWaysToCloseSpec.plain.varTypes Try.prog) (ds ++ gs)).all (· ≤ reachBytes) = true := hsz0
  have hval : ∀ (j : Nat) t v, Try.f5.params[j]? = some t → args[j]? = some v → Value.okWide Try.prog W .any base t v := hval0
  have hW' := hW
  obtain ⟨p, q, hA0, hV, rfl, hfz, hnd⟩ := hW
  have hA : DataW.TrodAll enc Try.prog W 0 (fun _ => true) true Try.f5.params.toList args.toList ds p := hA0
  rw [Try.params5] at hA hval hsz
  obtain ⟨v0, vs0, d0, ds0, p0, q0, hargs, rfl, rfl, h0, r0⟩ := trodAll_cons hA
  obtain ⟨v1, vs1, d1, ds1, p1, q1, rfl, rfl, rfl, h1, r1⟩ := trodAll_cons r0
  obtain ⟨v2, vs2, d2, ds2, p2, q2, rfl, rfl, rfl, h2, r2⟩ := trodAll_cons r1
  obtain ⟨rfl, rfl, rfl⟩ := trodAll_nil r2
  obtain rfl : args = #[v0, v1, v2] := by cases args; simp_all
  obtain ⟨rfl, rfl⟩ := trodVars_none hV
  have k0 := h0
  have lt0 : ∀ x ∈ p0, x.block < W.heap.size := by obtain ⟨m, hm⟩ := k0; exact DataW.trod_lt m _ _ _ hm
  obtain ⟨v0_0, v0_1, v0_2, y0_0, y0_1, y0_2, n0, ev0, _, _, hy0_0, hy0_1, hy0_2⟩ := open_agg3 Try.underlying31 (by kernel_rfl) (by kernel_rfl) (hval 0 31 v0 rfl rfl) h0
  obtain ⟨a0_0, len0_0, cap0_0, z0_0, e0_0, w0_0⟩ : ∃ a len cap zs, v0_0 = .slice a len cap ∧ IsRow .i64 W a len cap zs := by
    rcases open_ints Try.underlying25 Try.underlying3 (by kernel_rfl) hy0_0 with ⟨hcs, _⟩ | ⟨x, l, c, zs, hcs, _, hl, hm, hz, _, hcell, hwz⟩
    · exact ⟨none, 0, 0, [], by simpa using hcs, ⟨rfl, rfl, rfl⟩, fun n hn => by simp at hn, Nat.zero_le _⟩
    · have hx : v0_0 = .slice (some x) l c := by simpa using hcs
      exact ⟨some x, l, c, zs, hx, isRow_cell (i := 0) Try.underlying31 (by have q := hval 0 31 v0 rfl rfl; rw [ev0] at q; exact q) (by rw [hx]; rfl) hl hm (by simpa using hz) hcell hwz⟩
  obtain ⟨a0_1, len0_1, cap0_1, z0_1, e0_1, w0_1⟩ : ∃ a len cap zs, v0_1 = .slice a len cap ∧ IsRow .i64 W a len cap zs := by
    rcases open_ints Try.underlying25 Try.underlying3 (by kernel_rfl) hy0_1 with ⟨hcs, _⟩ | ⟨x, l, c, zs, hcs, _, hl, hm, hz, _, hcell, hwz⟩
    · exact ⟨none, 0, 0, [], by simpa using hcs, ⟨rfl, rfl, rfl⟩, fun n hn => by simp at hn, Nat.zero_le _⟩
    · have hx : v0_1 = .slice (some x) l c := by simpa using hcs
      exact ⟨some x, l, c, zs, hx, isRow_cell (i := 1) Try.underlying31 (by have q := hval 0 31 v0 rfl rfl; rw [ev0] at q; exact q) (by rw [hx]; rfl) hl hm (by simpa using hz) hcell hwz⟩
  obtain ⟨a0_2, e0_2, _, w0_2⟩ := DataW.trod_int Try.underlying3 hy0_2
  replace e0_2 : v0_2 = .int .i64 a0_2 := by simpa using e0_2
  subst ev0 e0_0 e0_1 e0_2
  obtain ⟨a1, rfl, rfl, rfl, w1⟩ := open_int Try.underlying3 (hval 1 3 v1 rfl rfl) h1
  obtain ⟨a2, rfl, rfl, rfl, w2⟩ := open_int Try.underlying3 (hval 2 3 v2 rfl rfl) h2
  clear hA0 hval0 hsz0 hsz
  refine (walk a0_0 len0_0 cap0_0 z0_0 a0_1 len0_1 cap0_1 z0_1 a0_2 a1 a2 W w0_0 w0_1 w0_2 w1 w2).mono fun e W' ⟨he, bel⟩ => ?_
  subst he
  exact ⟨_, rfl, _, _, _, [], _, [], hW', trodAll_mk1 (shut_bool Try.underlying4 _), (trodAll_cons_mk (Below.trod laidOut (by kernel_rfl) (of_decide_eq_true (by kernel_rfl)) k0 bel lt0) (trodAll_cons_mk (shut_int Try.underlying3 w1) (trodAll_cons_mk (shut_int Try.underlying3 w2) trodAll_mk0))), rfl, bel.frame _, fun h => by cases h⟩
theorem c_lift : (Rows.fnExactWaysToCloseRow.lifted == Try.pinned.checked.prog.liftsFinal) = true := by rw [Head.lift]; rfl
theorem c_make : (Try.pinned.checked.prog.make == some Rows.fnExactWaysToCloseRow.make) = true := by rw [Head.make]; rfl
set_option maxHeartbeats 8000000 in
theorem c_closed : joinedFacts Try.pinned.checked.prog 5 Try.f5 Rows.fnExactWaysToCloseSpec Rows.fnExactWaysToCloseRow = true := by
  unfold joinedFacts
  repeat' (with_reducible refine Head.and_t ?_ ?_)
  all_goals first | (with_reducible exact Head.enter) | (with_reducible exact c_lift) | (with_reducible exact c_make) | (as_aux_lemma => kernel_rfl)
theorem over : Rows.fnExactWaysToCloseRow.holds Try.pinned (OpenSpec.ofChange Rows.fnExactWaysToCloseSpec) :=
  OpenClaim.holds_of_wide 5 Try.f5 rfl rfl rfl rfl rfl rfl rfl ⟨rfl, rfl, rfl, rfl, rfl⟩ rfl rfl rfl rfl rfl (by as_aux_lemma => kernel_rfl) Try.func5 c_closed
    (of_decide_eq_true (by as_aux_lemma => kernel_rfl)) (by unfold Func.isWrapper; first | (rw [if_neg (by decide +kernel)]; exact ⟨rfl, rfl⟩) | (rw [if_pos (by decide +kernel)]; kernel_rfl))
    (fun os started H enc _ => lifted os started H enc)
theorem proved : Rows.FnExactWaysToCloseSaid := over
#print axioms proved
end Go.Proofs.Ytdbflchpbhkanaa.fnExactWaysToClose
namespace Go.Proofs.Ytdbflchpbhkanaa
/-- The row, under a short name, for the claim. -/
theorem fnExactWaysToClose_holds : Rows.FnExactWaysToCloseSaid := fnExactWaysToClose.proved
end Go.Proofs.Ytdbflchpbhkanaa
