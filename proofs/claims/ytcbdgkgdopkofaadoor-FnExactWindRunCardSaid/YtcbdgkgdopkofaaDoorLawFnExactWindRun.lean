/- The law FnExactWindRun holds: for every input it returns true, and each argument reads afterwards as it read before. -/
import Derived.Test.YtcbdgkgdopkofaaDoorRows
import Derived.Test.YtcbdgkgdopkofaaDoorFLFnExactWindRun
import Derived.Test.YtcbdgkgdopkofaaDoorALC
import Derived.Test.YtcbdgkgdopkofaaDoorQHead
import Derived.Test.YtcbdgkgdopkofaaDoorTie
import Derived.Test.YtcbdgkgdopkofaaDoorCards
import Derived.LaidMore
import Derived.Lay
import Derived.SevenTiedAt
import Derived.Stop.Joined
import Derived.WalkKit
import Derived.ProofKit
import Derived.OpenShut
import Derived.ShutString
import Derived.ChangeOld
import Derived.Below
import Derived.SizedLaws
import Derived.Lib.SmallJoins
namespace Go.Proofs.YtcbdgkgdopkofaaDoor.fnExactWindRun
open Go.ChangeShapes Go.WideShapes Go.ChangeAt Go.RowKit Go.Joins
open Go.ChangeMaps (open_string shut_string)
set_option linter.unusedVariables false
theorem own : ownKnob Tryd.prog.godebug = none := by kernel_rfl
theorem laidOut : laidOutB Tryd.prog = true := by kernel_rfl
def IsRow (k : IntKind) (w : World) (a : Option Addr) (len cap : Nat) (zs : List Int) : Prop := (⟨a, len, cap, zs, k⟩ : AL.Rin).ok w ∧ (∀ n ∈ zs, (Lit.int k n).wf = true) ∧ cap ≤ maxLen
set_option maxRecDepth 100000 in
theorem isRow_some {k : IntKind} {rch : Reach} {base : Nat} {t e : TypeId} {w : World} {x : Addr} {len cap : Nat} {zs : List Int} (ht : Tryd.prog.underlying t = some (.slice e)) (h : Value.okWide Tryd.prog w rch base t (.slice (some x) len cap)) (hl : len ≤ cap) (hm : cap ≤ maxLen) (hz : zs.length = cap)
    (hc : ∀ i, i < zs.length → w.cell? (x.add i) = some (.int k (zs.getD i 0))) (hw : ∀ n ∈ zs, (Lit.int k n).wf = true) : IsRow k w (some x) len cap zs := by
  have h1 := AL.slice_in (P := Tryd.prog) (w := w) ht h
  exact ⟨⟨h1.1, h1.2, hl, hz, hc⟩, hw, hm⟩
set_option maxRecDepth 100000 in
theorem isRow_cell {k : IntKind} {rch : Reach} {base i : Nat} {t : TypeId} {fs : Array Field} {w : World} {x : Addr} {len cap : Nat} {zs : List Int} {cs : Array Value} (ht : Tryd.prog.underlying t = some (.struct fs)) (h : Value.okWide Tryd.prog w rch base t (.agg cs)) (hi : cs[i]? = some (.slice (some x) len cap)) (hl : len ≤ cap) (hm : cap ≤ maxLen) (hz : zs.length = cap)
    (hc : ∀ i, i < zs.length → w.cell? (x.add i) = some (.int k (zs.getD i 0))) (hw : ∀ n ∈ zs, (Lit.int k n).wf = true) : IsRow k w (some x) len cap zs := by
  have h1 := AL.agg_in (P := Tryd.prog) (w := w) ht h hi
  exact ⟨⟨h1.1, h1.2, hl, hz, hc⟩, hw, hm⟩
theorem walk (a0_0 : Option Addr) (len0_0 cap0_0 : Nat) (z0_0 : List Int) (a0_1 : Option Addr) (len0_1 cap0_1 : Nat) (z0_1 : List Int) (w : World) (w0_0 : IsRow .i64 w a0_0 len0_0 cap0_0 z0_0) (w0_1 : IsRow .i64 w a0_1 len0_1 cap0_1 z0_1) :
    Calls Tryd.prog 4 #[.agg #[.slice a0_0 len0_0 cap0_0, .slice a0_1 len0_1 cap0_1]] w fun e w' => e = .returned (.bool true) ∧ Below w.heap.size w w' := by
  refine AL.law_calls (rs := [(⟨a0_0, len0_0, cap0_0, z0_0, .i64⟩ : AL.Rin), (⟨a0_1, len0_1, cap0_1, z0_1, .i64⟩ : AL.Rin)]) (abs := [.agg #[(((⟨a0_0, len0_0, cap0_0, z0_0, .i64⟩ : AL.Rin).abs 0)), (((⟨a0_1, len0_1, cap0_1, z0_1, .i64⟩ : AL.Rin).abs 1))]]) (AL.FnExactWindRun (AL.inH [(⟨a0_0, len0_0, cap0_0, z0_0, .i64⟩ : AL.Rin), (⟨a0_1, len0_1, cap0_1, z0_1, .i64⟩ : AL.Rin)]) (((⟨a0_0, len0_0, cap0_0, z0_0, .i64⟩ : AL.Rin).abs 0)) _ (((⟨a0_1, len0_1, cap0_1, z0_1, .i64⟩ : AL.Rin).abs 1)) _ (AL.in_sl (rs := [(⟨a0_0, len0_0, cap0_0, z0_0, .i64⟩ : AL.Rin), (⟨a0_1, len0_1, cap0_1, z0_1, .i64⟩ : AL.Rin)]) (k := 0) rfl w0_0.1) (fun n hn => w0_0.2.1 n (List.mem_of_mem_take hn)) (AL.val_len w0_0.1 w0_0.2.2) (AL.in_sl (rs := [(⟨a0_0, len0_0, cap0_0, z0_0, .i64⟩ : AL.Rin), (⟨a0_1, len0_1, cap0_1, z0_1, .i64⟩ : AL.Rin)]) (k := 1) rfl w0_1.1) (fun n hn => w0_1.2.1 n (List.mem_of_mem_take hn)) (AL.val_len w0_1.1 w0_1.2.2)) ?_ ?_ ?_
  · intro r hr
    simp only [List.mem_cons, List.not_mem_nil, or_false] at hr
    rcases hr with rfl | rfl
    · exact w0_0.1
    · exact w0_1.1
  · intro x hx
    simp only [List.mem_cons, List.not_mem_nil, or_false] at hx
    subst hx
    exact (by simp only [AL.R2, List.all_toArray, List.all_cons, List.all_nil, Bool.and_true, Bool.and_eq_true]; exact ⟨AL.in_R0 (rs := [(⟨a0_0, len0_0, cap0_0, z0_0, .i64⟩ : AL.Rin), (⟨a0_1, len0_1, cap0_1, z0_1, .i64⟩ : AL.Rin)]) (r := (⟨a0_0, len0_0, cap0_0, z0_0, .i64⟩ : AL.Rin)) (k := 0) rfl, AL.in_R0 (rs := [(⟨a0_0, len0_0, cap0_0, z0_0, .i64⟩ : AL.Rin), (⟨a0_1, len0_1, cap0_1, z0_1, .i64⟩ : AL.Rin)]) (r := (⟨a0_1, len0_1, cap0_1, z0_1, .i64⟩ : AL.Rin)) (k := 1) rfl⟩)
  · exact .cons (AL.T2.agg (.cons (.one (AL.in_T0 (rs := [(⟨a0_0, len0_0, cap0_0, z0_0, .i64⟩ : AL.Rin), (⟨a0_1, len0_1, cap0_1, z0_1, .i64⟩ : AL.Rin)]) (r := (⟨a0_0, len0_0, cap0_0, z0_0, .i64⟩ : AL.Rin)) (k := 0) rfl w0_0.1)) (.cons (.one (AL.in_T0 (rs := [(⟨a0_0, len0_0, cap0_0, z0_0, .i64⟩ : AL.Rin), (⟨a0_1, len0_1, cap0_1, z0_1, .i64⟩ : AL.Rin)]) (r := (⟨a0_1, len0_1, cap0_1, z0_1, .i64⟩ : AL.Rin)) (k := 1) rfl w0_1.1)) (.nil)))) (.nil)
set_option maxRecDepth 100000 in
theorem lifted (os : Os) (started : os.Started) (H : Type) (enc : TypeId × Value → H) :
    ReturnsInHanded {} Tryd.checked os 4 .any (fun w args => (Rows.fnExactWindRunSpec.pre enc Tryd.prog Tryd.f4 Rows.fnExactWindRunRow.domain false w args ∧ laidMetH Tryd.prog Rows.fnExactWindRunRow.laid w) ∧ sizedMet enc Tryd.prog Tryd.f4 (OpenSpec.ofChange Rows.fnExactWindRunSpec) false w args) (Rows.fnExactWindRunSpec.post enc Tryd.prog Tryd.f4 false true false false) := by
  refine returnsInHanded_of_change_and (C := Tryd.checked) (X := fun w _ => laidMetH Tryd.prog Rows.fnExactWindRunRow.laid w) (fun _ _ _ hh h => h.of_heap hh) own started (by kernel_rfl) Tryd.func4
    (ChangeSpec.witness_shaped (enc := enc) (C := Tryd.checked) (os := os) (X := fun w _ => laidMetH Tryd.prog Rows.fnExactWindRunRow.laid w) false (World.laidAll Tryd.prog os Rows.fnExactWindRunRow.laid) #[.agg #[.slice none 0 0, .slice none 0 0]] 8 (World.laidAll_os _ _ _)
      (World.shaped_of_ZipB (by kernel_rfl) (by kernel_rfl)) (by kernel_rfl) (by kernel_rfl) (by kernel_rfl)
      (by rw [MakeChecks.laidMetH_plain _ _ _ (by kernel_rfl)]; exact laidMet_laidAll _ (by kernel_rfl) (by kernel_rfl))) ?_
  intro W base args ds gs before hval0 hW hcnd hsz0 hLaid _
  have hsz : (DataW.weightsEach Tryd.prog (Tryd.f4.params.toList ++ Rows.fnExactWindRunSpec.plain.varTypes Tryd.prog) (ds ++ gs)).all (· ≤ reachBytes) = true := hsz0
  have hval : ∀ (j : Nat) t v, Tryd.f4.params[j]? = some t → args[j]? = some v → Value.okWide Tryd.prog W .any base t v := hval0
  have hW' := hW
  obtain ⟨p, q, hA0, hV, rfl, hfz, hnd⟩ := hW
  have hA : DataW.TrodAll enc Tryd.prog W 0 (fun _ => true) true Tryd.f4.params.toList args.toList ds p := hA0
  rw [Tryd.params4] at hA hval hsz
  obtain ⟨v0, vs0, d0, ds0, p0, q0, hargs, rfl, rfl, h0, r0⟩ := trodAll_cons hA
  obtain ⟨rfl, rfl, rfl⟩ := trodAll_nil r0
  obtain rfl : args = #[v0] := by cases args; simp_all
  obtain ⟨rfl, rfl⟩ := trodVars_none hV
  have k0 := h0
  have lt0 : ∀ x ∈ p0, x.block < W.heap.size := by obtain ⟨m, hm⟩ := k0; exact DataW.trod_lt m _ _ _ hm
  obtain ⟨v0_0, v0_1, y0_0, y0_1, n0, ev0, _, _, hy0_0, hy0_1⟩ := open_agg2 Tryd.underlying24 (by kernel_rfl) (by kernel_rfl) (hval 0 24 v0 rfl rfl) h0
  obtain ⟨a0_0, len0_0, cap0_0, z0_0, e0_0, w0_0⟩ : ∃ a len cap zs, v0_0 = .slice a len cap ∧ IsRow .i64 W a len cap zs := by
    rcases open_ints Tryd.underlying22 Tryd.underlying3 (by kernel_rfl) hy0_0 with ⟨hcs, _⟩ | ⟨x, l, c, zs, hcs, _, hl, hm, hz, _, hcell, hwz⟩
    · exact ⟨none, 0, 0, [], by simpa using hcs, ⟨rfl, rfl, rfl⟩, fun n hn => by simp at hn, Nat.zero_le _⟩
    · have hx : v0_0 = .slice (some x) l c := by simpa using hcs
      exact ⟨some x, l, c, zs, hx, isRow_cell (i := 0) Tryd.underlying24 (by have q := hval 0 24 v0 rfl rfl; rw [ev0] at q; exact q) (by rw [hx]; rfl) hl hm (by simpa using hz) hcell hwz⟩
  obtain ⟨a0_1, len0_1, cap0_1, z0_1, e0_1, w0_1⟩ : ∃ a len cap zs, v0_1 = .slice a len cap ∧ IsRow .i64 W a len cap zs := by
    rcases open_ints Tryd.underlying22 Tryd.underlying3 (by kernel_rfl) hy0_1 with ⟨hcs, _⟩ | ⟨x, l, c, zs, hcs, _, hl, hm, hz, _, hcell, hwz⟩
    · exact ⟨none, 0, 0, [], by simpa using hcs, ⟨rfl, rfl, rfl⟩, fun n hn => by simp at hn, Nat.zero_le _⟩
    · have hx : v0_1 = .slice (some x) l c := by simpa using hcs
      exact ⟨some x, l, c, zs, hx, isRow_cell (i := 1) Tryd.underlying24 (by have q := hval 0 24 v0 rfl rfl; rw [ev0] at q; exact q) (by rw [hx]; rfl) hl hm (by simpa using hz) hcell hwz⟩
  subst ev0 e0_0 e0_1
  clear hA0 hval0 hsz0 hsz
  refine (walk a0_0 len0_0 cap0_0 z0_0 a0_1 len0_1 cap0_1 z0_1 W w0_0 w0_1).mono fun e W' ⟨he, bel⟩ => ?_
  subst he
  exact ⟨_, rfl, _, _, _, [], _, [], hW', trodAll_mk1 (shut_bool Tryd.underlying4 _), (trodAll_cons_mk (Below.trod laidOut (by kernel_rfl) (of_decide_eq_true (by kernel_rfl)) k0 bel lt0) trodAll_mk0), rfl, bel.frame _, fun h => by cases h⟩
theorem c_lift : (Rows.fnExactWindRunRow.lifted == Tryd.pinned.checked.prog.liftsFinal) = true := by rw [Head.lift]; rfl
theorem c_make : (Tryd.pinned.checked.prog.make == some Rows.fnExactWindRunRow.make) = true := by rw [Head.make]; rfl
set_option maxHeartbeats 8000000 in
theorem c_closed : joinedFacts Tryd.pinned.checked.prog 4 Tryd.f4 Rows.fnExactWindRunSpec Rows.fnExactWindRunRow = true := by
  unfold joinedFacts
  repeat' (with_reducible refine Head.and_t ?_ ?_)
  all_goals first | (with_reducible exact Head.enter) | (with_reducible exact c_lift) | (with_reducible exact c_make) | (as_aux_lemma => kernel_rfl)
theorem over : Rows.fnExactWindRunRow.holds Tryd.pinned (OpenSpec.ofChange Rows.fnExactWindRunSpec) :=
  OpenClaim.holds_of_wide 4 Tryd.f4 rfl rfl rfl rfl rfl rfl rfl ⟨rfl, rfl, rfl, rfl, rfl⟩ rfl rfl rfl rfl rfl (by as_aux_lemma => kernel_rfl) Tryd.func4 c_closed
    (of_decide_eq_true (by as_aux_lemma => kernel_rfl)) (by unfold Func.isWrapper; first | (rw [if_neg (by decide +kernel)]; exact ⟨rfl, rfl⟩) | (rw [if_pos (by decide +kernel)]; kernel_rfl))
    (fun os started H enc _ => lifted os started H enc)
theorem proved : Rows.FnExactWindRunSaid := over
#print axioms proved
end Go.Proofs.YtcbdgkgdopkofaaDoor.fnExactWindRun
namespace Go.Proofs.YtcbdgkgdopkofaaDoor
open Go
/-- The row, under a short name, for the claim. -/
theorem fnExactWindRun_row : Rows.FnExactWindRunSaid := fnExactWindRun.proved
/-- The tied card. -/
theorem fnExactWindRun_holds : Rows.FnExactWindRunCardSaid :=
  Claim7.holds_tied_plain_at .later [] [.data, .data, .data] true (true, "024bc66534219bc628c2395249b0fb648dcc30d73b5d26dde6aed0fba7220aed") true
    fnExactWindRun_row (fun _ h => by cases h) (by kernel_rfl) (fun _ h => by cases h) fnExactWindRun_row_tie rfl ⟨rfl, rfl⟩ (by kernel_rfl) rfl
    (fun f fn hf hfn => by
      obtain rfl : f = 4 := Option.some.inj ((show Tryd.prog.funcNamed "loop.example/g01126/laws.FnExactWindRun" = some 4 by kernel_rfl).symm.trans hf) |>.symm
      obtain rfl : fn = Tryd.f4 := (Option.some.inj (Tryd.func4.symm.trans hfn)).symm
      exact ⟨by kernel_rfl, fun j t ht => by
        rw [Tryd.params4] at ht
        have hm : t ∈ [24] := by simpa using Array.mem_of_getElem? ht
        have hall : ([24].all fun u => !Tryd.prog.wantsStandIn u) = true := by kernel_rfl
        exact (show Tryd.prog.wantsStandIn t = false by simpa using List.all_eq_true.1 hall t hm)⟩)
    (by kernel_rfl)
#print axioms fnExactWindRun_holds
end Go.Proofs.YtcbdgkgdopkofaaDoor
