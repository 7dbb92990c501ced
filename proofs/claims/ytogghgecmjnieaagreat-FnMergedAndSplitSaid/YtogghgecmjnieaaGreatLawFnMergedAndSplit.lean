/- The law FnMergedAndSplit holds: for every input it returns true, and each argument reads afterwards as it read before. -/
import Derived.Test.YtogghgecmjnieaaGreatRows
import Derived.Test.YtogghgecmjnieaaGreatFLFnMergedAndSplit
import Derived.Test.YtogghgecmjnieaaGreatALC
import Derived.Test.YtogghgecmjnieaaGreatQHead
import Derived.WalkKit
import Derived.ProofKit
import Derived.OpenShut
import Derived.ShutString
import Derived.ChangeOld
import Derived.Below
import Derived.SizedLaws
import Derived.Lib.SmallJoins
namespace Go.Proofs.YtogghgecmjnieaaGreat.fnMergedAndSplit
open Go.ChangeShapes Go.WideShapes Go.ChangeAt Go.RowKit Go.Joins
open Go.ChangeMaps (open_string shut_string)
set_option linter.unusedVariables false
theorem own : ownKnob Tryz.prog.godebug = none := by kernel_rfl
theorem laidOut : laidOutB Tryz.prog = true := by kernel_rfl
def IsRow (k : IntKind) (w : World) (a : Option Addr) (len cap : Nat) (zs : List Int) : Prop := (⟨a, len, cap, zs, k⟩ : AL.Rin).ok w ∧ (∀ n ∈ zs, (Lit.int k n).wf = true) ∧ cap ≤ maxLen
set_option maxRecDepth 100000 in
theorem isRow_some {k : IntKind} {rch : Reach} {base : Nat} {t e : TypeId} {w : World} {x : Addr} {len cap : Nat} {zs : List Int} (ht : Tryz.prog.underlying t = some (.slice e)) (h : Value.okWide Tryz.prog w rch base t (.slice (some x) len cap)) (hl : len ≤ cap) (hm : cap ≤ maxLen) (hz : zs.length = cap)
    (hc : ∀ i, i < zs.length → w.cell? (x.add i) = some (.int k (zs.getD i 0))) (hw : ∀ n ∈ zs, (Lit.int k n).wf = true) : IsRow k w (some x) len cap zs := by
  have h1 := AL.slice_in (P := Tryz.prog) (w := w) ht h
  exact ⟨⟨h1.1, h1.2, hl, hz, hc⟩, hw, hm⟩
set_option maxRecDepth 100000 in
theorem isRow_cell {k : IntKind} {rch : Reach} {base i : Nat} {t : TypeId} {fs : Array Field} {w : World} {x : Addr} {len cap : Nat} {zs : List Int} {cs : Array Value} (ht : Tryz.prog.underlying t = some (.struct fs)) (h : Value.okWide Tryz.prog w rch base t (.agg cs)) (hi : cs[i]? = some (.slice (some x) len cap)) (hl : len ≤ cap) (hm : cap ≤ maxLen) (hz : zs.length = cap)
    (hc : ∀ i, i < zs.length → w.cell? (x.add i) = some (.int k (zs.getD i 0))) (hw : ∀ n ∈ zs, (Lit.int k n).wf = true) : IsRow k w (some x) len cap zs := by
  have h1 := AL.agg_in (P := Tryz.prog) (w := w) ht h hi
  exact ⟨⟨h1.1, h1.2, hl, hz, hc⟩, hw, hm⟩
theorem walk (a0 : Option Addr) (len0 cap0 : Nat) (z0 : List Int) (a1 : Option Addr) (len1 cap1 : Nat) (z1 : List Int) (w : World) (w0 : IsRow .u8 w a0 len0 cap0 z0) (w1 : IsRow .u8 w a1 len1 cap1 z1) :
    Calls Tryz.prog 4 #[.slice a0 len0 cap0, .slice a1 len1 cap1] w fun e w' => e = .returned (.bool true) ∧ Below w.heap.size w w' := by
  refine AL.law_calls (rs := [(⟨a0, len0, cap0, z0, .u8⟩ : AL.Rin), (⟨a1, len1, cap1, z1, .u8⟩ : AL.Rin)]) (abs := [(((⟨a0, len0, cap0, z0, .u8⟩ : AL.Rin).abs 0)), (((⟨a1, len1, cap1, z1, .u8⟩ : AL.Rin).abs 1))]) (AL.FnMergedAndSplit (AL.inH [(⟨a0, len0, cap0, z0, .u8⟩ : AL.Rin), (⟨a1, len1, cap1, z1, .u8⟩ : AL.Rin)]) (((⟨a0, len0, cap0, z0, .u8⟩ : AL.Rin).abs 0)) _ (((⟨a1, len1, cap1, z1, .u8⟩ : AL.Rin).abs 1)) _ (AL.in_sl (rs := [(⟨a0, len0, cap0, z0, .u8⟩ : AL.Rin), (⟨a1, len1, cap1, z1, .u8⟩ : AL.Rin)]) (k := 0) rfl w0.1) (fun n hn => w0.2.1 n (List.mem_of_mem_take hn)) (AL.val_len w0.1 w0.2.2) (AL.in_sl (rs := [(⟨a0, len0, cap0, z0, .u8⟩ : AL.Rin), (⟨a1, len1, cap1, z1, .u8⟩ : AL.Rin)]) (k := 1) rfl w1.1) (fun n hn => w1.2.1 n (List.mem_of_mem_take hn)) (AL.val_len w1.1 w1.2.2)) ?_ ?_ ?_
  · intro r hr
    simp only [List.mem_cons, List.not_mem_nil, or_false] at hr
    rcases hr with rfl | rfl
    · exact w0.1
    · exact w1.1
  · intro x hx
    simp only [List.mem_cons, List.not_mem_nil, or_false] at hx
    rcases hx with rfl | rfl
    · exact AL.R2_of0 (AL.in_R0 (rs := [(⟨a0, len0, cap0, z0, .u8⟩ : AL.Rin), (⟨a1, len1, cap1, z1, .u8⟩ : AL.Rin)]) (r := (⟨a0, len0, cap0, z0, .u8⟩ : AL.Rin)) (k := 0) rfl)
    · exact AL.R2_of0 (AL.in_R0 (rs := [(⟨a0, len0, cap0, z0, .u8⟩ : AL.Rin), (⟨a1, len1, cap1, z1, .u8⟩ : AL.Rin)]) (r := (⟨a1, len1, cap1, z1, .u8⟩ : AL.Rin)) (k := 1) rfl)
  · exact .cons (.one (.one (AL.in_T0 (rs := [(⟨a0, len0, cap0, z0, .u8⟩ : AL.Rin), (⟨a1, len1, cap1, z1, .u8⟩ : AL.Rin)]) (r := (⟨a0, len0, cap0, z0, .u8⟩ : AL.Rin)) (k := 0) rfl w0.1))) (.cons (.one (.one (AL.in_T0 (rs := [(⟨a0, len0, cap0, z0, .u8⟩ : AL.Rin), (⟨a1, len1, cap1, z1, .u8⟩ : AL.Rin)]) (r := (⟨a1, len1, cap1, z1, .u8⟩ : AL.Rin)) (k := 1) rfl w1.1))) (.nil))
set_option maxRecDepth 100000 in
theorem lifted (os : Os) (started : os.Started) (H : Type) (enc : TypeId × Value → H) :
    ReturnsInHanded {} Tryz.checked os 4 .any (Rows.fnMergedAndSplitSpec.pre6 enc Tryz.prog Tryz.f4 Rows.fnMergedAndSplitRow.domain false) (Rows.fnMergedAndSplitSpec.post enc Tryz.prog Tryz.f4 false true false false) := by
  refine returnsInHanded_of_change_sized (C := Tryz.checked) own started (by kernel_rfl) Tryz.func4
    (ChangeSpec.witness6 (enc := enc) (C := Tryz.checked) false ⟨#[], #[.slice none 0 0, .slice none 0 0], []⟩ 8 (by kernel_rfl) (by kernel_rfl) (by kernel_rfl) (by kernel_rfl)) ?_
  intro W base args ds gs before hval0 hW hcnd hsz0 _
  have hsz : (DataW.weightsEach Tryz.prog (Tryz.f4.params.toList ++ Rows.fnMergedAndSplitSpec.plain.varTypes Tryz.prog) (ds ++ gs)).all (· ≤ reachBytes) = true := hsz0
  have hval : ∀ (j : Nat) t v, Tryz.f4.params[j]? = some t → args[j]? = some v → Value.okWide Tryz.prog W .any base t v := hval0
  have hW' := hW
  obtain ⟨p, q, hA0, hV, rfl, hfz, hnd⟩ := hW
  have hA : DataW.TrodAll enc Tryz.prog W 0 (fun _ => true) true Tryz.f4.params.toList args.toList ds p := hA0
  rw [Tryz.params4] at hA hval hsz
  obtain ⟨v0, vs0, d0, ds0, p0, q0, hargs, rfl, rfl, h0, r0⟩ := trodAll_cons hA
  obtain ⟨v1, vs1, d1, ds1, p1, q1, rfl, rfl, rfl, h1, r1⟩ := trodAll_cons r0
  obtain ⟨rfl, rfl, rfl⟩ := trodAll_nil r1
  obtain rfl : args = #[v0, v1] := by cases args; simp_all
  obtain ⟨rfl, rfl⟩ := trodVars_none hV
  obtain ⟨a0, len0, cap0, rfl⟩ := okWide_slice Tryz.underlying22 (hval 0 22 v0 rfl rfl)
  have k0 := h0
  have lt0 : ∀ x ∈ p0, x.block < W.heap.size := by obtain ⟨m, hm⟩ := k0; exact DataW.trod_lt m _ _ _ hm
  obtain ⟨z0, w0⟩ : ∃ zs, IsRow .u8 W a0 len0 cap0 zs := by
    obtain ⟨fuel, hf⟩ := h0
    rcases open_ints Tryz.underlying22 Tryz.underlying5 (by kernel_rfl) hf with ⟨hcs, _⟩ | ⟨x, l, c, zs, hcs, _, hl, hm, hz, _, hcell, hwz⟩
    · simp [Value.cells] at hcs
      obtain ⟨rfl, rfl, rfl⟩ := hcs
      exact ⟨[], ⟨rfl, rfl, rfl⟩, fun n hn => by simp at hn, Nat.zero_le _⟩
    · simp [Value.cells] at hcs
      obtain ⟨rfl, rfl, rfl⟩ := hcs
      exact ⟨zs, isRow_some Tryz.underlying22 (hval 0 22 _ rfl rfl) hl hm (by simpa using hz) hcell hwz⟩
  obtain ⟨a1, len1, cap1, rfl⟩ := okWide_slice Tryz.underlying22 (hval 1 22 v1 rfl rfl)
  have k1 := h1
  have lt1 : ∀ x ∈ p1, x.block < W.heap.size := by obtain ⟨m, hm⟩ := k1; exact DataW.trod_lt m _ _ _ hm
  obtain ⟨z1, w1⟩ : ∃ zs, IsRow .u8 W a1 len1 cap1 zs := by
    obtain ⟨fuel, hf⟩ := h1
    rcases open_ints Tryz.underlying22 Tryz.underlying5 (by kernel_rfl) hf with ⟨hcs, _⟩ | ⟨x, l, c, zs, hcs, _, hl, hm, hz, _, hcell, hwz⟩
    · simp [Value.cells] at hcs
      obtain ⟨rfl, rfl, rfl⟩ := hcs
      exact ⟨[], ⟨rfl, rfl, rfl⟩, fun n hn => by simp at hn, Nat.zero_le _⟩
    · simp [Value.cells] at hcs
      obtain ⟨rfl, rfl, rfl⟩ := hcs
      exact ⟨zs, isRow_some Tryz.underlying22 (hval 1 22 _ rfl rfl) hl hm (by simpa using hz) hcell hwz⟩
  clear hA0 hval0 hsz0 hsz
  refine (walk a0 len0 cap0 z0 a1 len1 cap1 z1 W w0 w1).mono fun e W' ⟨he, bel⟩ => ?_
  subst he
  exact ⟨_, rfl, _, _, _, [], _, [], hW', trodAll_mk1 (shut_bool Tryz.underlying4 _), (trodAll_cons_mk (Below.trod laidOut (by kernel_rfl) (of_decide_eq_true (by kernel_rfl)) k0 bel lt0) (trodAll_cons_mk (Below.trod laidOut (by kernel_rfl) (of_decide_eq_true (by kernel_rfl)) k1 bel lt1) trodAll_mk0)), rfl, bel.frame _, fun h => by cases h⟩
theorem c_lift : (Rows.fnMergedAndSplitRow.lifted == Tryz.pinned.checked.prog.liftsFinal) = true := by rw [Head.lift]; rfl
theorem c_make : (Tryz.pinned.checked.prog.make == some Rows.fnMergedAndSplitRow.make) = true := by rw [Head.make]; rfl
set_option maxHeartbeats 8000000 in
theorem c_closed : joinedFacts Tryz.pinned.checked.prog 4 Tryz.f4 Rows.fnMergedAndSplitSpec Rows.fnMergedAndSplitRow = true := by
  unfold joinedFacts
  repeat' (with_reducible refine Head.and_t ?_ ?_)
  all_goals first | (with_reducible exact Head.enter) | (with_reducible exact c_lift) | (with_reducible exact c_make) | (as_aux_lemma => kernel_rfl)
theorem over : Rows.fnMergedAndSplitRow.holds Tryz.pinned (OpenSpec.ofChange Rows.fnMergedAndSplitSpec) :=
  OpenClaim.holds_of_wide 4 Tryz.f4 rfl rfl rfl rfl rfl rfl rfl ⟨rfl, rfl, rfl, rfl, rfl⟩ rfl rfl rfl rfl rfl (by as_aux_lemma => kernel_rfl) Tryz.func4 c_closed
    (of_decide_eq_true (by as_aux_lemma => kernel_rfl)) (by unfold Func.isWrapper; first | (rw [if_neg (by decide +kernel)]; exact ⟨rfl, rfl⟩) | (rw [if_pos (by decide +kernel)]; kernel_rfl))
    (fun os started H enc _ => lifted os started H enc)
theorem proved : Rows.FnMergedAndSplitSaid := over
#print axioms proved
end Go.Proofs.YtogghgecmjnieaaGreat.fnMergedAndSplit
namespace Go.Proofs.YtogghgecmjnieaaGreat
/-- The row, under a short name, for the claim. -/
theorem fnMergedAndSplit_holds : Rows.FnMergedAndSplitSaid := fnMergedAndSplit.proved
end Go.Proofs.YtogghgecmjnieaaGreat
