/- Meander.inside: the points that its closure keeps. -/
import Derived.Test.YtbckijeffiofdaaGKept
import Derived.Test.YtbckijeffiofdaaF108
namespace Go.Proofs.Ytbckijeffiofdaa.P
open Go.RowKit Go.Proofs.YtbckijeffiofdaaW.PrintWords Go.Proofs.YtbckijeffiofdaaW.PrintLast Go.Proofs.YtbckijeffiofdaaW.PrintMore
set_option linter.unusedVariables false
set_option linter.unusedSimpArgs false

/-- Is x in i .. j? -/
def inB (x i j : Int) : Bool := decide (i ≤ x) && decide (x ≤ j)
theorem inB_f (x i j : Int) : impl_in.f x i j = some (inB x i j) := by
  unfold impl_in.f inB
  by_cases h : i ≤ x
  · rw [if_pos h, decide_eq_true h]; rfl
  · rw [if_neg h, decide_eq_false h]; rfl
set_option maxHeartbeats 1000000 in
theorem impl_Meander_inside.lit (a1 a2 : Int) (gi gj : Nat) (x : Int) (w : World) (h1 : w.cell? ⟨gi, 0, none⟩ = some (.int .i64 a1)) (h2 : w.cell? ⟨gj, 0, none⟩ = some (.int .i64 a2)) :
    Calls Try.prog 137 #[.int .i64 x, .pointer (some ⟨gi, 0, none⟩), .pointer (some ⟨gj, 0, none⟩)] w fun e w' => e = .returned (.bool (inB x a1 a2)) ∧ Drawn0 w w' := by
  go_enter Try.func137, Try.ntmps137
  go_wp2_with (first | (go_at_call 108; refine (impl_in.calls x a1 a2 _ _ (inB_f x a1 a2)).mono ?_; rintro e w' ⟨rfl, ⟨nd, rfl⟩⟩))
  go_ret
  exact ⟨by first | rfl | (simp; done), by repeat (first | exact Drawn0.refl _ | exact ⟨_, rfl⟩ | apply Drawn0.step)⟩

set_option maxHeartbeats 1000000 in
theorem impl_Meander_inside.kept1 (a1 a2 : Int) (gi gj gh : Nat) (x : Int) (w : World) (h1 : w.cell? ⟨gi, 0, none⟩ = some (.int .i64 a1)) (h2 : w.cell? ⟨gj, 0, none⟩ = some (.int .i64 a2)) (h3 : w.cell? ⟨gh, 0, none⟩ = some (.func (.func 137) #[] #[.pointer (some ⟨gi, 0, none⟩), .pointer (some ⟨gj, 0, none⟩)])) :
    Calls Try.prog 163 #[.int .i64 x, .pointer (some ⟨gh, 0, none⟩)] w fun e w' => e = .returned (.bool ((fun x => !inB x a1 a2) x)) ∧ Drawn0 w w' := by
  go_enter Try.func163, Try.ntmps163
  go_wp2_with (first | (go_at_call 137; refine (impl_Meander_inside.lit a1 a2 gi gj x _ h1 h2).mono ?_; rintro e w' ⟨rfl, ⟨nd, rfl⟩⟩))
  go_ret
  exact ⟨by first | rfl | (simp; done), by repeat (first | exact Drawn0.refl _ | exact ⟨_, rfl⟩ | apply Drawn0.step)⟩

def impl_Meander_inside.f (k : Nat) (l0_0 : List Int) (l0_1 : List Int) (a1 : Int) (a2 : Int) : Option (List Int × List Int) := (impl_without.f k l0_0 (fun x => !inB x a1 a2)).bind fun t1 => ((impl_without.f k l0_1 (fun x => !inB x a1 a2)).bind fun t2 => some (t1, t2))
theorem impl_Meander_inside.mono : ∀ a0 a1 a2 a3 k, LeO (impl_Meander_inside.f k a0 a1 a2 a3) (impl_Meander_inside.f (k + 1) a0 a1 a2 a3) := by
  intro a0 a1 a2 a3 k
  unfold impl_Meander_inside.f
  exact LeO.bind (impl_without.mono _ _ _) (fun _ => LeO.bind (impl_without.mono _ _ _) (fun _ => LeO.refl _))

set_option maxHeartbeats 4000000 in
set_option maxRecDepth 100000 in
theorem impl_Meander_inside.calls (k : Nat) (A0_0 : Option Addr) (c0_0 : Nat) (l0_0 : List Int) (A0_1 : Option Addr) (c0_1 : Nat) (l0_1 : List Int) (a1 : Int) (a2 : Int) (r1 : List Int) (r2 : List Int) (w : World) (hr0_0 : Kd.C (Kd.int .i64) w A0_0 l0_0.length l0_0) (hc0_0 : l0_0.length ≤ c0_0) (hr0_1 : Kd.C (Kd.int .i64) w A0_1 l0_1.length l0_1) (hc0_1 : l0_1.length ≤ c0_1) (h : impl_Meander_inside.f k l0_0 l0_1 a1 a2 = some (r1, r2)) :
    Calls Try.prog 103 #[.agg #[.slice A0_0 l0_0.length c0_0, .slice A0_1 l0_1.length c0_1], .int .i64 a1, .int .i64 a2] w fun e w' => ∃ v0_ v1_ : Value, e = .returned (.agg #[v0_, v1_]) ∧ Kd.R (Kd.int .i64) 3 w' w.heap.size (fun k_ => some k_ ≠ (v1_ : Value).ownBlock) v0_ r1 ∧ Kd.R (Kd.int .i64) 3 w' w.heap.size (fun k_ => some k_ ≠ (v0_ : Value).ownBlock) v1_ r2 ∧ Below w.heap.size w w' := by
  have hmf : ∀ (fn : Fn) (first cap : Array Value) (w : World), (Instr.makeFunc fn first cap).run Try.prog w = .ok (.func fn first cap) w := fun _ _ _ _ => rfl
  have hu28 := Try.underlying28
  have HR0_0 := Aside0.mk hr0_0
  have HC0_0 := Aside0.mk hc0_0
  have HR0_1 := Aside0.mk hr0_1
  have HC0_1 := Aside0.mk hc0_1
  clear hr0_0 hc0_0 hr0_1 hc0_1
  have HB := Aside0.mk (Below.refl w.heap.size w)
  unfold impl_Meander_inside.f at h
  obtain ⟨t1, A10, h⟩ := Option.bind_eq_some_iff.mp h
  obtain ⟨t2, A20, h⟩ := Option.bind_eq_some_iff.mp h
  have HF0 := Aside0.mk A10
  have HF1 := Aside0.mk A20
  simp only [Option.some.injEq, Prod.mk.injEq] at h
  obtain ⟨rfl, rfl⟩ := h
  clear A10 A20
  go_enter Try.func103, Try.ntmps103
  go_wp2_with (first | ((with_reducible refine gate_dst (N := 3) rfl ?_); refine box_event ?hg (N := 3) ?hd (cs := #[.slice A0_0 l0_0.length c0_0, .slice A0_1 l0_1.length c0_1]) (t := 28) ?hr ?_; (case hd => rfl); (case hg => rfl); (case hr => first | (go_simp; done) | (go_simp; rfl)); intro gb101 hg w5 hbox hb; have GE101 := Aside0.mk ((by rw [hg]; exact (below_size (by repeat (first | (with_reducible first | exact HB.out | apply below_alloc | apply pw_below_drewN | apply below_drew1) | exact HB.out))) : w.heap.size ≤ gb101)); have n0_ := Aside0.mk (below_step (by repeat (first | (with_reducible first | exact HB.out | apply below_alloc | apply pw_below_drewN | apply below_drew1) | exact HB.out)) hb); have BK101 := Aside0.mk (hbox); clear HB; have HB := n0_; clear n0_ hb hbox hg) | ((with_reducible refine gate_dst (N := 4) rfl ?_); refine box_event ?hg (N := 4) ?hd (cs := #[.int .i64 a1]) (t := 3) ?hr ?_; (case hd => rfl); (case hg => rfl); (case hr => first | (go_simp; done) | (go_simp; rfl)); intro gb102 hg w6 hbox hb; have GE102 := Aside0.mk ((by rw [hg]; exact (below_size (by repeat (first | (with_reducible first | exact HB.out | apply below_alloc | apply pw_below_drewN | apply below_drew1) | exact HB.out))) : w.heap.size ≤ gb102)); have n101_ := Aside0.mk (blk_below (g := gb101) (o := (.cells #[.slice A0_0 l0_0.length c0_0, .slice A0_1 l0_1.length c0_1] 28 (0, 0))) (by (with_reducible repeat (first | refine blk_drewN ?_ _ | refine blk_drew ?_ | refine blk_alloc ?_ _)); exact BK101.out) hb); clear BK101; have BK101 := n101_; clear n101_; have n0_ := Aside0.mk (below_step (by repeat (first | (with_reducible first | exact HB.out | apply below_alloc | apply pw_below_drewN | apply below_drew1) | exact HB.out)) hb); have BK102 := Aside0.mk (hbox); clear HB; have HB := n0_; clear n0_ hb hbox hg) | ((with_reducible refine gate_dst (N := 5) rfl ?_); refine box_event ?hg (N := 5) ?hd (cs := #[.int .i64 a2]) (t := 3) ?hr ?_; (case hd => rfl); (case hg => rfl); (case hr => first | (go_simp; done) | (go_simp; rfl)); intro gb103 hg w7 hbox hb; have GE103 := Aside0.mk ((by rw [hg]; exact (below_size (by repeat (first | (with_reducible first | exact HB.out | apply below_alloc | apply pw_below_drewN | apply below_drew1) | exact HB.out))) : w.heap.size ≤ gb103)); have n101_ := Aside0.mk (blk_below (g := gb101) (o := (.cells #[.slice A0_0 l0_0.length c0_0, .slice A0_1 l0_1.length c0_1] 28 (0, 0))) (by (with_reducible repeat (first | refine blk_drewN ?_ _ | refine blk_drew ?_ | refine blk_alloc ?_ _)); exact BK101.out) hb); clear BK101; have BK101 := n101_; clear n101_; have n102_ := Aside0.mk (blk_below (g := gb102) (o := (.cells #[.int .i64 a1] 3 (0, 0))) (by (with_reducible repeat (first | refine blk_drewN ?_ _ | refine blk_drew ?_ | refine blk_alloc ?_ _)); exact BK102.out) hb); clear BK102; have BK102 := n102_; clear n102_; have n0_ := Aside0.mk (below_step (by repeat (first | (with_reducible first | exact HB.out | apply below_alloc | apply pw_below_drewN | apply below_drew1) | exact HB.out)) hb); have BK103 := Aside0.mk (hbox); clear HB; have HB := n0_; clear n0_ hb hbox hg) | ((with_reducible refine gate_dst (N := 6) rfl ?_); refine box_event ?hg (N := 6) ?hd (cs := #[.slice none 0 0, .slice none 0 0]) (t := 28) ?hr ?_; (case hd => rfl); (case hg => rfl); (case hr => first | (go_simp; done) | (go_simp; rfl)); intro gb104 hg w8 hbox hb; have GE104 := Aside0.mk ((by rw [hg]; exact (below_size (by repeat (first | (with_reducible first | exact HB.out | apply below_alloc | apply pw_below_drewN | apply below_drew1) | exact HB.out))) : w.heap.size ≤ gb104)); have n101_ := Aside0.mk (blk_below (g := gb101) (o := (.cells #[.slice A0_0 l0_0.length c0_0, .slice A0_1 l0_1.length c0_1] 28 (0, 0))) (by (with_reducible repeat (first | refine blk_drewN ?_ _ | refine blk_drew ?_ | refine blk_alloc ?_ _)); exact BK101.out) hb); clear BK101; have BK101 := n101_; clear n101_; have n102_ := Aside0.mk (blk_below (g := gb102) (o := (.cells #[.int .i64 a1] 3 (0, 0))) (by (with_reducible repeat (first | refine blk_drewN ?_ _ | refine blk_drew ?_ | refine blk_alloc ?_ _)); exact BK102.out) hb); clear BK102; have BK102 := n102_; clear n102_; have n103_ := Aside0.mk (blk_below (g := gb103) (o := (.cells #[.int .i64 a2] 3 (0, 0))) (by (with_reducible repeat (first | refine blk_drewN ?_ _ | refine blk_drew ?_ | refine blk_alloc ?_ _)); exact BK103.out) hb); clear BK103; have BK103 := n103_; clear n103_; have n0_ := Aside0.mk (below_step (by repeat (first | (with_reducible first | exact HB.out | apply below_alloc | apply pw_below_drewN | apply below_drew1) | exact HB.out)) hb); have BK104 := Aside0.mk (hbox); clear HB; have HB := n0_; clear n0_ hb hbox hg; have hcz_0 : w8.cell? ⟨gb101, 0, none⟩ = some (.slice A0_0 l0_0.length c0_0) := (blk_cell BK101.out 0).trans rfl; have hcz_1 : w8.cell? ⟨gb101, 1, none⟩ = some (.slice A0_1 l0_1.length c0_1) := (blk_cell BK101.out 1).trans rfl) | (go_at_call 136; refine (impl_Meander_kept.any (fun x => !inB x a1 a2) 137 #[.pointer (some ⟨gb102, 0, none⟩), .pointer (some ⟨gb103, 0, none⟩)] k A0_0 c0_0 l0_0 A0_1 c0_1 l0_1 t1 t2 _ (Kd.C_below HR0_0.out HB.out) HC0_0.out (Kd.C_below HR0_1.out HB.out) HC0_1.out (fun W gh x hW hc => impl_Meander_inside.kept1 a1 a2 gb102 gb103 gh x W ((blk_cell (blk_below BK102.out hW) 0).trans rfl) ((blk_cell (blk_below BK103.out hW) 0).trans rfl) hc) HF0.out HF1.out).mono ?_; rintro e w9 ⟨v105, v106, rfl, ho0, ho1, hb⟩; have HO105 := Aside0.mk (Kd.R_lower ho0 (below_size HB.out)); have HO106 := Aside0.mk (Kd.R_lower ho1 (below_size HB.out)); have n1_ := Aside0.mk (blk_below (g := gb104) (o := (.cells #[.slice none 0 0, .slice none 0 0] 28 (0, 0))) BK104.out hb); clear BK104; have BK104 := n1_; have n2_ := Aside0.mk (below_step HB.out hb); clear HB; have HB := n2_; clear n1_ n2_ hb ho0 ho1; obtain ⟨Ao11, co11, eo11⟩ := Kd.R_slice HO106.out; subst eo11; obtain ⟨Ao12, co12, eo12⟩ := Kd.R_slice HO105.out; subst eo12; have hs13 : w9.cell? ⟨gb104, 0, none⟩ = some (.slice none 0 0) := (blk_cell BK104.out 0).trans rfl; have hfs13 := blk_frozen BK104.out 0; have hs14 : w9.cell? ⟨gb104, 1, none⟩ = some (.slice none 0 0) := (blk_cell BK104.out 1).trans rfl; have hfs14 := blk_frozen BK104.out 1))
  refine bodyPost_ret (results_cell_row rfl _ _ gb104 28 #[.slice Ao12 t1.length co12, .slice Ao11 t2.length co11] (0, 0) _ rfl (by (with_reducible repeat (first | refine blk_drewN ?_ _ | refine blk_drew ?_ | refine blk_alloc ?_ _)); refine blk_put (cs := #[.slice Ao12 t1.length co12, .slice none 0 0]) ?_ 1 _ rfl; (with_reducible repeat (first | refine blk_drewN ?_ _ | refine blk_drew ?_ | refine blk_alloc ?_ _)); refine blk_put (cs := #[.slice none 0 0, .slice none 0 0]) ?_ 0 _ rfl; (with_reducible repeat (first | refine blk_drewN ?_ _ | refine blk_drew ?_ | refine blk_alloc ?_ _)); exact BK104.out) Try.underlying28 rfl (by kernel_rfl)) rfl ?_
  exact ⟨_, _, by first | rfl | (simp [errW_none, errW_some] <;> rfl) | (simp [*, errW_none, errW_some] <;> rfl), by (with_reducible repeat (first | apply Kd.R_alloc | apply Kd.R_drewN | apply Kd.R_drew)); exact Kd.R_mono (Kd.R_far (p := ⟨gb104, 1, none⟩) (Kd.R_far (p := ⟨gb104, 0, none⟩) (Kd.R_types HO105.out BK104.out (by decide)) (fun _ hk => hk.2) (.slice Ao12 t1.length co12)) (fun _ hk => hk.2) (.slice Ao11 t2.length co11)) (fun _ hk => hk.1), by (with_reducible repeat (first | apply Kd.R_alloc | apply Kd.R_drewN | apply Kd.R_drew)); exact Kd.R_mono (Kd.R_far (p := ⟨gb104, 1, none⟩) (Kd.R_far (p := ⟨gb104, 0, none⟩) (Kd.R_types HO106.out BK104.out (by decide)) (fun _ hk => hk.2) (.slice Ao12 t1.length co12)) (fun _ hk => hk.2) (.slice Ao11 t2.length co11)) (fun _ hk => hk.1), by repeat (first | (with_reducible first | exact HB.out | apply below_alloc | apply pw_below_drewN | apply below_drew1 | refine below_set ?_ GE104.out) | exact HB.out)⟩

end Go.Proofs.Ytbckijeffiofdaa.P
