/- The law FnExactClosedStretches: its walk, facts by age. -/
import Derived.Test.YtbckijeffiofdaaGMarkSS
import Derived.Test.YtbckijeffiofdaaF21
import Derived.Test.YtbckijeffiofdaaF23
import Derived.Test.YtbckijeffiofdaaF25
import Derived.Test.YtbckijeffiofdaaF33
import Derived.Test.YtbckijeffiofdaaF32
import Derived.Test.YtbckijeffiofdaaF35
import Derived.Test.YtbckijeffiofdaaF30
import Derived.Test.YtbckijeffiofdaaF31
namespace Go.Proofs.Ytbckijeffiofdaa.P
open Go.RowKit Go.Proofs.YtbckijeffiofdaaW.PrintWords Go.Proofs.YtbckijeffiofdaaW.PrintLast Go.Proofs.YtbckijeffiofdaaW.PrintMore
set_option linter.unusedVariables false
set_option linter.unusedSimpArgs false

def laws_FnExactClosedStretches.T10 : Bool × List (List Nat × List Nat) := (true, [([], []), ([], []), ([1], [1]), ([0, 2, 2], [0, 2]), ([3], [3])])
def laws_FnExactClosedStretches.B10 : List Nat := [0, 0, 2, 7, 15]
theorem laws_FnExactClosedStretches.tab10 : rtab .any (opsOf Try.f6 10) = laws_FnExactClosedStretches.T10 := by kernel_rfl
theorem laws_FnExactClosedStretches.bits10 : waitsOk laws_FnExactClosedStretches.T10.2 laws_FnExactClosedStretches.B10 = true := by kernel_rfl
set_option maxHeartbeats 4000000 in
set_option maxRecDepth 100000 in
theorem laws_FnExactClosedStretches.walk (k : Nat) (A0_0 : Option Addr) (c0_0 : Nat) (l0_0 : List Int) (A0_1 : Option Addr) (c0_1 : Nat) (l0_1 : List Int) (w : World) (hr0_0 : Kd.C (Kd.int .i64) w A0_0 l0_0.length l0_0) (hc0_0 : l0_0.length ≤ c0_0) (hr0_1 : Kd.C (Kd.int .i64) w A0_1 l0_1.length l0_1) (hc0_1 : l0_1.length ≤ c0_1)
    (tz : Int) (x0 x1 : List Int) (s1 : List (List Int)) (s2 : Bool) (g1 : List (List Int)) (g2 : Bool)
    (hz : laws_szMeander.f l0_0 l0_1 1048576 = some tz) (hz0 : ¬ tz < 0) (hx : laws_toMeander.f k l0_0 l0_1 = some (x0, x1)) (hs : spec_ClosedStretches.f k x0 x1 = some (s1, s2)) (hg : impl_ClosedStretches.f k x0 x1 = some (g1, g2)) (he : laws_eqIntSS.f k g1 s1 = some true) (hgs : g2 = s2) (hq : laws_eqMeander.f k x0 x1 x0 x1 = some true) (mk : Int) (m0 m1 : List Int) (hm : laws_markMeander.f k x0 x1 1 = some (mk, m0, m1)) (hm0 : ¬ mk < 0) (M1 : Int) (M2 : List (List Int)) (hmm : laws_markIntSS.f k g1 1 = some (M1, M2)) (hh : laws_heldIntSS.f k M2 1 = some M1) (hM0 : ¬ M1 < 0) :
    Calls Try.prog 6 #[.agg #[.slice A0_0 l0_0.length c0_0, .slice A0_1 l0_1.length c0_1]] w fun e w' => e = .returned (.bool true) ∧ Below w.heap.size w w' := by
  subst hgs
  have hu24 := Try.underlying24
  have hu28 := Try.underlying28
  have HR0_0 := Aside0.mk hr0_0
  have HC0_0 := Aside0.mk hc0_0
  have HR0_1 := Aside0.mk hr0_1
  have HC0_1 := Aside0.mk hc0_1
  have AZ := Aside0.mk hz
  have AX := Aside0.mk hx
  have AS := Aside0.mk hs
  have AG := Aside0.mk hg
  have AE := Aside0.mk he
  have AQ := Aside0.mk hq
  have AM := Aside0.mk hm
  have AMM := Aside0.mk hmm
  have AH := Aside0.mk hh
  have hM1 : decide (M1 < 0) = false := decide_eq_false hM0
  have hm1 : decide (mk < 0) = false := decide_eq_false hm0
  have hz1 : decide (tz < 0) = false := decide_eq_false hz0
  clear hr0_0 hc0_0 hr0_1 hc0_1 hz hz0 hx hs hg he hq hm hm0 hmm hh hM0
  have HB := Aside0.mk (Below.refl w.heap.size w)
  go_enter Try.func6, Try.ntmps6
  go_upto_region 10 with (first | ((with_reducible refine gate_dst (N := 1) rfl ?_); refine box_event ?hg (N := 1) ?hd (cs := #[.slice A0_0 l0_0.length c0_0, .slice A0_1 l0_1.length c0_1]) (t := 24) ?hr ?_; (case hd => rfl); (case hg => rfl); (case hr => first | (go_simp; done) | (go_simp; rfl)); intro gb101 hg w1 hbox hb; have n0_ := Aside0.mk (below_step HB.out hb); have BK101 := Aside0.mk (hbox); clear HB; have HB := n0_; clear n0_ hb hbox hg; have hczw1_0 : w1.cell? ⟨gb101, 0, none⟩ = some (.slice A0_0 l0_0.length c0_0) := (blk_cell BK101.out 0).trans rfl; have hczw1_1 : w1.cell? ⟨gb101, 1, none⟩ = some (.slice A0_1 l0_1.length c0_1) := (blk_cell BK101.out 1).trans rfl) | ((with_reducible refine gate_callee (f := 21) rfl ?_); refine goesL_ (some 16) rfl rfl Try.func21 (by kernel_rfl) rfl #[.agg #[.slice A0_0 l0_0.length c0_0, .slice A0_1 l0_1.length c0_1], .int .i64 1048576] rfl (by (try simp only [List.map_toArray, List.map_cons, List.map_nil]); first | done | rfl | (simp only [List.length_drop, List.length_take]; rfl)) ?_; refine (laws_szMeander.calls _ _ l0_0 _ _ l0_1 1048576 tz _ (Kd.C_below HR0_0.out HB.out) HC0_0.out (Kd.C_below HR0_1.out HB.out) HC0_1.out AZ.out).mono ?_; rintro e w2 ⟨rfl, hb⟩; refine ⟨_, rfl, ?_⟩; have k_ := Aside0.mk (blk_below (g := gb101) (o := (.cells #[.slice A0_0 l0_0.length c0_0, .slice A0_1 l0_1.length c0_1] 24 (0, 0))) BK101.out hb); clear BK101; have BK101 := k_; clear k_; have n_ := Aside0.mk (below_step HB.out hb); clear HB; have HB := n_; clear n_; clear hb; have hczw2_0 : w2.cell? ⟨gb101, 0, none⟩ = some (.slice A0_0 l0_0.length c0_0) := (blk_cell BK101.out 0).trans rfl; have hczw2_1 : w2.cell? ⟨gb101, 1, none⟩ = some (.slice A0_1 l0_1.length c0_1) := (blk_cell BK101.out 1).trans rfl) | ((with_reducible refine gate_callee (f := 23) rfl ?_); refine goesL_ (some 21) rfl rfl Try.func23 (by kernel_rfl) rfl #[.agg #[.slice A0_0 l0_0.length c0_0, .slice A0_1 l0_1.length c0_1]] rfl (by (try simp only [List.map_toArray, List.map_cons, List.map_nil]); first | done | rfl | (simp only [List.length_drop, List.length_take]; rfl)) ?_; refine (laws_toMeander.calls k _ _ l0_0 _ _ l0_1 x0 x1 _ (Kd.C_below HR0_0.out HB.out) HC0_0.out (Kd.C_below HR0_1.out HB.out) HC0_1.out AX.out).mono ?_; rintro e w3 ⟨va0, va1, rfl, ha0, ha1, hb⟩; refine ⟨_, rfl, ?_⟩; obtain ⟨Aa0, ca0, rfl⟩ := Kd.R_slice ha0; obtain ⟨Aa1, ca1, rfl⟩ := Kd.R_slice ha1; have k_ := Aside0.mk (blk_below (g := gb101) (o := (.cells #[.slice A0_0 l0_0.length c0_0, .slice A0_1 l0_1.length c0_1] 24 (0, 0))) BK101.out hb); clear BK101; have BK101 := k_; clear k_; have n_ := Aside0.mk (below_step HB.out hb); clear HB; have HB := n_; clear n_; clear hb; have HA0 := Aside0.mk (Kd.R_reads' ha0); have HA1 := Aside0.mk (Kd.R_reads' ha1); clear ha0 ha1; have hczw3_0 : w3.cell? ⟨gb101, 0, none⟩ = some (.slice A0_0 l0_0.length c0_0) := (blk_cell BK101.out 0).trans rfl; have hczw3_1 : w3.cell? ⟨gb101, 1, none⟩ = some (.slice A0_1 l0_1.length c0_1) := (blk_cell BK101.out 1).trans rfl) | ((with_reducible refine gate_callee (f := 30) rfl ?_); refine goesL_ (some 22) rfl rfl Try.func30 (by kernel_rfl) rfl #[.agg #[.slice Aa0 x0.length ca0, .slice Aa1 x1.length ca1]] rfl (by (try simp only [List.map_toArray, List.map_cons, List.map_nil]); first | done | rfl | (simp only [List.length_drop, List.length_take]; rfl)) ?_; refine (spec_ClosedStretches.calls k _ _ x0 _ _ x1 s1 g2 _ HA0.out.2.2 HA0.out.2.1 HA1.out.2.2 HA1.out.2.1 AS.out).mono ?_; rintro e w4 ⟨vs, rfl, hs, hb⟩; refine ⟨_, rfl, ?_⟩; obtain ⟨As, cs, rfl⟩ := Kd.S_slice hs; have k_ := Aside0.mk (blk_below (g := gb101) (o := (.cells #[.slice A0_0 l0_0.length c0_0, .slice A0_1 l0_1.length c0_1] 24 (0, 0))) BK101.out hb); clear BK101; have BK101 := k_; clear k_; have n_ := Aside0.mk (below_step HB.out hb); clear HB; have HB := n_; clear n_; clear hb; have HS := Aside0.mk hs; have FR := Aside0.mk (Below.refl w4.heap.size w4); have HBP := Aside0.mk HB.out; have BKP := Aside0.mk BK101.out; clear hs HA0 HA1; have hczw4_0 : w4.cell? ⟨gb101, 0, none⟩ = some (.slice A0_0 l0_0.length c0_0) := (blk_cell BK101.out 0).trans rfl; have hczw4_1 : w4.cell? ⟨gb101, 1, none⟩ = some (.slice A0_1 l0_1.length c0_1) := (blk_cell BK101.out 1).trans rfl) | ((with_reducible refine gate_callee (f := 23) rfl ?_); refine goesL_ (some 26) rfl rfl Try.func23 (by kernel_rfl) rfl #[.agg #[.slice A0_0 l0_0.length c0_0, .slice A0_1 l0_1.length c0_1]] rfl (by (try simp only [List.map_toArray, List.map_cons, List.map_nil]); first | done | rfl | (simp only [List.length_drop, List.length_take]; rfl)) ?_; refine (laws_toMeander.calls k _ _ l0_0 _ _ l0_1 x0 x1 _ (Kd.C_below HR0_0.out (below_step HBP.out FR.out)) HC0_0.out (Kd.C_below HR0_1.out (below_step HBP.out FR.out)) HC0_1.out AX.out).mono ?_; rintro e w5 ⟨vb0, vb1, rfl, hb0, hb1, hb⟩; refine ⟨_, rfl, ?_⟩; obtain ⟨Ab0, cb0, rfl⟩ := Kd.R_slice hb0; obtain ⟨Ab1, cb1, rfl⟩ := Kd.R_slice hb1; have GX := Aside0.mk (show w4.heap.size ≤ w4.heap.size from Nat.le_refl _); have n_ := Aside0.mk (below_step FR.out hb); clear FR; have FR := n_; clear n_; clear hb GX; have HX0 := Aside0.mk (Kd.R_lower hb0 (Nat.le_refl _)); have HX1 := Aside0.mk (Kd.R_lower hb1 (Nat.le_refl _)); clear hb0 hb1 HB BK101; have hczw5_0 : w5.cell? ⟨gb101, 0, none⟩ = some (.slice A0_0 l0_0.length c0_0) := (blk_cell (blk_below BKP.out FR.out) 0).trans rfl; have hczw5_1 : w5.cell? ⟨gb101, 1, none⟩ = some (.slice A0_1 l0_1.length c0_1) := (blk_cell (blk_below BKP.out FR.out) 1).trans rfl) | ((with_reducible refine gate_dst (N := 6) rfl ?_); refine box_event ?hg (N := 6) ?hd (cs := #[.slice none 0 0, .slice none 0 0]) (t := 28) ?hr ?_; (case hd => rfl); (case hg => rfl); (case hr => first | (go_simp; done) | (go_simp; rfl)); intro gb106 hg w6 hbox hb; have NB : Aside0 (gb101 ≠ gb106) := Aside0.mk (by rw [hg]; exact Nat.ne_of_lt (blk_lt (blk_below BKP.out FR.out))); have GE106 : Aside0 (w4.heap.size ≤ gb106) := Aside0.mk (by rw [hg]; exact below_size FR.out); have n0_ := Aside0.mk (Kd.R_below HX0.out hb); have n1_ := Aside0.mk (Kd.R_below HX1.out hb); clear HX0 HX1; have HX0 := n0_; have HX1 := n1_; clear n0_ n1_; have n_ := Aside0.mk (below_step FR.out hb); clear FR; have FR := n_; clear n_; have BK106 := Aside0.mk hbox; clear hb hbox hg; have hcz6_0 : w6.cell? ⟨gb106, 0, none⟩ = some (.slice none 0 0) := (blk_cell BK106.out 0).trans rfl; have hcz6_1 : w6.cell? ⟨gb106, 1, none⟩ = some (.slice none 0 0) := (blk_cell BK106.out 1).trans rfl; have hfz6_0 := blk_frozen BK106.out 0; have hfz6_1 := blk_frozen BK106.out 1) | ((with_reducible refine gate_callee (f := 31) rfl ?_); refine goesL_ (some 29) rfl rfl Try.func31 (by kernel_rfl) rfl #[.agg #[.slice Ab0 x0.length cb0, .slice Ab1 x1.length cb1]] rfl (by (try simp only [List.map_toArray, List.map_cons, List.map_nil]); first | done | rfl | (simp only [List.length_drop, List.length_take]; rfl)) ?_; have y0_ : Kd.R (Kd.int .i64) 3 ((w6.setCell ⟨gb106, 0, none⟩ (.slice Ab0 x0.length cb0)).setCell ⟨gb106, 1, none⟩ (.slice Ab1 x1.length cb1)) w4.heap.size (fun k_ => some k_ ≠ (.slice Ab1 x1.length cb1 : Value).ownBlock) (.slice Ab0 x0.length cb0) x0 := (Kd.R_mono (Kd.R_far (p := ⟨gb106, 1, none⟩) (Kd.R_far (p := ⟨gb106, 0, none⟩) (Kd.R_types HX0.out BK106.out (by decide)) (fun _ hk => hk.2) (.slice Ab0 x0.length cb0)) (fun _ hk => hk.2) (.slice Ab1 x1.length cb1)) (fun _ h_ => h_.1)); have y1_ : Kd.R (Kd.int .i64) 3 ((w6.setCell ⟨gb106, 0, none⟩ (.slice Ab0 x0.length cb0)).setCell ⟨gb106, 1, none⟩ (.slice Ab1 x1.length cb1)) w4.heap.size (fun k_ => some k_ ≠ (.slice Ab0 x0.length cb0 : Value).ownBlock) (.slice Ab1 x1.length cb1) x1 := (Kd.R_mono (Kd.R_far (p := ⟨gb106, 1, none⟩) (Kd.R_far (p := ⟨gb106, 0, none⟩) (Kd.R_types HX1.out BK106.out (by decide)) (fun _ hk => hk.2) (.slice Ab0 x0.length cb0)) (fun _ hk => hk.2) (.slice Ab1 x1.length cb1)) (fun _ h_ => h_.1)); refine (impl_ClosedStretches.calls k _ _ x0 _ _ x1 g1 g2 _ (Kd.R_reads' y0_).2.2 (Kd.R_reads' y0_).2.1 (Kd.R_reads' y1_).2.2 (Kd.R_reads' y1_).2.1 AG.out).mono ?_; have fr_ : Below w4.heap.size w4 ((w6.setCell ⟨gb106, 0, none⟩ (.slice Ab0 x0.length cb0)).setCell ⟨gb106, 1, none⟩ (.slice Ab1 x1.length cb1)) := below_set (below_set FR.out GE106.out (j := 0) (v := .slice Ab0 x0.length cb0)) GE106.out (j := 1) (v := .slice Ab1 x1.length cb1); have pt_ : ((w6.setCell ⟨gb106, 0, none⟩ (.slice Ab0 x0.length cb0)).setCell ⟨gb106, 1, none⟩ (.slice Ab1 x1.length cb1)).heap[gb106]? = some (.cells #[.slice Ab0 x0.length cb0, .slice Ab1 x1.length cb1] 28 (0, 0)) := (blk_put (cs := #[.slice Ab0 x0.length cb0, .slice none 0 0]) (blk_put (cs := #[.slice none 0 0, .slice none 0 0]) BK106.out 0 _ rfl) 1 _ rfl); rintro e w7 ⟨vg, rfl, hg, hb⟩; refine ⟨_, rfl, ?_⟩; obtain ⟨Ag, cg, rfl⟩ := Kd.S_slice hg; have hx0 := Aside0.mk (Kd.R_below y0_ hb); have hx1 := Aside0.mk (Kd.R_below y1_ hb); have lt0 := Aside0.mk (Kd.R_lt y0_); have lt1 := Aside0.mk (Kd.R_lt y1_); have BKX := Aside0.mk (blk_below pt_ hb); have n_ := Aside0.mk (below_step fr_ hb); have glow := Aside0.mk (below_size fr_); have HG := Aside0.mk (Kd.S_bound (Kd.S_lower hg (Nat.le_refl _))); clear FR HX0 HX1 BK106 y0_ y1_ fr_ pt_ hb hg; have FR := n_; have HX0 := hx0; have HX1 := hx1; clear n_ hx0 hx1; have hczw7_0 : w7.cell? ⟨gb101, 0, none⟩ = some (.slice A0_0 l0_0.length c0_0) := (blk_cell (blk_below BKP.out FR.out) 0).trans rfl; have hczw7_1 : w7.cell? ⟨gb101, 1, none⟩ = some (.slice A0_1 l0_1.length c0_1) := (blk_cell (blk_below BKP.out FR.out) 1).trans rfl; have hcx_0 : w7.cell? ⟨gb106, 0, none⟩ = some (.slice Ab0 x0.length cb0) := (blk_cell BKX.out 0).trans rfl; have hcx_1 : w7.cell? ⟨gb106, 1, none⟩ = some (.slice Ab1 x1.length cb1) := (blk_cell BKX.out 1).trans rfl) | ((with_reducible refine gate_callee (f := 32) rfl ?_); refine goesL_ (some 34) rfl rfl Try.func32 (by kernel_rfl) rfl #[.slice Ag g1.length cg, .slice As s1.length cs] rfl (by (try simp only [List.map_toArray, List.map_cons, List.map_nil]); first | done | rfl | (simp only [List.length_drop, List.length_take]; rfl)) ?_; refine (laws_eqIntSS.calls k _ _ g1 _ _ s1 true _ (Kd.S_reads' HG.out).2.2 (Kd.S_reads' HG.out).2.1 (Kd.C_below (Kd.S_reads' HS.out).2.2 FR.out) (Kd.S_reads' HS.out).2.1 AE.out).mono ?_; rintro e w8 ⟨rfl, ⟨nd, rfl⟩⟩; refine ⟨_, rfl, ?_⟩))
  (try simp only [Act.put, List.setIfInBounds_toArray, List.set_cons_zero, List.set_cons_succ])
  have n1_ := Aside0.mk (below_drew1 (pw_below_drewN FR.out nd))
  have n2_ := Aside0.mk (Kd.R_drew (Kd.R_drewN HX0.out nd))
  have n3_ := Aside0.mk (Kd.R_drew (Kd.R_drewN HX1.out nd))
  have n4_ := Aside0.mk (Kd.S_drew (Kd.S_drewN HG.out nd))
  have n5_ := Aside0.mk (blk_drew (blk_drewN BKX.out nd))
  clear FR HX0 HX1 HG BKX
  have FR := n1_
  have HX0 := n2_
  have HX1 := n3_
  have HG := n4_
  have BKX := n5_
  clear n1_ n2_ n3_ n4_ n5_
  refine start_ (n := 5) (S := fun w' => w'.cell? ⟨gb106, 0, none⟩ = some (.slice Ab0 x0.length cb0) ∧ w'.cell? ⟨gb106, 1, none⟩ = some (.slice Ab1 x1.length cb1) ∧ w'.cell? ⟨gb101, 0, none⟩ = some (.slice A0_0 l0_0.length c0_0) ∧ w'.cell? ⟨gb101, 1, none⟩ = some (.slice A0_1 l0_1.length c0_1)) (ds := []) #[false, false, false, false, false] (by kernel_rfl) rfl rfl ⟨(blk_cell BKX.out 0).trans rfl, (blk_cell BKX.out 1).trans rfl, (blk_cell (blk_below BKP.out FR.out) 0).trans rfl, (blk_cell (blk_below BKP.out FR.out) 1).trans rfl⟩ (fun hHeld => ?_); refine with_tabW laws_FnExactClosedStretches.tab10 laws_FnExactClosedStretches.bits10 (fun HT_ HW_ => ?_)
  generalize (w7.drewN nd).drew = w8 at FR HX0 HX1 HG BKX hHeld ⊢
  refine take_ (i := 0) (N := some 41) (v := ?_) (a' := ?_) #[true, false, false, false, false] rfl rfl (take_ofW HT_.out HW_.out (by kernel_rfl)) (fun _ _ _ h => h) (Or.inl ⟨by rfl, ?_⟩) hHeld ?_ ?_
  rotate_left
  · rintro w' ⟨s0, s1, s2, s3⟩
    go_simp
    with_reducible rfl
  rotate_left
  · simp only [Act.put, List.setIfInBounds_toArray, List.set_cons_zero, List.set_cons_succ, i64_w, i32_w]
    rfl
  refine take_ (i := 1) (N := some 42) (v := ?_) (a' := ?_) #[true, true, false, false, false] rfl rfl (take_ofW HT_.out HW_.out (by kernel_rfl)) (fun _ _ _ h => h) (Or.inl ⟨by rfl, ?_⟩) hHeld ?_ ?_
  rotate_left
  · rintro w' ⟨s0, s1, s2, s3⟩
    go_simp
    with_reducible rfl
  rotate_left
  · simp only [Act.put, List.setIfInBounds_toArray, List.set_cons_zero, List.set_cons_succ, i64_w, i32_w]
    rfl
  refine one_ (i := 2) (N := some 43) #[true, true, true, false, false] rfl rfl (one_of HT_.out (by kernel_rfl)) (by decide) (fun K hK => ?_)
  refine goes_ Try.func23 (by kernel_rfl) rfl #[.agg #[.slice A0_0 l0_0.length c0_0, .slice A0_1 l0_1.length c0_1]] (by rfl) rfl rfl (by (try simp only [List.map_toArray, List.map_cons, List.map_nil]); first | done | rfl) ?_
  refine (laws_toMeander.calls k _ _ l0_0 _ _ l0_1 x0 x1 _ (Kd.C_below HR0_0.out (below_step HBP.out FR.out)) HC0_0.out (Kd.C_below HR0_1.out (below_step HBP.out FR.out)) HC0_1.out AX.out).mono ?_
  rintro e w9 ⟨vd0, vd1, rfl, hd0, hd1, hb⟩
  refine ⟨_, rfl, ?_⟩
  obtain ⟨Ad0, cd0, rfl⟩ := Kd.R_slice hd0
  obtain ⟨Ad1, cd1, rfl⟩ := Kd.R_slice hd1
  have HD0 := Aside0.mk (Kd.R_reads' hd0)
  have HD1 := Aside0.mk (Kd.R_reads' hd1)
  clear hd0 hd1
  have n1_ := Aside0.mk (below_step FR.out hb)
  have n2_ := Aside0.mk (Kd.R_below HX0.out hb)
  have n3_ := Aside0.mk (Kd.R_below HX1.out hb)
  have n4_ := Aside0.mk (Kd.S_below HG.out hb)
  have n5_ := Aside0.mk (blk_below BKX.out hb)
  clear FR HX0 HX1 HG BKX
  have FR := n1_
  have HX0 := n2_
  have HX1 := n3_
  have HG := n4_
  have BKX := n5_
  clear n1_ n2_ n3_ n4_ n5_ hb
  refine hK.out _ _ ⟨(blk_cell BKX.out 0).trans rfl, (blk_cell BKX.out 1).trans rfl, (blk_cell (blk_below BKP.out FR.out) 0).trans rfl, (blk_cell (blk_below BKP.out FR.out) 1).trans rfl⟩ (fun hHeld => ?_)
  clear hK K
  refine norm_ (a' := ?_) ?_ ?_
  rotate_left
  · show Act.put _ (some 43) _ = _
    simp only [Act.put, List.setIfInBounds_toArray, List.set_cons_zero, List.set_cons_succ, i64_w, i32_w]
    rfl
  refine one_ (i := 3) (N := some 44) #[true, true, true, true, false] rfl rfl (one_of HT_.out (by kernel_rfl)) (by decide) (fun K hK => ?_)
  refine goes_ Try.func25 (by kernel_rfl) rfl #[.agg #[.slice Ab0 x0.length cb0, .slice Ab1 x1.length cb1], .agg #[.slice Ad0 x0.length cd0, .slice Ad1 x1.length cd1]] (by rfl) rfl rfl (by (try simp only [List.map_toArray, List.map_cons, List.map_nil]); first | done | rfl) ?_
  refine (laws_eqMeander.calls k _ _ x0 _ _ x1 _ _ x0 _ _ x1 true _ (Kd.R_reads' HX0.out).2.2 (Kd.R_reads' HX0.out).2.1 (Kd.R_reads' HX1.out).2.2 (Kd.R_reads' HX1.out).2.1 HD0.out.2.2 HD0.out.2.1 HD1.out.2.2 HD1.out.2.1 AQ.out).mono ?_
  rintro e w10 ⟨rfl, hb⟩
  refine ⟨_, rfl, ?_⟩
  clear HD0 HD1
  have n1_ := Aside0.mk (below_step FR.out hb)
  have n2_ := Aside0.mk (Kd.R_below HX0.out hb)
  have n3_ := Aside0.mk (Kd.R_below HX1.out hb)
  have n4_ := Aside0.mk (Kd.S_below HG.out hb)
  have n5_ := Aside0.mk (blk_below BKX.out hb)
  clear FR HX0 HX1 HG BKX
  have FR := n1_
  have HX0 := n2_
  have HX1 := n3_
  have HG := n4_
  have BKX := n5_
  clear n1_ n2_ n3_ n4_ n5_ hb
  refine hK.out _ _ ⟨(blk_cell BKX.out 0).trans rfl, (blk_cell BKX.out 1).trans rfl, (blk_cell (blk_below BKP.out FR.out) 0).trans rfl, (blk_cell (blk_below BKP.out FR.out) 1).trans rfl⟩ (fun hHeld => ?_)
  clear hK K
  refine norm_ (a' := ?_) ?_ ?_
  rotate_left
  · show Act.put _ (some 44) _ = _
    simp only [Act.put, List.setIfInBounds_toArray, List.set_cons_zero, List.set_cons_succ, i64_w, i32_w]
    rfl
  refine pure_ (i := 4) (N := some 45) (v := ?_) (a' := ?_) #[true, true, true, true, true] rfl rfl (any_of HT_.out (by kernel_rfl)) (fun _ _ _ h => h) (Or.inl ⟨by rfl, ?_⟩) ?_ ?_
  rotate_left
  · intro w'
    go_simp
    with_reducible rfl
  rotate_left
  · simp only [Act.put, List.setIfInBounds_toArray, List.set_cons_zero, List.set_cons_succ, i64_w, i32_w]
    rfl
  refine done_ (done_of HT_.out (by kernel_rfl)) ?_
  have hcx2_0 : w10.cell? ⟨gb106, 0, none⟩ = some (.slice Ab0 x0.length cb0) := (blk_cell BKX.out 0).trans rfl
  have hcx2_1 : w10.cell? ⟨gb106, 1, none⟩ = some (.slice Ab1 x1.length cb1) := (blk_cell BKX.out 1).trans rfl
  clear hHeld HT_ HW_
  go_upto_region 17 with (first | ((with_reducible refine gate_callee (f := 33) rfl ?_); refine goesL_ (some 48) rfl rfl Try.func33 (by kernel_rfl) rfl #[.agg #[.slice Ab0 x0.length cb0, .slice Ab1 x1.length cb1], .int .i64 1] rfl (by (try simp only [List.map_toArray, List.map_cons, List.map_nil]); first | done | rfl | (simp only [List.length_drop, List.length_take]; rfl)) ?_; refine (laws_markMeander.calls k (fun k_ => some k_ = (.slice Ab0 x0.length cb0 : Value).ownBlock) (.slice Ab0 x0.length cb0) x0 (fun k_ => some k_ = (.slice Ab1 x1.length cb1 : Value).ownBlock) (.slice Ab1 x1.length cb1) x1 1 mk m0 m1 w4 _ FR.out (Kd.R_tight rfl HX0.out) (fun k_ e_ => HX0.out.1 k_ e_.symm) (Kd.R_tight rfl HX1.out) (fun k_ e_ => HX1.out.1 k_ e_.symm) AM.out).mono ?_; rintro e w12 ⟨rfl, _, _, hb, hkp⟩; refine ⟨_, rfl, ?_⟩; have n1_ := Aside0.mk (Kd.S_kept HG.out hkp (fun k_ hk_ hs_ => Or.elim hs_ (fun e_ => Nat.lt_irrefl _ (Nat.lt_of_lt_of_le (lt0.out k_ e_.symm) hk_.2.1)) (fun e_ => Nat.lt_irrefl _ (Nat.lt_of_lt_of_le (lt1.out k_ e_.symm) hk_.2.1)))); clear FR HX0 HX1 BKX HG lt0 lt1 hkp; have FR := Aside0.mk hb; have HG := n1_; clear n1_ hb; have hczw12_0 : w12.cell? ⟨gb101, 0, none⟩ = some (.slice A0_0 l0_0.length c0_0) := (blk_cell (blk_below BKP.out FR.out) 0).trans rfl; have hczw12_1 : w12.cell? ⟨gb101, 1, none⟩ = some (.slice A0_1 l0_1.length c0_1) := (blk_cell (blk_below BKP.out FR.out) 1).trans rfl) | (go_at_call 32; refine (laws_eqIntSS.calls k _ _ g1 _ _ s1 true _ (Kd.S_reads' HG.out).2.2 (Kd.S_reads' HG.out).2.1 (Kd.C_below (Kd.S_reads' HS.out).2.2 FR.out) (Kd.S_reads' HS.out).2.1 AE.out).mono ?_; rintro e w13 ⟨rfl, ⟨nd2, rfl⟩⟩))
  go_upto_region 18 with (first | ((with_reducible refine gate_callee (f := 34) rfl ?_); refine goesL_ (some 64) rfl rfl Try.func34 (by kernel_rfl) rfl #[.slice Ag g1.length cg, .int .i64 1] rfl (by (try simp only [List.map_toArray, List.map_cons, List.map_nil]); first | done | rfl | (simp only [List.length_drop, List.length_take]; rfl)) ?_; refine (laws_markIntSS.calls k _ (.slice Ag g1.length cg) g1 1 M1 M2 w4 _ (by repeat (first | (with_reducible first | exact FR.out | apply below_alloc | apply pw_below_drewN | apply below_drew1) | exact FR.out)) (Kd.S_lower (by (with_reducible repeat (first | apply Kd.S_alloc | apply Kd.S_drewN | apply Kd.S_drew)); exact HG.out) glow.out) AMM.out).mono ?_; rintro e w14 ⟨rfl, hs, hb, hkp⟩; refine ⟨_, rfl, ?_⟩; have el := (Kd.S_reads' hs).1; have hheld := fun (W : World) (hC : Kd.C (Kd.slice 3 (Kd.int .i64)) W Ag M2.length M2) => laws_heldIntSS.calls k Ag cg M2 1 M1 W hC (by have := (Kd.S_reads' hs).2.1; omega) AH.out; have hC14 := (Kd.S_reads' hs).2.2; rw [← el] at hheld hC14; have HCALL := Aside0.mk (hheld w14 hC14); have HHELD := Aside0.mk hheld; clear FR HG hkp; have FR := Aside0.mk hb; have HG := Aside0.mk hs; clear hs hb hheld el hC14; have hczw14_0 : w14.cell? ⟨gb101, 0, none⟩ = some (.slice A0_0 l0_0.length c0_0) := (blk_cell (blk_below BKP.out FR.out) 0).trans rfl; have hczw14_1 : w14.cell? ⟨gb101, 1, none⟩ = some (.slice A0_1 l0_1.length c0_1) := (blk_cell (blk_below BKP.out FR.out) 1).trans rfl))
  go_upto_region 24 with (first | (go_at_call 35; refine HCALL.out.mono ?_; rintro e w15 ⟨rfl, ⟨nd3, rfl⟩⟩))
  go_upto_region 25 with (first | ((with_reducible refine gate_callee (f := 23) rfl ?_); refine goesL_ (some 75) rfl rfl Try.func23 (by kernel_rfl) rfl #[.agg #[.slice A0_0 l0_0.length c0_0, .slice A0_1 l0_1.length c0_1]] rfl (by (try simp only [List.map_toArray, List.map_cons, List.map_nil]); first | done | rfl | (simp only [List.length_drop, List.length_take]; rfl)) ?_; refine (laws_toMeander.calls k _ _ l0_0 _ _ l0_1 x0 x1 _ (Kd.C_below HR0_0.out (below_step HBP.out (by repeat (first | (with_reducible first | exact FR.out | apply below_alloc | apply pw_below_drewN | apply below_drew1) | exact FR.out)))) HC0_0.out (Kd.C_below HR0_1.out (below_step HBP.out (by repeat (first | (with_reducible first | exact FR.out | apply below_alloc | apply pw_below_drewN | apply below_drew1) | exact FR.out)))) HC0_1.out AX.out).mono ?_; rintro e w16 ⟨ve0, ve1, rfl, he0, he1, hb⟩; refine ⟨_, rfl, ?_⟩; obtain ⟨Ae0, ce0, rfl⟩ := Kd.R_slice he0; obtain ⟨Ae1, ce1, rfl⟩ := Kd.R_slice he1; have HE0 := Aside0.mk (Kd.R_reads' he0); have HE1 := Aside0.mk (Kd.R_reads' he1); clear he0 he1; have n1_ := Aside0.mk (below_step (by repeat (first | (with_reducible first | exact FR.out | apply below_alloc | apply pw_below_drewN | apply below_drew1) | exact FR.out)) hb); have n4_ := Aside0.mk (Kd.S_below (by (with_reducible repeat (first | apply Kd.S_alloc | apply Kd.S_drewN | apply Kd.S_drew)); exact HG.out) hb); clear FR HG; have FR := n1_; have HG := n4_; clear n1_ n4_ hb) | ((with_reducible refine gate_callee (f := 31) rfl ?_); refine goesL_ (some 76) rfl rfl Try.func31 (by kernel_rfl) rfl #[.agg #[.slice Ae0 x0.length ce0, .slice Ae1 x1.length ce1]] rfl (by (try simp only [List.map_toArray, List.map_cons, List.map_nil]); first | done | rfl | (simp only [List.length_drop, List.length_take]; rfl)) ?_; refine (impl_ClosedStretches.calls k _ _ x0 _ _ x1 g1 g2 _ HE0.out.2.2 HE0.out.2.1 HE1.out.2.2 HE1.out.2.1 AG.out).mono ?_; rintro e w17 ⟨vh, rfl, hh, hb⟩; refine ⟨_, rfl, ?_⟩; obtain ⟨Ah, ch, rfl⟩ := Kd.S_slice hh; have HH := Aside0.mk hh; clear HE0 HE1 hh; have n1_ := Aside0.mk (below_step (by repeat (first | (with_reducible first | exact FR.out | apply below_alloc | apply pw_below_drewN | apply below_drew1) | exact FR.out)) hb); have n4_ := Aside0.mk (Kd.S_below (by (with_reducible repeat (first | apply Kd.S_alloc | apply Kd.S_drewN | apply Kd.S_drew)); exact HG.out) hb); clear FR HG; have FR := n1_; have HG := n4_; clear n1_ n4_ hb; have hC17 := Kd.S_reads' HG.out; have HCALL2 := Aside0.mk (fun n => HHELD.out (w17.drewN n) (Kd.C_drewN (by rw [← hC17.1] at hC17; exact hC17.2.2) n)); clear hC17))
  go_upto_region 28 with (first | (go_at_call 32; refine (laws_eqIntSS.calls k _ _ g1 _ _ s1 true _ (Kd.S_reads' HH.out).2.2 (Kd.S_reads' HH.out).2.1 (Kd.C_below (Kd.S_reads' HS.out).2.2 FR.out) (Kd.S_reads' HS.out).2.1 AE.out).mono ?_; rintro e w18 ⟨rfl, ⟨nd4, rfl⟩⟩))
  go_wp2_with (first | (go_at_call 35; refine (HCALL2.out nd4).mono ?_; rintro e w19 ⟨rfl, ⟨nd5, rfl⟩⟩))
  go_ret
  exact ⟨rfl, below_step HBP.out (by repeat (first | (with_reducible first | exact FR.out | apply below_alloc | apply pw_below_drewN | apply below_drew1) | exact FR.out))⟩

def laws_FnExactClosedStretches.f (k : Nat) (l0_0 l0_1 : List Int) : Option Bool := (laws_szMeander.f l0_0 l0_1 1048576).bind fun tz => if tz < 0 then some true else (laws_toMeander.f k l0_0 l0_1).bind fun x => (spec_ClosedStretches.f k x.1 x.2).bind fun s => (impl_ClosedStretches.f k x.1 x.2).bind fun g => (laws_eqIntSS.f k g.1 s.1).bind fun e => (laws_eqMeander.f k x.1 x.2 x.1 x.2).bind fun e2 => (laws_markMeander.f k x.1 x.2 1).bind fun m => (laws_markIntSS.f k g.1 1).bind fun M => (laws_heldIntSS.f k M.2 1).bind fun h => if e = true ∧ g.2 = s.2 ∧ e2 = true ∧ ¬ m.1 < 0 ∧ h = M.1 ∧ ¬ M.1 < 0 then some true else none

set_option maxHeartbeats 2000000 in
set_option maxRecDepth 100000 in
theorem laws_FnExactClosedStretches.calls (k : Nat) (A0_0 : Option Addr) (c0_0 : Nat) (l0_0 : List Int) (A0_1 : Option Addr) (c0_1 : Nat) (l0_1 : List Int) (r : Bool) (w : World) (hr0_0 : Kd.C (Kd.int .i64) w A0_0 l0_0.length l0_0) (hc0_0 : l0_0.length ≤ c0_0) (hr0_1 : Kd.C (Kd.int .i64) w A0_1 l0_1.length l0_1) (hc0_1 : l0_1.length ≤ c0_1) (h : laws_FnExactClosedStretches.f k l0_0 l0_1 = some r) :
    Calls Try.prog 6 #[.agg #[.slice A0_0 l0_0.length c0_0, .slice A0_1 l0_1.length c0_1]] w fun e w' => e = .returned (.bool r) ∧ Below w.heap.size w w' := by
  unfold laws_FnExactClosedStretches.f at h
  obtain ⟨tz, hz, h⟩ := Option.bind_eq_some_iff.mp h
  by_cases hz0 : tz < 0
  · rw [if_pos hz0] at h
    obtain rfl := Option.some.inj h
    clear h
    have hu24 := Try.underlying24
    have HR0_0 := Aside0.mk hr0_0
    have HC0_0 := Aside0.mk hc0_0
    have HR0_1 := Aside0.mk hr0_1
    have HC0_1 := Aside0.mk hc0_1
    have AZ := Aside0.mk hz
    have hz1 : decide (tz < 0) = true := decide_eq_true hz0
    clear hr0_0 hc0_0 hr0_1 hc0_1 hz hz0
    have HB := Aside0.mk (Below.refl w.heap.size w)
    go_enter Try.func6, Try.ntmps6
    go_wp2_with (first | ((with_reducible refine gate_dst (N := 1) rfl ?_); refine box_event ?hg (N := 1) ?hd (cs := #[.slice A0_0 l0_0.length c0_0, .slice A0_1 l0_1.length c0_1]) (t := 24) ?hr ?_; (case hd => rfl); (case hg => rfl); (case hr => first | (go_simp; done) | (go_simp; rfl)); intro gb101 hg w1 hbox hb; have n0_ := Aside0.mk (below_step HB.out hb); have BK101 := Aside0.mk (hbox); clear HB; have HB := n0_; clear n0_ hb hbox hg; have hczw1_0 : w1.cell? ⟨gb101, 0, none⟩ = some (.slice A0_0 l0_0.length c0_0) := (blk_cell BK101.out 0).trans rfl; have hczw1_1 : w1.cell? ⟨gb101, 1, none⟩ = some (.slice A0_1 l0_1.length c0_1) := (blk_cell BK101.out 1).trans rfl) | ((with_reducible refine gate_callee (f := 21) rfl ?_); refine goesL_ (some 16) rfl rfl Try.func21 (by kernel_rfl) rfl #[.agg #[.slice A0_0 l0_0.length c0_0, .slice A0_1 l0_1.length c0_1], .int .i64 1048576] rfl (by (try simp only [List.map_toArray, List.map_cons, List.map_nil]); first | done | rfl | (simp only [List.length_drop, List.length_take]; rfl)) ?_; refine (laws_szMeander.calls _ _ l0_0 _ _ l0_1 1048576 tz _ (Kd.C_below HR0_0.out HB.out) HC0_0.out (Kd.C_below HR0_1.out HB.out) HC0_1.out AZ.out).mono ?_; rintro e w2 ⟨rfl, hb⟩; refine ⟨_, rfl, ?_⟩; have k_ := Aside0.mk (blk_below (g := gb101) (o := (.cells #[.slice A0_0 l0_0.length c0_0, .slice A0_1 l0_1.length c0_1] 24 (0, 0))) BK101.out hb); clear BK101; have BK101 := k_; clear k_; have n_ := Aside0.mk (below_step HB.out hb); clear HB; have HB := n_; clear n_; clear hb; have hczw2_0 : w2.cell? ⟨gb101, 0, none⟩ = some (.slice A0_0 l0_0.length c0_0) := (blk_cell BK101.out 0).trans rfl; have hczw2_1 : w2.cell? ⟨gb101, 1, none⟩ = some (.slice A0_1 l0_1.length c0_1) := (blk_cell BK101.out 1).trans rfl))
    go_ret
    exact ⟨rfl, HB.out⟩
  · rw [if_neg hz0] at h
    obtain ⟨⟨x0, x1⟩, hx, h⟩ := Option.bind_eq_some_iff.mp h
    obtain ⟨⟨s1, s2⟩, hs, h⟩ := Option.bind_eq_some_iff.mp h
    obtain ⟨⟨g1, g2⟩, hg, h⟩ := Option.bind_eq_some_iff.mp h
    obtain ⟨e, he, h⟩ := Option.bind_eq_some_iff.mp h
    obtain ⟨e2, hq, h⟩ := Option.bind_eq_some_iff.mp h
    obtain ⟨⟨mk, m0, m1⟩, hm, h⟩ := Option.bind_eq_some_iff.mp h
    obtain ⟨⟨M1, M2⟩, hmm, h⟩ := Option.bind_eq_some_iff.mp h
    obtain ⟨hd, hh, h⟩ := Option.bind_eq_some_iff.mp h
    by_cases c : e = true ∧ g2 = s2 ∧ e2 = true ∧ ¬ mk < 0 ∧ hd = M1 ∧ ¬ M1 < 0
    · obtain ⟨rfl, hgs, rfl, hm0, rfl, hM0⟩ := c
      have h2 : some true = some r := by rw [← h]; exact (if_pos ⟨rfl, hgs, rfl, hm0, rfl, hM0⟩).symm
      obtain rfl := Option.some.inj h2
      exact laws_FnExactClosedStretches.walk k A0_0 c0_0 l0_0 A0_1 c0_1 l0_1 w hr0_0 hc0_0 hr0_1 hc0_1 tz x0 x1 s1 s2 g1 g2 hz hz0 hx hs hg he hgs hq mk m0 m1 hm hm0 _ M2 hmm hh hM0
    · have h2 : (none : Option Bool) = some r := by rw [← h]; exact (if_neg c).symm
      cases h2

end Go.Proofs.Ytbckijeffiofdaa.P
