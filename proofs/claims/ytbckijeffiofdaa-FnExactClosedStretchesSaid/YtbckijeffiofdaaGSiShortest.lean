/- spec.siShortest: the first or the last of the shortest rows: the best row is one of the rows, lent. -/
import Derived.Test.YtbckijeffiofdaaF100
import Derived.WalkSpells
namespace Go.Proofs.Ytbckijeffiofdaa.P
open Go.RowKit Go.Proofs.YtbckijeffiofdaaW.PrintWords Go.Proofs.YtbckijeffiofdaaW.PrintLast Go.Proofs.YtbckijeffiofdaaW.PrintMore
set_option linter.unusedVariables false
set_option linter.unusedSimpArgs false

/-- Is a stretch taken for the best one? -/
def shTakes (last : Bool) (best own : List Int) : Bool := decide (best.length = 0) || (decide (wrap64 (rd own 1 - rd own 0) < wrap64 (rd best 1 - rd best 0)) || (last && (wrap64 (rd own 1 - rd own 0) == wrap64 (rd best 1 - rd best 0))))
def shGo : Nat → Bool → List (List Int) → List Int → Int → Option (List Int)
  | 0, _, _, _, _ => none
  | k + 1, last, rows, best, i => if i < (rows.length : Int) then (if 0 ≤ i then (if (rd_L9 rows i).length = 2 then shGo k last rows (if shTakes last best (rd_L9 rows i) = true then rd_L9 rows i else best) (wrap64 (i + 1)) else none) else none) else some best
theorem shGo.mono : ∀ k last rows best i, LeO (shGo k last rows best i) (shGo (k + 1) last rows best i)
  | 0, _, _, _, _ => fun r h => by simp [shGo] at h
  | k + 1, last, rows, best, i => by
    have ih := shGo.mono k
    unfold shGo
    repeat' first | exact ih _ _ _ _ | exact LeO.refl _ | exact LeO.none _ | refine LeO.ite ?_ ?_
def spec_siShortest.f (k : Nat) (l0_0 : List Int) (l0_1 : List Int) (a1 : Bool) : Option (List Int) := (spec_siAll.f k l0_0 l0_1).bind fun rows => shGo k a1 rows [] 0
theorem spec_siShortest.mono : ∀ a0 a1 a2 k, LeO (spec_siShortest.f k a0 a1 a2) (spec_siShortest.f (k + 1) a0 a1 a2) := by
  intro a0 a1 a2 k
  unfold spec_siShortest.f
  exact LeO.bind (spec_siAll.mono _ _ _) (fun _ => shGo.mono _ _ _ _ _)

theorem row_own {e base n cap : Nat} {ok : Nat → Prop} {W : World} {A : Option Addr} {xs : List (List Int)} (h : Kd.R (Kd.slice 3 (Kd.int .i64)) e W base ok (.slice A n cap) xs) (i : Int) (h0 : 0 ≤ i) (h1 : i < n) :
    ∃ ad A0 c0, A = some ad ∧ W.cell? (ad.add i.toNat) = some (.slice A0 (rd_L9 xs i).length c0) ∧ Kd.R (Kd.int .i64) 3 W base ok (.slice A0 (rd_L9 xs i).length c0) (rd_L9 xs i) := by
  have hC := (Kd.R_reads' h)
  obtain ⟨hn, _, hC⟩ := hC
  obtain ⟨ad, A0, c0, rfl, hx, _, _⟩ := at_L9 hC i h0 (by omega)
  obtain ⟨c, hcl, hM, hcc⟩ := Kd.R_get h ([] : List Int) i h0 h1
  obtain ⟨v, rfl, hR⟩ := hM
  have hv := hcc 0 v rfl
  have hv' : W.cell? (ad.add i.toNat) = some v := by
    have : i.toNat * (Kd.slice 3 (Kd.int .i64)).sz + 0 = i.toNat := by show i.toNat * 1 + 0 = _; omega
    rwa [this] at hv
  rw [hx] at hv'
  obtain rfl := Option.some.inj hv'
  exact ⟨ad, A0, c0, rfl, hx, Kd.R_mono hR (fun _ hk => hk.1)⟩

theorem two_cells {e base c : Nat} {ok : Nat → Prop} {W : World} {A : Option Addr} {xs : List Int} (h : Kd.R (Kd.int .i64) e W base ok (.slice A 2 c) xs) :
    ∃ g, A = some ⟨g, 0, none⟩ ∧ W.cell? ⟨g, 0, none⟩ = some (.int .i64 (rd xs 0)) ∧ W.cell? ⟨g, 1, none⟩ = some (.int .i64 (rd xs 1)) := by
  obtain ⟨hn, _, hC⟩ := Kd.R_reads' h
  obtain ⟨ad, rfl, hx⟩ := Kd.at_int hC 0 (by omega) (by omega)
  obtain ⟨g, hg⟩ : ∃ g, ad = ⟨g, 0, none⟩ := by
    obtain ⟨_, inner, ho, _⟩ := h
    rcases ho.2 with ⟨hv, _⟩ | ⟨g, cap', cur, hv, _⟩
    · cases hv
    · injection hv with ha _ _
      injection ha with ha
      exact ⟨g, ha⟩
  subst hg
  exact ⟨g, rfl, (Kd.R_celln 0 h 0 (by omega) (by omega)).1, (Kd.R_celln 0 h 1 (by omega) (by omega)).1⟩

set_option maxHeartbeats 8000000 in
set_option maxRecDepth 100000 in
theorem spec_siShortest.calls (k : Nat) (A0_0 : Option Addr) (c0_0 : Nat) (l0_0 : List Int) (A0_1 : Option Addr) (c0_1 : Nat) (l0_1 : List Int) (a1 : Bool) (r : List Int) (w : World) (hr0_0 : Kd.C (Kd.int .i64) w A0_0 l0_0.length l0_0) (hc0_0 : l0_0.length ≤ c0_0) (hr0_1 : Kd.C (Kd.int .i64) w A0_1 l0_1.length l0_1) (hc0_1 : l0_1.length ≤ c0_1) (h : spec_siShortest.f k l0_0 l0_1 a1 = some r) :
    Calls Try.prog 98 #[.agg #[.slice A0_0 l0_0.length c0_0, .slice A0_1 l0_1.length c0_1], .bool a1] w fun e w' => ∃ v0_ : Value, e = .returned (v0_) ∧ Kd.R (Kd.int .i64) 3 w' w.heap.size (fun _ => True) v0_ r ∧ Below w.heap.size w w' := by
  have hu28 := Try.underlying28
  have HR0_0 := Aside0.mk hr0_0
  have HC0_0 := Aside0.mk hc0_0
  clear hr0_0 hc0_0
  have HR0_1 := Aside0.mk hr0_1
  have HC0_1 := Aside0.mk hc0_1
  clear hr0_1 hc0_1
  have HB := Aside0.mk (Below.refl w.heap.size w)
  unfold spec_siShortest.f at h
  replace h := Option.bind_eq_some_iff.mp h
  obtain ⟨rows, A20, H⟩ := h
  have A2 := Aside0.mk A20
  clear A20
  have H' := Aside0.mk H
  clear H
  go_enter Try.func98, Try.ntmps98
  go_wp2_with (first | ((with_reducible refine gate_dst (N := 2) rfl ?_); refine box_event ?hg (N := 2) ?hd (cs := #[.slice A0_0 l0_0.length c0_0, .slice A0_1 l0_1.length c0_1]) (t := 28) ?hr ?_; (case hd => rfl); (case hg => rfl); (case hr => first | (go_simp; done) | (go_simp; rfl)); intro gb101 hg w5 hbox hb; have n0_ := Aside0.mk (below_step HB.out hb); have n1_ := Aside0.mk (hbox); clear HB; have HB := n0_; have BK101 := n1_; clear n0_ n1_; clear hb hbox hg; have hcz6_0 : w5.cell? ⟨gb101, 0, none⟩ = some (.slice A0_0 l0_0.length c0_0) := (blk_cell BK101.out 0).trans rfl; have hcz6_1 : w5.cell? ⟨gb101, 1, none⟩ = some (.slice A0_1 l0_1.length c0_1) := (blk_cell BK101.out 1).trans rfl) | (go_at_call 100; (with_reducible refine (spec_siAll.calls k _ _ l0_0 _ _ l0_1 rows _ ?side1 ?side2 ?side3 ?side4 A2.out).mono ?_); (case side1 => repeat (first | exact (Kd.C_below HR0_0.out HB.out) | (with_reducible refine Kd.C_alloc ?_ _) | (with_reducible refine Kd.C_drewN ?_ _) | (with_reducible refine Kd.C_drew ?_))); (case side2 => exact HC0_0.out); (case side3 => repeat (first | exact (Kd.C_below HR0_1.out HB.out) | (with_reducible refine Kd.C_alloc ?_ _) | (with_reducible refine Kd.C_drewN ?_ _) | (with_reducible refine Kd.C_drew ?_))); (case side4 => exact HC0_1.out); rintro e w7 ⟨v104, rfl, ho, hb⟩; have ho1 := Kd.R_lower (Kd.S_R ho) (below_size HB.out); obtain ⟨A104, c104, rfl⟩ := Kd.R_slice ho1; have HO := Aside0.mk ho1; have n1_ := Aside0.mk (below_step HB.out hb); clear HB; have HB := n1_; clear n1_ ho ho1 hb))
  go_loopg [5, 11] k (fun kq v5 v11 w' => ∃ (x5 : List Int) (i : Int), v11 = .int .i64 i ∧ Aside0 (shGo kq a1 rows x5 i = some r) ∧ Aside0 (kq ≤ k) ∧ Aside0 (Kd.R (Kd.slice 3 (Kd.int .i64)) 22 w' w.heap.size (fun _ => True) (.slice A104 rows.length c104) rows) ∧ Aside0 (Kd.R (Kd.int .i64) 3 w' w.heap.size (fun _ => True) v5 x5) ∧ Aside0 (Below w.heap.size w w') ∧ Aside0 ((x5 = [] ∧ v5 = .slice none 0 0) ∨ (∃ A c, x5.length = 2 ∧ v5 = .slice A 2 c)))
  case atStart => exact ⟨[], 0, rfl, H', ⟨Nat.le_refl _⟩, HO, ⟨Kd.R_nil _ _ _ _ _⟩, HB, ⟨.inl ⟨rfl, rfl⟩⟩⟩
  case round =>
    clear H' HB HO
    obtain ⟨x5, i, rfl, HA, HK1, HO, HX, HB, HV⟩ := hrel
    cases gk with
    | zero => exact absurd HA.out (by simp [shGo])
    | succ k1 =>
      have H := HA.out
      clear HA
      simp only [shGo] at H
      by_cases c1 : i < (rows.length : Int)
      · rw [if_pos c1] at H
        by_cases c2 : 0 ≤ i
        · rw [if_pos c2] at H
          by_cases c3 : (rd_L9 rows i).length = 2
          · rw [if_pos c3] at H
            obtain ⟨ad, A0, c0, e1, hx, hR⟩ := row_own HO.out i c2 c1
            cases e1
            rw [c3] at hx hR
            have HW := Aside0.mk hR
            obtain ⟨ado, eo, hy0, hy1⟩ := two_cells hR
            cases eo
            clear hR
            have d1 : decide (i < (rows.length : Int)) = true := decide_eq_true c1
            have p1 := eq_true c2
            have q1 := eq_true c1
            clear c1 c2
            rcases HV.out with ⟨rfl, rfl⟩ | ⟨Ab, cb, hb2, rfl⟩
            · have ht : shTakes a1 [] (rd_L9 rows i) = true := by simp [shTakes]
              rw [if_pos ht] at H
              have H' := Aside0.mk H
              clear H HV
              go_wp2
              repeat (go_quiet (fail); try go_wp2)
              go_roundg k1
              case measure => have := HK1.out; omega
              case rel => exact ⟨rd_L9 rows i, wrap64 (i + 1), rfl, H', ⟨by have := HK1.out; omega⟩, ⟨by (with_reducible repeat (first | apply Kd.R_alloc | apply Kd.R_drewN | apply Kd.R_drew)); exact HO.out⟩, ⟨by (with_reducible repeat (first | apply Kd.R_alloc | apply Kd.R_drewN | apply Kd.R_drew)); exact HW.out⟩, ⟨by (repeat (first | (with_reducible first | exact HB.out | apply below_alloc | apply pw_below_drewN | apply below_drew1) | exact HB.out))⟩, ⟨.inr ⟨_, _, c3, rfl⟩⟩⟩
            · obtain ⟨adb, eb, hz0, hz1⟩ := two_cells HX.out
              cases eb
              have hb0 : decide (x5.length = 0) = false := by rw [hb2]; rfl
              generalize hD : decide (wrap64 (rd (rd_L9 rows i) 1 - rd (rd_L9 rows i) 0) < wrap64 (rd x5 1 - rd x5 0)) = D at H
              generalize hE : (wrap64 (rd (rd_L9 rows i) 1 - rd (rd_L9 rows i) 0) == wrap64 (rd x5 1 - rd x5 0)) = E at H
              have hT : shTakes a1 x5 (rd_L9 rows i) = (D || (a1 && E)) := by unfold shTakes; rw [hb0, hD, hE]; rfl
              rw [hT] at H
              cases D <;> cases a1 <;> cases E
              all_goals
                first | rw [if_pos (by decide)] at H | rw [if_neg (by decide)] at H
                have H' := Aside0.mk H
                clear H HV
                go_wp2
                repeat (go_quiet (fail); try go_wp2)
                go_roundg k1
                case measure => have := HK1.out; omega
                case rel => first | (exact ⟨rd_L9 rows i, wrap64 (i + 1), rfl, H', ⟨by have := HK1.out; omega⟩, ⟨by (with_reducible repeat (first | apply Kd.R_alloc | apply Kd.R_drewN | apply Kd.R_drew)); exact HO.out⟩, ⟨by (with_reducible repeat (first | apply Kd.R_alloc | apply Kd.R_drewN | apply Kd.R_drew)); exact HW.out⟩, ⟨by (repeat (first | (with_reducible first | exact HB.out | apply below_alloc | apply pw_below_drewN | apply below_drew1) | exact HB.out))⟩, ⟨.inr ⟨_, _, c3, rfl⟩⟩⟩) | (exact ⟨x5, wrap64 (i + 1), rfl, H', ⟨by have := HK1.out; omega⟩, ⟨by (with_reducible repeat (first | apply Kd.R_alloc | apply Kd.R_drewN | apply Kd.R_drew)); exact HO.out⟩, ⟨by (with_reducible repeat (first | apply Kd.R_alloc | apply Kd.R_drewN | apply Kd.R_drew)); exact HX.out⟩, ⟨by (repeat (first | (with_reducible first | exact HB.out | apply below_alloc | apply pw_below_drewN | apply below_drew1) | exact HB.out))⟩, ⟨.inr ⟨_, _, hb2, rfl⟩⟩⟩)
          · rw [if_neg c3] at H; exact absurd H (by simp)
        · rw [if_neg c2] at H; exact absurd H (by simp)
      · rw [if_neg c1] at H
        have d1 : decide (i < (rows.length : Int)) = false := decide_eq_false c1
        obtain rfl := Option.some.inj H
        clear H c1
        go_wp2
        go_ret
        exact ⟨_, rfl, HX.out, HB.out⟩

end Go.Proofs.Ytbckijeffiofdaa.P
