/- impl.without under a function value: what its text does, for every closure whose calls tell g and change nothing. -/
import Derived.Test.YtbckijeffiofdaaP0
import Derived.WalkSpells
namespace Go.Proofs.Ytbckijeffiofdaa.P
open Go.RowKit Go.Proofs.YtbckijeffiofdaaW.PrintWords Go.Proofs.YtbckijeffiofdaaW.PrintLast Go.Proofs.YtbckijeffiofdaaW.PrintMore
set_option linter.unusedVariables false
set_option linter.unusedSimpArgs false

mutual
def impl_without.l0 : Nat → List Int → (Int → Bool) → List Int → Int → Int → Option (List Int)
  | 0, _, _, _, _, _ => none
  | k + 1, p, g, x, m, i => if i < (p.length : Int) then (if 0 ≤ i then (if i < (x.length : Int) then impl_without.l0 k p g (x.set i.toNat m) (if g i = true then m else wrap64 (m + 1)) (wrap64 (i + 1)) else none) else none) else impl_without.l1 k p g x [] 0
def impl_without.l1 : Nat → List Int → (Int → Bool) → List Int → List Int → Int → Option (List Int)
  | 0, _, _, _, _, _ => none
  | k + 1, p, g, x, out, i => if i < (p.length : Int) then (if 0 ≤ i then (if g i = true then impl_without.l1 k p g x out (wrap64 (i + 1)) else (if 0 ≤ rd p i then (if rd p i < (x.length : Int) then (if out.length < 1000000 then impl_without.l1 k p g x (out ++ [rd x (rd p i)]) (wrap64 (i + 1)) else none) else none) else none)) else none) else some out
end
def impl_without.f (k : Nat) (p : List Int) (g : Int → Bool) : Option (List Int) := if p.length ≤ 1000000 then impl_without.l0 k p g (List.replicate p.length 0) 0 0 else none
theorem impl_without.mono_l : ∀ k, (∀ p g x m i, LeO (impl_without.l0 k p g x m i) (impl_without.l0 (k + 1) p g x m i)) ∧ (∀ p g x out i, LeO (impl_without.l1 k p g x out i) (impl_without.l1 (k + 1) p g x out i))
  | 0 => ⟨fun _ _ _ _ _ r h => by simp [impl_without.l0] at h, fun _ _ _ _ _ r h => by simp [impl_without.l1] at h⟩
  | k + 1 => by
    obtain ⟨h0, h1⟩ := impl_without.mono_l k
    refine ⟨fun p g x m i => ?_, fun p g x out i => ?_⟩
    · unfold impl_without.l0
      repeat' first | exact h0 _ _ _ _ _ | exact h1 _ _ _ _ _ | exact LeO.none _ | refine LeO.ite ?_ ?_
    · unfold impl_without.l1
      repeat' first | exact h1 _ _ _ _ _ | exact LeO.refl _ | exact LeO.none _ | refine LeO.ite ?_ ?_
theorem impl_without.mono : ∀ p g k, LeO (impl_without.f k p g) (impl_without.f (k + 1) p g) := by
  intro p g k
  unfold impl_without.f
  exact LeO.ite ((impl_without.mono_l k).1 _ _ _ _ _) (LeO.none _)

set_option maxHeartbeats 2000000 in
set_option maxRecDepth 100000 in
theorem impl_without.any (g : Int → Bool) (pv : Value) (k : Nat) (A0 : Option Addr) (c0 : Nat) (l0 : List Int) (r : List Int) (w : World) (hr0 : Kd.C (Kd.int .i64) w A0 l0.length l0) (hc0 : l0.length ≤ c0)
    (hcl : ∀ (W : World) (x : Int), Below w.heap.size w W → Calls Try.prog 163 #[.int .i64 x, pv] W fun e W' => e = .returned (.bool (g x)) ∧ Drawn0 W W') (h : impl_without.f k l0 g = some r) :
    Calls Try.prog 164 #[.slice A0 l0.length c0, .func (.func 163) #[] #[pv]] w fun e w' => ∃ v0_ : Value, e = .returned (v0_) ∧ Kd.R (Kd.int .i64) 3 w' w.heap.size (fun _ => True) v0_ r ∧ Below w.heap.size w w' := by
  unfold impl_without.f at h
  by_cases hs : l0.length ≤ 1000000
  · rw [if_pos hs] at h
    have HCL := Aside0.mk hcl
    have HR0 := Aside0.mk hr0
    have HC0 := Aside0.mk hc0
    have HS := Aside0.mk hs
    have H' := Aside0.mk h
    clear hr0 hc0 h hcl
    have HB := Aside0.mk (Below.refl w.heap.size w)
    go_enter Try.func164, Try.ntmps164
    go_wp2_with (first | ((with_reducible refine gate_dst (N := 13) rfl ?_); refine Kd.R_make (Kd.int .i64) _ 3 rfl (N := 13) rfl 22 _ _ rfl (l0.length : Int) rfl rfl Try.underlying22 (.int .i64 0) 8 info3 rfl (by decide) (by omega) 0 (ok := fun _ => True) (okp := fun _ => False) rfl (fun _ hk => hk.elim) trivial (by omega) (by have := HS.out; rw [Int.toNat_natCast]; omega) (Below.refl _ _) (Nat.le_refl _) ?_; intro v102 w4 ho5 hb hg_ hnew_; clear hg_ hnew_; rw [Int.toNat_natCast] at ho5; have n0_ := Aside0.mk (Kd.R_lower ho5 (below_size HB.out)); have n1_ := Aside0.mk (below_step HB.out hb); clear HB; have HO103 := n0_; have HB := n1_; clear n0_ n1_; clear hb ho5))
    go_loopg [6, 16] k (fun kq v6 v16 w' => ∃ (x : List Int) (m i : Int), v6 = .int .i64 m ∧ v16 = .int .i64 i ∧ Aside0 (impl_without.l0 kq l0 g x m i = some r) ∧ Aside0 (kq ≤ k) ∧ Aside0 (Kd.R (Kd.int .i64) 3 w' w.heap.size (fun _ => True) v102 x) ∧ Aside0 (Below w.heap.size w w'))
    case atStart => exact ⟨_, 0, 0, rfl, rfl, H', ⟨Nat.le_refl _⟩, ⟨HO103.out⟩, HB⟩
    case round =>
      clear H' HB HO103
      obtain ⟨x, m, i, rfl, rfl, HA, HK1, HO, HB⟩ := hrel
      cases gk with
      | zero => exact absurd HA.out (by simp [impl_without.l0])
      | succ k1 =>
        have H := HA.out
        clear HA
        simp only [impl_without.l0] at H
        by_cases c1 : i < (l0.length : Int)
        · rw [if_pos c1] at H
          by_cases c2' : 0 ≤ i
          · rw [if_pos c2'] at H
            by_cases c3 : i < (x.length : Int)
            · rw [if_pos c3] at H
              obtain ⟨go9, co9, eo9, gb9, gl9, cl9, HG9⟩ := Kd.R_form HO.out (by omega)
              (first | cases eo9 | (injection eo9 with ea_ en_ ec_; (first | subst ea_ | (injection ea_ with ea_; subst ea_)); subst ec_; clear en_))
              have GB9 := Aside0.mk gb9
              clear gb9 gl9 HG9
              obtain ⟨hx9_0, hf9_0⟩ := Kd.R_celln 0 HO.out i c2' c3
              have HP10 := Kd.R_putg HO.out i m
              have d1 : decide (i < (l0.length : Int)) = true := decide_eq_true c1
              have p1 := eq_true c2'
              have q1 := eq_true c1
              have q3 := eq_true c3
              clear c1 c2' c3
              cases hgi : g i
              all_goals
                first | rw [hgi, if_neg (by decide)] at H | rw [hgi, if_pos rfl] at H
                have H' := Aside0.mk H
                clear H
                go_wp2_with (first | (go_at_call 163; refine (HCL.out _ i HB.out).mono ?_; rw [hgi]; rintro e w' ⟨rfl, ⟨nd, rfl⟩⟩) | ((with_reducible refine gate_store (t := 3) (p := 22) rfl ?_); refine store_event (t := 3) (p := 22) (v := ?vo_w11) (w1 := (wr.setCell ⟨go9, i.toNat, none⟩ (.int .i64 m))) ?hg ?ho ?hn ?hr ?_; (case ho => rfl); (case hg => rfl); (case hn => rfl); (case hr => first | (go_simp; done) | (go_simp; rfl)); intro w11 hw; have n0_ := Aside0.mk (by rw [hw]; exact HP10.1 : Kd.R (Kd.int .i64) 3 w11 w.heap.size (fun _ => True) (.slice (some ⟨go9, 0, none⟩) x.length co9) (x.set i.toNat m)); have n1_ := Aside0.mk ((by rw [hw]; exact below_set (HB.out) GB9.out : Below w.heap.size w w11)); clear HP10 HO HB; have HO := n0_; have HB := n1_; clear n0_ n1_; clear hw))
                go_roundg k1
                case measure => have := HK1.out; omega
                case rel => exact ⟨_, _, wrap64 (i + 1), rfl, rfl, H', ⟨by have := HK1.out; omega⟩, ⟨by (with_reducible repeat (first | apply Kd.R_alloc | apply Kd.R_drewN | apply Kd.R_drew)); exact HO.out⟩, ⟨by repeat (first | (with_reducible first | exact HB.out | apply below_alloc | apply pw_below_drewN | apply below_drew1) | exact HB.out)⟩⟩
            · rw [if_neg c3] at H; exact absurd H (by simp)
          · rw [if_neg c2'] at H; exact absurd H (by simp)
        · rw [if_neg c1] at H
          have d1 : decide (i < (l0.length : Int)) = false := decide_eq_false c1
          have H' := Aside0.mk H
          clear H c1
          obtain ⟨W1, eW⟩ : ∃ W1 : World, W1 = wr := ⟨wr, rfl⟩
          have HB1 : Aside0 (Below w.heap.size w W1) := by rw [eW]; exact HB
          have HP : Aside0 (∃ A c, v102 = .slice A x.length c ∧ Kd.C (Kd.int .i64) W1 A x.length x) := by
            obtain ⟨A, c, e, _, hC⟩ := Kd.R_reads HO.out
            exact ⟨⟨A, c, e, by rw [eW]; exact hC⟩⟩
          clear HO HB
          have HB := HB1
          clear HB1
          obtain ⟨Ax, cx, ex, hCx⟩ := HP.out
          subst ex
          have HCX := Aside0.mk hCx
          clear hCx HP
          have EW := Aside0.mk eW
          clear eW
          go_wp2_with (first | ((with_reducible refine gate_dst (N := 30) rfl ?_); refine Kd.R_lit (Kd.int .i64) _ 3 ?hg (N := 30) ?hd (xs := ([] : List Int)) (inner := []) (ok := fun _ => True) (okp := fun _ => True) ?hr ?hp (fun _ hk => hk) trivial (Below.refl _ _) (Nat.le_refl _) (by simp) ?_; (case hd => rfl); (case hg => rfl); (case hr => first | (go_simp; done) | (go_simp; rfl)); (case hp => exact (Reps.none _ _)); intro v103 w3 ho4 hb hg_ hnew_; clear hg_ hnew_; rw [← EW.out] at ho4 hb; have HO4 := Aside0.mk ho4; have HB4 := Aside0.mk hb; clear ho4 hb))
          go_loopg [8, 33] k1 (fun kq v8 v33 w' => ∃ (x8 : List Int) (i : Int), v33 = .int .i64 i ∧ Aside0 (impl_without.l1 kq l0 g x x8 i = some r) ∧ Aside0 (kq ≤ k1) ∧ Aside0 (Kd.R (Kd.int .i64) 3 w' W1.heap.size (fun _ => True) v8 x8) ∧ Aside0 (Below W1.heap.size W1 w'))
          case atStart => exact ⟨[], 0, rfl, H', ⟨Nat.le_refl _⟩, HO4, HB4⟩
          case round =>
            clear H' HO4 HB4 EW d1 HK1
            obtain ⟨x8, i, rfl, HA, HK2, HX, HB2⟩ := hrel
            cases gk with
            | zero => exact absurd HA.out (by simp [impl_without.l1])
            | succ k2 =>
              have H := HA.out
              clear HA
              simp only [impl_without.l1] at H
              by_cases c1 : i < (l0.length : Int)
              · rw [if_pos c1] at H
                by_cases c2' : 0 ≤ i
                · rw [if_pos c2'] at H
                  obtain ⟨ad104, e104, hx104_0⟩ := Kd.at_int HR0.out i c2' c1
                  cases e104
                  replace hx104_0 := ((below_step HB.out HB2.out).cell (World.block_lt_of_cell? w _ hx104_0)).trans hx104_0
                  have d1 : decide (i < (l0.length : Int)) = true := decide_eq_true c1
                  have p1 := eq_true c2'
                  have q1 := eq_true c1
                  clear c1 c2'
                  cases hgi : g i with
                  | true =>
                    rw [hgi, if_pos rfl] at H
                    have H' := Aside0.mk H
                    clear H
                    go_wp2_with (first | (go_at_call 163; refine (HCL.out _ i (below_step HB.out HB2.out)).mono ?_; rw [hgi]; rintro e w' ⟨rfl, ⟨nd, rfl⟩⟩))
                    go_roundg k2
                    case measure => have := HK2.out; omega
                    case rel => exact ⟨_, wrap64 (i + 1), rfl, H', ⟨by have := HK2.out; omega⟩, ⟨by (with_reducible repeat (first | apply Kd.R_alloc | apply Kd.R_drewN | apply Kd.R_drew)); exact HX.out⟩, ⟨by repeat (first | (with_reducible first | exact HB2.out | apply below_alloc | apply pw_below_drewN | apply below_drew1) | exact HB2.out)⟩⟩
                  | false =>
                    rw [hgi, if_neg (by decide)] at H
                    by_cases c3 : 0 ≤ rd l0 i
                    · rw [if_pos c3] at H
                      by_cases c4 : rd l0 i < (x.length : Int)
                      · rw [if_pos c4] at H
                        by_cases c5 : x8.length < 1000000
                        · rw [if_pos c5] at H
                          have H' := Aside0.mk H
                          clear H
                          have LM := Aside0.mk c5
                          clear c5
                          obtain ⟨ad105, e105, hx105_0⟩ := Kd.at_int HCX.out (rd l0 i) c3 c4
                          cases e105
                          replace hx105_0 := (HB2.out.cell (World.block_lt_of_cell? W1 _ hx105_0)).trans hx105_0
                          have p2 := eq_true c3
                          have q2 := eq_true c4
                          clear c3 c4
                          go_wp2_with (first | (go_at_call 163; refine (HCL.out _ i (below_step HB.out HB2.out)).mono ?_; rw [hgi]; rintro e w' ⟨rfl, ⟨nd, rfl⟩⟩) | ((with_reducible refine gate_builtin (b := .append) (xs := #[.tmp 42, .tmp 47]) rfl ?_); at_builtin; refine Kd.R_append (Kd.int .i64) (w0 := W1) W1.heap.size rfl (.tmp 42) (.tmp 47) 22 3 (.int .i64 0) 8 rfl Try.underlying22 info3 rfl (by decide) (by omega) _ x8 (rd x (rd l0 i)) [.int .i64 (rd x (rd l0 i))] (fun _ => True) (fun _ => False) rfl rfl ?aP (fun _ hk => hk.elim) ?aF ?aO ?aB ?aS ?aL ?_; (case aP => exact rfl); (case aB => exact (by repeat (first | (with_reducible first | exact HB2.out | apply below_alloc | apply pw_below_drewN | apply below_drew1) | exact HB2.out))); (case aF => exact (fun _ _ => trivial)); (case aO => exact (by (with_reducible repeat (first | apply Kd.R_alloc | apply Kd.R_drewN | apply Kd.R_drew)); exact HX.out)); (case aS => exact (below_size (by repeat (first | (with_reducible first | exact HB2.out | apply below_alloc | apply pw_below_drewN | apply below_drew1) | exact HB2.out)))); (case aL => have := LM.out; omega); intro v103 w11 ho hb hg hat; have n0_ := Aside0.mk (hb); have n1_ := Aside0.mk (ho); clear HB2 HX; have HB2 := n0_; have HX := n1_; clear n0_ n1_; clear ho hb hg hat))
                          go_roundg k2
                          case measure => have := HK2.out; omega
                          case rel => exact ⟨_, wrap64 (i + 1), rfl, H', ⟨by have := HK2.out; omega⟩, ⟨by (with_reducible repeat (first | apply Kd.R_alloc | apply Kd.R_drewN | apply Kd.R_drew)); exact HX.out⟩, ⟨by repeat (first | (with_reducible first | exact HB2.out | apply below_alloc | apply pw_below_drewN | apply below_drew1) | exact HB2.out)⟩⟩
                        · rw [if_neg c5] at H; exact absurd H (by simp)
                      · rw [if_neg c4] at H; exact absurd H (by simp)
                    · rw [if_neg c3] at H; exact absurd H (by simp)
                · rw [if_neg c2'] at H; exact absurd H (by simp)
              · rw [if_neg c1] at H
                have d1 : decide (i < (l0.length : Int)) = false := decide_eq_false c1
                obtain rfl := Option.some.inj H
                clear H c1
                go_wp2
                go_ret
                exact ⟨_, rfl, Kd.R_lower HX.out (below_size HB.out), below_step HB.out HB2.out⟩
  · rw [if_neg hs] at h
    cases h

end Go.Proofs.Ytbckijeffiofdaa.P
