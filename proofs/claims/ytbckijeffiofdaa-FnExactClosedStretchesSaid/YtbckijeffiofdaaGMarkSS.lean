/- laws.markIntSS: each row of a row of rows is marked: each element lent, written, put back. -/
import Derived.Test.YtbckijeffiofdaaF61
import Derived.WalkSpells
namespace Go.Proofs.Ytbckijeffiofdaa.P
open Go.RowKit Go.Proofs.YtbckijeffiofdaaW.PrintWords Go.Proofs.YtbckijeffiofdaaW.PrintLast Go.Proofs.YtbckijeffiofdaaW.PrintMore
set_option linter.unusedVariables false
set_option linter.unusedSimpArgs false

def laws_markIntSS.l0 : Nat → List (List Int) → Int → Int → Option (Int × List (List Int))
  | 0, _, _, _ => none
  | k + 1, x, m, i => if i < (x.length : Int) then (if 0 ≤ i then ((laws_markIntS.f k (rd_L9 x i) m).bind fun b => laws_markIntSS.l0 k (x.set i.toNat b.2) b.1 (wrap64 (i + 1))) else none) else some (m, x)
def laws_markIntSS.f (k : Nat) (l0 : List (List Int)) (a1 : Int) : Option (Int × List (List Int)) := laws_markIntSS.l0 k l0 a1 0
theorem laws_markIntSS.mono_l : ∀ k x m i, LeO (laws_markIntSS.l0 k x m i) (laws_markIntSS.l0 (k + 1) x m i)
  | 0, _, _, _ => fun r h => by simp [laws_markIntSS.l0] at h
  | k + 1, x, m, i => by
    have ih := laws_markIntSS.mono_l k
    unfold laws_markIntSS.l0
    exact LeO.ite (LeO.ite (LeO.bind (laws_markIntS.mono _ _ _) (fun _ => ih _ _ _)) (LeO.refl _)) (LeO.refl _)
theorem laws_markIntSS.mono : ∀ a0 a1 k, LeO (laws_markIntSS.f k a0 a1) (laws_markIntSS.f (k + 1) a0 a1) := fun _ _ k => laws_markIntSS.mono_l k _ _ _

set_option maxHeartbeats 4000000 in
set_option maxRecDepth 100000 in
theorem laws_markIntSS.calls (k : Nat) (P0_ : Nat → Prop) (u9000_ : Value) (l0 : List (List Int)) (a1 : Int) (r1 : Int) (r2 : List (List Int)) (w0 w : World) (hB : Below w0.heap.size w0 w) (ho0 : Kd.S (Kd.slice 3 (Kd.int .i64)) 22 w w0.heap.size P0_ u9000_ l0) (h : laws_markIntSS.f k l0 a1 = some (r1, r2)) :
    Calls Try.prog 34 #[u9000_, .int .i64 a1] w fun e w' => e = .returned (.int .i64 r1) ∧ Kd.S (Kd.slice 3 (Kd.int .i64)) 22 w' w0.heap.size P0_ u9000_ r2 ∧ Below w0.heap.size w0 w' ∧ Kept w w' P0_ := by
  obtain ⟨A, c, rfl⟩ := Kd.S_slice ho0
  have HS := Aside0.mk ho0
  have HB := Aside0.mk hB
  have HK := Aside0.mk (Kept.refl w P0_)
  have H' : Aside0 (laws_markIntSS.l0 k l0 a1 0 = some (r1, r2)) := Aside0.mk h
  clear ho0 hB h
  go_enter Try.func34, Try.ntmps34
  go_wp2
  go_loopg [1, 5] k (fun kq v1 v5 w' => ∃ (x : List (List Int)) (m i : Int), v1 = .int .i64 m ∧ v5 = .int .i64 i ∧ Aside0 (laws_markIntSS.l0 kq x m i = some (r1, r2)) ∧ Aside0 (kq ≤ k) ∧ Aside0 (Kd.S (Kd.slice 3 (Kd.int .i64)) 22 w' w0.heap.size P0_ (.slice A l0.length c) x) ∧ Aside0 (Below w0.heap.size w0 w') ∧ Aside0 (Kept w w' P0_))
  case atStart => exact ⟨_, _, 0, rfl, rfl, H', ⟨Nat.le_refl _⟩, HS, HB, HK⟩
  case round =>
    clear H' HS HB HK
    obtain ⟨x, m, i, rfl, rfl, HA, HK1, HS, HB, HK⟩ := hrel
    cases gk with
    | zero => exact absurd HA.out (by simp [laws_markIntSS.l0])
    | succ k1 =>
      have H := HA.out
      clear HA
      simp only [laws_markIntSS.l0] at H
      have hl := (Kd.S_reads' HS.out).1
      by_cases c1 : i < (x.length : Int)
      · rw [if_pos c1] at H
        by_cases c2 : 0 ≤ i
        · rw [if_pos c2] at H
          obtain ⟨b, A30, H⟩ := Option.bind_eq_some_iff.mp H
          obtain ⟨b1, b2⟩ := b
          have A3 := Aside0.mk A30
          have H' := Aside0.mk H
          clear A30 H
          obtain ⟨g, cap, e1, _, _, _⟩ := Kd.S_form HS.out (by omega)
          injection e1 with ea en ec
          subst ea
          clear en ec
          obtain ⟨oki, cs, hcl, hM, hcc, hoki, hH⟩ := Kd.S_lend HS.out ([] : List Int) i c2 (by omega)
          obtain ⟨rv, rfl, hR⟩ := hM
          obtain ⟨A0, c0, rfl⟩ := Kd.R_slice hR
          have hx : wr.cell? ⟨g, i.toNat, none⟩ = some (.slice A0 (x.getD i.toNat []).length c0) := by
            have hq := hcc 0 _ rfl
            have e2 : i.toNat * (Kd.slice 3 (Kd.int .i64)).sz + 0 = i.toNat := by show i.toNat * 1 + 0 = _; omega
            rwa [e2] at hq
          have HR := Aside0.mk hR
          have HH := Aside0.mk hH
          have HO := Aside0.mk hoki
          have d1 : decide (i < (l0.length : Int)) = true := decide_eq_true (by omega)
          have p1 := eq_true c2
          have q1 : (i < (l0.length : Int)) = True := eq_true (by omega)
          clear c1 c2 hH hR hcc hcl hoki hl HS
          go_wp2_with (first | (go_at_call 61; refine (laws_markIntS.calls k1 oki _ _ m b1 b2 w0 _ HB.out HR.out A3.out).mono ?_; rintro e w' ⟨rfl, hy, hb, hk⟩; have n1_ := Aside0.mk hb; have n2_ := Aside0.mk (Kd.H_back (x' := b2) (Kd.H_step HH.out (fun k_ _ hn hlt => hk.2 k_ hlt hn)) (okp := oki) ⟨_, rfl, Kd.R_reok rfl hy (fun k_ e_ => HR.out.1 k_ e_)⟩ (fun _ h_ => h_)); have n3_ := Aside0.mk (Kept.then_ HK.out (Kept.mono hk (fun k_ h_ => (HO.out k_ h_).1)) (fun k_ h_ => .inl h_)); clear HB HK HH HR; have HB := n1_; have HS := n2_; have HK := n3_; clear n1_ n2_ n3_ hb hk hy))
          go_roundg k1
          case measure => have := HK1.out; omega
          case rel => exact ⟨_, _, wrap64 (i + 1), rfl, rfl, H', ⟨by have := HK1.out; omega⟩, HS, HB, HK⟩
        · rw [if_neg c2] at H; exact absurd H (by simp)
      · rw [if_neg c1] at H
        have d1 : decide (i < (l0.length : Int)) = false := decide_eq_false (by omega)
        simp only [Option.some.injEq, Prod.mk.injEq] at H
        obtain ⟨rfl, rfl⟩ := H
        clear c1 hl
        go_wp2
        go_ret
        exact ⟨rfl, HS.out, HB.out, HK.out⟩

end Go.Proofs.Ytbckijeffiofdaa.P
