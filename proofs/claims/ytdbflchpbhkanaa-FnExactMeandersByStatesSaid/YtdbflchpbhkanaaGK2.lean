/- impl.IsState: each part twice, by a map over which a round goes in whatever order. No condition. -/
import Derived.Test.YtdbflchpbhkanaaG1
import Derived.Test.YtdbflchpbhkanaaG2
import Derived.Test.YtdbflchpbhkanaaG3
import Derived.Test.YtdbflchpbhkanaaG4
import Derived.Test.YtdbflchpbhkanaaG5
import Derived.Test.YtdbflchpbhkanaaG6
import Derived.Test.YtdbflchpbhkanaaGK1
import Derived.Test.YtdbflchpbhkanaaAL54
namespace Go.Proofs.Ytdbflchpbhkanaa.AL
open Go Go.RowKit
set_option linter.unusedVariables false
set_option linter.unusedSimpArgs false
set_option maxRecDepth 4096
attribute [local simp] n_fn b_add b_sub b_mul b_lt b_le b_gt b_ge b_eq b_ne u_not
theorem kelLL : elemT Try.prog 69 = some 25 := by kernel_rfl
theorem keiL : einfo Try.prog 25 = some ⟨1, 24, .slice none 0 0⟩ := by kernel_rfl
/-- How often each number stands in a list. -/
def cnt_L : Nat → List Int → Int → List (Int × Int) → Option (List (Int × Int))
  | 0, _, _, _ => none
  | n + 1, xs, i, m =>
    bif ilt i (llen xs) then
      gd (inL xs i) (cnt_L n xs (iadd .i64 i 1) (mputI (gat 0 xs i) (iadd .i64 ((mgetI (gat 0 xs i) m).getD 0) 1) m))
    else
      some m
def F_impl_IsState (fu : Nat) (x0 x1 : List Int) (x2 : Int) : Option Bool :=
  bd (bif ilt 6 (llen x0) then some true else bif ilt 6 (llen x1) then some true else bd (F_impl_isArches fu x2) fun r => some (bnot r)) fun s =>
  bif s then
    some false
  else
    bd (F_slices_Clone_Sint fu x1) fun d =>
    bd (F_slices_Reverse_Sint fu d) fun d' =>
    bd (F_slices_Concat_Sint fu [x0, d']) fun rd =>
    bd (cnt_L fu rd 0 []) fun m =>
    bif m.all fun e => ieq e.2 2 then
      bd (F_impl_renumbered fu x0 x1 x2) fun n =>
      bd (F_impl_State_same fu n.1 n.2.1 n.2.2 x0 x1 x2) fun e =>
      bif e then
        bd (F_impl_crosses fu rd) fun c => some (bnot c)
      else
        some false
    else
      some false
theorem mem_seen {m : List (Int × Int)} {seen : List Nat} (h : ∀ s ∈ seen, ∀ e, m[s]? = some e → e.2 = 2) (ha : ∀ s, s < (encI m).length → s ∈ seen) : m.all (fun e => ieq e.2 2) = true := by
  rw [List.all_eq_true]
  intro e he
  obtain ⟨s, hs⟩ := List.getElem?_of_mem he
  have hlt := (List.getElem?_eq_some_iff.1 hs).1
  rw [ieq_eq, h s (ha s (by simpa [encI] using hlt)) e hs]
  rfl
theorem not_all {m : List (Int × Int)} {s : Nat} {e : Int × Int} (h : m[s]? = some e) (hn : ieq e.2 2 = false) : m.all (fun e => ieq e.2 2) = false := by
  rw [← Bool.not_eq_true, List.all_eq_true]
  intro ha
  rw [ha e (List.mem_of_getElem? h)] at hn
  cases hn
theorem F_impl_IsState_w {fu : Nat} {H : AH} {v0_0 v0_1 : Value} {x0_0 x0_1 : List Int} {x0_2 : Int} {r : Bool} (hx0_0 : Sl H v0_0 (ints x0_0)) (hx0_1 : Sl H v0_1 (ints x0_1)) (hF : F_impl_IsState fu x0_0 x0_1 x0_2 = some r) :
    ACallT Try.prog 30 [(Value.agg #[v0_0, v0_1, (Value.int .i64 x0_2)])] H (fun u G => AgB (Fr H) H G ∧ u = (Value.bool r) ∧ Sep G (Fr H) []) := by
  have key : ACall Try.prog 30 [(Value.agg #[v0_0, v0_1, (Value.int .i64 x0_2)])] H (packed [.bool r]) H := by
    refine ACall.plain (nt := 65) (rs := [.tmp 2]) Try.func30 rfl rfl rfl rfl (by intro v hv; simp at hv; subst hv; rfl) fun _ => ?_
    have fin : ∀ {G : AH}, AgB (Fr H) H G → ∃ ext, G = H ++ ext := fun a => by
      obtain ⟨t, h⟩ := a.pre
      exact ⟨t, h.symm⟩
    have A0 : AgB (Fr H) H H := .refl _ _
    have S0 : Sep H (Fr H) [] := .nil
    have hB := Fr.up H
    unfold F_impl_IsState at hF
    obtain ⟨G1, p1, q1, q2, a1, S1⟩ := S0.boxT (hB.le A0.1) 34 [v0_0, v0_1, (Value.int .i64 x0_2)]
    have A1 := A0.ext (hB.le A0.1) a1
    replace S1 : Sep G1 (Fr H) [AL.box p1 [v0_0, v0_1, (Value.int .i64 x0_2)]] := S1
    refine AWp.sr fun K hK => ?_
    simp [q1, q2, a1.to_pre, cells_agg]
    apply hK
    clear hK K
    obtain ⟨s, hs, hF⟩ := bd_some hF
    have f0 := S1.fieldT (P := Try.prog) (k := 0) rfl kfS0
    have f1 := S1.fieldT (P := Try.prog) (k := 0) rfl kfS1
    have f2 := S1.fieldT (P := Try.prog) (k := 0) rfl kfS2
    have l0 := S1.loadF (P := Try.prog) (k := 0) rfl kszL kagL (off := 0) rfl
    have l1 := S1.loadF (P := Try.prog) (k := 0) rfl kszL kagL (off := 1) rfl
    have l2 := S1.loadF (P := Try.prog) (k := 0) rfl kszI kagI (off := 2) rfl
    have n0 := lenG (P := Try.prog) (hx0_0.agree A1.agree) kelL
    have n1 := lenG (P := Try.prog) (hx0_1.agree A1.agree) kelL
    refine .seq ?_
    refine AWp.seqD (DWp.mono (Q := fun x env' G => x = .normal ∧ Sep G (Fr H) [AL.box p1 [v0_0, v0_1, (Value.int .i64 x0_2)]] ∧ AgB (Fr H) H G ∧ env' 1 = some p1 ∧ env' 25 = some (Value.bool s)) ?_ ?_)
    · rcases Bool.eq_false_or_eq_true (ilt 6 (llen x0_0)) with h1 | h1
      · replace hs := cd_t h1 hs
        obtain rfl := Option.some.inj hs
        refine .region fun K hK => ?_
        simp [f0, l0, n0, h1, undef]
        apply hK
        exact ⟨rfl, S1, A1, by simp, by simp⟩
      · replace hs := cd_f h1 hs
        rcases Bool.eq_false_or_eq_true (ilt 6 (llen x0_1)) with h2 | h2
        · replace hs := cd_t h2 hs
          obtain rfl := Option.some.inj hs
          refine .region fun K hK => ?_
          simp [f0, l0, n0, f1, l1, n1, h1, h2, undef]
          apply hK
          exact ⟨rfl, S1, A1, by simp, by simp⟩
        · replace hs := cd_f h2 hs
          obtain ⟨c, hc, hs⟩ := bd_some hs
          obtain rfl := Option.some.inj hs
          refine .region fun K hK => ?_
          simp [f0, l0, n0, f1, l1, n1, f2, l2, h1, h2]
          refine CallD.t (F_impl_isArches_w (fu := fu) hc) ?_
          rintro u G ⟨a2, rfl, _⟩
          have a2' := A1.ext (hB.le A1.1) a2.agree
          simp [a2.pre]
          apply hK
          exact ⟨rfl, S1.agree a2.agree, a2', by simp, by simp⟩
    · rintro x env G ⟨rfl, S2, A2, E⟩
      clear f0 f1 f2 l0 l1 l2 n0 n1 S1 A1 q1 q2 a1 hs
      simp only [andThen]
      refine AWp.cond' (t := s) (by simp [E]) (fun hb => ?_) (fun hb => ?_)
      · replace hF := cd_t hb hF
        obtain rfl := Option.some.inj hF
        refine AWp.sr fun K hK => ?_
        simp []
        apply hK
        clear hK K
        refine .ret ?_
        simp only [andThen]
        exact ⟨by simp, fin A2, by simp⟩
      · replace hF := cd_f hb hF
        obtain ⟨d, hd, hF⟩ := bd_some hF
        obtain ⟨d', hd', hF⟩ := bd_some hF
        obtain ⟨rd, hrd, hF⟩ := bd_some hF
        obtain ⟨m, hm, hF⟩ := bd_some hF
        refine .skip ?_
        simp only [andThen]
        have f0 := S2.fieldT (P := Try.prog) (k := 0) rfl kfS0
        have f1 := S2.fieldT (P := Try.prog) (k := 0) rfl kfS1
        have l0 := S2.loadF (P := Try.prog) (k := 0) rfl kszL kagL (off := 0) rfl
        have l1 := S2.loadF (P := Try.prog) (k := 0) rfl kszL kagL (off := 1) rfl
        refine AWp.sr fun K hK => ?_
        simp [E, f1, l1, (hx0_1.agree A2.agree).tup]
        refine CallD.t (F_slices_Clone_Sint_w (fu := fu) (hx0_1.agree A2.agree) hd) ?_
        rintro vd G3 ⟨a3, _, rfl, S3⟩
        have A3 := A2.ext (hB.le A2.1) a3.agree
        have S3' : Sep G3 (Fr H) [AL.box p1 [v0_0, v0_1, (Value.int .i64 x0_2)], flat vd 3 (ints d)] := S2.app a3.agree S3 (fun _ h => h) (hB.le A2.1)
        simp [E, f1, l1, a3.pre]
        apply hK
        clear hK K
        refine AWp.sr fun K hK => ?_
        simp [E, (S3'.sl (k := 1) rfl).tup]
        have S4 : Sep G3 (Fr H) ([flat vd 3 (ints d)] ++ [AL.box p1 [v0_0, v0_1, (Value.int .i64 x0_2)]]) := S3'.pick [1, 0] (by decide) rfl
        obtain ⟨B1, T1, U1, M1, R1, C1⟩ := S4.frame (hB.le A3.1)
        refine CallD.t (F_slices_Reverse_Sint_w (fu := fu) U1 T1 hd') ?_
        rintro _ G4 ⟨a4, rfl, T4⟩
        have A4 := A3.trans (a4.mono M1)
        have S5 : Sep G4 (Fr H) [flat vd 3 (ints d'), AL.box p1 [v0_0, v0_1, (Value.int .i64 x0_2)]] := C1 _ _ a4 T4
        simp [E]
        apply hK
        clear hK K f0 f1 l0 l1
        have f0 := S5.fieldT (P := Try.prog) (k := 1) rfl kfS0
        have l0 := S5.loadF (P := Try.prog) (k := 1) rfl kszL kagL (off := 0) rfl
        obtain ⟨vl, G5, q5, S6, a5, t5, _⟩ := S5.lit2 (P := Try.prog) (t := 69) (hB.le A4.1) kelLL keiL rfl v0_0 vd (hx0_0.agree A4.agree).tup (hx0_0.agree A4.agree).one (S5.sl (k := 0) rfl).tup (S5.sl (k := 0) rfl).one
        have A5 := A4.ext (hB.le A4.1) a5
        replace S6 : Sep G5 (Fr H) [flat vd 3 (ints d'), AL.box p1 [v0_0, v0_1, (Value.int .i64 x0_2)], flat1 vl 25 [v0_0, vd]] := S6
        refine AWp.sr fun K hK => ?_
        simp [E, f0, l0, q5, a5.to_pre, t5]
        refine CallD.t (F_slices_Concat_Sint_w (fu := fu) (SlSl.two (S6.sl1 (k := 2) rfl) (hx0_0.agree A5.agree) (S6.sl (k := 0) rfl)) hrd) ?_
        rintro vr G6 ⟨a6, _, rfl, S7⟩
        have A6 := A5.ext (hB.le A5.1) a6.agree
        have S7' : Sep G6 (Fr H) [flat vd 3 (ints d'), AL.box p1 [v0_0, v0_1, (Value.int .i64 x0_2)], flat1 vl 25 [v0_0, vd], flat vr 3 (ints rd)] := S6.app a6.agree S7 (fun _ h => h) (hB.le A5.1)
        obtain ⟨mv, G7, q7, S8, a7, t7, _⟩ := S7'.miNew (P := Try.prog) (t := 62) (hB.le A6.1) kmtM
        have A7 := A6.ext (hB.le A6.1) a7
        have S9 : Sep G7 (Fr H) [AL.box p1 [v0_0, v0_1, (Value.int .i64 x0_2)], flat vr 3 (ints rd), mapI mv []] := S8.pick [1, 3, 4] (by decide) rfl
        simp [E, f0, l0, q5, a5.to_pre, t5, a6.pre, q7, a7.to_pre]
        apply hK
        clear hK K
        have n2 := lenG (P := Try.prog) (S9.sl (k := 1) rfl) kelL
        refine .seq ?_
        refine AWp.sr fun K hK => ?_
        simp [n2]
        apply hK
        clear hK K
        refine AWp.blk (AWp.loop (fun n env G => ∃ (i : Int) (m' : List (Int × Int)), cnt_L n rd i m' = some m ∧ Sep G (Fr H) [AL.box p1 [v0_0, v0_1, (Value.int .i64 x0_2)], flat vr 3 (ints rd), mapI mv m'] ∧ AgB (Fr H) H G ∧
          env 1 = some p1 ∧ env 4 = some vr ∧ env 5 = some mv ∧ env 37 = some vr ∧ env 38 = some (Value.int .i64 (llen rd)) ∧ env 39 = some (Value.int .i64 i)) fu ⟨0, [], hm, S9, A7, by simp [E]⟩ ?_)
        clear hm
        rintro n env G ⟨i, m', hL, S, A, E⟩
        cases n with
        | zero => cases hL
        | succ n =>
          simp only [cnt_L] at hL
          refine AWp.sr fun K hK => ?_
          simp [E]
          apply hK
          clear hK K
          refine .seq (AWp.cond' (t := (ilt i (llen rd))) (by simp [E]) (fun hb => ?_) (fun hb => ?_))
          · replace hL := cd_t hb hL
            refine .skip ?_
            simp only [andThen, leaves]
            obtain ⟨g1, hL⟩ := gd_some hL
            have q3 := idxG (P := Try.prog) (kk := .i64) (S.sl (k := 1) rfl) kelL kszI g1
            have q4 := loadG (P := Try.prog) (S.sl (k := 1) rfl) kszI kagI g1 0
            refine .seq (AWp.blk ?_)
            refine AWp.sr fun K hK => ?_
            simp [E, q3, q4]
            apply hK
            clear hK K
            generalize gat 0 rd i = x at *
            have q6 := S.miLook (P := Try.prog) (k := 2) (q := x) rfl kmtM
            obtain ⟨G2, q8, S2, a2⟩ := S.miPut (P := Try.prog) (k := 2) (q := x) (x := iadd .i64 ((mgetI x m').getD 0) 1) rfl (hB.le A.1) kmtM
            replace S2 : Sep G2 (Fr H) [AL.box p1 [v0_0, v0_1, (Value.int .i64 x0_2)], flat vr 3 (ints rd), mapI mv (mputI x (iadd .i64 ((mgetI x m').getD 0) 1) m')] := S2
            refine AWp.reg fun K hK => ?_
            simp [E, q6, q8, (S.mapTup (k := 2) rfl)]
            apply hK
            clear hK K
            simp only [andThen, leaves]
            refine AWp.reg fun K hK => ?_
            simp [E]
            apply hK
            clear hK K
            simp only [andThen, leaves]
            exact ⟨n, Nat.lt_succ_self _, _, _, hL, S2, A.trans a2, by simp [E]⟩
          · replace hL := cd_f hb hL
            refine .exit ?_
            simp only [andThen, leaves, if_true, if_false, reduceIte, Nat.reduceEqDiff]
            obtain rfl := Option.some.inj hL
            clear hL
            obtain ⟨it, G2, q2, S2, a2, a2p, t2⟩ := S.range (P := Try.prog) (k := 2) (t := 62) rfl (hB.le A.1) kunM
            have A2 := A.trans a2
            replace S2 : Sep G2 (Fr H) [AL.box p1 [v0_0, v0_1, (Value.int .i64 x0_2)], flat vr 3 (ints rd), rngC it (.int .i64) 1 (encI m') []] := S2
            refine .seq ?_
            refine AWp.sr fun K hK => ?_
            simp [E, q2, t2, (S.mapTup (k := 2) rfl)]
            apply hK
            clear hK K
            refine AWp.blk (AWp.loop (fun n env G => ∃ seen : List Nat, n = unseen (encI m').length seen ∧ (∀ s ∈ seen, ∀ e, m'[s]? = some e → e.2 = 2) ∧ Sep G (Fr H) [AL.box p1 [v0_0, v0_1, (Value.int .i64 x0_2)], flat vr 3 (ints rd), rngC it (.int .i64) 1 (encI m') seen] ∧ AgB (Fr H) H G ∧
              env 1 = some p1 ∧ env 4 = some vr ∧ env 49 = some it) _ ⟨[], rfl, by simp, S2, A2, by simp [E]⟩ ?_)
            clear S S2 E A A2 a2 q2 a2p t2
            rintro _ env G ⟨seen, rfl, hse, S, A, E⟩
            refine .seq (AWp.nextS (k := 2) S rfl (hB.le A.1) rfl rfl rfl rfl (by simp [E]) (fun hall K hK => ?_) (fun s kv G' hns hkv S' a' K hK => ?_))
            · have hm2 := mem_seen hse hall
              rw [hm2] at hF
              simp only [cond_true] at hF
              obtain ⟨nn, hnn, hF⟩ := bd_some hF
              obtain ⟨e, he, hF⟩ := bd_some hF
              simp [ARun, AStep]
              apply hK
              clear hK K
              simp only [andThen]
              refine .seq (AWp.cf (by simp) ?_)
              refine .exit ?_
              simp only [andThen, leaves, if_true, if_false, reduceIte, Nat.reduceEqDiff]
              have l0 := S.loadAgg (P := Try.prog) (k := 0) rfl kszS kagS rfl
              have w0 := hx0_0.agree A.agree
              have w1 := hx0_1.agree A.agree
              cases e with
              | false =>
                simp only [cond_false] at hF
                obtain rfl := Option.some.inj hF
                refine AWp.sd (B := [0, 1, 0, 7, 15, 31, 63, 127, 255, 511]) 10 mixed (by kernel_rfl) (by decide) fun K hK => ?_
                simp [E, l0]
                refine CallD.t (F_impl_renumbered_w (fu := fu) w0 w1 hnn) ?_
                rintro _ G3 ⟨a3, u0, u1, rfl, S3⟩
                have A3 := A.ext (hB.le A.1) a3.agree
                have S3' := S.app a3.agree S3 (fun _ h => h) (hB.le A.1)
                have l1 := S3'.loadAgg (P := Try.prog) (k := 0) rfl kszS kagS rfl
                simp [E, l0, a3.pre, l1]
                refine CallD.t (F_impl_State_same_w (fu := fu) (S3'.sl (k := 3) rfl) (S3'.sl (k := 4) rfl) (hx0_0.agree A3.agree) (hx0_1.agree A3.agree) he) ?_
                rintro _ G4 ⟨a4, rfl, S4⟩
                have A4 := A3.ext (hB.le A3.1) a4.agree
                simp [E, l0, a3.pre, l1, a4.pre, undef]
                apply hK
                clear hK K
                refine .ret ?_
                exact ⟨by simp, fin A4, by simp⟩
              | true =>
                simp only [cond_true] at hF
                obtain ⟨c, hc, hF⟩ := bd_some hF
                obtain rfl := Option.some.inj hF
                refine AWp.sd (B := [0, 1, 0, 7, 15, 31, 63, 127, 255, 511]) 10 mixed (by kernel_rfl) (by decide) fun K hK => ?_
                simp [E, l0]
                refine CallD.t (F_impl_renumbered_w (fu := fu) w0 w1 hnn) ?_
                rintro _ G3 ⟨a3, u0, u1, rfl, S3⟩
                have A3 := A.ext (hB.le A.1) a3.agree
                have S3' := S.app a3.agree S3 (fun _ h => h) (hB.le A.1)
                have l1 := S3'.loadAgg (P := Try.prog) (k := 0) rfl kszS kagS rfl
                simp [E, l0, a3.pre, l1]
                refine CallD.t (F_impl_State_same_w (fu := fu) (S3'.sl (k := 3) rfl) (S3'.sl (k := 4) rfl) (hx0_0.agree A3.agree) (hx0_1.agree A3.agree) he) ?_
                rintro _ G4 ⟨a4, rfl, S4⟩
                have A4 := A3.ext (hB.le A3.1) a4.agree
                have S5 := S3'.agree a4.agree
                simp [E, l0, a3.pre, l1, a4.pre, (S5.sl (k := 1) rfl).tup]
                refine CallD.t (F_impl_crosses_w (fu := fu) (S5.sl (k := 1) rfl) hc) ?_
                rintro _ G6 ⟨a6, rfl, S6⟩
                have A6 := A4.ext (hB.le A4.1) a6.agree
                simp [E, l0, a3.pre, l1, a4.pre, (S5.sl (k := 1) rfl).tup, a6.pre]
                apply hK
                clear hK K
                refine .ret ?_
                exact ⟨by simp, fin A6, by simp⟩
            · obtain ⟨e, he, rfl⟩ : ∃ e, m'[s]? = some e ∧ kv = (Value.int .i64 e.1, [Value.int .i64 e.2]) := by
                unfold encI at hkv
                rw [List.getElem?_map] at hkv
                obtain ⟨e, h1, h2⟩ := Option.map_eq_some_iff.1 hkv
                exact ⟨e, h1, h2.symm⟩
              replace S' : Sep G' (Fr H) [AL.box p1 [v0_0, v0_1, (Value.int .i64 x0_2)], flat vr 3 (ints rd), rngC it (.int .i64) 1 (encI m') (seen ++ [s])] := S'
              have A' := A.trans a'
              have hen := S'.entryG (k := 2) rfl hkv
              simp only [packV] at hen
              have hlt : s < (encI m').length := (List.getElem?_eq_some_iff.1 hkv).1
              simp [ARun, AStep, packV]
              apply hK
              clear hK K
              simp only [andThen]
              refine .seq (AWp.ct (by simp) ?_)
              refine .skip ?_
              simp only [andThen]
              refine AWp.blk ?_
              refine AWp.sr fun K hK => ?_
              simp [E, hen]
              apply hK
              clear hK K
              refine AWp.sr fun K hK => ?_
              simp []
              apply hK
              clear hK K
              refine AWp.cond' (t := ine e.2 2) (by simp) (fun hb => ?_) (fun hb => ?_)
              · have hne : ieq e.2 2 = false := by
                  unfold ine at hb
                  simpa using hb
                rw [not_all he hne] at hF
                simp only [cond_false] at hF
                obtain rfl := Option.some.inj hF
                refine AWp.sr fun K hK => ?_
                simp []
                apply hK
                clear hK K
                refine .ret ?_
                simp only [andThen, leaves]
                exact ⟨by simp, fin A', by simp⟩
              · have h2 : e.2 = 2 := by
                  unfold ine at hb
                  rw [ieq_eq] at hb
                  simpa using hb
                refine .skip ?_
                simp only [andThen, leaves]
                have hse' : ∀ a ∈ seen ++ [s], ∀ x, m'[a]? = some x → x.2 = 2 := fun a ha x hx => by
                  rcases List.mem_append.1 ha with ha | ha
                  · exact hse a ha x hx
                  · simp at ha
                    subst ha
                    rw [he] at hx
                    cases hx
                    exact h2
                exact ⟨_, unseen_lt hlt hns, seen ++ [s], rfl, by first | exact hse' | simpa using hse', S', A', by simp [E]⟩
  exact key.t.mono fun u G h => by
    obtain ⟨rfl, rfl⟩ := h
    exact ⟨.refl _ _, rfl, .nil⟩
end Go.Proofs.Ytdbflchpbhkanaa.AL
