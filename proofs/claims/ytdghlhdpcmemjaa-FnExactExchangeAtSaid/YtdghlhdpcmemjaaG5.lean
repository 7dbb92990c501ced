/- The walks of functions, each with its Lean function: impl.exchanged, impl.ExchangeAt, laws.markIntS, laws.heldIntS, laws.FnExactExchangeAt, spec.exBefore, spec.l1Same, spec.exPut, spec.ExchangesOf, slices.insertionSortCmpFunc[[]int]. No condition. -/
import Derived.Test.YtdghlhdpcmemjaaFBD
import Derived.Test.YtdghlhdpcmemjaaFBE
import Derived.Test.YtdghlhdpcmemjaaG1
import Derived.Test.YtdghlhdpcmemjaaG2
import Derived.Test.YtdghlhdpcmemjaaG3
import Derived.Test.YtdghlhdpcmemjaaG4
import Derived.Test.YtdghlhdpcmemjaaALD
import Derived.Test.YtdghlhdpcmemjaaProg
import Derived.KernelRfl
namespace Go.Proofs.Ytdghlhdpcmemjaa.AL
open Go Go.RowKit
set_option linter.unusedVariables false
set_option linter.unusedSimpArgs false
set_option maxRecDepth 4096
theorem ze_22 : zeroT Try.prog 22 = some (.slice none 0 0) := by kernel_rfl
def F_impl_exchanged (fu : Nat) (x0 : List Int) (x1 : Int) (x2 : Int) : Option (List Int) :=
  bd (F_slices_Clone_Sint fu x0) fun r1 =>
  gd (inL x0 x2) (
  gd (inL x0 x1) (
  bif (ilt (gat 0 x0 x2) (gat 0 x0 x1)) then
    bd (F_impl_exchanged_1 fu x1 x2 r1) fun r2 =>
    gd (inL x0 x2) (
    gd (inL x0 x1) (
    bd (F_impl_exchanged_1 fu (gat 0 x0 x2) (gat 0 x0 x1) r2) fun r3 =>
    some r3))
  else
    gd (inL x0 x2) (
    bd (F_impl_exchanged_1 fu x1 (gat 0 x0 x2) r1) fun r4 =>
    gd (inL x0 x1) (
    bd (F_impl_exchanged_1 fu (gat 0 x0 x1) x2 r4) fun r5 =>
    some r5))))
theorem F_impl_exchanged_w {fu : Nat} {H : AH} {v0 : Value} {x0 : List Int} {x1 : Int} {x2 : Int} {r : (List Int)} (hx0 : Sl H v0 (ints x0)) (hF : F_impl_exchanged fu x0 x1 x2 = some r) :
    ACallT Try.prog 70 [v0, (Value.int .i64 x1), (Value.int .i64 x2)] H (fun u G => AgB (Fr H) H G ∧ ∃ u0 : Value, u = u0 ∧ Sep G (Fr H) [flat u0 3 (ints r)]) := by
  refine ACallT.of_body (nt := 50) (rs := [.tmp 6]) Try.func70 rfl rfl rfl rfl ?_
  have A0 : AgB (Fr H) H H := .refl _ _
  have S0 : Sep H (Fr H) [] := .nil
  have hB := Fr.up H
  unfold F_impl_exchanged at hF
  refine DWp.seq ?_
  refine DWp.region fun K hK => ?_
  simp [-aBin', -aBin, -aBinI, -aUn, -aNil, -flatV, n_fn, b_add, b_sub, b_mul, b_lt, b_le, b_gt, b_ge, b_eq, b_ne, u_not]
  apply hK
  clear hK K
  simp only [andThen, leaves]
  refine DWp.seq ?_
  obtain ⟨r1, hc1, hF⟩ := bd_some hF
  refine DWp.region fun K hK => ?_
  simp [-aBin', -aBin, -aBinI, -aUn, -aNil, -flatV, n_fn, b_add, b_sub, b_mul, b_lt, b_le, b_gt, b_ge, b_eq, b_ne, u_not, ((hx0.agree A0.agree).tup)]
  refine CallD.t (F_slices_Clone_Sint_w (fu := fu) (hx0.agree A0.agree) hc1) ?_
  rintro c2_u0 G3 ⟨a6, _, rfl, S7⟩
  have A5 := A0.ext (hB.le A0.1) a6.agree
  have S4 : Sep G3 (Fr H) [flat c2_u0 3 (ints r1)] := S0.app a6.agree S7 (fun _ h => h) (hB.le A0.1)
  obtain ⟨G9, p11, q12, q14, a13, S8⟩ := S4.allocT (P := Try.prog) (hB.le A5.1) ze_22 rfl
  have A10 := A5.ext (hB.le A5.1) a13
  replace S8 : Sep G9 (Fr H) [flat c2_u0 3 (ints r1), AL.box p11 [(Value.slice none 0 0)]] := S8
  obtain ⟨G15, q16, S17, a19⟩ := S8.put0 (P := Try.prog) (k := 1) rfl (hB.le A10.1) sz_22 ((S8.sl (k := 0) rfl).tup) ((S8.sl (k := 0) rfl).one)
  have A18 := A10.trans a19
  replace S17 : Sep G15 (Fr H) [flat c2_u0 3 (ints r1), AL.box p11 [c2_u0]] := S17
  simp [-aBin', -aBin, -aBinI, -aUn, -aNil, -flatV, n_fn, b_add, b_sub, b_mul, b_lt, b_le, b_gt, b_ge, b_eq, b_ne, u_not, a6.pre, q12, q14, a13.to_pre, q16]
  apply hK
  clear hK K
  simp only [andThen, leaves]
  refine DWp.seq ?_
  refine DWp.region fun K hK => ?_
  simp [-aBin', -aBin, -aBinI, -aUn, -aNil, -flatV, n_fn, b_add, b_sub, b_mul, b_lt, b_le, b_gt, b_ge, b_eq, b_ne, u_not, (S17.flatT (k := 1) rfl)]
  apply hK
  clear hK K
  simp only [andThen, leaves]
  refine DWp.seq ?_
  refine DWp.seq ?_
  obtain ⟨g20, hF⟩ := gd_some hF
  have q21 := idxG (P := Try.prog) (kk := .i64) (hx0.agree A18.agree) el_22 sz_3 g20
  have q22 := loadG (P := Try.prog) (hx0.agree A18.agree) sz_3 ag_3 g20 0
  obtain ⟨g23, hF⟩ := gd_some hF
  have q24 := idxG (P := Try.prog) (kk := .i64) (hx0.agree A18.agree) el_22 sz_3 g23
  have q25 := loadG (P := Try.prog) (hx0.agree A18.agree) sz_3 ag_3 g23 0
  refine DWp.drawn (B := [0, 0, 3, 7, 0, 0, 48, 112, 255]) 9 mixed (by kernel_rfl) (by decide) fun K hK => ?_
  simp [-aBin', -aBin, -aBinI, -aUn, -aNil, -flatV, n_fn, b_add, b_sub, b_mul, b_lt, b_le, b_gt, b_ge, b_eq, b_ne, u_not, q21, q22, q24, q25]
  apply hK
  clear hK K
  simp only [andThen, leaves]
  refine DWp.cond' (t := (ilt (gat 0 x0 x2) (gat 0 x0 x1))) (by simp []) (fun hb26 => ?_) (fun hb26 => ?_)
  · replace hF := cd_t hb26 hF
    refine DWp.seq ?_
    obtain ⟨r2, hc27, hF⟩ := bd_some hF
    refine DWp.region fun K hK => ?_
    simp [-aBin', -aBin, -aBinI, -aUn, -aNil, -flatV, n_fn, b_add, b_sub, b_mul, b_lt, b_le, b_gt, b_ge, b_eq, b_ne, u_not, (S17.ptup (k := 1) rfl)]
    have S28 : Sep G15 (Fr H) ([flat c2_u0 3 (ints r1), AL.box p11 [c2_u0]] ++ []) := S17.pick [0, 1] (by decide) rfl
    obtain ⟨B34, S29, U30, M31, R32, C33⟩ := S28.frame (hB.le A18.1)
    refine CallD.t (F_impl_exchanged_1_w (fu := fu) U30 S29 hc27) ?_
    rintro _ G36 ⟨a39, rfl, S40⟩
    have A38 := A18.trans (a39.mono M31)
    have S37 : Sep G36 (Fr H) [flat c2_u0 3 (ints r2), AL.box p11 [c2_u0]] := C33 _ _ a39 S40
    simp [-aBin', -aBin, -aBinI, -aUn, -aNil, -flatV, n_fn, b_add, b_sub, b_mul, b_lt, b_le, b_gt, b_ge, b_eq, b_ne, u_not]
    apply hK
    clear hK K
    simp only [andThen, leaves]
    obtain ⟨g41, hF⟩ := gd_some hF
    have q42 := idxG (P := Try.prog) (kk := .i64) (hx0.agree A38.agree) el_22 sz_3 g41
    have q43 := loadG (P := Try.prog) (hx0.agree A38.agree) sz_3 ag_3 g41 0
    obtain ⟨g44, hF⟩ := gd_some hF
    have q45 := idxG (P := Try.prog) (kk := .i64) (hx0.agree A38.agree) el_22 sz_3 g44
    have q46 := loadG (P := Try.prog) (hx0.agree A38.agree) sz_3 ag_3 g44 0
    obtain ⟨r3, hc47, hF⟩ := bd_some hF
    refine DWp.drawn (B := [0, 0, 0, 6, 14, 0, 0, 96, 224, 511]) 9 mixed (by kernel_rfl) (by decide) fun K hK => ?_
    simp [-aBin', -aBin, -aBinI, -aUn, -aNil, -flatV, n_fn, b_add, b_sub, b_mul, b_lt, b_le, b_gt, b_ge, b_eq, b_ne, u_not, q42, q43, q45, q46, (S37.ptup (k := 1) rfl)]
    have S48 : Sep G36 (Fr H) ([flat c2_u0 3 (ints r2), AL.box p11 [c2_u0]] ++ []) := S37.pick [0, 1] (by decide) rfl
    obtain ⟨B54, S49, U50, M51, R52, C53⟩ := S48.frame (hB.le A38.1)
    refine CallD.t (F_impl_exchanged_1_w (fu := fu) U50 S49 hc47) ?_
    rintro _ G56 ⟨a59, rfl, S60⟩
    have A58 := A38.trans (a59.mono M51)
    have S57 : Sep G56 (Fr H) [flat c2_u0 3 (ints r3), AL.box p11 [c2_u0]] := C53 _ _ a59 S60
    simp [-aBin', -aBin, -aBinI, -aUn, -aNil, -flatV, n_fn, b_add, b_sub, b_mul, b_lt, b_le, b_gt, b_ge, b_eq, b_ne, u_not, q42, q43, q45, q46]
    apply hK
    clear hK K
    simp only [andThen, leaves]
    refine DWp.seq ?_
    have q61 := S57.load0 (P := Try.prog) (k := 1) rfl sz_22 ag_22
    refine DWp.region fun K hK => ?_
    simp [-aBin', -aBin, -aBinI, -aUn, -aNil, -flatV, n_fn, b_add, b_sub, b_mul, b_lt, b_le, b_gt, b_ge, b_eq, b_ne, u_not, q61]
    apply hK
    clear hK K
    simp only [andThen, leaves]
    refine DWp.ret ?_
    obtain rfl := Option.some.inj hF
    exact ⟨by simp, [c2_u0], by simp [((S57.sl (k := 0) rfl).tup)], A58, c2_u0, rfl, S57.pick [0] (by decide) rfl⟩
  · replace hF := cd_f hb26 hF
    refine DWp.seq ?_
    obtain ⟨g62, hF⟩ := gd_some hF
    have q63 := idxG (P := Try.prog) (kk := .i64) (hx0.agree A18.agree) el_22 sz_3 g62
    have q64 := loadG (P := Try.prog) (hx0.agree A18.agree) sz_3 ag_3 g62 0
    obtain ⟨r4, hc65, hF⟩ := bd_some hF
    refine DWp.region fun K hK => ?_
    simp [-aBin', -aBin, -aBinI, -aUn, -aNil, -flatV, n_fn, b_add, b_sub, b_mul, b_lt, b_le, b_gt, b_ge, b_eq, b_ne, u_not, q63, q64, (S17.ptup (k := 1) rfl)]
    have S66 : Sep G15 (Fr H) ([flat c2_u0 3 (ints r1), AL.box p11 [c2_u0]] ++ []) := S17.pick [0, 1] (by decide) rfl
    obtain ⟨B72, S67, U68, M69, R70, C71⟩ := S66.frame (hB.le A18.1)
    refine CallD.t (F_impl_exchanged_1_w (fu := fu) U68 S67 hc65) ?_
    rintro _ G74 ⟨a77, rfl, S78⟩
    have A76 := A18.trans (a77.mono M69)
    have S75 : Sep G74 (Fr H) [flat c2_u0 3 (ints r4), AL.box p11 [c2_u0]] := C71 _ _ a77 S78
    simp [-aBin', -aBin, -aBinI, -aUn, -aNil, -flatV, n_fn, b_add, b_sub, b_mul, b_lt, b_le, b_gt, b_ge, b_eq, b_ne, u_not, q63, q64]
    apply hK
    clear hK K
    simp only [andThen, leaves]
    obtain ⟨g79, hF⟩ := gd_some hF
    have q80 := idxG (P := Try.prog) (kk := .i64) (hx0.agree A76.agree) el_22 sz_3 g79
    have q81 := loadG (P := Try.prog) (hx0.agree A76.agree) sz_3 ag_3 g79 0
    obtain ⟨r5, hc82, hF⟩ := bd_some hF
    refine DWp.region fun K hK => ?_
    simp [-aBin', -aBin, -aBinI, -aUn, -aNil, -flatV, n_fn, b_add, b_sub, b_mul, b_lt, b_le, b_gt, b_ge, b_eq, b_ne, u_not, q80, q81, (S75.ptup (k := 1) rfl)]
    have S83 : Sep G74 (Fr H) ([flat c2_u0 3 (ints r4), AL.box p11 [c2_u0]] ++ []) := S75.pick [0, 1] (by decide) rfl
    obtain ⟨B89, S84, U85, M86, R87, C88⟩ := S83.frame (hB.le A76.1)
    refine CallD.t (F_impl_exchanged_1_w (fu := fu) U85 S84 hc82) ?_
    rintro _ G91 ⟨a94, rfl, S95⟩
    have A93 := A76.trans (a94.mono M86)
    have S92 : Sep G91 (Fr H) [flat c2_u0 3 (ints r5), AL.box p11 [c2_u0]] := C88 _ _ a94 S95
    simp [-aBin', -aBin, -aBinI, -aUn, -aNil, -flatV, n_fn, b_add, b_sub, b_mul, b_lt, b_le, b_gt, b_ge, b_eq, b_ne, u_not, q80, q81]
    apply hK
    clear hK K
    simp only [andThen, leaves]
    refine DWp.seq ?_
    have q96 := S92.load0 (P := Try.prog) (k := 1) rfl sz_22 ag_22
    refine DWp.region fun K hK => ?_
    simp [-aBin', -aBin, -aBinI, -aUn, -aNil, -flatV, n_fn, b_add, b_sub, b_mul, b_lt, b_le, b_gt, b_ge, b_eq, b_ne, u_not, q96]
    apply hK
    clear hK K
    simp only [andThen, leaves]
    refine DWp.ret ?_
    obtain rfl := Option.some.inj hF
    exact ⟨by simp, [c2_u0], by simp [((S92.sl (k := 0) rfl).tup)], A93, c2_u0, rfl, S92.pick [0] (by decide) rfl⟩
def F_impl_ExchangeAt (fu : Nat) (x0 : List Int) (x1 : Int) (x2 : Int) : Option (List Int × Bool) :=
  bd (
    bd (F_impl_IsSystem fu x0) fun r1 =>
    bif (bnot r1) then
      some true
    else
      bd (F_impl_couples fu x0) fun r2 =>
      bd (F_slices_Contains_S_2_int fu r2 x1 x2) fun r3 =>
      some (bnot r3)) fun s1 =>
  bif s1 then
    some ([], false)
  else
    bd (F_impl_exchanged fu x0 x1 x2) fun r4 =>
    some (r4, true)
theorem F_impl_ExchangeAt_w {fu : Nat} {H : AH} {v0 : Value} {x0 : List Int} {x1 : Int} {x2 : Int} {r : (List Int × Bool)} (hx0 : Sl H v0 (ints x0)) (hF : F_impl_ExchangeAt fu x0 x1 x2 = some r) :
    ACallT Try.prog 33 [v0, (Value.int .i64 x1), (Value.int .i64 x2)] H (fun u G => AgB (Fr H) H G ∧ ∃ u0 : Value, u = (Value.tuple #[u0, (Value.bool r.2)]) ∧ Sep G (Fr H) [flat u0 3 (ints r.1)]) := by
  refine ACallT.of_body (nt := 24) (rs := [.tmp 6, .tmp 7]) Try.func33 rfl rfl rfl rfl ?_
  have A0 : AgB (Fr H) H H := .refl _ _
  have S0 : Sep H (Fr H) [] := .nil
  have hB := Fr.up H
  unfold F_impl_ExchangeAt at hF
  refine DWp.seq ?_
  refine DWp.region fun K hK => ?_
  simp [-aBin', -aBin, -aBinI, -aUn, -aNil, -flatV, n_fn, b_add, b_sub, b_mul, b_lt, b_le, b_gt, b_ge, b_eq, b_ne, u_not]
  apply hK
  clear hK K
  simp only [andThen, leaves]
  refine DWp.seq ?_
  obtain ⟨s1, hL2, hF⟩ := bd_some hF
  refine DWp.seq (DWp.join (fun env G => Sep G (Fr H) [] ∧ AgB (Fr H) H G ∧ env 0 = some v0 ∧ env 1 = some (Value.int .i64 x1) ∧ env 2 = some (Value.int .i64 x2) ∧ env 19 = some (Value.bool s1)) ?_ ?_)
  ·
    obtain ⟨r1, hc4, hL2⟩ := bd_some hL2
    refine DWp.region fun K hK => ?_
    simp [-aBin', -aBin, -aBinI, -aUn, -aNil, -flatV, n_fn, b_add, b_sub, b_mul, b_lt, b_le, b_gt, b_ge, b_eq, b_ne, u_not, ((hx0.agree A0.agree).tup)]
    refine CallD.t (F_impl_IsSystem_w (fu := fu) (hx0.agree A0.agree) hc4) ?_
    rintro _ G6 ⟨a9, rfl, S10⟩
    have A8 := A0.ext (hB.le A0.1) a9.agree
    have S7 : Sep G6 (Fr H) [] := S0.app a9.agree S10 (fun _ h => h) (hB.le A0.1)
    rcases Bool.eq_false_or_eq_true (bnot r1) with hb11 | hb11
    · replace hL2 := cd_t hb11 hL2
      simp [-aBin', -aBin, -aBinI, -aUn, -aNil, -flatV, n_fn, b_add, b_sub, b_mul, b_lt, b_le, b_gt, b_ge, b_eq, b_ne, u_not, hb11, a9.pre]
      apply hK
      clear hK K
      simp only [andThen, leaves]
      have S12 := S7.pick [] (by decide) rfl
      obtain rfl := Option.some.inj hL2
      exact ⟨S12, A8, by simp [], by simp [], by simp [], by simp []⟩
    · replace hL2 := cd_f hb11 hL2
      obtain ⟨r2, hc13, hL2⟩ := bd_some hL2
      simp [-aBin', -aBin, -aBinI, -aUn, -aNil, -flatV, n_fn, b_add, b_sub, b_mul, b_lt, b_le, b_gt, b_ge, b_eq, b_ne, u_not, hb11, a9.pre, ((hx0.agree A8.agree).tup)]
      refine CallD.t (F_impl_couples_w (fu := fu) (hx0.agree A8.agree) hc13) ?_
      rintro c14_u0 G15 ⟨a18, _, rfl, S19⟩
      have A17 := A8.ext (hB.le A8.1) a18.agree
      have S16 : Sep G15 (Fr H) [flatI c14_u0 62 r2] := S7.app a18.agree S19 (fun _ h => h) (hB.le A8.1)
      obtain ⟨r3, hc20, hL2⟩ := bd_some hL2
      simp [-aBin', -aBin, -aBinI, -aUn, -aNil, -flatV, n_fn, b_add, b_sub, b_mul, b_lt, b_le, b_gt, b_ge, b_eq, b_ne, u_not, hb11, a9.pre, a18.pre, bu_62 (rfl : isTup (Value.int .i64 x1) = false) (rfl : (Value.int .i64 x1).cells = #[(Value.int .i64 x1)]) (rfl : isTup (Value.int .i64 x2) = false) (rfl : (Value.int .i64 x2).cells = #[(Value.int .i64 x2)]), ((S16.slI (k := 0) rfl).tup)]
      refine CallD.t (F_slices_Contains_S_2_int_w (fu := fu) (S16.slI (k := 0) rfl) hc20) ?_
      rintro _ G22 ⟨a25, rfl, S26⟩
      have A24 := A17.ext (hB.le A17.1) a25.agree
      have S23 : Sep G22 (Fr H) [flatI c14_u0 62 r2] := S16.app a25.agree S26 (fun _ h => h) (hB.le A17.1)
      simp [-aBin', -aBin, -aBinI, -aUn, -aNil, -flatV, n_fn, b_add, b_sub, b_mul, b_lt, b_le, b_gt, b_ge, b_eq, b_ne, u_not, hb11, a9.pre, a18.pre, bu_62 (rfl : isTup (Value.int .i64 x1) = false) (rfl : (Value.int .i64 x1).cells = #[(Value.int .i64 x1)]) (rfl : isTup (Value.int .i64 x2) = false) (rfl : (Value.int .i64 x2).cells = #[(Value.int .i64 x2)]), a25.pre]
      apply hK
      clear hK K
      simp only [andThen, leaves]
      have S27 := S23.pick [] (by decide) rfl
      obtain rfl := Option.some.inj hL2
      exact ⟨S27, A24, by simp [], by simp [], by simp [], by simp []⟩
  · rintro env Gj28 ⟨Sj28, Aj28, ej28_0, ej28_1, ej28_2, ej28_19⟩
    refine DWp.cond' (t := s1) (by simp [ej28_0, ej28_1, ej28_2, ej28_19]) (fun hb29 => ?_) (fun hb29 => ?_)
    · replace hF := cd_t hb29 hF
      refine DWp.seq ?_
      refine DWp.region fun K hK => ?_
      simp [-aBin', -aBin, -aBinI, -aUn, -aNil, -flatV, n_fn, b_add, b_sub, b_mul, b_lt, b_le, b_gt, b_ge, b_eq, b_ne, u_not, ej28_0, ej28_1, ej28_2, ej28_19]
      apply hK
      clear hK K
      simp only [andThen, leaves]
      refine DWp.ret ?_
      simp only [andThen, leaves]
      have S30 := Sj28.nilItem (hB.le Aj28.1) 3
      obtain rfl := Option.some.inj hF
      exact ⟨by simp, [(Value.slice none 0 0), (Value.bool false)], by simp [ej28_0, ej28_1, ej28_2, ej28_19], Aj28, (Value.slice none 0 0), rfl, S30.pick [0] (by decide) rfl⟩
    · replace hF := cd_f hb29 hF
      refine DWp.skip ?_
      simp only [andThen, leaves]
      refine DWp.seq ?_
      obtain ⟨r4, hc31, hF⟩ := bd_some hF
      refine DWp.region fun K hK => ?_
      simp [-aBin', -aBin, -aBinI, -aUn, -aNil, -flatV, n_fn, b_add, b_sub, b_mul, b_lt, b_le, b_gt, b_ge, b_eq, b_ne, u_not, ej28_0, ej28_1, ej28_2, ej28_19, ((hx0.agree Aj28.agree).tup)]
      refine CallD.t (F_impl_exchanged_w (fu := fu) (hx0.agree Aj28.agree) hc31) ?_
      rintro c32_u0 G33 ⟨a36, _, rfl, S37⟩
      have A35 := Aj28.ext (hB.le Aj28.1) a36.agree
      have S34 : Sep G33 (Fr H) [flat c32_u0 3 (ints r4)] := Sj28.app a36.agree S37 (fun _ h => h) (hB.le Aj28.1)
      simp [-aBin', -aBin, -aBinI, -aUn, -aNil, -flatV, n_fn, b_add, b_sub, b_mul, b_lt, b_le, b_gt, b_ge, b_eq, b_ne, u_not, ej28_0, ej28_1, ej28_2, ej28_19, a36.pre]
      apply hK
      clear hK K
      simp only [andThen, leaves]
      refine DWp.ret ?_
      obtain rfl := Option.some.inj hF
      exact ⟨by simp, [c32_u0, (Value.bool true)], by simp [ej28_0, ej28_1, ej28_2, ej28_19, ((S34.sl (k := 0) rfl).tup)], A35, c32_u0, rfl, S34.pick [0] (by decide) rfl⟩
def F_laws_markIntS_L1 (fu : Nat)  : Nat → List Int → Int → Int → Option (List Int × Int × Int)
  | 0, _, _, _ => none
  | n + 1, l1_0, y1_1, y1_5 =>
    bif (ilt y1_5 (llen l1_0)) then
      gd (inL l1_0 y1_5) (
      F_laws_markIntS_L1 fu n (lset l1_0 y1_5 y1_1) (iadd .i64 y1_1 1) (iadd .i64 y1_5 1))
    else
      some (l1_0, y1_1, y1_5)
def F_laws_markIntS (fu : Nat) (x0 : List Int) (x1 : Int) : Option (Int × List Int) :=
  bd (F_laws_markIntS_L1 fu fu x0 x1 0) fun s1 =>
  some (s1.2.1, s1.1)
theorem F_laws_markIntS_w {fu : Nat} {H : AH} {B : Nat → Prop} {v0 : Value} {x0 : List Int} {x1 : Int} {r : (Int × List Int)} (hB : Up B H.length) (S0 : Sep H B [flat v0 3 (ints x0)]) (hF : F_laws_markIntS fu x0 x1 = some r) :
    ACallT Try.prog 20 [v0, (Value.int .i64 x1)] H (fun u G => AgB B H G ∧ u = (Value.int .i64 r.1) ∧ Sep G B [flat v0 3 (ints r.2)]) := by
  refine ACallT.of_body (nt := 19) (rs := [.tmp 4]) Try.func20 rfl rfl rfl rfl ?_
  have A0 : AgB B H H := .refl _ _
  unfold F_laws_markIntS at hF
  refine DWp.seq ?_
  refine DWp.region fun K hK => ?_
  simp [-aBin', -aBin, -aBinI, -aUn, -aNil, -flatV, n_fn, b_add, b_sub, b_mul, b_lt, b_le, b_gt, b_ge, b_eq, b_ne, u_not]
  apply hK
  clear hK K
  simp only [andThen, leaves]
  refine DWp.seq ?_
  refine DWp.seq ?_
  refine DWp.region fun K hK => ?_
  simp [-aBin', -aBin, -aBinI, -aUn, -aNil, -flatV, n_fn, b_add, b_sub, b_mul, b_lt, b_le, b_gt, b_ge, b_eq, b_ne, u_not]
  apply hK
  clear hK K
  simp only [andThen, leaves]
  refine DWp.block ?_
  obtain ⟨s1, hL2, hF⟩ := bd_some hF
  have S3 := S0.pick [0] (by decide) rfl
  refine DWp.loop (fun n env G => ∃ l1_0 : List Int, ∃ y1_1 : Int, ∃ y1_5 : Int, F_laws_markIntS_L1 fu n l1_0 y1_1 y1_5 = some s1 ∧ Sep G B [flat v0 3 (ints l1_0)] ∧ AgB B H G ∧ env 0 = some v0 ∧ env 1 = some (Value.int .i64 y1_1) ∧ env 5 = some (Value.int .i64 y1_5)) fu ⟨x0, x1, 0, hL2, S3, A0, by simp [], by simp [], by simp []⟩ ?_
  rintro n1 env1 G1_ ⟨l1_0, y1_1, y1_5, hL2, S1_, A1_, e1_0, e1_1, e1_5⟩
  cases n1 with
  | zero => cases hL2
  | succ n1 =>
    simp only [F_laws_markIntS_L1] at hL2
    refine DWp.seq ?_
    refine DWp.seq ?_
    have q4 := lenG (P := Try.prog) (S1_.sl (k := 0) rfl) el_22
    refine DWp.region fun K hK => ?_
    simp [-aBin', -aBin, -aBinI, -aUn, -aNil, -flatV, n_fn, b_add, b_sub, b_mul, b_lt, b_le, b_gt, b_ge, b_eq, b_ne, u_not, e1_0, e1_1, e1_5, q4]
    apply hK
    clear hK K
    simp only [andThen, leaves]
    refine DWp.cond' (t := (ilt y1_5 (llen l1_0))) (by simp [e1_0, e1_1, e1_5]) (fun hb5 => ?_) (fun hb5 => ?_)
    · replace hL2 := cd_t hb5 hL2
      refine DWp.skip ?_
      simp only [andThen, leaves]
      refine DWp.seq ?_
      refine DWp.block ?_
      refine DWp.seq ?_
      obtain ⟨g6, hL2⟩ := gd_some hL2
      have q7 := idxG (P := Try.prog) (kk := .i64) (S1_.sl (k := 0) rfl) el_22 sz_3 g6
      obtain ⟨G8, q9, S10, a12⟩ := S1_.storeG (f := (Value.int .i64)) (P := Try.prog) (k := 0) (x := y1_1) rfl (hB.le A1_.1) sz_3 g6 rfl rfl
      have A11 := A1_.trans a12
      replace S10 : Sep G8 B [flat v0 3 (ints (lset l1_0 y1_5 y1_1))] := S10
      refine DWp.region fun K hK => ?_
      simp [-aBin', -aBin, -aBinI, -aUn, -aNil, -flatV, n_fn, b_add, b_sub, b_mul, b_lt, b_le, b_gt, b_ge, b_eq, b_ne, u_not, e1_0, e1_1, e1_5, q7, q9]
      apply hK
      clear hK K
      simp only [andThen, leaves]
      refine DWp.region fun K hK => ?_
      simp [-aBin', -aBin, -aBinI, -aUn, -aNil, -flatV, n_fn, b_add, b_sub, b_mul, b_lt, b_le, b_gt, b_ge, b_eq, b_ne, u_not, e1_0, e1_1, e1_5]
      apply hK
      clear hK K
      simp only [andThen, leaves]
      refine DWp.region fun K hK => ?_
      simp [-aBin', -aBin, -aBinI, -aUn, -aNil, -flatV, n_fn, b_add, b_sub, b_mul, b_lt, b_le, b_gt, b_ge, b_eq, b_ne, u_not, e1_0, e1_1, e1_5]
      apply hK
      clear hK K
      simp only [andThen, leaves]
      have S13 := S10.pick [0] (by decide) rfl
      exact ⟨n1, Nat.lt_succ_self _, (lset l1_0 y1_5 y1_1), (iadd .i64 y1_1 1), (iadd .i64 y1_5 1), hL2, S13, A11, by simp [e1_0, e1_1, e1_5], by simp [e1_0, e1_1, e1_5], by simp [e1_0, e1_1, e1_5]⟩
    · replace hL2 := cd_f hb5 hL2
      refine DWp.exit ?_
      simp only [andThen, leaves, if_true, if_false, reduceIte, Nat.reduceEqDiff]
      obtain rfl := Option.some.inj hL2
      try dsimp only at hF
      refine DWp.seq ?_
      refine DWp.region fun K hK => ?_
      simp [-aBin', -aBin, -aBinI, -aUn, -aNil, -flatV, n_fn, b_add, b_sub, b_mul, b_lt, b_le, b_gt, b_ge, b_eq, b_ne, u_not, e1_0, e1_1, e1_5]
      apply hK
      clear hK K
      simp only [andThen, leaves]
      refine DWp.ret ?_
      obtain rfl := Option.some.inj hF
      exact ⟨by simp, [(Value.int .i64 y1_1)], by simp [e1_0, e1_1, e1_5], A1_, rfl, S1_.pick [0] (by decide) rfl⟩
def F_laws_heldIntS_L1 (fu : Nat) (k1_0 : List Int) : Nat → Int → Int → Option (LR (Int) (Int × Int))
  | 0, _, _ => none
  | n + 1, y1_1, y1_5 =>
    bif (ilt y1_5 (llen k1_0)) then
      gd (inL k1_0 y1_5) (
      bif (ine (gat 0 k1_0 y1_5) y1_1) then
        some (.ret (-1))
      else
        F_laws_heldIntS_L1 fu k1_0 n (iadd .i64 y1_1 1) (iadd .i64 y1_5 1))
    else
      some (.brk (y1_1, y1_5))
def F_laws_heldIntS (fu : Nat) (x0 : List Int) (x1 : Int) : Option (Int) :=
  bd (F_laws_heldIntS_L1 fu x0 fu x1 0) fun s1 =>
  lr s1 fun s1 =>
  some s1.1
theorem F_laws_heldIntS_w {fu : Nat} {H : AH} {v0 : Value} {x0 : List Int} {x1 : Int} {r : (Int)} (hx0 : Sl H v0 (ints x0)) (hF : F_laws_heldIntS fu x0 x1 = some r) :
    ACallT Try.prog 34 [v0, (Value.int .i64 x1)] H (fun u G => AgB (Fr H) H G ∧ u = (Value.int .i64 r) ∧ Sep G (Fr H) []) := by
  refine ACallT.of_body (nt := 21) (rs := [.tmp 4]) Try.func34 rfl rfl rfl rfl ?_
  have A0 : AgB (Fr H) H H := .refl _ _
  have S0 : Sep H (Fr H) [] := .nil
  have hB := Fr.up H
  unfold F_laws_heldIntS at hF
  refine DWp.seq ?_
  refine DWp.region fun K hK => ?_
  simp [-aBin', -aBin, -aBinI, -aUn, -aNil, -flatV, n_fn, b_add, b_sub, b_mul, b_lt, b_le, b_gt, b_ge, b_eq, b_ne, u_not]
  apply hK
  clear hK K
  simp only [andThen, leaves]
  refine DWp.seq ?_
  refine DWp.seq ?_
  refine DWp.region fun K hK => ?_
  simp [-aBin', -aBin, -aBinI, -aUn, -aNil, -flatV, n_fn, b_add, b_sub, b_mul, b_lt, b_le, b_gt, b_ge, b_eq, b_ne, u_not]
  apply hK
  clear hK K
  simp only [andThen, leaves]
  refine DWp.block ?_
  obtain ⟨s1, hL2, hF⟩ := bd_some hF
  have S3 := S0.pick [] (by decide) rfl
  refine DWp.loop (fun n env G => ∃ y1_1 : Int, ∃ y1_5 : Int, F_laws_heldIntS_L1 fu x0 n y1_1 y1_5 = some s1 ∧ Sep G (Fr H) [] ∧ AgB (Fr H) H G ∧ env 0 = some v0 ∧ env 1 = some (Value.int .i64 y1_1) ∧ env 5 = some (Value.int .i64 y1_5)) fu ⟨x1, 0, hL2, S3, A0, by simp [], by simp [], by simp []⟩ ?_
  rintro n1 env1 G1_ ⟨y1_1, y1_5, hL2, S1_, A1_, e1_0, e1_1, e1_5⟩
  cases n1 with
  | zero => cases hL2
  | succ n1 =>
    simp only [F_laws_heldIntS_L1] at hL2
    refine DWp.seq ?_
    refine DWp.seq ?_
    have q4 := lenG (P := Try.prog) (hx0.agree A1_.agree) el_22
    refine DWp.region fun K hK => ?_
    simp [-aBin', -aBin, -aBinI, -aUn, -aNil, -flatV, n_fn, b_add, b_sub, b_mul, b_lt, b_le, b_gt, b_ge, b_eq, b_ne, u_not, e1_0, e1_1, e1_5, q4]
    apply hK
    clear hK K
    simp only [andThen, leaves]
    refine DWp.cond' (t := (ilt y1_5 (llen x0))) (by simp [e1_0, e1_1, e1_5]) (fun hb5 => ?_) (fun hb5 => ?_)
    · replace hL2 := cd_t hb5 hL2
      refine DWp.skip ?_
      simp only [andThen, leaves]
      refine DWp.seq ?_
      refine DWp.block ?_
      refine DWp.seq ?_
      refine DWp.seq ?_
      obtain ⟨g6, hL2⟩ := gd_some hL2
      have q7 := idxG (P := Try.prog) (kk := .i64) (hx0.agree A1_.agree) el_22 sz_3 g6
      have q8 := loadG (P := Try.prog) (hx0.agree A1_.agree) sz_3 ag_3 g6 0
      refine DWp.region fun K hK => ?_
      simp [-aBin', -aBin, -aBinI, -aUn, -aNil, -flatV, n_fn, b_add, b_sub, b_mul, b_lt, b_le, b_gt, b_ge, b_eq, b_ne, u_not, e1_0, e1_1, e1_5, q7, q8]
      apply hK
      clear hK K
      simp only [andThen, leaves]
      refine DWp.cond' (t := (ine (gat 0 x0 y1_5) y1_1)) (by simp [e1_0, e1_1, e1_5]) (fun hb9 => ?_) (fun hb9 => ?_)
      · replace hL2 := cd_t hb9 hL2
        refine DWp.seq ?_
        refine DWp.region fun K hK => ?_
        simp [-aBin', -aBin, -aBinI, -aUn, -aNil, -flatV, n_fn, b_add, b_sub, b_mul, b_lt, b_le, b_gt, b_ge, b_eq, b_ne, u_not, e1_0, e1_1, e1_5]
        apply hK
        clear hK K
        simp only [andThen, leaves]
        refine DWp.ret ?_
        simp only [andThen, leaves]
        obtain rfl := Option.some.inj hL2
        simp only [lr] at hF
        obtain rfl := Option.some.inj hF
        exact ⟨by simp, [(Value.int .i64 (-1))], by simp [e1_0, e1_1, e1_5], A1_, rfl, S1_.pick [] (by decide) rfl⟩
      · replace hL2 := cd_f hb9 hL2
        refine DWp.skip ?_
        simp only [andThen, leaves]
        refine DWp.region fun K hK => ?_
        simp [-aBin', -aBin, -aBinI, -aUn, -aNil, -flatV, n_fn, b_add, b_sub, b_mul, b_lt, b_le, b_gt, b_ge, b_eq, b_ne, u_not, e1_0, e1_1, e1_5]
        apply hK
        clear hK K
        simp only [andThen, leaves]
        refine DWp.region fun K hK => ?_
        simp [-aBin', -aBin, -aBinI, -aUn, -aNil, -flatV, n_fn, b_add, b_sub, b_mul, b_lt, b_le, b_gt, b_ge, b_eq, b_ne, u_not, e1_0, e1_1, e1_5]
        apply hK
        clear hK K
        simp only [andThen, leaves]
        have S10 := S1_.pick [] (by decide) rfl
        exact ⟨n1, Nat.lt_succ_self _, (iadd .i64 y1_1 1), (iadd .i64 y1_5 1), hL2, S10, A1_, by simp [e1_0, e1_1, e1_5], by simp [e1_0, e1_1, e1_5], by simp [e1_0, e1_1, e1_5]⟩
    · replace hL2 := cd_f hb5 hL2
      refine DWp.exit ?_
      simp only [andThen, leaves, if_true, if_false, reduceIte, Nat.reduceEqDiff]
      obtain rfl := Option.some.inj hL2
      simp only [lr] at hF
      refine DWp.seq ?_
      refine DWp.region fun K hK => ?_
      simp [-aBin', -aBin, -aBinI, -aUn, -aNil, -flatV, n_fn, b_add, b_sub, b_mul, b_lt, b_le, b_gt, b_ge, b_eq, b_ne, u_not, e1_0, e1_1, e1_5]
      apply hK
      clear hK K
      simp only [andThen, leaves]
      refine DWp.ret ?_
      obtain rfl := Option.some.inj hF
      exact ⟨by simp, [(Value.int .i64 y1_1)], by simp [e1_0, e1_1, e1_5], A1_, rfl, S1_.pick [] (by decide) rfl⟩
def F_laws_FnExactExchangeAt (fu : Nat) (x0 : List Int) (x1 : Int) (x2 : Int) : Option (Bool) :=
  bif (ilt 1048576 (llen x0)) then
    some true
  else
    bd (F_laws_toIntS fu x0) fun r1 =>
    bd (F_spec_ExchangeAt fu r1 x1 x2) fun r2 =>
    bd (F_laws_toIntS fu x0) fun r3 =>
    bd (F_impl_ExchangeAt fu r3 x1 x2) fun r4 =>
    bd (
      bd (F_laws_eqIntS fu r4.1 r2.1) fun r5 =>
      bif (bnot r5) then
        some true
      else
        some (bne' r4.2 r2.2)) fun s31 =>
    bif s31 then
      some false
    else
      bd (F_laws_toIntS fu x0) fun r6 =>
      bd (F_laws_eqIntS fu r3 r6) fun r7 =>
      bif (bnot r7) then
        some false
      else
        bd (F_laws_markIntS fu r3 1) fun r8 =>
        bd (
          bif (ilt r8.1 0) then
            some true
          else
            bd (F_laws_eqIntS fu r4.1 r2.1) fun r9 =>
            bif (bnot r9) then
              some true
            else
              some (bne' r4.2 r2.2)) fun s75 =>
        bif s75 then
          some false
        else
          bd (F_laws_markIntS fu r4.1 1) fun r10 =>
          bd (F_laws_heldIntS fu r10.2 1) fun r11 =>
          bif (ilt r11 0) then
            some false
          else
            bif (ine r11 r10.1) then
              some false
            else
              bd (F_laws_toIntS fu x0) fun r12 =>
              bd (F_impl_ExchangeAt fu r12 x1 x2) fun r13 =>
              bd (
                bd (F_laws_eqIntS fu r13.1 r2.1) fun r14 =>
                bif (bnot r14) then
                  some true
                else
                  some (bne' r13.2 r2.2)) fun s129 =>
              bif s129 then
                some false
              else
                bd (F_laws_heldIntS fu r10.2 1) fun r15 =>
                bif (ilt r15 0) then
                  some false
                else
                  bif (ine r15 r10.1) then
                    some false
                  else
                    some true
theorem F_laws_FnExactExchangeAt_w {fu : Nat} {H : AH} {v0 : Value} {x0 : List Int} {x1 : Int} {x2 : Int} {r : (Bool)} (hx0 : Sl H v0 (ints x0)) (hF : F_laws_FnExactExchangeAt fu x0 x1 x2 = some r) :
    ACallT Try.prog 7 [v0, (Value.int .i64 x1), (Value.int .i64 x2)] H (fun u G => AgB (Fr H) H G ∧ u = (Value.bool r) ∧ Sep G (Fr H) []) := by
  refine ACallT.of_body (nt := 103) (rs := [.tmp 6]) Try.func7 rfl rfl rfl rfl ?_
  have A0 : AgB (Fr H) H H := .refl _ _
  have S0 : Sep H (Fr H) [] := .nil
  have hB := Fr.up H
  unfold F_laws_FnExactExchangeAt at hF
  refine DWp.seq ?_
  refine DWp.region fun K hK => ?_
  simp [-aBin', -aBin, -aBinI, -aUn, -aNil, -flatV, n_fn, b_add, b_sub, b_mul, b_lt, b_le, b_gt, b_ge, b_eq, b_ne, u_not]
  apply hK
  clear hK K
  simp only [andThen, leaves]
  refine DWp.seq ?_
  refine DWp.seq ?_
  have q1 := lenG (P := Try.prog) (hx0.agree A0.agree) el_22
  refine DWp.region fun K hK => ?_
  simp [-aBin', -aBin, -aBinI, -aUn, -aNil, -flatV, n_fn, b_add, b_sub, b_mul, b_lt, b_le, b_gt, b_ge, b_eq, b_ne, u_not, q1]
  apply hK
  clear hK K
  simp only [andThen, leaves]
  refine DWp.cond' (t := (ilt 1048576 (llen x0))) (by simp []) (fun hb2 => ?_) (fun hb2 => ?_)
  · replace hF := cd_t hb2 hF
    refine DWp.seq ?_
    refine DWp.region fun K hK => ?_
    simp [-aBin', -aBin, -aBinI, -aUn, -aNil, -flatV, n_fn, b_add, b_sub, b_mul, b_lt, b_le, b_gt, b_ge, b_eq, b_ne, u_not]
    apply hK
    clear hK K
    simp only [andThen, leaves]
    refine DWp.ret ?_
    simp only [andThen, leaves]
    obtain rfl := Option.some.inj hF
    exact ⟨by simp, [(Value.bool true)], by simp [], A0, rfl, S0.pick [] (by decide) rfl⟩
  · replace hF := cd_f hb2 hF
    refine DWp.skip ?_
    simp only [andThen, leaves]
    refine DWp.seq ?_
    obtain ⟨r1, hc3, hF⟩ := bd_some hF
    refine DWp.region fun K hK => ?_
    simp [-aBin', -aBin, -aBinI, -aUn, -aNil, -flatV, n_fn, b_add, b_sub, b_mul, b_lt, b_le, b_gt, b_ge, b_eq, b_ne, u_not, ((hx0.agree A0.agree).tup)]
    refine CallD.t (F_laws_toIntS_w (fu := fu) (hx0.agree A0.agree) hc3) ?_
    rintro c4_u0 G5 ⟨a8, _, rfl, S9⟩
    have A7 := A0.ext (hB.le A0.1) a8.agree
    have S6 : Sep G5 (Fr H) [flat c4_u0 3 (ints r1)] := S0.app a8.agree S9 (fun _ h => h) (hB.le A0.1)
    obtain ⟨r2, hc10, hF⟩ := bd_some hF
    simp [-aBin', -aBin, -aBinI, -aUn, -aNil, -flatV, n_fn, b_add, b_sub, b_mul, b_lt, b_le, b_gt, b_ge, b_eq, b_ne, u_not, a8.pre, ((S6.sl (k := 0) rfl).tup)]
    refine CallD.t (F_spec_ExchangeAt_w (fu := fu) (S6.sl (k := 0) rfl) hc10) ?_
    rintro _ G12 ⟨a15, c11_u0, rfl, S16⟩
    have A14 := A7.ext (hB.le A7.1) a15.agree
    have S13 : Sep G12 (Fr H) [flat c4_u0 3 (ints r1), flat c11_u0 3 (ints r2.1)] := S6.app a15.agree S16 (fun _ h => h) (hB.le A7.1)
    simp [-aBin', -aBin, -aBinI, -aUn, -aNil, -flatV, n_fn, b_add, b_sub, b_mul, b_lt, b_le, b_gt, b_ge, b_eq, b_ne, u_not, a8.pre, a15.pre]
    apply hK
    clear hK K
    simp only [andThen, leaves]
    refine DWp.seq ?_
    obtain ⟨r3, hc17, hF⟩ := bd_some hF
    refine DWp.region fun K hK => ?_
    simp [-aBin', -aBin, -aBinI, -aUn, -aNil, -flatV, n_fn, b_add, b_sub, b_mul, b_lt, b_le, b_gt, b_ge, b_eq, b_ne, u_not, ((hx0.agree A14.agree).tup)]
    refine CallD.t (F_laws_toIntS_w (fu := fu) (hx0.agree A14.agree) hc17) ?_
    rintro c18_u0 G19 ⟨a22, _, rfl, S23⟩
    have A21 := A14.ext (hB.le A14.1) a22.agree
    have S20 : Sep G19 (Fr H) [flat c4_u0 3 (ints r1), flat c11_u0 3 (ints r2.1), flat c18_u0 3 (ints r3)] := S13.app a22.agree S23 (fun _ h => h) (hB.le A14.1)
    simp [-aBin', -aBin, -aBinI, -aUn, -aNil, -flatV, n_fn, b_add, b_sub, b_mul, b_lt, b_le, b_gt, b_ge, b_eq, b_ne, u_not, a22.pre]
    apply hK
    clear hK K
    simp only [andThen, leaves]
    refine DWp.seq ?_
    obtain ⟨r4, hc24, hF⟩ := bd_some hF
    refine DWp.region fun K hK => ?_
    simp [-aBin', -aBin, -aBinI, -aUn, -aNil, -flatV, n_fn, b_add, b_sub, b_mul, b_lt, b_le, b_gt, b_ge, b_eq, b_ne, u_not, ((S20.sl (k := 2) rfl).tup)]
    refine CallD.t (F_impl_ExchangeAt_w (fu := fu) (S20.sl (k := 2) rfl) hc24) ?_
    rintro _ G26 ⟨a29, c25_u0, rfl, S30⟩
    have A28 := A21.ext (hB.le A21.1) a29.agree
    have S27 : Sep G26 (Fr H) [flat c4_u0 3 (ints r1), flat c11_u0 3 (ints r2.1), flat c18_u0 3 (ints r3), flat c25_u0 3 (ints r4.1)] := S20.app a29.agree S30 (fun _ h => h) (hB.le A21.1)
    simp [-aBin', -aBin, -aBinI, -aUn, -aNil, -flatV, n_fn, b_add, b_sub, b_mul, b_lt, b_le, b_gt, b_ge, b_eq, b_ne, u_not, a29.pre]
    apply hK
    clear hK K
    simp only [andThen, leaves]
    refine DWp.seq ?_
    obtain ⟨s31, hL32, hF⟩ := bd_some hF
    refine DWp.seq (DWp.join (fun env G => Sep G (Fr H) [flat c11_u0 3 (ints r2.1), flat c18_u0 3 (ints r3), flat c25_u0 3 (ints r4.1)] ∧ AgB (Fr H) H G ∧ env 0 = some v0 ∧ env 1 = some (Value.int .i64 x1) ∧ env 2 = some (Value.int .i64 x2) ∧ env 7 = some c11_u0 ∧ env 8 = some (Value.bool r2.2) ∧ env 9 = some c18_u0 ∧ env 10 = some c25_u0 ∧ env 11 = some (Value.bool r4.2) ∧ env 45 = some (Value.bool s31)) ?_ ?_)
    ·
      obtain ⟨r5, hc34, hL32⟩ := bd_some hL32
      refine DWp.region fun K hK => ?_
      simp [-aBin', -aBin, -aBinI, -aUn, -aNil, -flatV, n_fn, b_add, b_sub, b_mul, b_lt, b_le, b_gt, b_ge, b_eq, b_ne, u_not, ((S27.sl (k := 3) rfl).tup), ((S27.sl (k := 1) rfl).tup)]
      refine CallD.t (F_laws_eqIntS_w (fu := fu) (S27.sl (k := 3) rfl) (S27.sl (k := 1) rfl) hc34) ?_
      rintro _ G36 ⟨a39, rfl, S40⟩
      have A38 := A28.ext (hB.le A28.1) a39.agree
      have S37 : Sep G36 (Fr H) [flat c4_u0 3 (ints r1), flat c11_u0 3 (ints r2.1), flat c18_u0 3 (ints r3), flat c25_u0 3 (ints r4.1)] := S27.app a39.agree S40 (fun _ h => h) (hB.le A28.1)
      rcases Bool.eq_false_or_eq_true (bnot r5) with hb41 | hb41
      · replace hL32 := cd_t hb41 hL32
        simp [-aBin', -aBin, -aBinI, -aUn, -aNil, -flatV, n_fn, b_add, b_sub, b_mul, b_lt, b_le, b_gt, b_ge, b_eq, b_ne, u_not, hb41, a39.pre]
        apply hK
        clear hK K
        simp only [andThen, leaves]
        have S42 := S37.pick [1, 2, 3] (by decide) rfl
        obtain rfl := Option.some.inj hL32
        exact ⟨S42, A38, by simp [], by simp [], by simp [], by simp [], by simp [], by simp [], by simp [], by simp [], by simp []⟩
      · replace hL32 := cd_f hb41 hL32
        simp [-aBin', -aBin, -aBinI, -aUn, -aNil, -flatV, n_fn, b_add, b_sub, b_mul, b_lt, b_le, b_gt, b_ge, b_eq, b_ne, u_not, hb41, a39.pre, b_bne un_4]
        apply hK
        clear hK K
        simp only [andThen, leaves]
        have S43 := S37.pick [1, 2, 3] (by decide) rfl
        obtain rfl := Option.some.inj hL32
        exact ⟨S43, A38, by simp [], by simp [], by simp [], by simp [], by simp [], by simp [], by simp [], by simp [], by simp []⟩
    · rintro env Gj44 ⟨Sj44, Aj44, ej44_0, ej44_1, ej44_2, ej44_7, ej44_8, ej44_9, ej44_10, ej44_11, ej44_45⟩
      refine DWp.cond' (t := s31) (by simp [ej44_0, ej44_1, ej44_2, ej44_7, ej44_8, ej44_9, ej44_10, ej44_11, ej44_45]) (fun hb45 => ?_) (fun hb45 => ?_)
      · replace hF := cd_t hb45 hF
        refine DWp.seq ?_
        refine DWp.region fun K hK => ?_
        simp [-aBin', -aBin, -aBinI, -aUn, -aNil, -flatV, n_fn, b_add, b_sub, b_mul, b_lt, b_le, b_gt, b_ge, b_eq, b_ne, u_not, ej44_0, ej44_1, ej44_2, ej44_7, ej44_8, ej44_9, ej44_10, ej44_11, ej44_45]
        apply hK
        clear hK K
        simp only [andThen, leaves]
        refine DWp.ret ?_
        simp only [andThen, leaves]
        obtain rfl := Option.some.inj hF
        exact ⟨by simp, [(Value.bool false)], by simp [ej44_0, ej44_1, ej44_2, ej44_7, ej44_8, ej44_9, ej44_10, ej44_11, ej44_45], Aj44, rfl, Sj44.pick [] (by decide) rfl⟩
      · replace hF := cd_f hb45 hF
        refine DWp.skip ?_
        simp only [andThen, leaves]
        refine DWp.seq ?_
        refine DWp.seq ?_
        obtain ⟨r6, hc46, hF⟩ := bd_some hF
        refine DWp.region fun K hK => ?_
        simp [-aBin', -aBin, -aBinI, -aUn, -aNil, -flatV, n_fn, b_add, b_sub, b_mul, b_lt, b_le, b_gt, b_ge, b_eq, b_ne, u_not, ej44_0, ej44_1, ej44_2, ej44_7, ej44_8, ej44_9, ej44_10, ej44_11, ej44_45, ((hx0.agree Aj44.agree).tup)]
        refine CallD.t (F_laws_toIntS_w (fu := fu) (hx0.agree Aj44.agree) hc46) ?_
        rintro c47_u0 G48 ⟨a51, _, rfl, S52⟩
        have A50 := Aj44.ext (hB.le Aj44.1) a51.agree
        have S49 : Sep G48 (Fr H) [flat c11_u0 3 (ints r2.1), flat c18_u0 3 (ints r3), flat c25_u0 3 (ints r4.1), flat c47_u0 3 (ints r6)] := Sj44.app a51.agree S52 (fun _ h => h) (hB.le Aj44.1)
        obtain ⟨r7, hc53, hF⟩ := bd_some hF
        simp [-aBin', -aBin, -aBinI, -aUn, -aNil, -flatV, n_fn, b_add, b_sub, b_mul, b_lt, b_le, b_gt, b_ge, b_eq, b_ne, u_not, ej44_0, ej44_1, ej44_2, ej44_7, ej44_8, ej44_9, ej44_10, ej44_11, ej44_45, a51.pre, ((S49.sl (k := 1) rfl).tup), ((S49.sl (k := 3) rfl).tup)]
        refine CallD.t (F_laws_eqIntS_w (fu := fu) (S49.sl (k := 1) rfl) (S49.sl (k := 3) rfl) hc53) ?_
        rintro _ G55 ⟨a58, rfl, S59⟩
        have A57 := A50.ext (hB.le A50.1) a58.agree
        have S56 : Sep G55 (Fr H) [flat c11_u0 3 (ints r2.1), flat c18_u0 3 (ints r3), flat c25_u0 3 (ints r4.1), flat c47_u0 3 (ints r6)] := S49.app a58.agree S59 (fun _ h => h) (hB.le A50.1)
        simp [-aBin', -aBin, -aBinI, -aUn, -aNil, -flatV, n_fn, b_add, b_sub, b_mul, b_lt, b_le, b_gt, b_ge, b_eq, b_ne, u_not, ej44_0, ej44_1, ej44_2, ej44_7, ej44_8, ej44_9, ej44_10, ej44_11, ej44_45, a51.pre, a58.pre]
        apply hK
        clear hK K
        simp only [andThen, leaves]
        refine DWp.cond' (t := (bnot r7)) (by simp [ej44_0, ej44_1, ej44_2, ej44_7, ej44_8, ej44_9, ej44_10, ej44_11, ej44_45]) (fun hb60 => ?_) (fun hb60 => ?_)
        · replace hF := cd_t hb60 hF
          refine DWp.seq ?_
          refine DWp.region fun K hK => ?_
          simp [-aBin', -aBin, -aBinI, -aUn, -aNil, -flatV, n_fn, b_add, b_sub, b_mul, b_lt, b_le, b_gt, b_ge, b_eq, b_ne, u_not, ej44_0, ej44_1, ej44_2, ej44_7, ej44_8, ej44_9, ej44_10, ej44_11, ej44_45]
          apply hK
          clear hK K
          simp only [andThen, leaves]
          refine DWp.ret ?_
          simp only [andThen, leaves]
          obtain rfl := Option.some.inj hF
          exact ⟨by simp, [(Value.bool false)], by simp [ej44_0, ej44_1, ej44_2, ej44_7, ej44_8, ej44_9, ej44_10, ej44_11, ej44_45], A57, rfl, S56.pick [] (by decide) rfl⟩
        · replace hF := cd_f hb60 hF
          refine DWp.skip ?_
          simp only [andThen, leaves]
          refine DWp.seq ?_
          refine DWp.region fun K hK => ?_
          simp [-aBin', -aBin, -aBinI, -aUn, -aNil, -flatV, n_fn, b_add, b_sub, b_mul, b_lt, b_le, b_gt, b_ge, b_eq, b_ne, u_not, ej44_0, ej44_1, ej44_2, ej44_7, ej44_8, ej44_9, ej44_10, ej44_11, ej44_45]
          apply hK
          clear hK K
          simp only [andThen, leaves]
          refine DWp.seq ?_
          obtain ⟨r8, hc61, hF⟩ := bd_some hF
          refine DWp.region fun K hK => ?_
          simp [-aBin', -aBin, -aBinI, -aUn, -aNil, -flatV, n_fn, b_add, b_sub, b_mul, b_lt, b_le, b_gt, b_ge, b_eq, b_ne, u_not, ej44_0, ej44_1, ej44_2, ej44_7, ej44_8, ej44_9, ej44_10, ej44_11, ej44_45, ((S56.sl (k := 1) rfl).tup)]
          have S62 : Sep G55 (Fr H) ([flat c18_u0 3 (ints r3)] ++ [flat c11_u0 3 (ints r2.1), flat c25_u0 3 (ints r4.1), flat c47_u0 3 (ints r6)]) := S56.pick [1, 0, 2, 3] (by decide) rfl
          obtain ⟨B68, S63, U64, M65, R66, C67⟩ := S62.frame (hB.le A57.1)
          refine CallD.t (F_laws_markIntS_w (fu := fu) U64 S63 hc61) ?_
          rintro _ G70 ⟨a73, rfl, S74⟩
          have A72 := A57.trans (a73.mono M65)
          have S71 : Sep G70 (Fr H) [flat c18_u0 3 (ints r8.2), flat c11_u0 3 (ints r2.1), flat c25_u0 3 (ints r4.1), flat c47_u0 3 (ints r6)] := C67 _ _ a73 S74
          simp [-aBin', -aBin, -aBinI, -aUn, -aNil, -flatV, n_fn, b_add, b_sub, b_mul, b_lt, b_le, b_gt, b_ge, b_eq, b_ne, u_not, ej44_0, ej44_1, ej44_2, ej44_7, ej44_8, ej44_9, ej44_10, ej44_11, ej44_45]
          apply hK
          clear hK K
          simp only [andThen, leaves]
          refine DWp.seq ?_
          obtain ⟨s75, hL76, hF⟩ := bd_some hF
          refine DWp.seq (DWp.join (fun env G => Sep G (Fr H) [flat c11_u0 3 (ints r2.1), flat c25_u0 3 (ints r4.1)] ∧ AgB (Fr H) H G ∧ env 0 = some v0 ∧ env 1 = some (Value.int .i64 x1) ∧ env 2 = some (Value.int .i64 x2) ∧ env 7 = some c11_u0 ∧ env 8 = some (Value.bool r2.2) ∧ env 10 = some c25_u0 ∧ env 66 = some (Value.bool s75)) ?_ ?_)
          ·
            rcases Bool.eq_false_or_eq_true (ilt r8.1 0) with hb78 | hb78
            · replace hL76 := cd_t hb78 hL76
              refine DWp.region fun K hK => ?_
              simp [-aBin', -aBin, -aBinI, -aUn, -aNil, -flatV, n_fn, b_add, b_sub, b_mul, b_lt, b_le, b_gt, b_ge, b_eq, b_ne, u_not, ej44_0, ej44_1, ej44_2, ej44_7, ej44_8, ej44_9, ej44_10, ej44_11, ej44_45, hb78]
              apply hK
              clear hK K
              simp only [andThen, leaves]
              have S79 := S71.pick [1, 2] (by decide) rfl
              obtain rfl := Option.some.inj hL76
              exact ⟨S79, A72, by simp [ej44_0, ej44_1, ej44_2, ej44_7, ej44_8, ej44_9, ej44_10, ej44_11, ej44_45], by simp [ej44_0, ej44_1, ej44_2, ej44_7, ej44_8, ej44_9, ej44_10, ej44_11, ej44_45], by simp [ej44_0, ej44_1, ej44_2, ej44_7, ej44_8, ej44_9, ej44_10, ej44_11, ej44_45], by simp [ej44_0, ej44_1, ej44_2, ej44_7, ej44_8, ej44_9, ej44_10, ej44_11, ej44_45], by simp [ej44_0, ej44_1, ej44_2, ej44_7, ej44_8, ej44_9, ej44_10, ej44_11, ej44_45], by simp [ej44_0, ej44_1, ej44_2, ej44_7, ej44_8, ej44_9, ej44_10, ej44_11, ej44_45], by simp [ej44_0, ej44_1, ej44_2, ej44_7, ej44_8, ej44_9, ej44_10, ej44_11, ej44_45]⟩
            · replace hL76 := cd_f hb78 hL76
              obtain ⟨r9, hc80, hL76⟩ := bd_some hL76
              refine DWp.region fun K hK => ?_
              simp [-aBin', -aBin, -aBinI, -aUn, -aNil, -flatV, n_fn, b_add, b_sub, b_mul, b_lt, b_le, b_gt, b_ge, b_eq, b_ne, u_not, ej44_0, ej44_1, ej44_2, ej44_7, ej44_8, ej44_9, ej44_10, ej44_11, ej44_45, hb78, ((S71.sl (k := 2) rfl).tup), ((S71.sl (k := 1) rfl).tup)]
              refine CallD.t (F_laws_eqIntS_w (fu := fu) (S71.sl (k := 2) rfl) (S71.sl (k := 1) rfl) hc80) ?_
              rintro _ G82 ⟨a85, rfl, S86⟩
              have A84 := A72.ext (hB.le A72.1) a85.agree
              have S83 : Sep G82 (Fr H) [flat c18_u0 3 (ints r8.2), flat c11_u0 3 (ints r2.1), flat c25_u0 3 (ints r4.1), flat c47_u0 3 (ints r6)] := S71.app a85.agree S86 (fun _ h => h) (hB.le A72.1)
              rcases Bool.eq_false_or_eq_true (bnot r9) with hb87 | hb87
              · replace hL76 := cd_t hb87 hL76
                simp [-aBin', -aBin, -aBinI, -aUn, -aNil, -flatV, n_fn, b_add, b_sub, b_mul, b_lt, b_le, b_gt, b_ge, b_eq, b_ne, u_not, ej44_0, ej44_1, ej44_2, ej44_7, ej44_8, ej44_9, ej44_10, ej44_11, ej44_45, hb78, hb87, a85.pre]
                apply hK
                clear hK K
                simp only [andThen, leaves]
                have S88 := S83.pick [1, 2] (by decide) rfl
                obtain rfl := Option.some.inj hL76
                exact ⟨S88, A84, by simp [ej44_0, ej44_1, ej44_2, ej44_7, ej44_8, ej44_9, ej44_10, ej44_11, ej44_45], by simp [ej44_0, ej44_1, ej44_2, ej44_7, ej44_8, ej44_9, ej44_10, ej44_11, ej44_45], by simp [ej44_0, ej44_1, ej44_2, ej44_7, ej44_8, ej44_9, ej44_10, ej44_11, ej44_45], by simp [ej44_0, ej44_1, ej44_2, ej44_7, ej44_8, ej44_9, ej44_10, ej44_11, ej44_45], by simp [ej44_0, ej44_1, ej44_2, ej44_7, ej44_8, ej44_9, ej44_10, ej44_11, ej44_45], by simp [ej44_0, ej44_1, ej44_2, ej44_7, ej44_8, ej44_9, ej44_10, ej44_11, ej44_45], by simp [ej44_0, ej44_1, ej44_2, ej44_7, ej44_8, ej44_9, ej44_10, ej44_11, ej44_45]⟩
              · replace hL76 := cd_f hb87 hL76
                simp [-aBin', -aBin, -aBinI, -aUn, -aNil, -flatV, n_fn, b_add, b_sub, b_mul, b_lt, b_le, b_gt, b_ge, b_eq, b_ne, u_not, ej44_0, ej44_1, ej44_2, ej44_7, ej44_8, ej44_9, ej44_10, ej44_11, ej44_45, hb78, hb87, a85.pre, b_bne un_4]
                apply hK
                clear hK K
                simp only [andThen, leaves]
                have S89 := S83.pick [1, 2] (by decide) rfl
                obtain rfl := Option.some.inj hL76
                exact ⟨S89, A84, by simp [ej44_0, ej44_1, ej44_2, ej44_7, ej44_8, ej44_9, ej44_10, ej44_11, ej44_45], by simp [ej44_0, ej44_1, ej44_2, ej44_7, ej44_8, ej44_9, ej44_10, ej44_11, ej44_45], by simp [ej44_0, ej44_1, ej44_2, ej44_7, ej44_8, ej44_9, ej44_10, ej44_11, ej44_45], by simp [ej44_0, ej44_1, ej44_2, ej44_7, ej44_8, ej44_9, ej44_10, ej44_11, ej44_45], by simp [ej44_0, ej44_1, ej44_2, ej44_7, ej44_8, ej44_9, ej44_10, ej44_11, ej44_45], by simp [ej44_0, ej44_1, ej44_2, ej44_7, ej44_8, ej44_9, ej44_10, ej44_11, ej44_45], by simp [ej44_0, ej44_1, ej44_2, ej44_7, ej44_8, ej44_9, ej44_10, ej44_11, ej44_45]⟩
          · rintro env Gj90 ⟨Sj90, Aj90, ej90_0, ej90_1, ej90_2, ej90_7, ej90_8, ej90_10, ej90_66⟩
            refine DWp.cond' (t := s75) (by simp [ej90_0, ej90_1, ej90_2, ej90_7, ej90_8, ej90_10, ej90_66]) (fun hb91 => ?_) (fun hb91 => ?_)
            · replace hF := cd_t hb91 hF
              refine DWp.seq ?_
              refine DWp.region fun K hK => ?_
              simp [-aBin', -aBin, -aBinI, -aUn, -aNil, -flatV, n_fn, b_add, b_sub, b_mul, b_lt, b_le, b_gt, b_ge, b_eq, b_ne, u_not, ej90_0, ej90_1, ej90_2, ej90_7, ej90_8, ej90_10, ej90_66]
              apply hK
              clear hK K
              simp only [andThen, leaves]
              refine DWp.ret ?_
              simp only [andThen, leaves]
              obtain rfl := Option.some.inj hF
              exact ⟨by simp, [(Value.bool false)], by simp [ej90_0, ej90_1, ej90_2, ej90_7, ej90_8, ej90_10, ej90_66], Aj90, rfl, Sj90.pick [] (by decide) rfl⟩
            · replace hF := cd_f hb91 hF
              refine DWp.skip ?_
              simp only [andThen, leaves]
              refine DWp.seq ?_
              refine DWp.region fun K hK => ?_
              simp [-aBin', -aBin, -aBinI, -aUn, -aNil, -flatV, n_fn, b_add, b_sub, b_mul, b_lt, b_le, b_gt, b_ge, b_eq, b_ne, u_not, ej90_0, ej90_1, ej90_2, ej90_7, ej90_8, ej90_10, ej90_66]
              apply hK
              clear hK K
              simp only [andThen, leaves]
              refine DWp.seq ?_
              obtain ⟨r10, hc92, hF⟩ := bd_some hF
              refine DWp.region fun K hK => ?_
              simp [-aBin', -aBin, -aBinI, -aUn, -aNil, -flatV, n_fn, b_add, b_sub, b_mul, b_lt, b_le, b_gt, b_ge, b_eq, b_ne, u_not, ej90_0, ej90_1, ej90_2, ej90_7, ej90_8, ej90_10, ej90_66, ((Sj90.sl (k := 1) rfl).tup)]
              have S93 : Sep Gj90 (Fr H) ([flat c25_u0 3 (ints r4.1)] ++ [flat c11_u0 3 (ints r2.1)]) := Sj90.pick [1, 0] (by decide) rfl
              obtain ⟨B99, S94, U95, M96, R97, C98⟩ := S93.frame (hB.le Aj90.1)
              refine CallD.t (F_laws_markIntS_w (fu := fu) U95 S94 hc92) ?_
              rintro _ G101 ⟨a104, rfl, S105⟩
              have A103 := Aj90.trans (a104.mono M96)
              have S102 : Sep G101 (Fr H) [flat c25_u0 3 (ints r10.2), flat c11_u0 3 (ints r2.1)] := C98 _ _ a104 S105
              simp [-aBin', -aBin, -aBinI, -aUn, -aNil, -flatV, n_fn, b_add, b_sub, b_mul, b_lt, b_le, b_gt, b_ge, b_eq, b_ne, u_not, ej90_0, ej90_1, ej90_2, ej90_7, ej90_8, ej90_10, ej90_66]
              apply hK
              clear hK K
              simp only [andThen, leaves]
              refine DWp.seq ?_
              refine DWp.region fun K hK => ?_
              simp [-aBin', -aBin, -aBinI, -aUn, -aNil, -flatV, n_fn, b_add, b_sub, b_mul, b_lt, b_le, b_gt, b_ge, b_eq, b_ne, u_not, ej90_0, ej90_1, ej90_2, ej90_7, ej90_8, ej90_10, ej90_66]
              apply hK
              clear hK K
              simp only [andThen, leaves]
              refine DWp.seq ?_
              obtain ⟨r11, hc106, hF⟩ := bd_some hF
              refine DWp.region fun K hK => ?_
              simp [-aBin', -aBin, -aBinI, -aUn, -aNil, -flatV, n_fn, b_add, b_sub, b_mul, b_lt, b_le, b_gt, b_ge, b_eq, b_ne, u_not, ej90_0, ej90_1, ej90_2, ej90_7, ej90_8, ej90_10, ej90_66, ((S102.sl (k := 0) rfl).tup)]
              refine CallD.t (F_laws_heldIntS_w (fu := fu) (S102.sl (k := 0) rfl) hc106) ?_
              rintro _ G108 ⟨a111, rfl, S112⟩
              have A110 := A103.ext (hB.le A103.1) a111.agree
              have S109 : Sep G108 (Fr H) [flat c25_u0 3 (ints r10.2), flat c11_u0 3 (ints r2.1)] := S102.app a111.agree S112 (fun _ h => h) (hB.le A103.1)
              simp [-aBin', -aBin, -aBinI, -aUn, -aNil, -flatV, n_fn, b_add, b_sub, b_mul, b_lt, b_le, b_gt, b_ge, b_eq, b_ne, u_not, ej90_0, ej90_1, ej90_2, ej90_7, ej90_8, ej90_10, ej90_66, a111.pre]
              apply hK
              clear hK K
              simp only [andThen, leaves]
              refine DWp.seq ?_
              refine DWp.seq ?_
              refine DWp.region fun K hK => ?_
              simp [-aBin', -aBin, -aBinI, -aUn, -aNil, -flatV, n_fn, b_add, b_sub, b_mul, b_lt, b_le, b_gt, b_ge, b_eq, b_ne, u_not, ej90_0, ej90_1, ej90_2, ej90_7, ej90_8, ej90_10, ej90_66]
              apply hK
              clear hK K
              simp only [andThen, leaves]
              refine DWp.cond' (t := (ilt r11 0)) (by simp [ej90_0, ej90_1, ej90_2, ej90_7, ej90_8, ej90_10, ej90_66]) (fun hb113 => ?_) (fun hb113 => ?_)
              · replace hF := cd_t hb113 hF
                refine DWp.seq ?_
                refine DWp.region fun K hK => ?_
                simp [-aBin', -aBin, -aBinI, -aUn, -aNil, -flatV, n_fn, b_add, b_sub, b_mul, b_lt, b_le, b_gt, b_ge, b_eq, b_ne, u_not, ej90_0, ej90_1, ej90_2, ej90_7, ej90_8, ej90_10, ej90_66]
                apply hK
                clear hK K
                simp only [andThen, leaves]
                refine DWp.ret ?_
                simp only [andThen, leaves]
                obtain rfl := Option.some.inj hF
                exact ⟨by simp, [(Value.bool false)], by simp [ej90_0, ej90_1, ej90_2, ej90_7, ej90_8, ej90_10, ej90_66], A110, rfl, S109.pick [] (by decide) rfl⟩
              · replace hF := cd_f hb113 hF
                refine DWp.skip ?_
                simp only [andThen, leaves]
                refine DWp.seq ?_
                refine DWp.seq ?_
                refine DWp.region fun K hK => ?_
                simp [-aBin', -aBin, -aBinI, -aUn, -aNil, -flatV, n_fn, b_add, b_sub, b_mul, b_lt, b_le, b_gt, b_ge, b_eq, b_ne, u_not, ej90_0, ej90_1, ej90_2, ej90_7, ej90_8, ej90_10, ej90_66]
                apply hK
                clear hK K
                simp only [andThen, leaves]
                refine DWp.cond' (t := (ine r11 r10.1)) (by simp [ej90_0, ej90_1, ej90_2, ej90_7, ej90_8, ej90_10, ej90_66]) (fun hb114 => ?_) (fun hb114 => ?_)
                · replace hF := cd_t hb114 hF
                  refine DWp.seq ?_
                  refine DWp.region fun K hK => ?_
                  simp [-aBin', -aBin, -aBinI, -aUn, -aNil, -flatV, n_fn, b_add, b_sub, b_mul, b_lt, b_le, b_gt, b_ge, b_eq, b_ne, u_not, ej90_0, ej90_1, ej90_2, ej90_7, ej90_8, ej90_10, ej90_66]
                  apply hK
                  clear hK K
                  simp only [andThen, leaves]
                  refine DWp.ret ?_
                  simp only [andThen, leaves]
                  obtain rfl := Option.some.inj hF
                  exact ⟨by simp, [(Value.bool false)], by simp [ej90_0, ej90_1, ej90_2, ej90_7, ej90_8, ej90_10, ej90_66], A110, rfl, S109.pick [] (by decide) rfl⟩
                · replace hF := cd_f hb114 hF
                  refine DWp.skip ?_
                  simp only [andThen, leaves]
                  refine DWp.seq ?_
                  obtain ⟨r12, hc115, hF⟩ := bd_some hF
                  refine DWp.region fun K hK => ?_
                  simp [-aBin', -aBin, -aBinI, -aUn, -aNil, -flatV, n_fn, b_add, b_sub, b_mul, b_lt, b_le, b_gt, b_ge, b_eq, b_ne, u_not, ej90_0, ej90_1, ej90_2, ej90_7, ej90_8, ej90_10, ej90_66, ((hx0.agree A110.agree).tup)]
                  refine CallD.t (F_laws_toIntS_w (fu := fu) (hx0.agree A110.agree) hc115) ?_
                  rintro c116_u0 G117 ⟨a120, _, rfl, S121⟩
                  have A119 := A110.ext (hB.le A110.1) a120.agree
                  have S118 : Sep G117 (Fr H) [flat c25_u0 3 (ints r10.2), flat c11_u0 3 (ints r2.1), flat c116_u0 3 (ints r12)] := S109.app a120.agree S121 (fun _ h => h) (hB.le A110.1)
                  obtain ⟨r13, hc122, hF⟩ := bd_some hF
                  simp [-aBin', -aBin, -aBinI, -aUn, -aNil, -flatV, n_fn, b_add, b_sub, b_mul, b_lt, b_le, b_gt, b_ge, b_eq, b_ne, u_not, ej90_0, ej90_1, ej90_2, ej90_7, ej90_8, ej90_10, ej90_66, a120.pre, ((S118.sl (k := 2) rfl).tup)]
                  refine CallD.t (F_impl_ExchangeAt_w (fu := fu) (S118.sl (k := 2) rfl) hc122) ?_
                  rintro _ G124 ⟨a127, c123_u0, rfl, S128⟩
                  have A126 := A119.ext (hB.le A119.1) a127.agree
                  have S125 : Sep G124 (Fr H) [flat c25_u0 3 (ints r10.2), flat c11_u0 3 (ints r2.1), flat c116_u0 3 (ints r12), flat c123_u0 3 (ints r13.1)] := S118.app a127.agree S128 (fun _ h => h) (hB.le A119.1)
                  simp [-aBin', -aBin, -aBinI, -aUn, -aNil, -flatV, n_fn, b_add, b_sub, b_mul, b_lt, b_le, b_gt, b_ge, b_eq, b_ne, u_not, ej90_0, ej90_1, ej90_2, ej90_7, ej90_8, ej90_10, ej90_66, a120.pre, a127.pre]
                  apply hK
                  clear hK K
                  simp only [andThen, leaves]
                  refine DWp.seq ?_
                  obtain ⟨s129, hL130, hF⟩ := bd_some hF
                  refine DWp.seq (DWp.join (fun env G => Sep G (Fr H) [flat c25_u0 3 (ints r10.2)] ∧ AgB (Fr H) H G ∧ env 10 = some c25_u0 ∧ env 13 = some (Value.int .i64 r10.1) ∧ env 94 = some (Value.bool s129)) ?_ ?_)
                  ·
                    obtain ⟨r14, hc132, hL130⟩ := bd_some hL130
                    refine DWp.region fun K hK => ?_
                    simp [-aBin', -aBin, -aBinI, -aUn, -aNil, -flatV, n_fn, b_add, b_sub, b_mul, b_lt, b_le, b_gt, b_ge, b_eq, b_ne, u_not, ej90_0, ej90_1, ej90_2, ej90_7, ej90_8, ej90_10, ej90_66, ((S125.sl (k := 3) rfl).tup), ((S125.sl (k := 1) rfl).tup)]
                    refine CallD.t (F_laws_eqIntS_w (fu := fu) (S125.sl (k := 3) rfl) (S125.sl (k := 1) rfl) hc132) ?_
                    rintro _ G134 ⟨a137, rfl, S138⟩
                    have A136 := A126.ext (hB.le A126.1) a137.agree
                    have S135 : Sep G134 (Fr H) [flat c25_u0 3 (ints r10.2), flat c11_u0 3 (ints r2.1), flat c116_u0 3 (ints r12), flat c123_u0 3 (ints r13.1)] := S125.app a137.agree S138 (fun _ h => h) (hB.le A126.1)
                    rcases Bool.eq_false_or_eq_true (bnot r14) with hb139 | hb139
                    · replace hL130 := cd_t hb139 hL130
                      simp [-aBin', -aBin, -aBinI, -aUn, -aNil, -flatV, n_fn, b_add, b_sub, b_mul, b_lt, b_le, b_gt, b_ge, b_eq, b_ne, u_not, ej90_0, ej90_1, ej90_2, ej90_7, ej90_8, ej90_10, ej90_66, hb139, a137.pre]
                      apply hK
                      clear hK K
                      simp only [andThen, leaves]
                      have S140 := S135.pick [0] (by decide) rfl
                      obtain rfl := Option.some.inj hL130
                      exact ⟨S140, A136, by simp [ej90_0, ej90_1, ej90_2, ej90_7, ej90_8, ej90_10, ej90_66], by simp [ej90_0, ej90_1, ej90_2, ej90_7, ej90_8, ej90_10, ej90_66], by simp [ej90_0, ej90_1, ej90_2, ej90_7, ej90_8, ej90_10, ej90_66]⟩
                    · replace hL130 := cd_f hb139 hL130
                      simp [-aBin', -aBin, -aBinI, -aUn, -aNil, -flatV, n_fn, b_add, b_sub, b_mul, b_lt, b_le, b_gt, b_ge, b_eq, b_ne, u_not, ej90_0, ej90_1, ej90_2, ej90_7, ej90_8, ej90_10, ej90_66, hb139, a137.pre, b_bne un_4]
                      apply hK
                      clear hK K
                      simp only [andThen, leaves]
                      have S141 := S135.pick [0] (by decide) rfl
                      obtain rfl := Option.some.inj hL130
                      exact ⟨S141, A136, by simp [ej90_0, ej90_1, ej90_2, ej90_7, ej90_8, ej90_10, ej90_66], by simp [ej90_0, ej90_1, ej90_2, ej90_7, ej90_8, ej90_10, ej90_66], by simp [ej90_0, ej90_1, ej90_2, ej90_7, ej90_8, ej90_10, ej90_66]⟩
                  · rintro env Gj142 ⟨Sj142, Aj142, ej142_10, ej142_13, ej142_94⟩
                    refine DWp.cond' (t := s129) (by simp [ej142_10, ej142_13, ej142_94]) (fun hb143 => ?_) (fun hb143 => ?_)
                    · replace hF := cd_t hb143 hF
                      refine DWp.seq ?_
                      refine DWp.region fun K hK => ?_
                      simp [-aBin', -aBin, -aBinI, -aUn, -aNil, -flatV, n_fn, b_add, b_sub, b_mul, b_lt, b_le, b_gt, b_ge, b_eq, b_ne, u_not, ej142_10, ej142_13, ej142_94]
                      apply hK
                      clear hK K
                      simp only [andThen, leaves]
                      refine DWp.ret ?_
                      simp only [andThen, leaves]
                      obtain rfl := Option.some.inj hF
                      exact ⟨by simp, [(Value.bool false)], by simp [ej142_10, ej142_13, ej142_94], Aj142, rfl, Sj142.pick [] (by decide) rfl⟩
                    · replace hF := cd_f hb143 hF
                      refine DWp.skip ?_
                      simp only [andThen, leaves]
                      refine DWp.seq ?_
                      refine DWp.region fun K hK => ?_
                      simp [-aBin', -aBin, -aBinI, -aUn, -aNil, -flatV, n_fn, b_add, b_sub, b_mul, b_lt, b_le, b_gt, b_ge, b_eq, b_ne, u_not, ej142_10, ej142_13, ej142_94]
                      apply hK
                      clear hK K
                      simp only [andThen, leaves]
                      refine DWp.seq ?_
                      obtain ⟨r15, hc144, hF⟩ := bd_some hF
                      refine DWp.region fun K hK => ?_
                      simp [-aBin', -aBin, -aBinI, -aUn, -aNil, -flatV, n_fn, b_add, b_sub, b_mul, b_lt, b_le, b_gt, b_ge, b_eq, b_ne, u_not, ej142_10, ej142_13, ej142_94, ((Sj142.sl (k := 0) rfl).tup)]
                      refine CallD.t (F_laws_heldIntS_w (fu := fu) (Sj142.sl (k := 0) rfl) hc144) ?_
                      rintro _ G146 ⟨a149, rfl, S150⟩
                      have A148 := Aj142.ext (hB.le Aj142.1) a149.agree
                      have S147 : Sep G146 (Fr H) [flat c25_u0 3 (ints r10.2)] := Sj142.app a149.agree S150 (fun _ h => h) (hB.le Aj142.1)
                      simp [-aBin', -aBin, -aBinI, -aUn, -aNil, -flatV, n_fn, b_add, b_sub, b_mul, b_lt, b_le, b_gt, b_ge, b_eq, b_ne, u_not, ej142_10, ej142_13, ej142_94, a149.pre]
                      apply hK
                      clear hK K
                      simp only [andThen, leaves]
                      refine DWp.seq ?_
                      refine DWp.seq ?_
                      refine DWp.region fun K hK => ?_
                      simp [-aBin', -aBin, -aBinI, -aUn, -aNil, -flatV, n_fn, b_add, b_sub, b_mul, b_lt, b_le, b_gt, b_ge, b_eq, b_ne, u_not, ej142_10, ej142_13, ej142_94]
                      apply hK
                      clear hK K
                      simp only [andThen, leaves]
                      refine DWp.cond' (t := (ilt r15 0)) (by simp [ej142_10, ej142_13, ej142_94]) (fun hb151 => ?_) (fun hb151 => ?_)
                      · replace hF := cd_t hb151 hF
                        refine DWp.seq ?_
                        refine DWp.region fun K hK => ?_
                        simp [-aBin', -aBin, -aBinI, -aUn, -aNil, -flatV, n_fn, b_add, b_sub, b_mul, b_lt, b_le, b_gt, b_ge, b_eq, b_ne, u_not, ej142_10, ej142_13, ej142_94]
                        apply hK
                        clear hK K
                        simp only [andThen, leaves]
                        refine DWp.ret ?_
                        simp only [andThen, leaves]
                        obtain rfl := Option.some.inj hF
                        exact ⟨by simp, [(Value.bool false)], by simp [ej142_10, ej142_13, ej142_94], A148, rfl, S147.pick [] (by decide) rfl⟩
                      · replace hF := cd_f hb151 hF
                        refine DWp.skip ?_
                        simp only [andThen, leaves]
                        refine DWp.seq ?_
                        refine DWp.seq ?_
                        refine DWp.region fun K hK => ?_
                        simp [-aBin', -aBin, -aBinI, -aUn, -aNil, -flatV, n_fn, b_add, b_sub, b_mul, b_lt, b_le, b_gt, b_ge, b_eq, b_ne, u_not, ej142_10, ej142_13, ej142_94]
                        apply hK
                        clear hK K
                        simp only [andThen, leaves]
                        refine DWp.cond' (t := (ine r15 r10.1)) (by simp [ej142_10, ej142_13, ej142_94]) (fun hb152 => ?_) (fun hb152 => ?_)
                        · replace hF := cd_t hb152 hF
                          refine DWp.seq ?_
                          refine DWp.region fun K hK => ?_
                          simp [-aBin', -aBin, -aBinI, -aUn, -aNil, -flatV, n_fn, b_add, b_sub, b_mul, b_lt, b_le, b_gt, b_ge, b_eq, b_ne, u_not, ej142_10, ej142_13, ej142_94]
                          apply hK
                          clear hK K
                          simp only [andThen, leaves]
                          refine DWp.ret ?_
                          simp only [andThen, leaves]
                          obtain rfl := Option.some.inj hF
                          exact ⟨by simp, [(Value.bool false)], by simp [ej142_10, ej142_13, ej142_94], A148, rfl, S147.pick [] (by decide) rfl⟩
                        · replace hF := cd_f hb152 hF
                          refine DWp.skip ?_
                          simp only [andThen, leaves]
                          refine DWp.seq ?_
                          refine DWp.region fun K hK => ?_
                          simp [-aBin', -aBin, -aBinI, -aUn, -aNil, -flatV, n_fn, b_add, b_sub, b_mul, b_lt, b_le, b_gt, b_ge, b_eq, b_ne, u_not, ej142_10, ej142_13, ej142_94]
                          apply hK
                          clear hK K
                          simp only [andThen, leaves]
                          refine DWp.ret ?_
                          obtain rfl := Option.some.inj hF
                          exact ⟨by simp, [(Value.bool true)], by simp [ej142_10, ej142_13, ej142_94], A148, rfl, S147.pick [] (by decide) rfl⟩
end Go.Proofs.Ytdghlhdpcmemjaa.AL
