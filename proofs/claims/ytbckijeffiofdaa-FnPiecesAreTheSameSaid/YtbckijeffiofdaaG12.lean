/- The walks of functions, each with its Lean function: impl.IsSimple, laws.FnExactIsSimple, spec.PiecesBack, impl.PiecesBack, laws.markMeander, laws.FnExactPiecesBack, spec.PiecesOf, impl.PiecesOf, laws.FnExactPiecesOf. No condition. -/
import Derived.Test.YtbckijeffiofdaaG1
import Derived.Test.YtbckijeffiofdaaG10
import Derived.Test.YtbckijeffiofdaaG11
import Derived.Test.YtbckijeffiofdaaG2
import Derived.Test.YtbckijeffiofdaaG3
import Derived.Test.YtbckijeffiofdaaG4
import Derived.Test.YtbckijeffiofdaaG5
import Derived.Test.YtbckijeffiofdaaG6
import Derived.Test.YtbckijeffiofdaaG7
import Derived.Test.YtbckijeffiofdaaG8
import Derived.Test.YtbckijeffiofdaaG9
import Derived.Test.YtbckijeffiofdaaALD
import Derived.Test.YtbckijeffiofdaaProg
import Derived.KernelRfl
namespace Go.Proofs.Ytbckijeffiofdaa.AL
open Go Go.RowKit
set_option linter.unusedVariables false
set_option linter.unusedSimpArgs false
set_option maxRecDepth 4096
attribute [local simp] n_fn b_add b_sub b_mul b_lt b_le b_gt b_ge b_eq b_ne u_not
def F_impl_IsSimple (fu : Nat) (x0_0 : List Int) (x0_1 : List Int) : Option (Bool × Bool) :=
  bd (F_impl_isCut fu x0_0 x0_1) fun r1 =>
  bif (bnot r1) then
    some (false, false)
  else
    bd (F_impl_Meander_isSimple fu x0_0 x0_1) fun r2 =>
    some (r2, true)
theorem F_impl_IsSimple_w {fu : Nat} {H : AH} {v0_0 : Value} {v0_1 : Value} {x0_0 : List Int} {x0_1 : List Int} {r : (Bool × Bool)} (hx0_0 : Sl H v0_0 (ints x0_0)) (hx0_1 : Sl H v0_1 (ints x0_1)) (hF : F_impl_IsSimple fu x0_0 x0_1 = some r) :
    ACallT Try.prog 44 [(Value.agg #[v0_0, v0_1])] H (fun u G => AgB (Fr H) H G ∧ u = (Value.tuple #[(Value.bool r.1), (Value.bool r.2)]) ∧ Sep G (Fr H) []) := by
 refine ACallT.of_body (nt := 9) (rs := [.tmp 2, .tmp 3]) Try.func44 rfl rfl rfl rfl ?_;have A0 : AgB (Fr H) H H := .refl _ _;have S0 : Sep H (Fr H) [] := .nil;have hB := Fr.up H;unfold F_impl_IsSimple at hF;obtain ⟨G2, p4, q5, q6, a7, S1⟩ := S0.boxT (hB.le A0.1) 28 [v0_0, v0_1];have A3 := A0.ext (hB.le A0.1) a7;replace S1 : Sep G2 (Fr H) [AL.box p4 [v0_0, v0_1]] := S1;refine .sr fun K hK => ?_;simp [q5, q6, a7.to_pre, cells_agg];apply hK;clear hK K;refine .seq ?_;have q8 := S1.loadAgg (P := Try.prog) (k := 0) rfl sz_28 ag_28 rfl;obtain ⟨r1, hc9, hF⟩ := bd_some hF;refine .sr fun K hK => ?_;simp [q8, ((hx0_0.agree A3.agree).tup), ((hx0_1.agree A3.agree).tup)];refine CallD.t (F_impl_isCut_w (fu := fu) (hx0_0.agree A3.agree) (hx0_1.agree A3.agree) hc9) ?_;rintro _ G11 ⟨a14, rfl, S15⟩;have A13 := A3.ext (hB.le A3.1) a14.agree;have S12 : Sep G11 (Fr H) [AL.box p4 [v0_0, v0_1]] := S1.app a14.agree S15 (fun _ h => h) (hB.le A3.1);simp [q8, a14.pre];apply hK;clear hK K;refine DWp.cond' (t := (bnot r1)) (by simp []) (fun hb16 => ?_) (fun hb16 => ?_)
 ·replace hF := cd_t hb16 hF;refine .sr fun K hK => ?_;simp [];apply hK;clear hK K;refine DWp.ret ?_;simp only [andThen, leaves];obtain rfl := Option.some.inj hF;exact ⟨by simp, [(Value.bool false), (Value.bool false)], by simp [], A13, rfl, S12.pick [] (by decide) rfl⟩
 ·replace hF := cd_f hb16 hF;refine DWp.skip ?_;simp only [andThen, leaves];have q17 := S12.loadAgg (P := Try.prog) (k := 0) rfl sz_28 ag_28 rfl;obtain ⟨r2, hc18, hF⟩ := bd_some hF;refine .sr fun K hK => ?_;simp [q17, ((hx0_0.agree A13.agree).tup), ((hx0_1.agree A13.agree).tup)];refine CallD.t (F_impl_Meander_isSimple_w (fu := fu) (hx0_0.agree A13.agree) (hx0_1.agree A13.agree) hc18) ?_;rintro _ G20 ⟨a23, rfl, S24⟩;have A22 := A13.ext (hB.le A13.1) a23.agree;have S21 : Sep G20 (Fr H) [AL.box p4 [v0_0, v0_1]] := S12.app a23.agree S24 (fun _ h => h) (hB.le A13.1);simp [q17, a23.pre];apply hK;clear hK K;refine DWp.ret ?_;obtain rfl := Option.some.inj hF;exact ⟨by simp, [(Value.bool r2), (Value.bool true)], by simp [], A22, rfl, S21.pick [] (by decide) rfl⟩
def F_spec_PiecesBack (fu : Nat) (x0_0 : List Int) (x0_1 : List Int) : Option (List (List Int × List Int) × Bool) :=
  bd (
    bd (F_spec_mePair fu x0_0 x0_1) fun r1 =>
    bif (bnot r1) then
      some true
    else
      some (ieq (llen x0_0) 0)) fun s8 =>
  bif s8 then
    some ([], false)
  else
    bd (F_spec_siPieces fu x0_0 x0_1 true) fun r2 =>
    some (r2, true)
theorem F_spec_PiecesBack_w {fu : Nat} {H : AH} {v0_0 : Value} {v0_1 : Value} {x0_0 : List Int} {x0_1 : List Int} {r : (List (List Int × List Int) × Bool)} (hx0_0 : Sl H v0_0 (ints x0_0)) (hx0_1 : Sl H v0_1 (ints x0_1)) (hF : F_spec_PiecesBack fu x0_0 x0_1 = some r) :
    ACallT Try.prog 45 [(Value.agg #[v0_0, v0_1])] H (fun u G => AgB (Fr H) H G ∧ ∃ u0 : Value, ∃ C0 : List Value, u = (Value.tuple #[u0, (Value.bool r.2)]) ∧ Sep G (Fr H) [rowsP u0 28 3 C0 r.1]) := by
 refine ACallT.of_body (nt := 15) (rs := [.tmp 2, .tmp 3]) Try.func45 rfl rfl rfl rfl ?_;have A0 : AgB (Fr H) H H := .refl _ _;have S0 : Sep H (Fr H) [] := .nil;have hB := Fr.up H;unfold F_spec_PiecesBack at hF;obtain ⟨G2, p4, q5, q6, a7, S1⟩ := S0.boxT (hB.le A0.1) 28 [v0_0, v0_1];have A3 := A0.ext (hB.le A0.1) a7;replace S1 : Sep G2 (Fr H) [AL.box p4 [v0_0, v0_1]] := S1;refine .sr fun K hK => ?_;simp [q5, q6, a7.to_pre, cells_agg];apply hK;clear hK K;refine .seq ?_;obtain ⟨s8, hL9, hF⟩ := bd_some hF;refine DWp.seq (DWp.join (fun env G => Sep G (Fr H) [AL.box p4 [v0_0, v0_1]] ∧ AgB (Fr H) H G ∧ env 1 = some p4 ∧ env 12 = some (Value.bool s8)) ?_ ?_)
 ·
  have q11 := S1.loadAgg (P := Try.prog) (k := 0) rfl sz_28 ag_28 rfl;obtain ⟨r1, hc12, hL9⟩ := bd_some hL9;refine .region fun K hK => ?_;simp [q11, ((hx0_0.agree A3.agree).tup), ((hx0_1.agree A3.agree).tup)];refine CallD.t (F_spec_mePair_w (fu := fu) (hx0_0.agree A3.agree) (hx0_1.agree A3.agree) hc12) ?_;rintro _ G14 ⟨a17, rfl, S18⟩;have A16 := A3.ext (hB.le A3.1) a17.agree;have S15 : Sep G14 (Fr H) [AL.box p4 [v0_0, v0_1]] := S1.app a17.agree S18 (fun _ h => h) (hB.le A3.1);rcases Bool.eq_false_or_eq_true (bnot r1) with hb19 | hb19
  ·replace hL9 := cd_t hb19 hL9;simp [hb19, q11, a17.pre];apply hK;clear hK K;simp only [andThen, leaves];have S20 := S15.pick [0] (by decide) rfl;obtain rfl := Option.some.inj hL9;exact ⟨S20, A16, by simp []⟩
  ·replace hL9 := cd_f hb19 hL9;have q21 := S15.fieldT (P := Try.prog) (k := 0) rfl fa_28_0;have q22 := S15.loadF (P := Try.prog) (k := 0) rfl sz_22 ag_22 (off := 0) rfl;have q23 := lenG (P := Try.prog) (hx0_0.agree A16.agree) el_22;simp [hb19, q11, a17.pre, q21, q22, q23];apply hK;clear hK K;simp only [andThen, leaves];have S24 := S15.pick [0] (by decide) rfl;obtain rfl := Option.some.inj hL9;exact ⟨S24, A16, by simp []⟩
 ·rintro env Gj25 ⟨Sj25, Aj25, ej25_1, ej25_12⟩;refine DWp.cond' (t := s8) (by simp [ej25_1, ej25_12]) (fun hb26 => ?_) (fun hb26 => ?_)
  ·replace hF := cd_t hb26 hF;refine .sr fun K hK => ?_;simp [ej25_1, ej25_12];apply hK;clear hK K;refine DWp.ret ?_;simp only [andThen, leaves];have S27 := Sj25.rpNil (hB.le Aj25.1) 28 3;obtain rfl := Option.some.inj hF;exact ⟨by simp, [(Value.slice none 0 0), (Value.bool false)], by simp [ej25_1, ej25_12], Aj25, nilV, [], rfl, S27.pick [1] (by decide) rfl⟩
  ·replace hF := cd_f hb26 hF;refine DWp.skip ?_;simp only [andThen, leaves];have q28 := Sj25.loadAgg (P := Try.prog) (k := 0) rfl sz_28 ag_28 rfl;obtain ⟨r2, hc29, hF⟩ := bd_some hF;refine .sr fun K hK => ?_;simp [ej25_1, ej25_12, q28, ((hx0_0.agree Aj25.agree).tup), ((hx0_1.agree Aj25.agree).tup)];refine CallD.t (F_spec_siPieces_w (fu := fu) (hx0_0.agree Aj25.agree) (hx0_1.agree Aj25.agree) hc29) ?_;rintro c30_u0 G31 ⟨a34, _, c30_C0, rfl, S35⟩;have A33 := Aj25.ext (hB.le Aj25.1) a34.agree;have S32 : Sep G31 (Fr H) [AL.box p4 [v0_0, v0_1], rowsP c30_u0 28 3 c30_C0 r2] := Sj25.app a34.agree S35 (fun _ h => h) (hB.le Aj25.1);simp [ej25_1, ej25_12, q28, a34.pre];apply hK;clear hK K;refine DWp.ret ?_;obtain rfl := Option.some.inj hF;exact ⟨by simp, [c30_u0, (Value.bool true)], by simp [ej25_1, ej25_12, ((S32.rdP (k := 1) rfl).tup)], A33, c30_u0, c30_C0, rfl, S32.pick [1] (by decide) rfl⟩
def F_impl_PiecesBack (fu : Nat) (x0_0 : List Int) (x0_1 : List Int) : Option (List (List Int × List Int) × Bool) :=
  bd (F_impl_isCut fu x0_0 x0_1) fun r1 =>
  bif (bnot r1) then
    some ([], false)
  else
    bd (F_impl_Meander_pieces fu x0_0 x0_1 true) fun r2 =>
    some (r2, true)
theorem F_impl_PiecesBack_w {fu : Nat} {H : AH} {v0_0 : Value} {v0_1 : Value} {x0_0 : List Int} {x0_1 : List Int} {r : (List (List Int × List Int) × Bool)} (hx0_0 : Sl H v0_0 (ints x0_0)) (hx0_1 : Sl H v0_1 (ints x0_1)) (hF : F_impl_PiecesBack fu x0_0 x0_1 = some r) :
    ACallT Try.prog 46 [(Value.agg #[v0_0, v0_1])] H (fun u G => AgB (Fr H) H G ∧ ∃ u0 : Value, ∃ C0 : List Value, u = (Value.tuple #[u0, (Value.bool r.2)]) ∧ Sep G (Fr H) [rowsP u0 28 3 C0 r.1]) := by
 refine ACallT.of_body (nt := 9) (rs := [.tmp 2, .tmp 3]) Try.func46 rfl rfl rfl rfl ?_;have A0 : AgB (Fr H) H H := .refl _ _;have S0 : Sep H (Fr H) [] := .nil;have hB := Fr.up H;unfold F_impl_PiecesBack at hF;obtain ⟨G2, p4, q5, q6, a7, S1⟩ := S0.boxT (hB.le A0.1) 28 [v0_0, v0_1];have A3 := A0.ext (hB.le A0.1) a7;replace S1 : Sep G2 (Fr H) [AL.box p4 [v0_0, v0_1]] := S1;refine .sr fun K hK => ?_;simp [q5, q6, a7.to_pre, cells_agg];apply hK;clear hK K;refine .seq ?_;have q8 := S1.loadAgg (P := Try.prog) (k := 0) rfl sz_28 ag_28 rfl;obtain ⟨r1, hc9, hF⟩ := bd_some hF;refine .sr fun K hK => ?_;simp [q8, ((hx0_0.agree A3.agree).tup), ((hx0_1.agree A3.agree).tup)];refine CallD.t (F_impl_isCut_w (fu := fu) (hx0_0.agree A3.agree) (hx0_1.agree A3.agree) hc9) ?_;rintro _ G11 ⟨a14, rfl, S15⟩;have A13 := A3.ext (hB.le A3.1) a14.agree;have S12 : Sep G11 (Fr H) [AL.box p4 [v0_0, v0_1]] := S1.app a14.agree S15 (fun _ h => h) (hB.le A3.1);simp [q8, a14.pre];apply hK;clear hK K;refine DWp.cond' (t := (bnot r1)) (by simp []) (fun hb16 => ?_) (fun hb16 => ?_)
 ·replace hF := cd_t hb16 hF;refine .sr fun K hK => ?_;simp [];apply hK;clear hK K;refine DWp.ret ?_;simp only [andThen, leaves];have S17 := S12.rpNil (hB.le A13.1) 28 3;obtain rfl := Option.some.inj hF;exact ⟨by simp, [(Value.slice none 0 0), (Value.bool false)], by simp [], A13, nilV, [], rfl, S17.pick [1] (by decide) rfl⟩
 ·replace hF := cd_f hb16 hF;refine DWp.skip ?_;simp only [andThen, leaves];have q18 := S12.loadAgg (P := Try.prog) (k := 0) rfl sz_28 ag_28 rfl;obtain ⟨r2, hc19, hF⟩ := bd_some hF;refine .sr fun K hK => ?_;simp [q18, ((hx0_0.agree A13.agree).tup), ((hx0_1.agree A13.agree).tup)];refine CallD.t (F_impl_Meander_pieces_w (fu := fu) (hx0_0.agree A13.agree) (hx0_1.agree A13.agree) hc19) ?_;rintro c20_u0 G21 ⟨a24, _, c20_C0, rfl, S25⟩;have A23 := A13.ext (hB.le A13.1) a24.agree;have S22 : Sep G21 (Fr H) [AL.box p4 [v0_0, v0_1], rowsP c20_u0 28 3 c20_C0 r2] := S12.app a24.agree S25 (fun _ h => h) (hB.le A13.1);simp [q18, a24.pre];apply hK;clear hK K;refine DWp.ret ?_;obtain rfl := Option.some.inj hF;exact ⟨by simp, [c20_u0, (Value.bool true)], by simp [((S22.rdP (k := 1) rfl).tup)], A23, c20_u0, c20_C0, rfl, S22.pick [1] (by decide) rfl⟩
def F_spec_PiecesOf (fu : Nat) (x0_0 : List Int) (x0_1 : List Int) : Option (List (List Int × List Int) × Bool) :=
  bd (
    bd (F_spec_mePair fu x0_0 x0_1) fun r1 =>
    bif (bnot r1) then
      some true
    else
      some (ieq (llen x0_0) 0)) fun s8 =>
  bif s8 then
    some ([], false)
  else
    bd (F_spec_siPieces fu x0_0 x0_1 false) fun r2 =>
    some (r2, true)
theorem F_spec_PiecesOf_w {fu : Nat} {H : AH} {v0_0 : Value} {v0_1 : Value} {x0_0 : List Int} {x0_1 : List Int} {r : (List (List Int × List Int) × Bool)} (hx0_0 : Sl H v0_0 (ints x0_0)) (hx0_1 : Sl H v0_1 (ints x0_1)) (hF : F_spec_PiecesOf fu x0_0 x0_1 = some r) :
    ACallT Try.prog 50 [(Value.agg #[v0_0, v0_1])] H (fun u G => AgB (Fr H) H G ∧ ∃ u0 : Value, ∃ C0 : List Value, u = (Value.tuple #[u0, (Value.bool r.2)]) ∧ Sep G (Fr H) [rowsP u0 28 3 C0 r.1]) := by
 refine ACallT.of_body (nt := 15) (rs := [.tmp 2, .tmp 3]) Try.func50 rfl rfl rfl rfl ?_;have A0 : AgB (Fr H) H H := .refl _ _;have S0 : Sep H (Fr H) [] := .nil;have hB := Fr.up H;unfold F_spec_PiecesOf at hF;obtain ⟨G2, p4, q5, q6, a7, S1⟩ := S0.boxT (hB.le A0.1) 28 [v0_0, v0_1];have A3 := A0.ext (hB.le A0.1) a7;replace S1 : Sep G2 (Fr H) [AL.box p4 [v0_0, v0_1]] := S1;refine .sr fun K hK => ?_;simp [q5, q6, a7.to_pre, cells_agg];apply hK;clear hK K;refine .seq ?_;obtain ⟨s8, hL9, hF⟩ := bd_some hF;refine DWp.seq (DWp.join (fun env G => Sep G (Fr H) [AL.box p4 [v0_0, v0_1]] ∧ AgB (Fr H) H G ∧ env 1 = some p4 ∧ env 12 = some (Value.bool s8)) ?_ ?_)
 ·
  have q11 := S1.loadAgg (P := Try.prog) (k := 0) rfl sz_28 ag_28 rfl;obtain ⟨r1, hc12, hL9⟩ := bd_some hL9;refine .region fun K hK => ?_;simp [q11, ((hx0_0.agree A3.agree).tup), ((hx0_1.agree A3.agree).tup)];refine CallD.t (F_spec_mePair_w (fu := fu) (hx0_0.agree A3.agree) (hx0_1.agree A3.agree) hc12) ?_;rintro _ G14 ⟨a17, rfl, S18⟩;have A16 := A3.ext (hB.le A3.1) a17.agree;have S15 : Sep G14 (Fr H) [AL.box p4 [v0_0, v0_1]] := S1.app a17.agree S18 (fun _ h => h) (hB.le A3.1);rcases Bool.eq_false_or_eq_true (bnot r1) with hb19 | hb19
  ·replace hL9 := cd_t hb19 hL9;simp [hb19, q11, a17.pre];apply hK;clear hK K;simp only [andThen, leaves];have S20 := S15.pick [0] (by decide) rfl;obtain rfl := Option.some.inj hL9;exact ⟨S20, A16, by simp []⟩
  ·replace hL9 := cd_f hb19 hL9;have q21 := S15.fieldT (P := Try.prog) (k := 0) rfl fa_28_0;have q22 := S15.loadF (P := Try.prog) (k := 0) rfl sz_22 ag_22 (off := 0) rfl;have q23 := lenG (P := Try.prog) (hx0_0.agree A16.agree) el_22;simp [hb19, q11, a17.pre, q21, q22, q23];apply hK;clear hK K;simp only [andThen, leaves];have S24 := S15.pick [0] (by decide) rfl;obtain rfl := Option.some.inj hL9;exact ⟨S24, A16, by simp []⟩
 ·rintro env Gj25 ⟨Sj25, Aj25, ej25_1, ej25_12⟩;refine DWp.cond' (t := s8) (by simp [ej25_1, ej25_12]) (fun hb26 => ?_) (fun hb26 => ?_)
  ·replace hF := cd_t hb26 hF;refine .sr fun K hK => ?_;simp [ej25_1, ej25_12];apply hK;clear hK K;refine DWp.ret ?_;simp only [andThen, leaves];have S27 := Sj25.rpNil (hB.le Aj25.1) 28 3;obtain rfl := Option.some.inj hF;exact ⟨by simp, [(Value.slice none 0 0), (Value.bool false)], by simp [ej25_1, ej25_12], Aj25, nilV, [], rfl, S27.pick [1] (by decide) rfl⟩
  ·replace hF := cd_f hb26 hF;refine DWp.skip ?_;simp only [andThen, leaves];have q28 := Sj25.loadAgg (P := Try.prog) (k := 0) rfl sz_28 ag_28 rfl;obtain ⟨r2, hc29, hF⟩ := bd_some hF;refine .sr fun K hK => ?_;simp [ej25_1, ej25_12, q28, ((hx0_0.agree Aj25.agree).tup), ((hx0_1.agree Aj25.agree).tup)];refine CallD.t (F_spec_siPieces_w (fu := fu) (hx0_0.agree Aj25.agree) (hx0_1.agree Aj25.agree) hc29) ?_;rintro c30_u0 G31 ⟨a34, _, c30_C0, rfl, S35⟩;have A33 := Aj25.ext (hB.le Aj25.1) a34.agree;have S32 : Sep G31 (Fr H) [AL.box p4 [v0_0, v0_1], rowsP c30_u0 28 3 c30_C0 r2] := Sj25.app a34.agree S35 (fun _ h => h) (hB.le Aj25.1);simp [ej25_1, ej25_12, q28, a34.pre];apply hK;clear hK K;refine DWp.ret ?_;obtain rfl := Option.some.inj hF;exact ⟨by simp, [c30_u0, (Value.bool true)], by simp [ej25_1, ej25_12, ((S32.rdP (k := 1) rfl).tup)], A33, c30_u0, c30_C0, rfl, S32.pick [1] (by decide) rfl⟩
def F_impl_PiecesOf (fu : Nat) (x0_0 : List Int) (x0_1 : List Int) : Option (List (List Int × List Int) × Bool) :=
  bd (F_impl_isCut fu x0_0 x0_1) fun r1 =>
  bif (bnot r1) then
    some ([], false)
  else
    bd (F_impl_Meander_pieces fu x0_0 x0_1 false) fun r2 =>
    some (r2, true)
theorem F_impl_PiecesOf_w {fu : Nat} {H : AH} {v0_0 : Value} {v0_1 : Value} {x0_0 : List Int} {x0_1 : List Int} {r : (List (List Int × List Int) × Bool)} (hx0_0 : Sl H v0_0 (ints x0_0)) (hx0_1 : Sl H v0_1 (ints x0_1)) (hF : F_impl_PiecesOf fu x0_0 x0_1 = some r) :
    ACallT Try.prog 51 [(Value.agg #[v0_0, v0_1])] H (fun u G => AgB (Fr H) H G ∧ ∃ u0 : Value, ∃ C0 : List Value, u = (Value.tuple #[u0, (Value.bool r.2)]) ∧ Sep G (Fr H) [rowsP u0 28 3 C0 r.1]) := by
 refine ACallT.of_body (nt := 9) (rs := [.tmp 2, .tmp 3]) Try.func51 rfl rfl rfl rfl ?_;have A0 : AgB (Fr H) H H := .refl _ _;have S0 : Sep H (Fr H) [] := .nil;have hB := Fr.up H;unfold F_impl_PiecesOf at hF;obtain ⟨G2, p4, q5, q6, a7, S1⟩ := S0.boxT (hB.le A0.1) 28 [v0_0, v0_1];have A3 := A0.ext (hB.le A0.1) a7;replace S1 : Sep G2 (Fr H) [AL.box p4 [v0_0, v0_1]] := S1;refine .sr fun K hK => ?_;simp [q5, q6, a7.to_pre, cells_agg];apply hK;clear hK K;refine .seq ?_;have q8 := S1.loadAgg (P := Try.prog) (k := 0) rfl sz_28 ag_28 rfl;obtain ⟨r1, hc9, hF⟩ := bd_some hF;refine .sr fun K hK => ?_;simp [q8, ((hx0_0.agree A3.agree).tup), ((hx0_1.agree A3.agree).tup)];refine CallD.t (F_impl_isCut_w (fu := fu) (hx0_0.agree A3.agree) (hx0_1.agree A3.agree) hc9) ?_;rintro _ G11 ⟨a14, rfl, S15⟩;have A13 := A3.ext (hB.le A3.1) a14.agree;have S12 : Sep G11 (Fr H) [AL.box p4 [v0_0, v0_1]] := S1.app a14.agree S15 (fun _ h => h) (hB.le A3.1);simp [q8, a14.pre];apply hK;clear hK K;refine DWp.cond' (t := (bnot r1)) (by simp []) (fun hb16 => ?_) (fun hb16 => ?_)
 ·replace hF := cd_t hb16 hF;refine .sr fun K hK => ?_;simp [];apply hK;clear hK K;refine DWp.ret ?_;simp only [andThen, leaves];have S17 := S12.rpNil (hB.le A13.1) 28 3;obtain rfl := Option.some.inj hF;exact ⟨by simp, [(Value.slice none 0 0), (Value.bool false)], by simp [], A13, nilV, [], rfl, S17.pick [1] (by decide) rfl⟩
 ·replace hF := cd_f hb16 hF;refine DWp.skip ?_;simp only [andThen, leaves];have q18 := S12.loadAgg (P := Try.prog) (k := 0) rfl sz_28 ag_28 rfl;obtain ⟨r2, hc19, hF⟩ := bd_some hF;refine .sr fun K hK => ?_;simp [q18, ((hx0_0.agree A13.agree).tup), ((hx0_1.agree A13.agree).tup)];refine CallD.t (F_impl_Meander_pieces_w (fu := fu) (hx0_0.agree A13.agree) (hx0_1.agree A13.agree) hc19) ?_;rintro c20_u0 G21 ⟨a24, _, c20_C0, rfl, S25⟩;have A23 := A13.ext (hB.le A13.1) a24.agree;have S22 : Sep G21 (Fr H) [AL.box p4 [v0_0, v0_1], rowsP c20_u0 28 3 c20_C0 r2] := S12.app a24.agree S25 (fun _ h => h) (hB.le A13.1);simp [q18, a24.pre];apply hK;clear hK K;refine DWp.ret ?_;obtain rfl := Option.some.inj hF;exact ⟨by simp, [c20_u0, (Value.bool true)], by simp [((S22.rdP (k := 1) rfl).tup)], A23, c20_u0, c20_C0, rfl, S22.pick [1] (by decide) rfl⟩
end Go.Proofs.Ytbckijeffiofdaa.AL
