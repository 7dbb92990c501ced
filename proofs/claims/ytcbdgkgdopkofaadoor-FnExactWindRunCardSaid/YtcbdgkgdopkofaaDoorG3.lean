/- The walks of functions, each with its Lean function: strconv.small, bits.Len64, strconv.log10Pow2, strconv.bool2[int], strconv.isPowerOfTwo, strconv.FormatInt, strconv.Itoa, strconv.Itoa, impl.partsText, impl.seaweedText. No condition. -/
import Derived.Test.YtcbdgkgdopkofaaDoorG1
import Derived.Test.YtcbdgkgdopkofaaDoorG2
import Derived.Test.YtcbdgkgdopkofaaDoorGJoin
import Derived.Test.YtcbdgkgdopkofaaDoorALD
import Derived.Test.YtcbdgkgdopkofaaDoorProg
import Derived.KernelRfl
namespace Go.Proofs.YtcbdgkgdopkofaaDoor.AL
open Go Go.RowKit
set_option linter.unusedVariables false
set_option linter.unusedSimpArgs false
set_option maxRecDepth 4096
attribute [local simp] n_fn b_add b_sub b_mul b_lt b_le b_gt b_ge b_eq b_ne u_not
theorem ei_9 : einfo Tryd.prog 9 = some ⟨1, 16, .string (ByteArray.mk #[])⟩ := by kernel_rfl
theorem el_32 : elemT Tryd.prog 32 = some 9 := by kernel_rfl
theorem un_104 : Tryd.prog.underlying 104 = some (.int .u64) := by kernel_rfl
theorem un_2 : Tryd.prog.underlying 2 = some (.int .i64) := by kernel_rfl
theorem ze_111 : zeroT Tryd.prog 111 = some (.agg #[.int .u8 0, .int .u8 0, .int .u8 0, .int .u8 0, .int .u8 0, .int .u8 0, .int .u8 0, .int .u8 0, .int .u8 0, .int .u8 0, .int .u8 0, .int .u8 0, .int .u8 0, .int .u8 0, .int .u8 0, .int .u8 0, .int .u8 0, .int .u8 0, .int .u8 0, .int .u8 0, .int .u8 0, .int .u8 0, .int .u8 0, .int .u8 0]) := by kernel_rfl
def F_istrconv_small (fu : Nat) (x0 : Int) : Option (ByteArray) :=
  bif (ilt x0 10) then
    gd (subS (ByteArray.mk #[48, 49, 50, 51, 52, 53, 54, 55, 56, 57, 97, 98, 99, 100, 101, 102, 103, 104, 105, 106, 107, 108, 109, 110, 111, 112, 113, 114, 115, 116, 117, 118, 119, 120, 121, 122]) x0 (iadd .i64 x0 1)) (
    some (ssub (ByteArray.mk #[48, 49, 50, 51, 52, 53, 54, 55, 56, 57, 97, 98, 99, 100, 101, 102, 103, 104, 105, 106, 107, 108, 109, 110, 111, 112, 113, 114, 115, 116, 117, 118, 119, 120, 121, 122]) x0 (iadd .i64 x0 1)))
  else
    gd (subS (ByteArray.mk #[48, 48, 48, 49, 48, 50, 48, 51, 48, 52, 48, 53, 48, 54, 48, 55, 48, 56, 48, 57, 49, 48, 49, 49, 49, 50, 49, 51, 49, 52, 49, 53, 49, 54, 49, 55, 49, 56, 49, 57, 50, 48, 50, 49, 50, 50, 50, 51, 50, 52, 50, 53, 50, 54, 50, 55, 50, 56, 50, 57, 51, 48, 51, 49, 51, 50, 51, 51, 51, 52, 51, 53, 51, 54, 51, 55, 51, 56, 51, 57, 52, 48, 52, 49, 52, 50, 52, 51, 52, 52, 52, 53, 52, 54, 52, 55, 52, 56, 52, 57, 53, 48, 53, 49, 53, 50, 53, 51, 53, 52, 53, 53, 53, 54, 53, 55, 53, 56, 53, 57, 54, 48, 54, 49, 54, 50, 54, 51, 54, 52, 54, 53, 54, 54, 54, 55, 54, 56, 54, 57, 55, 48, 55, 49, 55, 50, 55, 51, 55, 52, 55, 53, 55, 54, 55, 55, 55, 56, 55, 57, 56, 48, 56, 49, 56, 50, 56, 51, 56, 52, 56, 53, 56, 54, 56, 55, 56, 56, 56, 57, 57, 48, 57, 49, 57, 50, 57, 51, 57, 52, 57, 53, 57, 54, 57, 55, 57, 56, 57, 57]) (imul .i64 x0 2) (iadd .i64 (imul .i64 x0 2) 2)) (
    some (ssub (ByteArray.mk #[48, 48, 48, 49, 48, 50, 48, 51, 48, 52, 48, 53, 48, 54, 48, 55, 48, 56, 48, 57, 49, 48, 49, 49, 49, 50, 49, 51, 49, 52, 49, 53, 49, 54, 49, 55, 49, 56, 49, 57, 50, 48, 50, 49, 50, 50, 50, 51, 50, 52, 50, 53, 50, 54, 50, 55, 50, 56, 50, 57, 51, 48, 51, 49, 51, 50, 51, 51, 51, 52, 51, 53, 51, 54, 51, 55, 51, 56, 51, 57, 52, 48, 52, 49, 52, 50, 52, 51, 52, 52, 52, 53, 52, 54, 52, 55, 52, 56, 52, 57, 53, 48, 53, 49, 53, 50, 53, 51, 53, 52, 53, 53, 53, 54, 53, 55, 53, 56, 53, 57, 54, 48, 54, 49, 54, 50, 54, 51, 54, 52, 54, 53, 54, 54, 54, 55, 54, 56, 54, 57, 55, 48, 55, 49, 55, 50, 55, 51, 55, 52, 55, 53, 55, 54, 55, 55, 55, 56, 55, 57, 56, 48, 56, 49, 56, 50, 56, 51, 56, 52, 56, 53, 56, 54, 56, 55, 56, 56, 56, 57, 57, 48, 57, 49, 57, 50, 57, 51, 57, 52, 57, 53, 57, 54, 57, 55, 57, 56, 57, 57]) (imul .i64 x0 2) (iadd .i64 (imul .i64 x0 2) 2)))
theorem F_istrconv_small_w {fu : Nat} {H : AH}  {x0 : Int} {r : (ByteArray)}  (hF : F_istrconv_small fu x0 = some r) :
    ACallT Tryd.prog 93 [(Value.int .i64 x0)] H (fun u G => AgB (Fr H) H G ∧ u = (Value.string r) ∧ Sep G (Fr H) []) := by
 refine ACallT.of_body (nt := 15) (rs := [.tmp 2]) Tryd.func93 rfl rfl rfl rfl ?_;have A0 : AgB (Fr H) H H := .refl _ _;have S0 : Sep H (Fr H) [] := .nil;have hB := Fr.up H;unfold F_istrconv_small at hF;refine .sr fun K hK => ?_;simp [];apply hK;clear hK K;refine .seq ?_;refine .sr fun K hK => ?_;simp [];apply hK;clear hK K;refine DWp.cond' (t := (ilt x0 10)) (by simp []) (fun hb1 => ?_) (fun hb1 => ?_)
 ·replace hF := cd_t hb1 hF;obtain ⟨g2, hF⟩ := gd_some hF;have q3 := strSub11 (P := Tryd.prog) (G := H) un_9 g2;refine .sr fun K hK => ?_;simp [q3];apply hK;clear hK K;refine DWp.ret ?_;simp only [andThen, leaves];obtain rfl := Option.some.inj hF;exact ⟨by simp, [(Value.string (ssub (ByteArray.mk #[48, 49, 50, 51, 52, 53, 54, 55, 56, 57, 97, 98, 99, 100, 101, 102, 103, 104, 105, 106, 107, 108, 109, 110, 111, 112, 113, 114, 115, 116, 117, 118, 119, 120, 121, 122]) x0 (iadd .i64 x0 1)))], by simp [], A0, rfl, S0.pick [] (by decide) rfl⟩
 ·replace hF := cd_f hb1 hF;refine DWp.skip ?_;simp only [andThen, leaves];obtain ⟨g4, hF⟩ := gd_some hF;have q5 := strSub11 (P := Tryd.prog) (G := H) un_9 g4;refine .sr fun K hK => ?_;simp [q5];apply hK;clear hK K;refine DWp.ret ?_;obtain rfl := Option.some.inj hF;exact ⟨by simp, [(Value.string (ssub (ByteArray.mk #[48, 48, 48, 49, 48, 50, 48, 51, 48, 52, 48, 53, 48, 54, 48, 55, 48, 56, 48, 57, 49, 48, 49, 49, 49, 50, 49, 51, 49, 52, 49, 53, 49, 54, 49, 55, 49, 56, 49, 57, 50, 48, 50, 49, 50, 50, 50, 51, 50, 52, 50, 53, 50, 54, 50, 55, 50, 56, 50, 57, 51, 48, 51, 49, 51, 50, 51, 51, 51, 52, 51, 53, 51, 54, 51, 55, 51, 56, 51, 57, 52, 48, 52, 49, 52, 50, 52, 51, 52, 52, 52, 53, 52, 54, 52, 55, 52, 56, 52, 57, 53, 48, 53, 49, 53, 50, 53, 51, 53, 52, 53, 53, 53, 54, 53, 55, 53, 56, 53, 57, 54, 48, 54, 49, 54, 50, 54, 51, 54, 52, 54, 53, 54, 54, 54, 55, 54, 56, 54, 57, 55, 48, 55, 49, 55, 50, 55, 51, 55, 52, 55, 53, 55, 54, 55, 55, 55, 56, 55, 57, 56, 48, 56, 49, 56, 50, 56, 51, 56, 52, 56, 53, 56, 54, 56, 55, 56, 56, 56, 57, 57, 48, 57, 49, 57, 50, 57, 51, 57, 52, 57, 53, 57, 54, 57, 55, 57, 56, 57, 57]) (imul .i64 x0 2) (iadd .i64 (imul .i64 x0 2) 2)))], by simp [], A0, rfl, S0.pick [] (by decide) rfl⟩
def F_istrconv_FormatInt (fu : Nat) (x0 : Int) (x1 : Int) : Option (ByteArray) :=
  bif (ieq x1 10) then
    bd (
      bif (ile 0 x0) then
        some (ilt x0 100)
      else
        some false) fun s2 =>
    bif s2 then
      bd (F_istrconv_small fu x0) fun r1 =>
      some r1
    else
      bd (
        bif (ilt x0 0) then
          some (isub .u64 0 (iwr .u64 x0))
        else
          some (iwr .u64 x0)) fun s24 =>
      none
  else
    none
theorem F_istrconv_FormatInt_w {fu : Nat} {H : AH}  {x0 : Int} {x1 : Int} {r : (ByteArray)}  (hF : F_istrconv_FormatInt fu x0 x1 = some r) :
    ACallT Tryd.prog 82 [(Value.int .i64 x0), (Value.int .i64 x1)] H (fun u G => AgB (Fr H) H G ∧ u = (Value.string r) ∧ Sep G (Fr H) []) := by
 refine ACallT.of_body (nt := 54) (rs := [.tmp 4]) Tryd.func82 rfl rfl rfl rfl ?_;have A0 : AgB (Fr H) H H := .refl _ _;have S0 : Sep H (Fr H) [] := .nil;have hB := Fr.up H;unfold F_istrconv_FormatInt at hF;refine .sr fun K hK => ?_;simp [];apply hK;clear hK K;refine .seq ?_;refine .sr fun K hK => ?_;simp [];apply hK;clear hK K;refine DWp.cond' (t := (ieq x1 10)) (by simp []) (fun hb1 => ?_) (fun hb1 => ?_)
 ·replace hF := cd_t hb1 hF;refine .seq ?_;obtain ⟨s2, hL3, hF⟩ := bd_some hF;refine DWp.seq (DWp.join (fun env G => Sep G (Fr H) [] ∧ AgB (Fr H) H G ∧ env 0 = some (Value.int .i64 x0) ∧ env 17 = some (Value.bool s2)) ?_ ?_)
  ·
   rcases Bool.eq_false_or_eq_true (ile 0 x0) with hb5 | hb5
   ·replace hL3 := cd_t hb5 hL3;refine .region fun K hK => ?_;simp [hb5];apply hK;clear hK K;simp only [andThen, leaves];have S6 := S0.pick [] (by decide) rfl;obtain rfl := Option.some.inj hL3;exact ⟨S6, A0, by simp []⟩
   ·replace hL3 := cd_f hb5 hL3;refine .region fun K hK => ?_;simp [hb5];apply hK;clear hK K;simp only [andThen, leaves];have S7 := S0.pick [] (by decide) rfl;obtain rfl := Option.some.inj hL3;exact ⟨S7, A0, by simp []⟩
  ·rintro env Gj8 ⟨Sj8, Aj8, ej8_⟩;refine DWp.cond' (t := s2) (by simp [ej8_]) (fun hb9 => ?_) (fun hb9 => ?_)
   ·replace hF := cd_t hb9 hF;obtain ⟨r1, hc10, hF⟩ := bd_some hF;refine .sr fun K hK => ?_;simp [ej8_];refine CallD.t (F_istrconv_small_w (fu := fu)  hc10) ?_;rintro _ G12 ⟨a15, rfl, S16⟩;have A14 := Aj8.ext (hB.le Aj8.1) a15.agree;have S13 : Sep G12 (Fr H) [] := Sj8.app a15.agree S16 (fun _ h => h) (hB.le Aj8.1);simp [ej8_, a15.pre];apply hK;clear hK K;refine DWp.ret ?_;simp only [andThen, leaves];obtain rfl := Option.some.inj hF;exact ⟨by simp, [(Value.string r1)], by simp [ej8_], A14, rfl, S13.pick [] (by decide) rfl⟩
   ·replace hF := cd_f hb9 hF;refine DWp.skip ?_;simp only [andThen, leaves];obtain ⟨G18, p20, q21, q23, a22, S17⟩ := Sj8.allocT (P := Tryd.prog) (hB.le Aj8.1) ze_111 rfl;have A19 := Aj8.ext (hB.le Aj8.1) a22;replace S17 : Sep G18 (Fr H) [AL.box p20 [(Value.int .u8 0), (Value.int .u8 0), (Value.int .u8 0), (Value.int .u8 0), (Value.int .u8 0), (Value.int .u8 0), (Value.int .u8 0), (Value.int .u8 0), (Value.int .u8 0), (Value.int .u8 0), (Value.int .u8 0), (Value.int .u8 0), (Value.int .u8 0), (Value.int .u8 0), (Value.int .u8 0), (Value.int .u8 0), (Value.int .u8 0), (Value.int .u8 0), (Value.int .u8 0), (Value.int .u8 0), (Value.int .u8 0), (Value.int .u8 0), (Value.int .u8 0), (Value.int .u8 0)]] := S17;refine .sr fun K hK => ?_;simp [ej8_, q21, q23, a22.to_pre];apply hK;clear hK K;refine .sr fun K hK => ?_;simp [ej8_, c_int un_2 un_104];apply hK;clear hK K;obtain ⟨s24, hL25, hF⟩ := bd_some hF;refine DWp.seq (DWp.join (fun env G => Sep G (Fr H) [AL.box p20 [(Value.int .u8 0), (Value.int .u8 0), (Value.int .u8 0), (Value.int .u8 0), (Value.int .u8 0), (Value.int .u8 0), (Value.int .u8 0), (Value.int .u8 0), (Value.int .u8 0), (Value.int .u8 0), (Value.int .u8 0), (Value.int .u8 0), (Value.int .u8 0), (Value.int .u8 0), (Value.int .u8 0), (Value.int .u8 0), (Value.int .u8 0), (Value.int .u8 0), (Value.int .u8 0), (Value.int .u8 0), (Value.int .u8 0), (Value.int .u8 0), (Value.int .u8 0), (Value.int .u8 0)]] ∧ AgB (Fr H) H G ∧ env 0 = some (Value.int .i64 x0) ∧ env 5 = some p20 ∧ env 6 = some (Value.int .u64 s24)) ?_ ?_)
    ·
     refine .sr fun K hK => ?_;simp [ej8_];apply hK;clear hK K;refine DWp.cond' (t := (ilt x0 0)) (by simp [ej8_]) (fun hb27 => ?_) (fun hb27 => ?_)
     ·replace hL25 := cd_t hb27 hL25;refine .region fun K hK => ?_;simp [ej8_, u_neg];apply hK;clear hK K;simp only [andThen, leaves];have S28 := S17.pick [0] (by decide) rfl;obtain rfl := Option.some.inj hL25;exact ⟨S28, A19, by simp [ej8_]⟩
     ·replace hL25 := cd_f hb27 hL25;refine DWp.skip ?_;simp only [andThen, leaves];have S29 := S17.pick [0] (by decide) rfl;obtain rfl := Option.some.inj hL25;exact ⟨S29, A19, by simp [ej8_]⟩
    ·rintro env Gj30 ⟨Sj30, Aj30, ej30_⟩;cases hF
 ·replace hF := cd_f hb1 hF;refine DWp.skip ?_;simp only [andThen, leaves];cases hF
def F_istrconv_Itoa (fu : Nat) (x0 : Int) : Option (ByteArray) :=
  bd (F_istrconv_FormatInt fu x0 10) fun r1 =>
  some r1
theorem F_istrconv_Itoa_w {fu : Nat} {H : AH}  {x0 : Int} {r : (ByteArray)}  (hF : F_istrconv_Itoa fu x0 = some r) :
    ACallT Tryd.prog 65 [(Value.int .i64 x0)] H (fun u G => AgB (Fr H) H G ∧ u = (Value.string r) ∧ Sep G (Fr H) []) := by
 refine ACallT.of_body (nt := 5) (rs := [.tmp 2]) Tryd.func65 rfl rfl rfl rfl ?_;have A0 : AgB (Fr H) H H := .refl _ _;have S0 : Sep H (Fr H) [] := .nil;have hB := Fr.up H;unfold F_istrconv_Itoa at hF;refine .sr fun K hK => ?_;simp [];apply hK;clear hK K;obtain ⟨r1, hc1, hF⟩ := bd_some hF;refine .sr fun K hK => ?_;simp [];refine CallD.t (F_istrconv_FormatInt_w (fu := fu)  hc1) ?_;rintro _ G3 ⟨a6, rfl, S7⟩;have A5 := A0.ext (hB.le A0.1) a6.agree;have S4 : Sep G3 (Fr H) [] := S0.app a6.agree S7 (fun _ h => h) (hB.le A0.1);simp [a6.pre];apply hK;clear hK K;refine DWp.ret ?_;obtain rfl := Option.some.inj hF;exact ⟨by simp, [(Value.string r1)], by simp [], A5, rfl, S4.pick [] (by decide) rfl⟩
def F_strconv_Itoa (fu : Nat) (x0 : Int) : Option (ByteArray) :=
  bd (F_istrconv_Itoa fu x0) fun r1 =>
  some r1
theorem F_strconv_Itoa_w {fu : Nat} {H : AH}  {x0 : Int} {r : (ByteArray)}  (hF : F_strconv_Itoa fu x0 = some r) :
    ACallT Tryd.prog 54 [(Value.int .i64 x0)] H (fun u G => AgB (Fr H) H G ∧ u = (Value.string r) ∧ Sep G (Fr H) []) := by
 refine ACallT.of_body (nt := 5) (rs := [.tmp 2]) Tryd.func54 rfl rfl rfl rfl ?_;have A0 : AgB (Fr H) H H := .refl _ _;have S0 : Sep H (Fr H) [] := .nil;have hB := Fr.up H;unfold F_strconv_Itoa at hF;refine .sr fun K hK => ?_;simp [];apply hK;clear hK K;obtain ⟨r1, hc1, hF⟩ := bd_some hF;refine .sr fun K hK => ?_;simp [];refine CallD.t (F_istrconv_Itoa_w (fu := fu)  hc1) ?_;rintro _ G3 ⟨a6, rfl, S7⟩;have A5 := A0.ext (hB.le A0.1) a6.agree;have S4 : Sep G3 (Fr H) [] := S0.app a6.agree S7 (fun _ h => h) (hB.le A0.1);simp [a6.pre];apply hK;clear hK K;refine DWp.ret ?_;obtain rfl := Option.some.inj hF;exact ⟨by simp, [(Value.string r1)], by simp [], A5, rfl, S4.pick [] (by decide) rfl⟩
def F_impl_partsText_L1 (fu : Nat) (k1_0 : List Int) (k1_1 : Int) : Nat → List ByteArray → Int → Option (List ByteArray × Int)
  | 0, _, _ => none
  | n + 1, l1_0, y1_9 =>
    bif (ilt y1_9 k1_1) then
      gd (inL k1_0 y1_9) (
      bd (F_strconv_Itoa fu (gat 0 k1_0 y1_9)) fun r1 =>
      gd (l1_0.length + [r1].length ≤ 4294967296) (
      F_impl_partsText_L1 fu k1_0 k1_1 n (lapp l1_0 [r1]) (iadd .i64 y1_9 1)))
    else
      some (l1_0, y1_9)
def F_impl_partsText (fu : Nat) (x0 : List Int) : Option (ByteArray) :=
  bd (F_impl_partsText_L1 fu x0 (llen x0) fu (@List.nil ByteArray) 0) fun s1 =>
  bif (ieq (llen s1.1) 0) then
    some (ByteArray.mk #[45])
  else
    bd (F_strings_Join fu s1.1 (ByteArray.mk #[43])) fun r2 =>
    some r2
theorem F_impl_partsText_w {fu : Nat} {H : AH} {v0 : Value} {x0 : List Int} {r : (ByteArray)} (hx0 : Sl H v0 (ints x0)) (hF : F_impl_partsText fu x0 = some r) :
    ACallT Tryd.prog 40 [v0] H (fun u G => AgB (Fr H) H G ∧ u = (Value.string r) ∧ Sep G (Fr H) []) := by
 refine ACallT.of_body (nt := 24) (rs := [.tmp 2]) Tryd.func40 rfl rfl rfl rfl ?_;have A0 : AgB (Fr H) H H := .refl _ _;have S0 : Sep H (Fr H) [] := .nil;have hB := Fr.up H;unfold F_impl_partsText at hF;refine .sr fun K hK => ?_;simp [];apply hK;clear hK K;obtain ⟨v1, G2, q3, S4, a6, _, _⟩ := S0.lit0 (P := Tryd.prog) (t := 32) (hB.le A0.1) el_32 ei_9 rfl;have A5 := A0.ext (hB.le A0.1) a6;replace S4 : Sep G2 (Fr H) [flat1 v1 9 (strs (@List.nil ByteArray))] := S4;refine .sr fun K hK => ?_;simp [q3, a6.to_pre];apply hK;clear hK K;refine .seq ?_;have q8 := lenG (P := Tryd.prog) (hx0.agree A5.agree) el_22;refine .sr fun K hK => ?_;simp [q8];apply hK;clear hK K;refine .block ?_;obtain ⟨s9, hL10, hF⟩ := bd_some hF;have S11 := S4.pick [0] (by decide) rfl;have S12 := S11.weak (k := 0) rfl;refine DWp.loop (fun n env G => ∃ l1_0 : List ByteArray, ∃ y1_9 : Int, ∃ w1_0 : Value, F_impl_partsText_L1 fu x0 (llen x0) n l1_0 y1_9 = some s9 ∧ Sep G (Fr H) [flat w1_0 9 (strs l1_0)] ∧ AgB (Fr H) H G ∧ env 3 = some w1_0 ∧ env 7 = some v0 ∧ env 8 = some (Value.int .i64 (llen x0)) ∧ env 9 = some (Value.int .i64 y1_9)) fu ⟨(@List.nil ByteArray), 0, v1, hL10, S12, A5, by simp []⟩ ?_;rintro n1 env1 G1_ ⟨l1_0, y1_9, w1_0, hL10, S1_, A1_, e1_⟩;cases n1 with
 | zero => cases hL10
 | succ n1 =>
  simp only [F_impl_partsText_L1] at hL10;refine .sr fun K hK => ?_;simp [e1_];apply hK;clear hK K;refine .seq ?_;refine DWp.cond' (t := (ilt y1_9 (llen x0))) (by simp [e1_]) (fun hb13 => ?_) (fun hb13 => ?_)
  ·replace hL10 := cd_t hb13 hL10;refine DWp.skip ?_;simp only [andThen, leaves];refine .seq ?_;refine .block ?_;obtain ⟨g14, hL10⟩ := gd_some hL10;have q15 := idxG (P := Tryd.prog) (kk := .i64) (hx0.agree A1_.agree) el_22 sz_3 g14;have q16 := loadG (P := Tryd.prog) (hx0.agree A1_.agree) sz_3 ag_3 g14 0;refine .sr fun K hK => ?_;simp [e1_, q15, q16];apply hK;clear hK K;obtain ⟨r1, hc17, hL10⟩ := bd_some hL10;refine .region fun K hK => ?_;simp [e1_];refine CallD.t (F_strconv_Itoa_w (fu := fu)  hc17) ?_;rintro _ G19 ⟨a22, rfl, S23⟩;have A21 := A1_.ext (hB.le A1_.1) a22.agree;have S20 : Sep G19 (Fr H) [flat w1_0 9 (strs l1_0)] := S1_.app a22.agree S23 (fun _ h => h) (hB.le A1_.1);obtain ⟨v24, G25, q26, S27, a29, _, _⟩ := S20.lit1 (P := Tryd.prog) (t := 32) (hB.le A21.1) el_32 ei_9 rfl (Value.string r1) rfl rfl;have A28 := A21.ext (hB.le A21.1) a29;replace S27 : Sep G25 (Fr H) [flat w1_0 9 (strs l1_0), flat1 v24 9 (strs [r1])] := S27;obtain ⟨g31, hL10⟩ := gd_some hL10;obtain ⟨v37, G32, q33, S34, a36, _, _⟩ := S27.appendG (f := Value.string) (xs := l1_0) (ys := [r1]) (P := Tryd.prog) (t := 32) (t2 := 32) (k := 0) rfl (hB.le A28.1) el_32 el_32 ei_9 rfl (S27.sl1 (k := 1) rfl) g31;have A35 := A28.trans a36;replace S34 : Sep G32 (Fr H) [flat v37 9 (strs (lapp l1_0 [r1])), flat1 v24 9 (strs [r1])] := S34;simp [e1_, a22.pre, q26, a29.to_pre, q33];apply hK;clear hK K;simp only [andThen, leaves];refine .region fun K hK => ?_;simp [e1_];apply hK;clear hK K;simp only [andThen, leaves];have S38 := S34.pick [0] (by decide) rfl;exact ⟨n1, Nat.lt_succ_self _, (lapp l1_0 [r1]), (iadd .i64 y1_9 1), v37, hL10, S38, A35, by simp [e1_]⟩
  ·replace hL10 := cd_f hb13 hL10;refine DWp.exit ?_;simp only [andThen, leaves, if_true, if_false, reduceIte, Nat.reduceEqDiff];obtain rfl := Option.some.inj hL10;try dsimp only at hF
   refine .seq ?_;have q39 := lenG (P := Tryd.prog) (S1_.sl (k := 0) rfl) el_32;refine .sr fun K hK => ?_;simp [e1_, q39];apply hK;clear hK K;refine DWp.cond' (t := (ieq (llen l1_0) 0)) (by simp [e1_]) (fun hb40 => ?_) (fun hb40 => ?_)
   ·replace hF := cd_t hb40 hF;refine .sr fun K hK => ?_;simp [e1_];apply hK;clear hK K;refine DWp.ret ?_;simp only [andThen, leaves];obtain rfl := Option.some.inj hF;exact ⟨by simp, [(Value.string (ByteArray.mk #[45]))], by simp [e1_], A1_, rfl, S1_.pick [] (by decide) rfl⟩
   ·replace hF := cd_f hb40 hF;refine DWp.skip ?_;simp only [andThen, leaves];obtain ⟨r2, hc41, hF⟩ := bd_some hF;refine .sr fun K hK => ?_;simp [e1_, ((S1_.sl (k := 0) rfl).tup)];refine CallD.t (F_strings_Join_w (fu := fu) (S1_.sl (k := 0) rfl) hc41) ?_;rintro _ G43 ⟨a46, rfl, S47⟩;have A45 := A1_.ext (hB.le A1_.1) a46.agree;have S44 : Sep G43 (Fr H) [flat w1_0 9 (strs l1_0)] := S1_.app a46.agree S47 (fun _ h => h) (hB.le A1_.1);simp [e1_, a46.pre];apply hK;clear hK K;refine DWp.ret ?_;obtain rfl := Option.some.inj hF;exact ⟨by simp, [(Value.string r2)], by simp [e1_], A45, rfl, S44.pick [] (by decide) rfl⟩
def F_impl_seaweedText (fu : Nat) (x0_0 : List Int) (x0_1 : List Int) : Option (ByteArray) :=
  bd (F_impl_partsText fu x0_0) fun r1 =>
  gd (r1.size + (ByteArray.mk #[124]).size ≤ 9223372036854775807) (
  bd (F_impl_partsText fu x0_1) fun r2 =>
  gd ((sapp r1 (ByteArray.mk #[124])).size + r2.size ≤ 9223372036854775807) (
  some (sapp (sapp r1 (ByteArray.mk #[124])) r2)))
theorem F_impl_seaweedText_w {fu : Nat} {H : AH} {v0_0 : Value} {v0_1 : Value} {x0_0 : List Int} {x0_1 : List Int} {r : (ByteArray)} (hx0_0 : Sl H v0_0 (ints x0_0)) (hx0_1 : Sl H v0_1 (ints x0_1)) (hF : F_impl_seaweedText fu x0_0 x0_1 = some r) :
    ACallT Tryd.prog 25 [(Value.agg #[v0_0, v0_1])] H (fun u G => AgB (Fr H) H G ∧ u = (Value.string r) ∧ Sep G (Fr H) []) := by
 refine ACallT.of_body (nt := 11) (rs := [.tmp 2]) Tryd.func25 rfl rfl rfl rfl ?_;have A0 : AgB (Fr H) H H := .refl _ _;have S0 : Sep H (Fr H) [] := .nil;have hB := Fr.up H;unfold F_impl_seaweedText at hF;obtain ⟨G2, p4, q5, q6, a7, S1⟩ := S0.boxT (hB.le A0.1) 28 [v0_0, v0_1];have A3 := A0.ext (hB.le A0.1) a7;replace S1 : Sep G2 (Fr H) [AL.box p4 [v0_0, v0_1]] := S1;refine .sr fun K hK => ?_;simp [q5, q6, a7.to_pre, cells_agg];apply hK;clear hK K;have q8 := S1.fieldT (P := Tryd.prog) (k := 0) rfl fa_28_0;have q9 := S1.loadF (P := Tryd.prog) (k := 0) rfl sz_22 ag_22 (off := 0) rfl;obtain ⟨r1, hc10, hF⟩ := bd_some hF;refine .sd (B := [0, 1, 3, 7, 0, 16, 55, 127, 255]) 9 mixed (by kernel_rfl) (by decide) fun K hK => ?_;simp [q8, q9, ((hx0_0.agree A3.agree).tup)];refine CallD.t (F_impl_partsText_w (fu := fu) (hx0_0.agree A3.agree) hc10) ?_;rintro _ G12 ⟨a15, rfl, S16⟩;have A14 := A3.ext (hB.le A3.1) a15.agree;have S13 : Sep G12 (Fr H) [AL.box p4 [v0_0, v0_1]] := S1.app a15.agree S16 (fun _ h => h) (hB.le A3.1);obtain ⟨g17, hF⟩ := gd_some hF;have q18 := S13.fieldT (P := Tryd.prog) (k := 0) rfl fa_28_1;have q19 := S13.loadF (P := Tryd.prog) (k := 0) rfl sz_22 ag_22 (off := 1) rfl;obtain ⟨r2, hc20, hF⟩ := bd_some hF;simp [q8, q9, a15.pre, s_add g17, q18, q19, ((hx0_1.agree A14.agree).tup)];refine CallD.t (F_impl_partsText_w (fu := fu) (hx0_1.agree A14.agree) hc20) ?_;rintro _ G22 ⟨a25, rfl, S26⟩;have A24 := A14.ext (hB.le A14.1) a25.agree;have S23 : Sep G22 (Fr H) [AL.box p4 [v0_0, v0_1]] := S13.app a25.agree S26 (fun _ h => h) (hB.le A14.1);obtain ⟨g27, hF⟩ := gd_some hF;simp [q8, q9, a15.pre, s_add g17, q18, q19, a25.pre, s_add g27];apply hK;clear hK K;refine DWp.ret ?_;obtain rfl := Option.some.inj hF
 exact ⟨by simp, [(Value.string (sapp (sapp r1 (ByteArray.mk #[124])) r2))], by simp [], A24, rfl, S23.pick [] (by decide) rfl⟩
end Go.Proofs.YtcbdgkgdopkofaaDoor.AL
