/- impl.run: how many ways lead to each state, by a map; rounds over it in whatever order. No condition. -/
import Derived.Test.YtdbflchpbhkanaaG1
import Derived.Test.YtdbflchpbhkanaaG2
import Derived.Test.YtdbflchpbhkanaaG3
import Derived.Test.YtdbflchpbhkanaaG4
import Derived.Test.YtdbflchpbhkanaaG5
import Derived.Test.YtdbflchpbhkanaaG6
import Derived.Test.YtdbflchpbhkanaaGK1
import Derived.Test.YtdbflchpbhkanaaPD1
import Derived.Test.YtdbflchpbhkanaaAL52
namespace Go.Proofs.Ytdbflchpbhkanaa.AL
open Go Go.RowKit
set_option linter.unusedVariables false
set_option linter.unusedSimpArgs false
set_option maxRecDepth 4096
attribute [local simp] n_fn b_add b_sub b_mul b_lt b_le b_gt b_ge b_eq b_ne u_not
theorem kmtC : mapT Try.prog 53 = some (.string, 4, .agg #[.slice none 0 0, .slice none 0 0, .int .i64 0, .int .i64 0]) := by kernel_rfl
theorem kunC : Try.prog.underlying 53 = some (.map 9 56) := by kernel_rfl
theorem kzeC : zeroT Try.prog 56 = some (.agg #[.slice none 0 0, .slice none 0 0, .int .i64 0, .int .i64 0]) := by kernel_rfl
theorem kszC : sizeT Try.prog 56 = some 4 := by kernel_rfl
theorem kagC : aggT Try.prog 56 = some true := by kernel_rfl
theorem kfC0 : fldT Try.prog 56 0 = some 0 := by kernel_rfl
theorem kfC1 : fldT Try.prog 56 1 = some 3 := by kernel_rfl
theorem kplC : placeT Try.prog 56 = some (.agg #[.slice none 0 0, .slice none 0 0, .int .i64 0, .int .i64 0], fun i => [(0, 3), (3, 1)].toArray[i]?) := by kernel_rfl
theorem kfdC1 {a b c w : Value} : aField Try.prog 56 (.agg #[a, b, c, w]) 1 = some w := by kernel_rfl
theorem kbuC {x y w : Value} {n : Int} : aBuild Try.prog 56 [(0, .agg #[x, y, w]), (1, .int .i64 n)] = some (.agg #[x, y, w, .int .i64 n]) := buildS31 kplC rfl rfl rfl rfl
/-- The states behind a state, with their keys. -/
def st4 (fu : Nat) (left : Int) (s : St3) : Nat → Int → Option (List (ByteArray × St3))
  | 0, _ => none
  | n + 1, k =>
    bif ilt k 4 then
      bd (F_impl_State_stepped fu s.1 s.2.1 s.2.2 k) fun o =>
      bif bnot o.2 then
        st4 fu left s n (iadd .i64 k 1)
      else
        bif ilt (isub .i64 left 1) (if llen o.1.2.1 > llen o.1.1 then llen o.1.2.1 else llen o.1.1) then
          st4 fu left s n (iadd .i64 k 1)
        else
          bd (F_impl_State_key fu o.1.1 o.1.2.1 o.1.2.2) fun key =>
          bd (st4 fu left s n (iadd .i64 k 1)) fun r => some ((key, o.1) :: r)
    else
      some []
def ctE (fu : Nat) (left : Int) (e : Tr) : Option (List Tr) := bd (st4 fu left e.2.1 fu 0) fun l => some (l.map fun p => (p.1, p.2, e.2.2))
def conts (fu : Nat) (left : Int) : List Tr → Option (List Tr)
  | [] => some []
  | e :: r => bd (ctE fu left e) fun a => bd (conts fu left r) fun b => some (a ++ b)
def ctT (fu : Nat) (left : Int) (e : Tr) : List Tr := (ctE fu left e).getD []
theorem conts_some {fu : Nat} {left : Int} : ∀ {M L : List Tr}, conts fu left M = some L → L = M.flatMap (ctT fu left) ∧ ∀ e ∈ M, ctE fu left e = some (ctT fu left e)
  | [], L, h => by cases h; exact ⟨rfl, by simp⟩
  | e :: r, L, h => by
    obtain ⟨a, ha, h⟩ := bd_some h
    obtain ⟨b, hb, h⟩ := bd_some h
    cases h
    obtain ⟨h1, h2⟩ := conts_some hb
    have he : ctT fu left e = a := by simp [ctT, ha]
    refine ⟨by rw [List.flatMap_cons, he, h1], fun x hx => ?_⟩
    rcases List.mem_cons.1 hx with rfl | hx
    · rw [ha, he]
    · exact h2 x hx
def run_L (fu : Nat) : Nat → Int → List Tr → Option (List Tr)
  | 0, _, _ => none
  | n + 1, left, M =>
    bif ilt 0 left then
      bd (conts fu left M) fun L => gd (ConsK L) (run_L fu n (isub .i64 left 1) (L.foldl addM []))
    else
      some M
def F_impl_run (fu : Nat) (x0 x1 : List Int) (x2 steps : Int) : Option (List Tr) :=
  bd (F_impl_State_key fu x0 x1 x2) fun k => run_L fu fu steps [(k, (x0, x1, x2), 1)]
/-- What the map's entries are. -/
def EntR (D : List (Value × List Int)) : Ents → List Tr → Prop := All2 fun e x => ∃ u0 u1, e = (.string x.1, [u0, u1, .int .i64 x.2.1.2.2, .int .i64 x.2.2]) ∧ (u0, x.2.1.1) ∈ D ∧ (u1, x.2.1.2.1) ∈ D
theorem EntR.more {D D' : List (Value × List Int)} {E : Ents} {M : List Tr} (h : EntR D E M) (hs : ∀ e ∈ D, e ∈ D') : EntR D' E M := h.imp fun _ _ ⟨u0, u1, a, b, c⟩ => ⟨u0, u1, a, hs _ b, hs _ c⟩
theorem EntR.put {D : List (Value × List Int)} {u0 u1 : Value} {k : ByteArray} {s : St3} {w : Int} (h0 : (u0, s.1) ∈ D) (h1 : (u1, s.2.1) ∈ D) : ∀ {E : Ents} {M : List Tr}, EntR D E M → EntR D (mput (.string k) [u0, u1, .int .i64 s.2.2, .int .i64 w] E) (putM k s w M)
  | [], [], .nil => .cons ⟨u0, u1, rfl, h0, h1⟩ .nil
  | e :: E, x :: M, .cons ⟨a, b, he, ha, hb⟩ h => by
    subst he
    simp only [mput, putM, keyEq, MapKept.bytes_beq]
    split
    · exact .cons ⟨u0, u1, rfl, h0, h1⟩ h
    · exact .cons ⟨a, b, rfl, ha, hb⟩ (EntR.put h0 h1 h)
theorem EntR.get {D : List (Value × List Int)} {k : ByteArray} : ∀ {E : Ents} {M : List Tr}, EntR D E M → ∃ a b c, mvalZ (.agg #[.slice none 0 0, .slice none 0 0, .int .i64 0, .int .i64 0]) (mget (.string k) E) = .agg #[a, b, c, .int .i64 (wOf k M)]
  | [], [], .nil => ⟨_, _, _, rfl⟩
  | e :: E, x :: M, .cons ⟨a, b, he, ha, hb⟩ h => by
    subst he
    by_cases hk : k = x.1
    · have h1 : keyEq (.string k) (.string x.1) = true := (MapKept.bytes_beq _ _).2 hk
      simp only [mget, wOf]
      rw [if_pos h1, if_pos hk]
      exact ⟨a, b, .int .i64 x.2.1.2.2, rfl⟩
    · have h1 : ¬ keyEq (.string k) (.string x.1) = true := fun h => hk ((MapKept.bytes_beq _ _).1 h)
      simp only [mget, wOf]
      rw [if_neg h1, if_neg hk]
      exact EntR.get h
theorem pool_sl {G : AH} {B : Nat → Prop} {l : List Item} {k : Nat} {D0 D : List (Value × List Int)} (S : Sep G B l) (hk : l[k]? = some (pool D)) (h0 : ∀ e ∈ D0, Sl G e.1 (ints e.2)) {v : Value} {xs : List Int} (he : (v, xs) ∈ D0 ++ D) : Sl G v (ints xs) := by
  rcases List.mem_append.1 he with he | he
  · exact h0 _ he
  · exact S.poolSl hk he
set_option maxHeartbeats 4000000 in
theorem F_impl_run_w {fu : Nat} {H : AH} {v0_0 v0_1 : Value} {x0_0 x0_1 : List Int} {x0_2 x1 : Int} {C : List Tr} (hx0_0 : Sl H v0_0 (ints x0_0)) (hx0_1 : Sl H v0_1 (ints x0_1)) (hF : F_impl_run fu x0_0 x0_1 x0_2 x1 = some C) :
    ACallP Try.prog 34 [(Value.agg #[v0_0, v0_1, (Value.int .i64 x0_2)]), (Value.int .i64 x1)] H (fun u G => AgB (Fr H) H G ∧ ∃ (E : Ents) (M : List Tr) (D : List (Value × List Int)), M.Perm C ∧ EntR ([(v0_0, x0_0), (v0_1, x0_1)] ++ D) E M ∧ Sep G (Fr H) [mapC u .string 4 E, pool D]) := by
  refine ACallP.of_body (nt := 72) (rs := [.tmp 4]) Try.func34 rfl rfl rfl rfl fun _ _ => ?_
  have h00 : ∀ {G : AH}, AgB (Fr H) H G → ∀ e ∈ [(v0_0, x0_0), (v0_1, x0_1)], Sl G e.1 (ints e.2) := fun a e he => by
    simp at he
    rcases he with rfl | rfl
    · exact hx0_0.agree a.agree
    · exact hx0_1.agree a.agree
  have A0 : AgB (Fr H) H H := .refl _ _
  have S0 : Sep H (Fr H) [] := .nil
  have hB := Fr.up H
  unfold F_impl_run at hF
  obtain ⟨k0, hk0, hF⟩ := bd_some hF
  obtain ⟨G1, p1, q1, q2, a1, S1⟩ := S0.boxT (hB.le A0.1) 34 [v0_0, v0_1, (Value.int .i64 x0_2)]
  have A1 := A0.ext (hB.le A0.1) a1
  replace S1 : Sep G1 (Fr H) [AL.box p1 [v0_0, v0_1, (Value.int .i64 x0_2)]] := S1
  refine AWp.sr fun K hK => ?_
  simp [q1, q2, a1.to_pre, cells_agg]
  apply hK
  clear hK K
  have l1 := S1.loadAgg (P := Try.prog) (k := 0) rfl kszS kagS rfl
  obtain ⟨mv, G2, q3, S2, a2, t2, c2⟩ := S1.mapNew (P := Try.prog) (t := 53) (hB.le A1.1) kmtC
  have A2 := A1.ext (hB.le A1.1) a2
  replace S2 : Sep G2 (Fr H) [AL.box p1 [v0_0, v0_1, (Value.int .i64 x0_2)], mapC mv .string 4 []] := S2
  have l2 := S2.loadAgg (P := Try.prog) (k := 0) rfl kszS kagS rfl
  refine AWp.sd (B := [0, 0, 2, 0, 8, 31, 63, 127]) 5 mixed (by kernel_rfl) (by decide) fun K hK => ?_
  simp [q3, a2.to_pre, l2, t2]
  refine CallD.t (F_impl_State_key_w (fu := fu) (hx0_0.agree A2.agree) (hx0_1.agree A2.agree) hk0) ?_
  rintro _ G3 ⟨a3, rfl, _⟩
  have A3 := A2.ext (hB.le A2.1) a3.agree
  have S3 := S2.agree a3.agree
  have l3 := S3.loadAgg (P := Try.prog) (k := 0) rfl kszS kagS rfl
  have b3 := kbuC (x := v0_0) (y := v0_1) (w := .int .i64 x0_2) (n := 1)
  obtain ⟨G4, q4, S4, a4⟩ := S3.mapPut (P := Try.prog) (k := 1) (key := .string k0) (x := .agg #[v0_0, v0_1, .int .i64 x0_2, .int .i64 1]) rfl (hB.le A3.1) kmtC rfl rfl rfl rfl
  have A4 := A3.trans a4
  have S5 := (S4.pick [1] (by decide) rfl).poolNil (hB.le A4.1)
  replace S5 : Sep G4 (Fr H) [mapC mv .string 4 [(.string k0, [v0_0, v0_1, .int .i64 x0_2, .int .i64 1])], pool []] := S5
  simp [q3, a2.to_pre, l2, t2, a3.pre, l3, b3, q4]
  apply hK
  clear hK K
  refine .seq ?_
  refine AWp.sr fun K hK => ?_
  simp []
  apply hK
  clear hK K
  refine AWp.blk (AWp.loop (fun n env G => ∃ (left : Int) (C' M : List Tr) (E : Ents) (D : List (Value × List Int)) (mv : Value), run_L fu n left C' = some C ∧ M.Perm C' ∧ EntR ([(v0_0, x0_0), (v0_1, x0_1)] ++ D) E M ∧ Sep G (Fr H) [mapC mv .string 4 E, pool D] ∧ AgB (Fr H) H G ∧
    env 5 = some mv ∧ env 6 = some (Value.int .i64 left)) fu ⟨x1, _, [(k0, (x0_0, x0_1, x0_2), 1)], _, [], mv, hF, .refl _, .cons ⟨v0_0, v0_1, rfl, by simp, by simp⟩ .nil, S5, A4, by simp⟩ ?_)
  clear S5 S4 S3 S2 S1 A4 A3 A2 A1 a4 a3 a2 a1 l1 l2 l3 b3 q1 q2 q3 q4 t2 c2 hF
  rintro n env G ⟨left, C', M, E, D, mv, hL, hp, hE, S, A, ev⟩
  cases n with
  | zero => cases hL
  | succ n =>
    simp only [run_L] at hL
    refine .seq ?_
    refine AWp.sr fun K hK => ?_
    simp [ev]
    apply hK
    clear hK K
    refine AWp.cond' (t := (ilt 0 left)) (by simp [ev]) (fun hb => ?_) (fun hb => ?_)
    · replace hL := cd_t hb hL
      refine .skip ?_
      simp only [andThen, leaves]
      obtain ⟨L, hcs, hL⟩ := bd_some hL
      obtain ⟨hcon, hL⟩ := gd_some hL
      obtain ⟨hLe, hct⟩ := conts_some hcs
      refine .seq (AWp.blk ?_)
      obtain ⟨nv, G2, q3, S2, a2, t2, c2⟩ := S.mapNew (P := Try.prog) (t := 53) (hB.le A.1) kmtC
      have A2 := A.ext (hB.le A.1) a2
      replace S2 : Sep G2 (Fr H) [mapC mv .string 4 E, pool D, mapC nv .string 4 []] := S2
      refine AWp.sr fun K hK => ?_
      simp [ev, q3, a2.to_pre, t2]
      apply hK
      clear hK K
      obtain ⟨it, G3, q4, S3, a3, a3p, t3⟩ := S2.range (P := Try.prog) (k := 0) (t := 53) rfl (hB.le A2.1) kunC
      have A3 := A2.trans a3
      replace S3 : Sep G3 (Fr H) [rngC it .string 4 E [], pool D, mapC nv .string 4 []] := S3
      refine .seq ?_
      refine AWp.sr fun K hK => ?_
      simp [ev, q4, t3, (S2.mapTup (k := 0) rfl)]
      apply hK
      clear hK K
      refine AWp.blk (AWp.loop (fun n env G => ∃ (seen : List Nat) (M' : List Tr) (E' : Ents) (D : List (Value × List Int)), n = unseen E.length seen ∧ seen.Nodup ∧ (∀ s ∈ seen, s < E.length) ∧
        M' = (seen.flatMap (atM (ctT fu left) M)).foldl addM [] ∧ EntR ([(v0_0, x0_0), (v0_1, x0_1)] ++ D) E M ∧ EntR ([(v0_0, x0_0), (v0_1, x0_1)] ++ D) E' M' ∧
        Sep G (Fr H) [rngC it .string 4 E seen, pool D, mapC nv .string 4 E'] ∧ AgB (Fr H) H G ∧ env 6 = some (Value.int .i64 left) ∧ env 7 = some nv ∧ env 27 = some it) _ ⟨[], [], [], D, rfl, List.nodup_nil, by simp, rfl, hE, .nil, S3, A3, by simp [ev]⟩ ?_)
      clear S3 S2 S A3 A2 A a3 a2 a3p q3 q4 t2 t3 c2 ev hE
      rintro _ env G ⟨seen, M', E', D, rfl, hnd, hlt, hM', hE, hE', S, A, ev⟩
      have hlen : E.length = M.length := hE.length
      refine .seq (AWp.nextS (k := 0) S rfl (hB.le A.1) rfl rfl rfl rfl (by simp [ev]) (fun hall K hK => ?_) (fun s kv G' hns hkv S' a' K hK => ?_))
      · simp [ARun, AStep]
        apply hK
        clear hK K
        simp only [andThen]
        refine .seq (AWp.cf (by simp) ?_)
        refine .exit ?_
        simp only [andThen, leaves, if_true, if_false, reduceIte, Nat.reduceEqDiff]
        refine AWp.reg fun K hK => ?_
        simp [ev]
        apply hK
        clear hK K
        simp only [andThen, leaves]
        refine AWp.reg fun K hK => ?_
        simp [ev]
        apply hK
        clear hK K
        simp only [andThen, leaves]
        refine ⟨n, Nat.lt_succ_self _, isub .i64 left 1, _, M', E', D, nv, hL, ?_, hE', S.pick [2, 1] (by decide) rfl, A, by simp [ev]⟩
        rw [hM', hLe]
        have p1 := seen_perm (n := M.length) hnd (fun s hs => hlen ▸ hlt s hs) (fun s hs => hall s (hlen ▸ hs))
        have p2 : (seen.flatMap (atM (ctT fu left) M)).Perm (C'.flatMap (ctT fu left)) := by
          refine (flatMap_perm _ p1).trans ?_
          rw [range_flatMap]
          exact flatMap_perm _ hp
        rw [hLe] at hcon
        exact fold_perm p2 (hcon.perm p2.symm)
      · replace S' : Sep G' (Fr H) [rngC it .string 4 E (seen ++ [s]), pool D, mapC nv .string 4 E'] := S'
        have A' := A.trans a'
        have hen := S'.entryG (k := 0) rfl hkv
        have hsl : s < E.length := (List.getElem?_eq_some_iff.1 hkv).1
        obtain ⟨e, he, u0, u1, rfl, hm0, hm1⟩ := All2.get hE s kv hkv
        obtain ⟨ek, ⟨eu, ed, ec⟩, ew⟩ := e
        simp only at hm0 hm1 hen hkv
        simp only [packV] at hen
        clear S A a'
        simp [ARun, AStep, packV]
        apply hK
        clear hK K
        simp only [andThen]
        refine .seq (AWp.ct (by simp) ?_)
        refine .skip ?_
        simp only [andThen]
        refine AWp.blk ?_
        obtain ⟨G2, p9, q1, q2, a2, S2⟩ := S'.allocT (P := Try.prog) (hB.le A'.1) kzeC rfl
        have A2 := A'.ext (hB.le A'.1) a2
        replace S2 : Sep G2 (Fr H) [rngC it .string 4 E (seen ++ [s]), pool D, mapC nv .string 4 E', AL.box p9 [.slice none 0 0, .slice none 0 0, .int .i64 0, .int .i64 0]] := S2
        obtain ⟨G3, q3, S3, a3⟩ := S2.putAgg (P := Try.prog) (k := 3) (xs := [u0, u1, .int .i64 ec, .int .i64 ew]) rfl (hB.le A2.1) kszC rfl rfl
        have A3 := A2.trans a3
        replace S3 : Sep G3 (Fr H) [rngC it .string 4 E (seen ++ [s]), pool D, mapC nv .string 4 E', AL.box p9 [u0, u1, .int .i64 ec, .int .i64 ew]] := S3
        refine AWp.sr fun K hK => ?_
        simp [ev, hen, q1, q2, a2.to_pre, q3]
        apply hK
        clear hK K
        -- the four steps
        have hce := hct _ (hp.mem_iff.1 (List.mem_of_getElem? he))
        obtain ⟨l4, hl4, hce⟩ := bd_some hce
        replace hce := Option.some.inj hce
        refine AWp.sr fun K hK => ?_
        simp [ev]
        apply hK
        clear hK K
        refine AWp.blk (AWp.loop (fun n env G => ∃ (k : Int) (l : List (ByteArray × St3)) (M2 : List Tr) (E2 : Ents) (D : List (Value × List Int)), st4 fu left (eu, ed, ec) n k = some l ∧ (l.map fun p => (p.1, p.2, ew)).foldl addM M2 = (ctT fu left (ek, (eu, ed, ec), ew)).foldl addM M' ∧
          EntR ([(v0_0, x0_0), (v0_1, x0_1)] ++ D) E M ∧ EntR ([(v0_0, x0_0), (v0_1, x0_1)] ++ D) E2 M2 ∧ (u0, eu) ∈ [(v0_0, x0_0), (v0_1, x0_1)] ++ D ∧ (u1, ed) ∈ [(v0_0, x0_0), (v0_1, x0_1)] ++ D ∧
          Sep G (Fr H) [rngC it .string 4 E (seen ++ [s]), pool D, mapC nv .string 4 E2, AL.box p9 [u0, u1, .int .i64 ec, .int .i64 ew]] ∧ AgB (Fr H) H G ∧ env 6 = some (Value.int .i64 left) ∧ env 7 = some nv ∧ env 27 = some it ∧ env 9 = some p9 ∧ env 32 = some (Value.int .i64 k)) fu
          ⟨0, l4, M', E', D, hl4, by rw [hce], hE, hE', hm0, hm1, S3, A3, by simp [ev]⟩ ?_)
        clear S3 S2 S' A3 A2 A' a3 a2 q1 q2 q3 ev hE hE' hm0 hm1 hen hl4 hce
        rintro n4 env G ⟨k, l, M2, E2, D, hl, hfold, hE, hE2, hm0, hm1, S, A, ev⟩
        cases n4 with
        | zero => cases hl
        | succ n4 =>
          simp only [st4] at hl
          refine AWp.sr fun K hK => ?_
          simp [ev]
          apply hK
          clear hK K
          refine .seq (AWp.cond' (t := (ilt k 4)) (by simp [ev]) (fun hb4 => ?_) (fun hb4 => ?_))
          · replace hl := cd_t hb4 hl
            refine .skip ?_
            simp only [andThen, leaves]
            obtain ⟨o, ho, hl⟩ := bd_some hl
            refine .seq (AWp.blk ?_)
            refine AWp.sr fun K hK => ?_
            simp [ev]
            apply hK
            clear hK K
            have f0 := S.fieldT (P := Try.prog) (k := 3) rfl kfC0
            have g0 := S.loadSub (P := Try.prog) (k := 3) (off := 0) rfl kszS kagS (by simp)
            replace g0 : aLoad Try.prog G 34 (fldP p9 0) = some (.agg #[u0, u1, .int .i64 ec]) := g0
            have w0 := pool_sl (D0 := [(v0_0, x0_0), (v0_1, x0_1)]) S (k := 1) rfl (h00 A) hm0
            have w1 := pool_sl (D0 := [(v0_0, x0_0), (v0_1, x0_1)]) S (k := 1) rfl (h00 A) hm1
            refine AWp.sr fun K hK => ?_
            simp [ev, f0, g0]
            refine CallD.t (F_impl_State_stepped_w (fu := fu) w0 w1 ho) ?_
            rintro _ G2 ⟨a2, c0, c1, rfl, T2⟩
            have A2 := A.ext (hB.le A.1) a2.agree
            have S2 : Sep G2 (Fr H) [rngC it .string 4 E (seen ++ [s]), pool D, mapC nv .string 4 E2, AL.box p9 [u0, u1, .int .i64 ec, .int .i64 ew], flat c0 3 (ints o.1.1), flat c1 3 (ints o.1.2.1)] := S.app a2.agree T2 (fun _ h => h) (hB.le A.1)
            obtain ⟨G3, p11, q1, q2, a3, S3⟩ := S2.allocT (P := Try.prog) (hB.le A2.1) kzeS rfl
            have A3 := A2.ext (hB.le A2.1) a3
            replace S3 : Sep G3 (Fr H) [rngC it .string 4 E (seen ++ [s]), pool D, mapC nv .string 4 E2, AL.box p9 [u0, u1, .int .i64 ec, .int .i64 ew], flat c0 3 (ints o.1.1), flat c1 3 (ints o.1.2.1), AL.box p11 [.slice none 0 0, .slice none 0 0, .int .i64 0]] := S3
            obtain ⟨G4, q3, S4, a4⟩ := S3.putAgg (P := Try.prog) (k := 6) (xs := [c0, c1, .int .i64 o.1.2.2]) rfl (hB.le A3.1) kszS rfl rfl
            have A4 := A3.trans a4
            replace S4 : Sep G4 (Fr H) [rngC it .string 4 E (seen ++ [s]), pool D, mapC nv .string 4 E2, AL.box p9 [u0, u1, .int .i64 ec, .int .i64 ew], flat c0 3 (ints o.1.1), flat c1 3 (ints o.1.2.1), AL.box p11 [c0, c1, .int .i64 o.1.2.2]] := S4
            simp [ev, f0, g0, a2.pre, q1, q2, a3.to_pre, q3]
            apply hK
            clear hK K
            refine .seq ?_
            have next : ∀ {env' : Env} {G' : AH} {k' : Int} {l' : List (ByteArray × St3)} {M3 : List Tr} {E3 : Ents} {D' : List (Value × List Int)}, k' = iadd .i64 k 1 → st4 fu left (eu, ed, ec) n4 k' = some l' → (l'.map fun p => (p.1, p.2, ew)).foldl addM M3 = (ctT fu left (ek, (eu, ed, ec), ew)).foldl addM M' →
                (∀ e ∈ D, e ∈ D') → EntR ([(v0_0, x0_0), (v0_1, x0_1)] ++ D') E3 M3 → Sep G' (Fr H) [rngC it .string 4 E (seen ++ [s]), pool D', mapC nv .string 4 E3, AL.box p9 [u0, u1, .int .i64 ec, .int .i64 ew]] → AgB (Fr H) H G' →
                env' 6 = some (Value.int .i64 left) → env' 7 = some nv → env' 27 = some it → env' 9 = some p9 → env' 32 = some (Value.int .i64 k') →
                ∃ m, m < n4 + 1 ∧ ∃ (k : Int) (l : List (ByteArray × St3)) (M2 : List Tr) (E2 : Ents) (D : List (Value × List Int)), st4 fu left (eu, ed, ec) m k = some l ∧ (l.map fun p => (p.1, p.2, ew)).foldl addM M2 = (ctT fu left (ek, (eu, ed, ec), ew)).foldl addM M' ∧
                  EntR ([(v0_0, x0_0), (v0_1, x0_1)] ++ D) E M ∧ EntR ([(v0_0, x0_0), (v0_1, x0_1)] ++ D) E2 M2 ∧ (u0, eu) ∈ [(v0_0, x0_0), (v0_1, x0_1)] ++ D ∧ (u1, ed) ∈ [(v0_0, x0_0), (v0_1, x0_1)] ++ D ∧
                  Sep G' (Fr H) [rngC it .string 4 E (seen ++ [s]), pool D, mapC nv .string 4 E2, AL.box p9 [u0, u1, .int .i64 ec, .int .i64 ew]] ∧ AgB (Fr H) H G' ∧ env' 6 = some (Value.int .i64 left) ∧ env' 7 = some nv ∧ env' 27 = some it ∧ env' 9 = some p9 ∧ env' 32 = some (Value.int .i64 k) :=
              fun hk hl hf hD hE3 hS hA e1 e2 e3 e4 e5 => by
                have hm : ∀ e ∈ [(v0_0, x0_0), (v0_1, x0_1)] ++ D, e ∈ [(v0_0, x0_0), (v0_1, x0_1)] ++ _ := fun e he => by
                  rcases List.mem_append.1 he with he | he
                  · exact List.mem_append_left _ he
                  · exact List.mem_append_right _ (hD e he)
                exact ⟨n4, Nat.lt_succ_self _, _, _, _, _, _, hl, hf, EntR.more hE hm, hE3, hm _ hm0, hm _ hm1, hS, hA, e1, e2, e3, e4, e5⟩
            have S4p : Sep G4 (Fr H) [rngC it .string 4 E (seen ++ [s]), pool D, mapC nv .string 4 E2, AL.box p9 [u0, u1, .int .i64 ec, .int .i64 ew]] := S4.pick [0, 1, 2, 3] (by decide) rfl
            have j0 := S4.fieldT (P := Try.prog) (k := 6) rfl kfS0
            have j1 := S4.fieldT (P := Try.prog) (k := 6) rfl kfS1
            have i0 := S4.loadF (P := Try.prog) (k := 6) rfl kszL kagL (off := 0) rfl
            have i1 := S4.loadF (P := Try.prog) (k := 6) rfl kszL kagL (off := 1) rfl
            have m0 := lenG (P := Try.prog) (S4.sl (k := 4) rfl) kelL
            have m1 := lenG (P := Try.prog) (S4.sl (k := 5) rfl) kelL
            rcases Bool.eq_false_or_eq_true (bnot o.2) with hbo | hbo
            · replace hl := cd_t hbo hl
              refine AWp.sr fun K hK => ?_
              simp [ev, hbo, undef]
              apply hK
              clear hK K
              refine AWp.ct (by simp) ?_
              refine .exit ?_
              simp only [andThen, leaves, if_true, if_false, reduceIte, Nat.reduceEqDiff]
              refine AWp.reg fun K hK => ?_
              simp [ev]
              apply hK
              clear hK K
              simp only [andThen, leaves]
              exact next rfl hl hfold (fun _ h => h) hE2 S4p A4 (by simp [ev]) (by simp [ev]) (by simp [ev]) (by simp [ev]) (by simp [ev])
            · replace hl := cd_f hbo hl
              rcases Bool.eq_false_or_eq_true (ilt (isub .i64 left 1) (if llen o.1.2.1 > llen o.1.1 then llen o.1.2.1 else llen o.1.1)) with hbm | hbm
              · replace hl := cd_t hbm hl
                refine AWp.sr fun K hK => ?_
                simp [ev, hbo, j0, j1, i0, i1, m0, m1, hbm]
                apply hK
                clear hK K
                refine AWp.ct (by simp [hbm]) ?_
                refine .exit ?_
                simp only [andThen, leaves, if_true, if_false, reduceIte, Nat.reduceEqDiff]
                refine AWp.reg fun K hK => ?_
                simp [ev]
                apply hK
                clear hK K
                simp only [andThen, leaves]
                exact next rfl hl hfold (fun _ h => h) hE2 S4p A4 (by simp [ev]) (by simp [ev]) (by simp [ev]) (by simp [ev]) (by simp [ev])
              · replace hl := cd_f hbm hl
                obtain ⟨key, hkey, hl⟩ := bd_some hl
                obtain ⟨r, hr, hl⟩ := bd_some hl
                obtain rfl := Option.some.inj hl
                refine AWp.sr fun K hK => ?_
                simp [ev, hbo, j0, j1, i0, i1, m0, m1, hbm]
                apply hK
                clear hK K
                refine AWp.cf (by simp [hbm]) ?_
                refine .skip ?_
                simp only [andThen, leaves]
                have g11 := S4.loadAgg (P := Try.prog) (k := 6) rfl kszS kagS rfl
                refine AWp.sr fun K hK => ?_
                simp [ev, g11, (S4.sl (k := 4) rfl).tup]
                refine CallD.t (F_impl_State_key_w (fu := fu) (S4.sl (k := 4) rfl) (S4.sl (k := 5) rfl) hkey) ?_
                rintro _ G5 ⟨a5, rfl, _⟩
                have A5 := A4.ext (hB.le A4.1) a5.agree
                have S5 := S4.agree a5.agree
                simp [ev, g11, a5.pre]
                apply hK
                clear hK K
                have hP := ((S5.poolPut (j := 1) (k := 4) (by decide) rfl rfl).poolPut (j := 1) (k := 5) (by decide) rfl rfl).pick [0, 1, 2, 3, 6] (by decide) rfl
                replace hP : Sep G5 (Fr H) [rngC it .string 4 E (seen ++ [s]), pool (D ++ [(c0, o.1.1)] ++ [(c1, o.1.2.1)]), mapC nv .string 4 E2, AL.box p9 [u0, u1, .int .i64 ec, .int .i64 ew], AL.box p11 [c0, c1, .int .i64 o.1.2.2]] := hP
                have lk := hP.mapLook0 (P := Try.prog) (t := 53) (k := 2) (key := .string key) rfl kmtC rfl
                obtain ⟨za, zb, zc, hz⟩ := EntR.get (k := key) hE2
                rw [hz] at lk
                have g5 := S5.loadAgg (P := Try.prog) (k := 6) rfl kszS kagS rfl
                have f1 := S5.fieldT (P := Try.prog) (k := 3) rfl kfC1
                have w3 := S5.loadF (P := Try.prog) (k := 3) rfl kszI kagI (off := 3) rfl
                have fd := kfdC1 (a := za) (b := zb) (c := zc) (w := .int .i64 (wOf key M2))
                have bu := kbuC (x := c0) (y := c1) (w := .int .i64 o.1.2.2) (n := iadd .i64 (wOf key M2) ew)
                obtain ⟨G6, q6, S6, a6⟩ := hP.mapPut (P := Try.prog) (k := 2) (key := .string key) (x := .agg #[c0, c1, .int .i64 o.1.2.2, .int .i64 (iadd .i64 (wOf key M2) ew)]) rfl (hB.le A5.1) kmtC rfl rfl rfl rfl
                have A6 := A5.trans a6
                replace S6 : Sep G6 (Fr H) [rngC it .string 4 E (seen ++ [s]), pool (D ++ [(c0, o.1.1)] ++ [(c1, o.1.2.1)]), mapC nv .string 4 (mput (.string key) [c0, c1, .int .i64 o.1.2.2, .int .i64 (iadd .i64 (wOf key M2) ew)] E2), AL.box p9 [u0, u1, .int .i64 ec, .int .i64 ew], AL.box p11 [c0, c1, .int .i64 o.1.2.2]] := S6
                refine AWp.reg fun K hK => ?_
                simp [ev, g5, lk, f1, w3, fd, bu, q6, (hP.mapTup (k := 2) rfl)]
                apply hK
                clear hK K
                simp only [andThen, leaves]
                refine AWp.reg fun K hK => ?_
                simp [ev]
                apply hK
                clear hK K
                simp only [andThen, leaves]
                have hmD : ∀ e ∈ [(v0_0, x0_0), (v0_1, x0_1)] ++ D, e ∈ [(v0_0, x0_0), (v0_1, x0_1)] ++ (D ++ [(c0, o.1.1)] ++ [(c1, o.1.2.1)]) := fun e he => by
                  simp only [List.mem_append] at he ⊢
                  rcases he with he | he
                  · exact .inl he
                  · exact .inr (.inl (.inl he))
                refine next (M3 := addM M2 (key, o.1, ew)) rfl hr ?_ (fun e he => by simp only [List.mem_append]; exact .inl (.inl he)) (EntR.put (by simp) (by simp) (EntR.more hE2 hmD)) (S6.pick [0, 1, 2, 3] (by decide) rfl) A6 (by simp [ev]) (by simp [ev]) (by simp [ev]) (by simp [ev]) (by simp [ev])
                rw [← hfold]
                rfl
          · replace hl := cd_f hb4 hl
            refine .exit ?_
            simp only [andThen, leaves, if_true, if_false, reduceIte, Nat.reduceEqDiff]
            obtain rfl := Option.some.inj hl
            simp only [List.map_nil, List.foldl_nil] at hfold
            refine ⟨_, unseen_lt hsl hns, seen ++ [s], M2, E2, D, rfl, ?_, ?_, ?_, hE, hE2, S.pick [0, 1, 2] (by decide) rfl, A, by simp [ev]⟩
            · rw [List.nodup_append]
              exact ⟨hnd, by simp, fun a ha b hb => by simp at hb; subst hb; exact fun e => hns (e ▸ ha)⟩
            · intro a ha
              rcases List.mem_append.1 ha with ha | ha
              · exact hlt a ha
              · simp at ha; subst ha; exact hsl
            · rw [hfold, hM', List.flatMap_append, List.foldl_append]
              simp [atM, he]
    · replace hL := cd_f hb hL
      refine .exit ?_
      simp only [andThen, leaves, if_true, if_false, reduceIte, Nat.reduceEqDiff]
      obtain rfl := Option.some.inj hL
      refine AWp.sr fun K hK => ?_
      simp [ev]
      apply hK
      clear hK K
      refine .ret ?_
      exact ⟨by simp, [mv], by simp [ev, (S.mapTup (k := 0) rfl)], A, E, M, D, hp, hE, S⟩
end Go.Proofs.Ytdbflchpbhkanaa.AL
