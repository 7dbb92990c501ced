/- AL, part 23: the words of walks that a program of ours prints: a function as a Lean function that answers or not, and each operation's own fact. No condition. -/
import Derived.Test.YtbckijeffiofdaaAL22
namespace Go.Proofs.Ytbckijeffiofdaa.AL
open Go Go.RowKit
set_option linter.unusedVariables false
set_option linter.unusedSimpArgs false

/-- Go on if so. -/
def gd {α : Type} (c : Prop) [Decidable c] (k : Option α) : Option α := if c then k else none
theorem gd_some {α : Type} {c : Prop} [Decidable c] {k : Option α} {r : α} (h : gd c k = some r) : c ∧ k = some r := by
  unfold gd at h
  split at h
  · exact ⟨by assumption, h⟩
  · cases h
theorem gd_true {α : Type} {c : Prop} [Decidable c] {k : Option α} (h : c) : gd c k = k := if_pos h
/-- Go on with an answer. -/
def bd {α β : Type} (x : Option β) (k : β → Option α) : Option α := match x with
  | some b => k b
  | none => none
theorem bd_some {α β : Type} {x : Option β} {k : β → Option α} {r : α} (h : bd x k = some r) : ∃ b, x = some b ∧ k b = some r := by
  unfold bd at h
  split at h
  · exact ⟨_, rfl, h⟩
  · cases h
@[simp] theorem bd_of {α β : Type} {b : β} {k : β → Option α} : bd (some b) k = k b := rfl
/-- How a loop with a return in it ends. -/
inductive LR (ρ σ : Type) | ret (r : ρ) | brk (s : σ)
deriving DecidableEq
def lr {ρ σ : Type} (x : LR ρ σ) (k : σ → Option ρ) : Option ρ := match x with
  | .ret r => some r
  | .brk s => k s

/-! The words of the Lean functions: none of them is opened by simp. -/
def M63 : Nat := 9223372036854775807
def wrF (k : IntKind) (x : Int) : Int := match k with
  | .i64 => (match x with
    | .ofNat m => bif Nat.ble m M63 then .ofNat m else IntKind.i64.wrap (.ofNat m)
    | .negSucc m => bif Nat.ble m M63 then .negSucc m else IntKind.i64.wrap (.negSucc m))
  | k => k.wrap x
theorem wrF_big {m : Nat} {x y : Int} (h : m ≤ M63 → x = y) : (bif Nat.ble m M63 then x else y) = y := by
  by_cases c : m ≤ M63
  · rw [Nat.ble_eq_true_of_le c, cond_true, h c]
  · rw [Bool.eq_false_iff.2 fun q => c (Nat.le_of_ble_eq_true q), cond_false]
theorem wrF_eq (k : IntKind) (x : Int) : wrF k x = k.wrap x := by
  cases k with
  | i64 =>
    cases x with
    | ofNat m =>
      refine wrF_big fun h => (wrap_id ?_ ?_).symm
      · simp only [Int.ofNat_eq_natCast]; omega
      · unfold M63 at h; simp only [Int.ofNat_eq_natCast]; omega
    | negSucc m =>
      refine wrF_big fun h => (wrap_id ?_ ?_).symm
      · unfold M63 at h; rw [Int.negSucc_eq]; omega
      · rw [Int.negSucc_eq]; omega
  | _ => rfl
def iwr (k : IntKind) (a : Int) : Int := wrF k a
def iadd (k : IntKind) (a b : Int) : Int := wrF k (a + b)
def isub (k : IntKind) (a b : Int) : Int := wrF k (a - b)
def imul (k : IntKind) (a b : Int) : Int := wrF k (a * b)
def iquo (k : IntKind) (a b : Int) : Int := k.wrap (a.tdiv b)
def irem (a b : Int) : Int := a.tmod b
def ineg (k : IntKind) (a : Int) : Int := k.wrap (-a)
def ishl (k : IntKind) (a b : Int) : Int := k.wrap (a * 2 ^ (min b.toNat k.bits))
def ishr (k : IntKind) (a b : Int) : Int := a.fdiv (2 ^ (min b.toNat k.bits))
def iand (k : IntKind) (a b : Int) : Int := k.wrap (BitVec.ofInt k.bits a &&& BitVec.ofInt k.bits b).toNat
def ior (k : IntKind) (a b : Int) : Int := k.wrap (BitVec.ofInt k.bits a ||| BitVec.ofInt k.bits b).toNat
def ixor (k : IntKind) (a b : Int) : Int := k.wrap (BitVec.ofInt k.bits a ^^^ BitVec.ofInt k.bits b).toNat
def ilt (a b : Int) : Bool := match a, b with
  | .ofNat m, .ofNat n => Nat.blt m n
  | .ofNat _, .negSucc _ => false
  | .negSucc _, .ofNat _ => true
  | .negSucc m, .negSucc n => Nat.blt n m
theorem ilt_eq (a b : Int) : ilt a b = decide (a < b) := by
  cases a <;> cases b <;> simp only [ilt] <;> rw [Bool.eq_iff_iff] <;> simp [Nat.blt_eq, Int.negSucc_eq] <;> omega
def ile (a b : Int) : Bool := match a, b with
  | .ofNat m, .ofNat n => Nat.ble m n
  | .ofNat _, .negSucc _ => false
  | .negSucc _, .ofNat _ => true
  | .negSucc m, .negSucc n => Nat.ble n m
theorem ile_eq (a b : Int) : ile a b = decide (a ≤ b) := by
  cases a <;> cases b <;> simp only [ile] <;> rw [Bool.eq_iff_iff] <;> simp [Nat.ble_eq, Int.negSucc_eq] <;> omega
def ieq (a b : Int) : Bool := match a, b with
  | .ofNat m, .ofNat n => Nat.beq m n
  | .ofNat _, .negSucc _ => false
  | .negSucc _, .ofNat _ => false
  | .negSucc m, .negSucc n => Nat.beq m n
theorem ieq_eq (a b : Int) : ieq a b = (a == b) := by
  cases a <;> cases b <;> simp only [ieq] <;> rw [Bool.eq_iff_iff] <;> simp [Nat.beq_eq, Int.negSucc_eq] <;> omega
def ine (a b : Int) : Bool := !ieq a b
theorem ine_eq (a b : Int) : ine a b = (a != b) := by rw [ine, ieq_eq]; rfl
def beq' (a b : Bool) : Bool := a == b
def bne' (a b : Bool) : Bool := !(a == b)
def bnot (a : Bool) : Bool := !a
def llen {α : Type} (xs : List α) : Int := xs.length
def nthD {α : Type} (d : α) : List α → Nat → α
  | [], _ => d
  | x :: _, 0 => x
  | _ :: xs, n + 1 => nthD d xs n
theorem nthD_eq {α : Type} (d : α) : ∀ (xs : List α) (n : Nat), nthD d xs n = xs.getD n d
  | [], n => by simp [nthD]
  | x :: xs, 0 => by simp [nthD]
  | x :: xs, n + 1 => by simp [nthD, nthD_eq d xs n]
def gat {α : Type} (d : α) (xs : List α) (i : Int) : α := nthD d xs i.toNat
theorem gat_eq {α : Type} (d : α) (xs : List α) (i : Int) : gat d xs i = xs.getD i.toNat d := nthD_eq d xs i.toNat
def lapp {α : Type} (xs ys : List α) : List α := xs ++ ys
def lset {α : Type} (xs : List α) (i : Int) (x : α) : List α := xs.set i.toNat x
def lrep {α : Type} (n : Int) (x : α) : List α := List.replicate n.toNat x
def lsub {α : Type} (xs : List α) (a b : Int) : List α := (xs.drop a.toNat).take (b.toNat - a.toNat)
def inL {α : Type} (xs : List α) (i : Int) : Prop := 0 ≤ i ∧ i < xs.length
def inLB {α : Type} (xs : List α) (i : Int) : Bool := match i with
  | .ofNat n => Nat.blt n xs.length
  | .negSucc _ => false
theorem inLB_iff {α : Type} {xs : List α} {i : Int} : inLB xs i = true ↔ inL xs i := by
  unfold inL
  cases i <;> simp [inLB, Nat.blt_eq, Int.negSucc_eq] <;> omega
instance {α : Type} (xs : List α) (i : Int) : Decidable (inL xs i) := match h : inLB xs i with
  | true => isTrue (inLB_iff.1 h)
  | false => isFalse fun q => by rw [inLB_iff.2 q] at h; cases h
def subL {α : Type} (xs : List α) (a b : Int) : Prop := 0 ≤ a ∧ a ≤ b ∧ b ≤ xs.length
instance {α : Type} (xs : List α) (a b : Int) : Decidable (subL xs a b) := inferInstanceAs (Decidable (0 ≤ a ∧ a ≤ b ∧ b ≤ xs.length))
def sapp (a b : ByteArray) : ByteArray := a ++ b
def slen (a : ByteArray) : Int := a.size
def seq' (a b : ByteArray) : Bool := a.toList == b.toList
def sne' (a b : ByteArray) : Bool := !(a.toList == b.toList)
def slt' (a b : ByteArray) : Bool := Op.bytesLess a.toList b.toList
def sle' (a b : ByteArray) : Bool := Op.bytesLess a.toList b.toList || a.toList == b.toList
def sgt' (a b : ByteArray) : Bool := !(Op.bytesLess a.toList b.toList || a.toList == b.toList)
def sge' (a b : ByteArray) : Bool := !(Op.bytesLess a.toList b.toList)
def inS (s : ByteArray) (i : Int) : Prop := 0 ≤ i ∧ i < s.size
instance (s : ByteArray) (i : Int) : Decidable (inS s i) := inferInstanceAs (Decidable (0 ≤ i ∧ i < s.size))
def sat (s : ByteArray) (i : Int) : Int := ((s.data.getD i.toNat 0).toNat : Int)
def subS (s : ByteArray) (a b : Int) : Prop := 0 ≤ a ∧ a ≤ b ∧ b ≤ s.size
instance (s : ByteArray) (a b : Int) : Decidable (subS s a b) := inferInstanceAs (Decidable (0 ≤ a ∧ a ≤ b ∧ b ≤ s.size))
def ssub (s : ByteArray) (a b : Int) : ByteArray := s.extract a.toNat b.toNat
theorem cd_t {α : Type} {c : Bool} {a b : Option α} {r : α} (h : c = true) (hF : (bif c then a else b) = some r) : a = some r := by subst h; exact hF
theorem cd_f {α : Type} {c : Bool} {a b : Option α} {r : α} (h : c = false) (hF : (bif c then a else b) = some r) : b = some r := by subst h; exact hF

section
variable {P : Program} {H : AH} {t : TypeId} {k : IntKind} {a b : Int} {p q : Bool} {x y : ByteArray}
theorem b_add : aBin' P H .add t (.int k a) (.int k b) = some (.int k (iadd k a b)) := by simp [iadd, wrF_eq]
theorem b_sub : aBin' P H .sub t (.int k a) (.int k b) = some (.int k (isub k a b)) := by simp [isub, wrF_eq]
theorem b_mul : aBin' P H .mul t (.int k a) (.int k b) = some (.int k (imul k a b)) := by simp [imul, wrF_eq]
theorem b_quo (h : b ≠ 0) : aBin' P H .quo t (.int k a) (.int k b) = some (.int k (iquo k a b)) := by simp [iquo, h]
theorem b_rem (h : b ≠ 0) : aBin' P H .rem t (.int k a) (.int k b) = some (.int k (irem a b)) := by simp [irem, h]
theorem b_lt : aBin' P H .lss t (.int k a) (.int k b) = some (.bool (ilt a b)) := by simp [ilt_eq]
theorem b_le : aBin' P H .leq t (.int k a) (.int k b) = some (.bool (ile a b)) := by simp [ile_eq]
theorem b_gt : aBin' P H .gtr t (.int k a) (.int k b) = some (.bool (ilt b a)) := by simp [ilt_eq]
theorem b_ge : aBin' P H .geq t (.int k a) (.int k b) = some (.bool (ile b a)) := by simp [ile_eq]
theorem b_eq : aBin' P H .eql t (.int k a) (.int k b) = some (.bool (ieq a b)) := by simp [ieq_eq]
theorem b_ne : aBin' P H .neq t (.int k a) (.int k b) = some (.bool (ine a b)) := by simp [ine_eq]
theorem b_and : aBin' P H .and t (.int k a) (.int k b) = some (.int k (iand k a b)) := by simp [iand, aBits]
theorem b_or : aBin' P H .or t (.int k a) (.int k b) = some (.int k (ior k a b)) := by simp [ior, aBits]
theorem b_xor : aBin' P H .xor t (.int k a) (.int k b) = some (.int k (ixor k a b)) := by simp [ixor, aBits]
theorem b_shl {k' : IntKind} (h : ¬ b < 0) : aBin' P H .shl t (.int k a) (.int k' b) = some (.int k (ishl k a b)) := by simp [ishl, h]
theorem b_shr {k' : IntKind} (h : ¬ b < 0) : aBin' P H .shr t (.int k a) (.int k' b) = some (.int k (ishr k a b)) := by simp [ishr, h]
theorem b_beq (h : P.underlying t = some .bool) : aBin' P H .eql t (.bool p) (.bool q) = some (.bool (beq' p q)) := by simp [beq', h, eqB]
theorem b_bne (h : P.underlying t = some .bool) : aBin' P H .neq t (.bool p) (.bool q) = some (.bool (bne' p q)) := by simp [bne', h, eqB]
theorem s_add (h : x.size + y.size ≤ 9223372036854775807) : aBin' P H .add t (.string x) (.string y) = some (.string (sapp x y)) := by simp [sapp, aBinS, h]
theorem s_eq : aBin' P H .eql t (.string x) (.string y) = some (.bool (seq' x y)) := by simp [seq', aBinS]
theorem s_ne : aBin' P H .neq t (.string x) (.string y) = some (.bool (sne' x y)) := by simp [sne', aBinS]
theorem s_lt : aBin' P H .lss t (.string x) (.string y) = some (.bool (slt' x y)) := by simp [slt', aBinS]
theorem s_gt : aBin' P H .gtr t (.string x) (.string y) = some (.bool (sgt' x y)) := by simp [sgt', aBinS]
theorem s_ge : aBin' P H .geq t (.string x) (.string y) = some (.bool (sge' x y)) := by simp [sge', aBinS]
theorem s_le : aBin' P H .leq t (.string x) (.string y) = some (.bool (sle' x y)) := by simp [sle', aBinS]
theorem u_not : aUn .not (.bool p) = some (.bool (bnot p)) := by simp [aUn, bnot]
end

theorem DWp.cond' {P : Program} {nt : Nat} {env : Env} {H : AH} {Q : Exit → Env → AH → Prop} {c : Operand} {x y : Code} {t : Bool} (hc : aev env c = some (.bool t)) (h1 : t = true → DWp P nt x Q env H) (h2 : t = false → DWp P nt y Q env H) : DWp P nt (.cond c x y) Q env H := by
  cases t with
  | true => exact DWp.ct hc (h1 rfl)
  | false => exact DWp.cf hc (h2 rfl)

def bools (xs : List Bool) : List Value := xs.map .bool
def u8s (xs : List Int) : List Value := xs.map (.int .u8)
def strs (xs : List ByteArray) : List Value := xs.map .string

section
variable {α : Type} {f : α → Value} {xs ys : List α} {P : Program} {G G1 H : AH} {B : Nat → Prop} {N : Nat} {l : List Item} {u v s : Value} {cs cells new : List Value} {t t2 e : TypeId} {k : Nat} {q : EInfo} {i : Int} {kk : IntKind}
theorem lenG (h : Sl G v (xs.map f)) (he : elemT P t = some e) : aLen P G t v = some (.int .i64 (llen xs)) := by simpa [llen] using h.len he
theorem idxG (h : Sl G v (xs.map f)) (he : elemT P t = some e) (hs : sizeT P e = some 1) (hi : inL xs i) : aIndexAddr P G t v (.int kk i) = some (elP v i.toNat) := by
  have := h.idx (P := P) he hs (k := i.toNat) (by unfold inL at hi; simp; omega) (kk := kk)
  rwa [Int.toNat_of_nonneg hi.1] at this
theorem loadG (h : Sl G v (xs.map f)) (hs : sizeT P e = some 1) (hb : aggT P e = some false) (hi : inL xs i) (d : α) : aLoad P G e (elP v i.toNat) = some (f (gat d xs i)) := by
  refine h.load hs hb ?_
  rw [gat_eq]
  have : i.toNat < xs.length := by unfold inL at hi; omega
  simp [List.getD_eq_getElem?_getD, List.getElem?_eq_getElem this]
theorem Sep.make (h : Sep G B l) (hN : Up B G.length) (he : elemT P t = some e) (hq : einfo P e = some q) (hq1 : q.size = 1) (d : α) (hd : q.zero.cells.getD 0 default = f d) (hi : 0 ≤ i ∧ i ≤ 4294967296) :
    ∃ v G', aMake P G t (.int .i64 i) (.int .i64 i) = some (v, G') ∧ Sep G' B (l ++ [flat v e ((lrep i d).map f)]) ∧ Agree G.length G G' ∧ isTup v = false := by
  have hm : aMake P G t (.int .i64 i) (.int .i64 i) = some (.slice (some ⟨G.length, 0, some 0⟩) i.toNat i.toNat, G ++ [⟨List.replicate i.toNat (q.zero.cells.getD 0 default), e, 1, 0, false⟩]) := by
    simp only [aMake, he, hq, hq1, hi.1, hi.2, and_self, if_true, aNew]
  refine ⟨_, _, hm, ?_, Agree.app _ _, rfl⟩
  have := h.lit hN e ((List.replicate i.toNat d).map f) i.toNat
  have w := this.weak (k := l.length) (by simp; rfl)
  simp only [List.length_map, List.length_replicate] at w
  rw [List.set_append_right _ _ (Nat.le_refl _), Nat.sub_self, List.set_cons_zero] at w
  rw [hd]
  unfold lrep
  simpa [List.map_replicate] using w
theorem Sep.lit0 (h : Sep G B l) (hN : Up B G.length) (he : elemT P t = some e) (hq : einfo P e = some q) (hq1 : q.size = 1) :
    ∃ v G', aBuildSlice P G t 0 [] = some (v, G') ∧ Sep G' B (l ++ [flat1 v e []]) ∧ Agree G.length G G' ∧ isTup v = false ∧ v.cells = #[v] :=
  ⟨_, _, aBuild_none he hq hq1, h.lit hN e [] 0, Agree.app _ _, rfl, rfl⟩
theorem Sep.lit1 (h : Sep G B l) (hN : Up B G.length) (he : elemT P t = some e) (hq : einfo P e = some q) (hq1 : q.size = 1) (x : Value) (hx : isTup x = false) (hc : x.cells = #[x]) :
    ∃ v G', aBuildSlice P G t 1 [(0, x)] = some (v, G') ∧ Sep G' B (l ++ [flat1 v e [x]]) ∧ Agree G.length G G' ∧ isTup v = false ∧ v.cells = #[v] :=
  ⟨_, _, aBuild_one he hq hq1 hx hc, h.lit hN e [x] 1, Agree.app _ _, rfl, rfl⟩
theorem aBuild_two {x y : Value} (he : elemT P t = some e) (hq : einfo P e = some q) (hq1 : q.size = 1) (hx : isTup x = false) (hc : x.cells = #[x]) (hy : isTup y = false) (hcy : y.cells = #[y]) :
    aBuildSlice P G t 2 [(0, x), (1, y)] = some (.slice (some ⟨G.length, 0, some 0⟩) 2 2, G ++ [⟨[x, y], e, 1, 0, false⟩]) := by
  obtain ⟨qs, qb, qz⟩ := q
  simp only at hq1
  subst hq1
  have hn : noTup [(0, x), (1, y)] = true := by
    unfold noTup
    simp [hx, hy]
  simp [aBuildSlice, he, hq, hn, fillL, zeros, hc, hcy, aNew, List.range_succ]
theorem Sep.lit2 (h : Sep G B l) (hN : Up B G.length) (he : elemT P t = some e) (hq : einfo P e = some q) (hq1 : q.size = 1) (x y : Value) (hx : isTup x = false) (hc : x.cells = #[x]) (hy : isTup y = false) (hcy : y.cells = #[y]) :
    ∃ v G', aBuildSlice P G t 2 [(0, x), (1, y)] = some (v, G') ∧ Sep G' B (l ++ [flat1 v e [x, y]]) ∧ Agree G.length G G' ∧ isTup v = false ∧ v.cells = #[v] :=
  ⟨_, _, aBuild_two he hq hq1 hx hc hy hcy, h.lit hN e [x, y] 2, Agree.app _ _, rfl, rfl⟩
/-- Cells behind an own list. -/
theorem Sep.appendG (h : Sep G B l) (hk : l[k]? = some (flat u e (xs.map f))) (hN : Up B G.length) (he : elemT P t = some e) (he2 : elemT P t2 = some e) (hq : einfo P e = some q) (hq1 : q.size = 1) (hs : Sl G s (ys.map f)) (hb : xs.length + ys.length ≤ 4294967296) :
    ∃ v' G', aAppend P G t t2 u s = some (v', G') ∧ Sep G' B (l.set k (flat v' e ((lapp xs ys).map f))) ∧ AgB B G G' ∧ isTup v' = false ∧ v'.cells = #[v'] := by
  obtain ⟨v', G', a, b, c, d, g⟩ := h.append hk hN he he2 hq hq1 hs (by simpa using hb)
  have hk' : (l.set k (flat v' e (xs.map f ++ ys.map f)))[k]? = some (flat v' e (xs.map f ++ ys.map f)) := List.getElem?_set_self (List.getElem?_eq_some_iff.1 hk).1
  exact ⟨v', G', a, by unfold lapp; simpa using b, c, g, (b.sl hk').one⟩
/-- The same, where the list was told as not nil. -/
theorem Sep.append1 (h : Sep G B l) (hk : l[k]? = some (flat1 u e (xs.map f))) (hN : Up B G.length) (he : elemT P t = some e) (he2 : elemT P t2 = some e) (hq : einfo P e = some q) (hq1 : q.size = 1) (hs : Sl G s (ys.map f)) (hb : xs.length + ys.length ≤ 4294967296) :
    ∃ v' G', aAppend P G t t2 u s = some (v', G') ∧ Sep G' B (l.set k (flat v' e ((lapp xs ys).map f))) ∧ AgB B G G' ∧ isTup v' = false ∧ v'.cells = #[v'] := by
  have hkl := (List.getElem?_eq_some_iff.1 hk).1
  obtain ⟨v', G', a, b, c⟩ := (h.weak hk).appendG (u := u) (xs := xs) (f := f) (List.getElem?_set_self hkl) hN he he2 hq hq1 hs hb
  exact ⟨v', G', a, by simpa using b, c⟩
theorem Sep.storeG (h : Sep G B l) (hk : l[k]? = some (flat u e (xs.map f))) (hN : Up B G.length) (hs : sizeT P e = some 1) {x : α} (hi : inL xs i) (hx : isTup (f x) = false) (hc : (f x).cells = #[f x]) :
    ∃ G', aStore P G e (elP u i.toNat) (f x) = some G' ∧ Sep G' B (l.set k (flat u e ((lset xs i x).map f))) ∧ AgB B G G' := by
  obtain ⟨G', a, b, c, d⟩ := h.store (P := P) hk hN hs (j := i.toNat) (x := f x) (by unfold inL at hi; simp; omega) hx hc
  exact ⟨G', a, by unfold lset; simpa [List.map_set] using b, c⟩
/-! ### Pieces of lists -/
def subV (v : Value) (a b : Int) : Value := match v with
  | .slice (some ⟨i, off, some g⟩) n c => .slice (some ⟨i, off + a.toNat, some g⟩) (b.toNat - a.toNat) (if c = n ∧ b.toNat = n then b.toNat - a.toNat else b.toNat - a.toNat + 1)
  | v => v
variable {a b : Int}
theorem lsub_len (hg : subL xs a b) : (lsub xs a b).length = b.toNat - a.toNat := by
  unfold subL at hg
  unfold lsub
  simp
  omega
theorem cells_sub {o : List Value} {off : Nat} (h3 : (o.drop off).take xs.length = xs.map f) (hg : subL xs a b) : (o.drop (off + a.toNat)).take (b.toNat - a.toNat) = (lsub xs a b).map f := by
  unfold subL at hg
  unfold lsub
  rw [List.map_take, List.map_drop, ← h3, ← List.drop_drop, List.drop_take, List.take_take]
  congr 1
  omega
theorem subSl (h : Sl G v (xs.map f)) (hg : subL xs a b) : Sl G (subV v a b) ((lsub xs a b).map f) := by
  have hl := lsub_len hg
  rcases h with ⟨rfl, h0⟩ | ⟨i, off, g, c, o, rfl, h2, h3, h4, h5⟩
  · have hx : xs = [] := by simpa using h0
    subst hx
    exact .inl ⟨rfl, by simp [lsub]⟩
  · simp only [List.length_map] at h3 h4 ⊢
    refine .inr ⟨i, off + a.toNat, g, _, o, by simp only [subV, List.length_map, hl]; rfl, h2, by rw [List.length_map, hl]; exact cells_sub h3 hg, ?_, h5⟩
    unfold subL at hg
    simp only [List.length_map, hl]
    omega
theorem aSub11 (h : Sl G v (xs.map f)) (he : elemT P t = some e) (hs : sizeT P e = some 1) (hg : subL xs a b) : aSlice P G t v (some (.int .i64 a)) (some (.int .i64 b)) none = some (subV v a b) := by
  unfold subL at hg
  have ha : 0 ≤ b := by omega
  rcases h with ⟨rfl, h0⟩ | ⟨i, off, g, c, o, rfl, h2, h3, h4, h5⟩
  · have hx : xs = [] := by simpa using h0
    subst hx
    simp at hg
    have a0 : a = 0 := by omega
    have b0 : b = 0 := by omega
    subst a0 b0
    simp [aSlice, he, hs, idxV, subV]
  · have hab : a.toNat ≤ b.toNat := by omega
    have hbx : b.toNat ≤ xs.length := by omega
    simp [aSlice, h2, he, hs, idxV, hg.1, ha, h5, hab, hbx, subV]
theorem aSub10 (h : Sl G v (xs.map f)) (he : elemT P t = some e) (hs : sizeT P e = some 1) (hg : subL xs a (llen xs)) : aSlice P G t v (some (.int .i64 a)) none none = some (subV v a (llen xs)) := by
  unfold subL llen at hg
  rcases h with ⟨rfl, h0⟩ | ⟨i, off, g, c, o, rfl, h2, h3, h4, h5⟩
  · have hx : xs = [] := by simpa using h0
    subst hx
    simp at hg
    have a0 : a = 0 := by omega
    subst a0
    simp [aSlice, he, hs, idxV, subV]
  · have hab : a.toNat ≤ xs.length := by omega
    simp [aSlice, h2, he, hs, idxV, hg.1, h5, hab, subV, llen]
theorem aSub01 (h : Sl G v (xs.map f)) (he : elemT P t = some e) (hs : sizeT P e = some 1) (hg : subL xs 0 b) : aSlice P G t v none (some (.int .i64 b)) none = some (subV v 0 b) := by
  have := aSub11 h he hs hg
  unfold subL at hg
  rcases h with ⟨rfl, h0⟩ | ⟨i, off, g, c, o, rfl, h2, h3, h4, h5⟩
  · have hx : xs = [] := by simpa using h0
    subst hx
    simp at hg
    have b0 : b = 0 := by omega
    subst b0
    simp [aSlice, he, hs, idxV, subV]
  · have hbx : b.toNat ≤ xs.length := by omega
    simp [aSlice, h2, he, hs, idxV, hg.2.1, h5, hbx, subV]
theorem aSub00 (h : Sl G v (xs.map f)) (he : elemT P t = some e) (hs : sizeT P e = some 1) (hg : subL xs 0 (llen xs)) : aSlice P G t v none none none = some (subV v 0 (llen xs)) := by
  rcases h with ⟨rfl, h0⟩ | ⟨i, off, g, c, o, rfl, h2, h3, h4, h5⟩
  · have hx : xs = [] := by simpa using h0
    subst hx
    simp [aSlice, he, hs, idxV, subV]
  · simp [aSlice, h2, he, hs, idxV, h5, subV, llen]
theorem subOwn (h : Own G N e u (xs.map f)) (hg : subL xs a b) : Own G N e (subV u a b) ((lsub xs a b).map f) ∧ idOf (subV u a b) = idOf u := by
  have hl := lsub_len hg
  rcases h with ⟨rfl, h0⟩ | ⟨i, off, g, c, o, h0, rfl, h1, h2, h3, h4, h5, h6, h7⟩
  · have hx : xs = [] := by simpa using h0
    subst hx
    exact ⟨.inl ⟨rfl, by simp [lsub]⟩, rfl⟩
  · simp only [List.length_map] at h6 h7 ⊢
    refine ⟨.inr ⟨i, off + a.toNat, g, _, o, h0, by simp only [subV, List.length_map, hl]; rfl, h1, h2, h3, h4, h5, ?_, by rw [List.length_map, hl]; exact cells_sub h7 hg⟩, rfl⟩
    unfold subL at hg
    simp only [List.length_map, hl]
    omega
theorem Sep.resub (h : Sep G B l) (hk : l[k]? = some (flat u e (xs.map f))) (hg : subL xs a b) : Sep G B (l.set k (flat (subV u a b) e ((lsub xs a b).map f))) := h.turn hk fun F ⟨p, q⟩ => by
  obtain ⟨o, hi⟩ := subOwn p hg
  exact ⟨F, ⟨o, by rw [q]; unfold ids; rw [hi]⟩, fun _ h => h⟩
theorem inL_set {j : Int} {x : α} : inL (lset xs j x) i = inL xs i := by simp [inL, lset]
theorem Sep.own' (h : Sep G B l) (hk : l[k]? = some (flat u e cells)) : Own G 0 e u cells := h.own hk
/-! ### Literals of three -/
theorem Sep.lit3 (h : Sep G B l) (hN : Up B G.length) (he : elemT P t = some e) (hq : einfo P e = some q) (hq1 : q.size = 1) (x y z : Value) (hx : isTup x = false) (hc : x.cells = #[x]) (hy : isTup y = false) (hcy : y.cells = #[y]) (hz : isTup z = false) (hcz : z.cells = #[z]) :
    ∃ v G', aBuildSlice P G t 3 [(0, x), (1, y), (2, z)] = some (v, G') ∧ Sep G' B (l ++ [flat1 v e [x, y, z]]) ∧ Agree G.length G G' ∧ isTup v = false ∧ v.cells = #[v] := by
  refine ⟨_, _, ?_, h.lit hN e [x, y, z] 3, Agree.app _ _, rfl, rfl⟩
  obtain ⟨qs, qb, qz⟩ := q
  simp only at hq1
  subst hq1
  have hn : noTup [(0, x), (1, y), (2, z)] = true := by
    unfold noTup
    simp [hx, hy, hz]
  simp [aBuildSlice, he, hq, hn, fillL, zeros, hc, hcy, hcz, aNew, List.range_succ]
end
/-! ### Boxes -/
def fldT (P : Program) (s : TypeId) (f : Nat) : Option Nat := match P.underlying s with
  | some (.struct fields) => match fields[f]? with
    | some fl => match sizeT P fl.type with
      | some (_ + 1) => some fl.offset
      | _ => none
    | none => none
  | _ => none
section
variable {P : Program} {G G1 H : AH} {B : Nat → Prop} {N : Nat} {l : List Item} {p x y v z : Value} {cells : List Value} {t e : TypeId} {k off n f : Nat}
theorem Sep.fieldT (h : Sep G B l) (hk : l[k]? = some (AL.box p cells)) (hf : fldT P t f = some off) : aFieldAddr P G t p f = some (fldP p off) := by
  obtain ⟨i, ⟨rfl, o, h1, h2, _⟩, _⟩ := h.boxAt hk
  have ha : alive G i 0 = some o := by simp [alive, h1, h2]
  unfold fldT at hf
  unfold aFieldAddr ptrAt
  simp only [ha]
  split at hf
  · rename_i fields hu
    simp only [hu]
    split at hf
    · rename_i fl hfl
      simp only [hfl]
      split at hf
      · rename_i n hn
        cases hf
        simp only [hn]
        simp [fldP]
      · cases hf
    · cases hf
  · cases hf
theorem Sep.nilT (h : Sep G B l) (hk : l[k]? = some (AL.box p cells)) : aNil G p = .val p G := by
  obtain ⟨i, ⟨rfl, o, h1, h2, _⟩, _⟩ := h.boxAt hk
  have ha : alive G i 0 = some o := by simp [alive, h1, h2]
  simp [ptrAt, aNil, ha]
theorem Sep.loadAgg (h : Sep G B l) (hk : l[k]? = some (AL.box p cells)) (hs : sizeT P e = some n) (hb : aggT P e = some true) (hn : cells.length = n) : aLoad P G e p = some (.agg cells.toArray) := by
  obtain ⟨i, hi, _⟩ := h.boxAt hk
  exact hi.agg hs hb hn
theorem Sep.load0 (h : Sep G B l) (hk : l[k]? = some (AL.box p [v])) (hs : sizeT P e = some 1) (hb : aggT P e = some false) : aLoad P G e p = some v := by
  obtain ⟨i, hi, _⟩ := h.boxAt hk
  exact hi.load0 hs hb
theorem Sep.loadF (h : Sep G B l) (hk : l[k]? = some (AL.box p cells)) (hs : sizeT P e = some 1) (hb : aggT P e = some false) (hv : cells[off]? = some v) : aLoad P G e (fldP p off) = some v := by
  obtain ⟨i, hi, _⟩ := h.boxAt hk
  exact hi.load hs hb hv
theorem Sep.boxT (h : Sep G B l) (hN : Up B G.length) (e : TypeId) (cells : List Value) : ∃ G' p, aNew G cells e 1 = G' ∧ ptrAt G.length 0 0 = p ∧ Agree G.length G G' ∧ Sep G' B (l ++ [AL.box p cells]) := ⟨_, _, rfl, rfl, Agree.app _ _, h.box hN e 1 cells⟩
theorem Sep.allocT (h : Sep G B l) (hN : Up B G.length) (hz : zeroT P t = some z) (hc : constV z = true) : ∃ G' p, aAlloc P G t = some G' ∧ ptrAt G.length 0 0 = p ∧ Agree G.length G G' ∧ Sep G' B (l ++ [AL.box p z.cells.toList]) :=
  ⟨_, _, by simp only [aAlloc, hz, hc, if_true]; rfl, rfl, Agree.app _ _, h.box hN t 1 _⟩
theorem Sep.putF (h : Sep G B l) (hk : l[k]? = some (AL.box p cells)) (hN : Up B G.length) (hs : sizeT P e = some 1) (ho : off < cells.length) (hx : isTup x = false) (hc : x.cells = #[x]) :
    ∃ G', aStore P G e (fldP p off) x = some G' ∧ Sep G' B (l.set k (AL.box p (cells.set off x))) ∧ AgB B G G' := by
  obtain ⟨G', a, b, c, _⟩ := h.put hk hN hs ho hx hc
  exact ⟨G', a, b, c⟩
theorem fldP_zero (h : Sep G B l) (hk : l[k]? = some (AL.box p cells)) : fldP p 0 = p := by
  obtain ⟨i, ⟨rfl, _⟩, _⟩ := h.boxAt hk
  rfl
theorem Sep.put0 (h : Sep G B l) (hk : l[k]? = some (AL.box p [v])) (hN : Up B G.length) (hs : sizeT P e = some 1) (hx : isTup x = false) (hc : x.cells = #[x]) :
    ∃ G', aStore P G e p x = some G' ∧ Sep G' B (l.set k (AL.box p [x])) ∧ AgB B G G' := by
  have := h.putF (P := P) (e := e) (off := 0) (x := x) hk hN hs (by simp) hx hc
  rwa [fldP_zero h hk] at this
theorem Sep.putAgg {xs : List Value} (h : Sep G B l) (hk : l[k]? = some (AL.box p cells)) (hN : Up B G.length) (hs : sizeT P e = some n) (hx : xs.length = n) (hn : cells.length = n) :
    ∃ G', aStore P G e p (.agg xs.toArray) = some G' ∧ Sep G' B (l.set k (AL.box p xs)) ∧ AgB B G G' := by
  obtain ⟨i, ⟨rfl, o, h1, h2, rfl, h3⟩, hi, hil⟩ := h.boxAt hk
  have hal : alive G i 0 = some o := by simp [alive, h1, h2]
  have hst : aStore P G e (ptrAt i 0 0) (.agg xs.toArray) = some (G.set i { o with cells := xs }) := by
    simp only [ptrAt, aStore, hal, hs]
    have hcs : (Value.agg xs.toArray).cells = xs.toArray := rfl
    rw [hcs, if_pos ⟨h3, rfl, by simpa using hx, by omega⟩]
    simp [List.drop_of_length_le (Nat.le_of_eq hn)]
  obtain ⟨G', r, s1, s2, s3⟩ := h.step (it' := AL.box (ptrAt i 0 0) xs) hk hN (fun G' => G' = G.set i { o with cells := xs }) fun F ⟨j, hj, pF⟩ hF => by
    have hij : j = i := by
      have := hj.1
      simp [ptrAt] at this
      exact this.symm
    subst hij
    refine ⟨_, [j], rfl, ⟨j, ⟨rfl, _, List.getElem?_set_self hil, h2, rfl, h3⟩, rfl⟩, fun m hm => .inl (by rw [pF]; exact hm), by simp, fun m hm hne => List.getElem?_set_ne fun e => hne (by rw [pF]; simp [e])⟩
  subst r
  exact ⟨_, hst, s1, s2⟩
theorem buildT1 (hp : placeT P t = some (z, fun i => [(0, 1)].toArray[i]?)) (hz : constV z = true) (hl : z.cells.toList.length = 1) (hx : isTup x = false) (hc : x.cells = #[x]) : aBuild P t [(0, x)] = some (.agg #[x]) := by
  have hn : noTup [(0, x)] = true := by
    unfold noTup
    simpa using hx
  unfold aBuild
  rw [hp]
  simp only [hz, hn, and_self, if_true]
  match hzc : z.cells.toList, hl with
  | [z0], _ => simp [fillL, hc]
theorem buildT2 (hp : placeT P t = some (z, fun i => [(0, 1), (1, 1)].toArray[i]?)) (hz : constV z = true) (hl : z.cells.toList.length = 2) (hx : isTup x = false) (hc : x.cells = #[x]) (hy : isTup y = false) (hcy : y.cells = #[y]) : aBuild P t [(0, x), (1, y)] = some (.agg #[x, y]) := by
  have hn : noTup [(0, x), (1, y)] = true := by
    unfold noTup
    simpa using ⟨hx, hy⟩
  unfold aBuild
  rw [hp]
  simp only [hz, hn, and_self, if_true]
  match hzc : z.cells.toList, hl with
  | [z0, z1], _ => simp [fillL, hc, hcy]
/-! ### Conversions, strings -/
theorem c_int {s d : TypeId} {k k' k2 : IntKind} {n : Int} (hs : P.underlying s = some (.int k)) (hd : P.underlying d = some (.int k')) : aConvert P H s d (.int k2 n) = some (.int k' (iwr k' n)) := by simp [aConvert, hs, hd, iwr, wrF_eq]
theorem c_str {s d : TypeId} {a : ByteArray} (hs : P.underlying s = some .string) (hd : P.underlying d = some .string) : aConvert P H s d (.string a) = some (.string a) := by simp [aConvert, hs, hd]
theorem strLen {a : ByteArray} (hu : P.underlying t = some .string) : aLen P H t (.string a) = some (.int .i64 (slen a)) := by simp [aLen, hu, slen]
theorem strIdx {a : ByteArray} {i : Int} {kk : IntKind} (hu : P.underlying t = some .string) (hi : inS a i) : aIndex P t (.string a) (.int kk i) = some (.int .u8 (sat a i)) := by
  unfold inS at hi
  have h1 : i.toNat < a.data.size := by
    have : a.data.size = a.size := rfl
    omega
  have h2 : a.data[i.toNat]? = some a.data[i.toNat] := Array.getElem?_eq_getElem h1
  simp [aIndex, hu, hi.1, sat, h2]
theorem strSub11 {s : ByteArray} {a b : Int} (hu : P.underlying t = some .string) (hg : subS s a b) : aSlice P G t (.string s) (some (.int .i64 a)) (some (.int .i64 b)) none = some (.string (ssub s a b)) := by
  unfold subS at hg
  have hb : 0 ≤ b := by omega
  have h1 : a.toNat ≤ b.toNat := by omega
  have h2 : b.toNat ≤ s.size := by omega
  simp [aSlice, hu, idxV, hg.1, hb, h1, h2, ssub]
theorem strSub10 {s : ByteArray} {a : Int} (hu : P.underlying t = some .string) (hg : subS s a (slen s)) : aSlice P G t (.string s) (some (.int .i64 a)) none none = some (.string (ssub s a (slen s))) := by
  unfold subS slen at hg
  have h1 : a.toNat ≤ s.size := by omega
  simp [aSlice, hu, idxV, hg.1, h1, ssub, slen]
theorem strSub01 {s : ByteArray} {b : Int} (hu : P.underlying t = some .string) (hg : subS s 0 b) : aSlice P G t (.string s) none (some (.int .i64 b)) none = some (.string (ssub s 0 b)) := by
  unfold subS at hg
  have h2 : b.toNat ≤ s.size := by omega
  simp [aSlice, hu, idxV, hg.2.1, h2, ssub]
end
end Go.Proofs.Ytbckijeffiofdaa.AL
