/- The head of the translation, sign by sign: which words it opens with. -/
import Derived.Test.YtdbflchpbhkanaaRows
import Derived.KernelRfl
import Derived.ProofKit
namespace Go.Proofs.Ytdbflchpbhkanaa.Head
theorem toSigns {s : String} {l : List Nat} (h : s = String.ofList (l.map Char.ofNat)) : s.toList = l.map Char.ofNat := by rw [h, String.toList_ofList]
theorem wordsAt (w r : List Char) (h : w.all (fun c => decide (c ≠ Char.ofNat 32)) = true) : wordsSigns (w ++ Char.ofNat 32 :: r) = w :: wordsSigns r := by
  induction w with
  | nil => rfl
  | cons c w ih =>
    simp only [List.all_cons, Bool.and_eq_true, decide_eq_true_eq] at h
    have e : wordsSigns (c :: (w ++ Char.ofNat 32 :: r)) = match wordsSigns (w ++ Char.ofNat 32 :: r) with | a :: b => (c :: a) :: b | [] => [[c]] := by
      conv => lhs; unfold wordsSigns
      split
      · rename_i hx; cases hx
      · rename_i x hx; exact absurd (List.cons.inj hx).1 h.1
      · rename_i x y hx1 hx; obtain ⟨rfl, rfl⟩ := List.cons.inj hx; rfl
    rw [List.cons_append, e, ih h.2]
theorem s_harness : "harness".toList = ([104, 97, 114, 110, 101, 115, 115].map Char.ofNat) := toSigns (by kernel_rfl)
theorem s_ownmain : "ownmain".toList = ([111, 119, 110, 109, 97, 105, 110].map Char.ofNat) := toSigns (by kernel_rfl)
theorem s_gc : "gc".toList = ([103, 99].map Char.ofNat) := toSigns (by kernel_rfl)
theorem s_spec : "spec".toList = ([115, 112, 101, 99].map Char.ofNat) := toSigns (by kernel_rfl)
theorem s_stop : "stop".toList = ([115, 116, 111, 112].map Char.ofNat) := toSigns (by kernel_rfl)
theorem s_carried : "carried".toList = ([99, 97, 114, 114, 105, 101, 100].map Char.ofNat) := toSigns (by kernel_rfl)
theorem s_cut : "cut".toList = ([99, 117, 116].map Char.ofNat) := toSigns (by kernel_rfl)
theorem s_finals : "finals".toList = ([102, 105, 110, 97, 108, 115].map Char.ofNat) := toSigns (by kernel_rfl)
theorem s_reflectrows : "reflectrows".toList = ([114, 101, 102, 108, 101, 99, 116, 114, 111, 119, 115].map Char.ofNat) := toSigns (by kernel_rfl)
theorem s_leanrows : "leanrows".toList = ([108, 101, 97, 110, 114, 111, 119, 115].map Char.ofNat) := toSigns (by kernel_rfl)
theorem s_onebuild : "onebuild".toList = ([111, 110, 101, 98, 117, 105, 108, 100].map Char.ofNat) := toSigns (by kernel_rfl)
theorem s_publicsums : "publicsums".toList = ([112, 117, 98, 108, 105, 99, 115, 117, 109, 115].map Char.ofNat) := toSigns (by kernel_rfl)
theorem s_eqguard : "eqguard".toList = ([101, 113, 103, 117, 97, 114, 100].map Char.ofNat) := toSigns (by kernel_rfl)
theorem s_ownunsafe : "ownunsafe".toList = ([111, 119, 110, 117, 110, 115, 97, 102, 101].map Char.ofNat) := toSigns (by kernel_rfl)
theorem s_libbeside : "libbeside".toList = ([108, 105, 98, 98, 101, 115, 105, 100, 101].map Char.ofNat) := toSigns (by kernel_rfl)
theorem s_ownbeside : "ownbeside".toList = ([111, 119, 110, 98, 101, 115, 105, 100, 101].map Char.ofNat) := toSigns (by kernel_rfl)
theorem s_reflbeside : "reflbeside".toList = ([114, 101, 102, 108, 98, 101, 115, 105, 100, 101].map Char.ofNat) := toSigns (by kernel_rfl)
theorem s_aliases : "aliases".toList = ([97, 108, 105, 97, 115, 101, 115].map Char.ofNat) := toSigns (by kernel_rfl)
theorem s_afterinit : "afterinit".toList = ([97, 102, 116, 101, 114, 105, 110, 105, 116].map Char.ofNat) := toSigns (by kernel_rfl)
theorem s_crcplain : "crcplain".toList = ([99, 114, 99, 112, 108, 97, 105, 110].map Char.ofNat) := toSigns (by kernel_rfl)
theorem s_roadunsafe : "roadunsafe".toList = ([114, 111, 97, 100, 117, 110, 115, 97, 102, 101].map Char.ofNat) := toSigns (by kernel_rfl)
theorem s_fmthandon : "fmthandon".toList = ([102, 109, 116, 104, 97, 110, 100, 111, 110].map Char.ofNat) := toSigns (by kernel_rfl)
def rest : List Char := ([97, 116, 32, 108, 111, 111, 112, 46, 101, 120, 97, 109, 112, 108, 101, 47, 103, 48, 49, 49, 50, 54, 47, 108, 97, 119, 115, 46, 70, 110, 69, 120, 97, 99, 116, 77, 101, 97, 110, 100, 101, 114, 115, 66, 121, 83, 116, 97, 116, 101, 115, 32, 108, 111, 111, 112, 46, 101, 120, 97, 109, 112, 108, 101, 47, 103, 48, 49, 49, 50, 54, 47, 108, 97, 119, 115, 46, 70, 110, 69, 120, 97, 99, 116, 67, 111, 117, 110, 116, 66, 121, 83, 116, 97, 116, 101, 115, 32, 108, 111, 111, 112, 46, 101, 120, 97, 109, 112, 108, 101, 47, 103, 48, 49, 49, 50, 54, 47, 108, 97, 119, 115, 46, 70, 110, 69, 120, 97, 99, 116, 87, 97, 121, 115, 84, 111, 67, 108, 111, 115, 101].map Char.ofNat)
theorem head : Try.pinned.checked.prog.initOrder = String.ofList ((([104, 97, 114, 110, 101, 115, 115].map Char.ofNat) ++ Char.ofNat 32 :: (([56, 53, 57, 97, 51, 49, 55, 49, 57, 56, 53, 55, 55, 53, 48, 49, 53, 51, 53, 100, 52, 97, 101, 101, 102, 98, 49, 100, 57, 100, 54, 100, 97, 57, 50, 50, 54, 57, 54, 100, 102, 99, 97, 98, 55, 55, 100, 102, 101, 56, 48, 102, 50, 100, 53, 51, 54, 100, 52, 99, 57, 56, 53, 55].map Char.ofNat) ++ Char.ofNat 32 :: (([99, 117, 116].map Char.ofNat) ++ Char.ofNat 32 :: rest)))) := by kernel_rfl
theorem words_of (P : Program) (h : P.initOrder = String.ofList (([104, 97, 114, 110, 101, 115, 115].map Char.ofNat) ++ Char.ofNat 32 :: (([56, 53, 57, 97, 51, 49, 55, 49, 57, 56, 53, 55, 55, 53, 48, 49, 53, 51, 53, 100, 52, 97, 101, 101, 102, 98, 49, 100, 57, 100, 54, 100, 97, 57, 50, 50, 54, 57, 54, 100, 102, 99, 97, 98, 55, 55, 100, 102, 101, 56, 48, 102, 50, 100, 53, 51, 54, 100, 52, 99, 57, 56, 53, 55].map Char.ofNat) ++ Char.ofNat 32 :: (([99, 117, 116].map Char.ofNat) ++ Char.ofNat 32 :: rest)))) : behindMainWord (wordsSigns P.initOrder.toList) = ([99, 117, 116].map Char.ofNat) :: wordsSigns rest := by
  rw [h, String.toList_ofList, wordsAt _ _ (by decide), wordsAt _ _ (by decide), wordsAt _ _ (by decide)]
  unfold behindMainWord
  simp only [s_harness, s_ownmain]
  rw [if_pos (by decide)]
theorem words : behindMainWord (wordsSigns Try.pinned.checked.prog.initOrder.toList) = ([99, 117, 116].map Char.ofNat) :: wordsSigns rest := words_of _ head
theorem strip (r : List (List Char)) : stripLifts liftWords (([99, 117, 116].map Char.ofNat) :: r) = ([], ([99, 117, 116].map Char.ofNat) :: r) := by
  unfold liftWords
  simp only [stripLifts, s_finals, s_reflectrows, s_leanrows, s_onebuild, s_publicsums, s_eqguard, s_ownunsafe, s_libbeside, s_ownbeside, s_reflbeside, s_aliases, s_afterinit, s_crcplain, s_roadunsafe, s_fmthandon]
  repeat rw [if_neg (by decide)]
theorem enter_of (P : Program) (R : List (List Char)) (h : behindMainWord (wordsSigns P.initOrder.toList) = ([99, 117, 116].map Char.ofNat) :: R) (h2 : P.bearsReflect = false) (h1 : P.laysLater = false) (h3 : P.doorFits [] = true) : P.mayEnter = true := by
  unfold Program.mayEnter
  rw [h]
  simp only [s_gc, s_spec, s_stop, s_carried, s_cut, strip, h1, h2, h3]
  generalize (R.isEmpty || R.head? == some ([115, 116, 111, 112].map Char.ofNat)) = b
  generalize (List.take 2 R == [([103, 99].map Char.ofNat), ([99, 117, 116].map Char.ofNat)]) = b2
  cases b <;> cases b2 <;> rfl
theorem lift_of (P : Program) (R : List (List Char)) (h : behindMainWord (wordsSigns P.initOrder.toList) = ([99, 117, 116].map Char.ofNat) :: R) : P.liftsFinal = false := by
  unfold Program.liftsFinal Program.headLifts
  rw [h]
  simp only [s_gc, s_carried, s_cut, strip]
  rfl
theorem make_of (P : Program) (R : List (List Char)) (h : behindMainWord (wordsSigns P.initOrder.toList) = ([99, 117, 116].map Char.ofNat) :: R) : P.make = some .cut := by
  unfold Program.make
  rw [h]
  simp only [s_gc, s_spec, s_cut]
  rfl
theorem no_reflect : Try.pinned.checked.prog.bearsReflect = false := by kernel_rfl
theorem no_later : Try.pinned.checked.prog.laysLater = false := by kernel_rfl
theorem door : Try.pinned.checked.prog.doorFits [] = true := by kernel_rfl
theorem enter : Try.pinned.checked.prog.mayEnter = true := enter_of _ _ words no_reflect no_later door
theorem lift : Try.pinned.checked.prog.liftsFinal = false := lift_of _ _ words
theorem make : Try.pinned.checked.prog.make = some .cut := make_of _ _ words
theorem and_t {a b : Bool} (h : a = true) (k : b = true) : (a && b) = true := by rw [h, k]; rfl
end Go.Proofs.Ytdbflchpbhkanaa.Head
