/-
  What a row asks of the order of the program's beginnings, word by word: the whole list of words outgrows the checker's memory. Conditions: none.
-/
import Derived.Test.YtckeopidedoohaaRows
import Derived.ProofKit
namespace Go.Proofs.Ytckeopidedoohaa
def sp : Char := Char.ofNat 32
/-- The signs behind the first blank. -/
def nextW (l : List Char) : List Char := (l.dropWhile (· != sp)).tail
theorem words_step : ∀ l : List Char, l.any (· == sp) = true → wordsSigns l = l.takeWhile (· != sp) :: wordsSigns (nextW l)
  | [], h => by simp at h
  | c :: r, h => by
    by_cases hc : c = sp
    · subst hc
      simp [nextW, List.takeWhile, List.dropWhile]
      rfl
    · have h2 : r.any (· == sp) = true := by simpa [hc] using h
      have ih := words_step r h2
      have hb : (c != sp) = true := bne_iff_ne.2 hc
      have e1 : nextW (c :: r) = nextW r := by simp [nextW, List.dropWhile, hb]
      rw [List.takeWhile_cons, hb, if_pos rfl, e1]
      have e2 : wordsSigns (c :: r) = (match wordsSigns r with | w :: ws => (c :: w) :: ws | [] => [[c]]) := by
        conv => lhs; unfold wordsSigns
        split
        · rename_i heq
          cases heq
        · rename_i heq
          injection heq with h3 h4
          exact absurd h3 hc
        · rename_i heq
          injection heq with h3 h4
          subst h3 h4
          rfl
      rw [e2, ih]
theorem words3 {l : List Char} (h1 : l.any (· == sp) = true) (h2 : (nextW l).any (· == sp) = true) (h3 : (nextW (nextW l)).any (· == sp) = true) (hA : l.takeWhile (· != sp) = "harness".toList) (hS : isSumSigns ((nextW l).takeWhile (· != sp)) = true) (hC : (nextW (nextW l)).takeWhile (· != sp) = "cut".toList) : ∃ S W, wordsSigns l = "harness".toList :: S :: "cut".toList :: W ∧ isSumSigns S = true :=
  ⟨_, _, by rw [words_step _ h1, words_step _ h2, words_step _ h3, hA, hC], hS⟩
set_option maxRecDepth 100000 in
theorem jf_words : ∃ S W, wordsSigns Try.pinned.checked.prog.initOrder.toList = "harness".toList :: S :: "cut".toList :: W ∧ isSumSigns S = true := by
  have h : Try.pinned.checked.prog.initOrder = String.ofList _ := rfl
  rw [h, String.toList_ofList]
  refine words3 ?_ ?_ ?_ ?_ ?_ ?_
  all_goals decide +kernel
theorem cut_gc : ("cut".toList == "gc".toList) = false := by kernel_rfl
theorem cut_spec : ("cut".toList == "spec".toList) = false := by kernel_rfl
theorem cut_cut : ("cut".toList == "cut".toList) = true := by kernel_rfl
theorem make_cut (P : Program) (W : List (List Char)) (h : behindMainWord (wordsSigns P.initOrder.toList) = "cut".toList :: W) : P.make = some Make.cut := by
  unfold Program.make
  rw [h]
  simp only [cut_gc, cut_spec, cut_cut, Bool.or_self, Bool.true_or, Bool.false_eq_true, if_false, if_true]
theorem lifts_cut (P : Program) (W : List (List Char)) (h : behindMainWord (wordsSigns P.initOrder.toList) = "cut".toList :: W) : P.liftsFinal = false := by
  unfold Program.liftsFinal Program.headLifts
  rw [h]
  have e : stripLifts liftWords ("cut".toList :: W) = ([], "cut".toList :: W) := rfl
  simp only [e]
  rfl
theorem enter_cut (P : Program) (W : List (List Char)) (h : behindMainWord (wordsSigns P.initOrder.toList) = "cut".toList :: W) (h1 : P.laysLater = false) (h2 : P.bearsReflect = false) (h3 : P.doorFits [] = true) : P.mayEnter = true := by
  unfold Program.mayEnter
  rw [h]
  have e : stripLifts liftWords ("cut".toList :: W) = ([], "cut".toList :: W) := rfl
  simp only [e, h1, h2, h3]
  simp
theorem behind_main {S : List Char} {r : List (List Char)} (h : isSumSigns S = true) : behindMainWord ("harness".toList :: S :: r) = r := by
  show (if ("harness".toList == "harness".toList || "harness".toList == "ownmain".toList) && isSumSigns S then r else _) = r
  rw [h]
  rfl
theorem jf_cut : ∃ W, behindMainWord (wordsSigns Try.pinned.checked.prog.initOrder.toList) = "cut".toList :: W := by
  obtain ⟨S, W, h1, h2⟩ := jf_words
  exact ⟨W, by rw [h1, behind_main h2]⟩
theorem jf_make : Try.pinned.checked.prog.make = some Make.cut := by
  obtain ⟨W, h⟩ := jf_cut
  exact make_cut _ W h
theorem jf_lifts : Try.pinned.checked.prog.liftsFinal = false := by
  obtain ⟨W, h⟩ := jf_cut
  exact lifts_cut _ W h
theorem jf_later : Try.pinned.checked.prog.laysLater = false := by kernel_rfl
theorem jf_reflect : Try.pinned.checked.prog.bearsReflect = false := by kernel_rfl
theorem jf_door : Try.pinned.checked.prog.doorFits [] = true := by kernel_rfl
theorem jf_enter : Try.pinned.checked.prog.mayEnter = true := by
  obtain ⟨W, h⟩ := jf_cut
  exact enter_cut _ W h jf_later jf_reflect jf_door
theorem jf_laid : laidOutB Try.pinned.checked.prog = true := by kernel_rfl
theorem jf_maps : mapsRowed Try.pinned.checked.prog = true := by kernel_rfl
theorem jf_stops : Try.pinned.checked.prog.stops = [] := by kernel_rfl
theorem jf_knobs : Try.pinned.checked.prog.stopKnobs = [] := by kernel_rfl
theorem jf_keys : Try.pinned.checked.prog.plainKeys = true := by kernel_rfl
theorem jf_heard : Try.pinned.checked.prog.stopsHeard = true := by kernel_rfl
end Go.Proofs.Ytckeopidedoohaa
