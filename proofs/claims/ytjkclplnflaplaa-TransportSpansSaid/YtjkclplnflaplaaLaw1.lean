/-
  The law TransportCheckSpec walked: it answers true.
-/
import Derived.Test.YtjkclplnflaplaaSane
import Derived.Test.YtjkclplnflaplaaRchk
namespace Go.Proofs.Ytjkclplnflaplaa
open Go.RowKit
attribute [local go_sem] Oper.semAt_some

def Yes (w : World) (e : Ending) (w' : World) : Prop := e = .returned (.bool true) ∧ Below w.heap.size w w'

set_option maxHeartbeats 1000000 in
theorem checkSpec_t (A : Option Addr) (c : Nat) (l : List Ord) (w : World) (h : SlAt w A l) :
    Calls Try.prog 3 #[.slice A l.length c] w (Yes w) := by
  by_cases hl : l.length ≤ 300
  case neg =>
    have hf : decide (l.length ≤ 300) = false := decide_eq_false hl
    clear hl
    go_enter Try.func3, Try.ntmps3
    go_wp2_with (first
      | (go_at_call 10; refine (sane_t _).mono ?_; rintro e w1 ⟨rfl, hw1⟩)
      | (go_at_call 11; refine (few_t _ _ _ _).mono ?_; rintro e w2 ⟨rfl, hw2⟩; rw [hf]; have b2 := hw1.trans (hw2.mono hw1.size)))
    go_ret
    exact ⟨rfl, b2⟩
  have hn : l.length ≤ 1000000000 := by omega
  have hf : decide (l.length ≤ 300) = true := decide_eq_true hl
  clear hl
  go_enter Try.func3, Try.ntmps3
  go_wp2_with (first
    | (go_at_call 10; refine (sane_t _).mono ?_; rintro e w1 ⟨rfl, hw1⟩; have h1 := h.below hw1)
    | (go_at_call 11; refine (few_t _ _ _ _).mono ?_; rintro e w2 ⟨rfl, hw2⟩; rw [hf]; have h2 := h1.below hw2; have b2 := hw1.trans (hw2.mono hw1.size))
    | (go_at_call 12; refine (pcheck_t _ _ l _ hn h2).mono ?_; rintro e w3 ⟨rfl, hw3⟩; have h3 := h2.below hw3; have b3 := b2.trans (hw3.mono b2.size))
    | (go_at_call 13; refine (rcheck_t _ _ l _ hn h3).mono ?_; rintro e w4 ⟨rfl, hw4⟩; have b4 := b3.trans (hw4.mono b3.size)))
  go_ret
  exact ⟨rfl, b4⟩
end Go.Proofs.Ytjkclplnflaplaa
