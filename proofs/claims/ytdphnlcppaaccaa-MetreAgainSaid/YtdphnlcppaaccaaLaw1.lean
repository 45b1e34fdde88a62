/-
  The laws MetreTickSpec and MetrePlaceSpec walked: they answer true.
-/
import Derived.Test.YtdphnlcppaaccaaSane
namespace Go.Proofs.Ytdphnlcppaaccaa
open Go.RowKit
attribute [local go_sem] Oper.semAt_some

def Yes (w : World) (e : Ending) (w' : World) : Prop := e = .returned (.bool true) ∧ Below w.heap.size w w'

set_option maxHeartbeats 1000000 in
theorem tickSpec_t (A : Option Addr) (c : Nat) (ms : List Met) (bar beat off : Int) (w : World) (h : SlAt w A ms) :
    Calls Try.prog 3 #[.slice A ms.length c, .int .i64 bar, .int .i64 beat, .int .i64 off] w (Yes w) := by
  by_cases hl : 100 < ms.length
  · have d : decide (100 < (ms.length : Int)) = true := decide_eq_true (by omega)
    go_enter Try.func3, Try.ntmps3
    go_wp2_with (go_at_call 10; refine (sane_t _).mono ?_; rintro e w1 ⟨rfl, hw1⟩)
    go_ret
    exact ⟨rfl, hw1⟩
  · have d : decide (100 < (ms.length : Int)) = false := decide_eq_false (by omega)
    have hn : ms.length ≤ 1000000000 := by omega
    go_enter Try.func3, Try.ntmps3
    go_wp2_with (first
      | (go_at_call 10; refine (sane_t _).mono ?_; rintro e w1 ⟨rfl, hw1⟩; have h1 := h.below hw1)
      | (go_at_call 11; refine (ptick_a _ _ ms _ _ _ _ hn h1).mono ?_; rintro e w2 ⟨rfl, hw2⟩; have h2 := h1.below hw2; have b2 := hw1.trans (hw2.mono hw1.size))
      | (go_at_call 12; refine (rtick_a _ _ ms _ _ _ _ hn h2).mono ?_; rintro e w3 ⟨rfl, hw3⟩; have h3 := h2.below hw3; have b3 := b2.trans (hw3.mono b2.size))
      | (go_at_call 13; refine (pcheck_a _ _ ms _ hn h3).mono ?_; rintro e w4 ⟨rfl, hw4⟩; have h4 := h3.below hw4; have b4 := b3.trans (hw4.mono b3.size))
      | (go_at_call 14; refine (rcheck_a _ _ ms _ hn h4).mono ?_; rintro e w5 ⟨rfl, hw5⟩; have b5 := b4.trans (hw5.mono b4.size)))
    go_ret
    exact ⟨rfl, b5⟩

theorem rBars_few {ms : List Met} (hv : Valid ms) (lo hi : Int) : (rBars ms lo hi).1.length ≤ 4096 := by
  by_cases hc : lo < 0 ∨ hi < lo ∨ 16777216 < hi
  · unfold rBars
    rw [if_pos hc]
    simp
  · obtain ⟨L, _, _, h3⟩ := rBars_spec hv (lo := lo) (hi := hi) (by omega) (by omega) (by omega)
    rw [h3]
    split
    · assumption
    · simp
theorem gBars_few (ms : List Met) (lo hi : Int) : (gBars ms lo hi).1.length ≤ 4096 := by
  unfold gBars
  split
  · rename_i hv; exact rBars_few hv lo hi
  · simp

set_option maxHeartbeats 1000000 in
theorem placeSpec_t (A : Option Addr) (c : Nat) (ms : List Met) (tick lo hi : Int) (w : World) (h : SlAt w A ms) :
    Calls Try.prog 4 #[.slice A ms.length c, .int .i64 tick, .int .i64 lo, .int .i64 hi] w (Yes w) := by
  by_cases hl : 100 < ms.length
  · have d : decide (100 < (ms.length : Int)) = true := decide_eq_true (by omega)
    go_enter Try.func4, Try.ntmps4
    go_wp2_with (go_at_call 10; refine (sane_t _).mono ?_; rintro e w1 ⟨rfl, hw1⟩)
    go_ret
    exact ⟨rfl, hw1⟩
  · have d : decide (100 < (ms.length : Int)) = false := decide_eq_false (by omega)
    have hn : ms.length ≤ 1000000000 := by omega
    have hfew := gBars_few ms lo hi
    go_enter Try.func4, Try.ntmps4
    go_wp2_with (first
      | (go_at_call 10; refine (sane_t _).mono ?_; rintro e w1 ⟨rfl, hw1⟩; have h1 := h.below hw1)
      | (go_at_call 15; refine (pplace_a _ _ ms _ _ hn h1).mono ?_; rintro e w2 ⟨rfl, hw2⟩; have h2 := h1.below hw2; have b2 := hw1.trans (hw2.mono hw1.size); unfold quad)
      | (go_at_call 16; refine (rplace_a _ _ ms _ _ hn h2).mono ?_; rintro e w3 ⟨rfl, hw3⟩; have h3 := h2.below hw3; have b3 := b2.trans (hw3.mono b2.size); unfold quad)
      | (go_at_call 17; refine (pbars_a _ _ ms _ _ _ hn h3).mono ?_; rintro e w4 ⟨A4, k4, rfl, hI4, hw4⟩; have h4 := h3.below hw4; have b4 := b3.trans (hw4.mono b3.size))
      | (go_at_call 18; refine (rbars_a _ _ ms _ _ _ hn h4).mono ?_; rintro e w5 ⟨A5, k5, rfl, hI5, hw5⟩; have hI4' := hI4.below hw5; have b5 := b4.trans (hw5.mono b4.size))
      | (go_at_call 19; refine (same_t _ _ _ _ _ _ (gBars ms lo hi).1 (gBars ms lo hi).1 _ rfl rfl hI4' hI5 (by omega) (by omega)).mono ?_; rintro e w6 ⟨rfl, hw6⟩; have b6 := b5.trans (hw6.mono b5.size)))
    go_ret
    exact ⟨rfl, b6⟩
end Go.Proofs.Ytdphnlcppaaccaa
