/-
  The reference's Tick. Conditions: valid changes.
-/
import Derived.Test.YtdphnlcppaaccaaRefs
namespace Go.Proofs.Ytdphnlcppaaccaa
open Go.RowKit

theorem MetAt.drewN {w : World} {b o : Nat} {ms : List Met} (h : MetAt w b o ms) (m : Nat) : MetAt (w.drewN m) b o ms := ⟨h.lt, h.c0, h.c1, h.c2⟩
set_option maxHeartbeats 1000000 in
theorem at_q (b o c : Nat) (ms : List Met) (tick : Int) (w : World) (hv : Valid ms) (hm : MetAt w b o ms) (h0 : 0 ≤ tick) (h1 : tick ≤ 16777216) :
    Calls Try.prog 27 #[.slice (some ⟨b, o, none⟩) ms.length c, .int .i64 tick] w fun e w' => e = .returned (.int .i64 (atB ms tick ms.length)) ∧ ∃ m, w' = w.drewN m := by
  have hb := hm.lt
  have hn := hv.few
  go_enter Try.func27, Try.ntmps27
  go_wp2
  go_loopw [5, 6, 7] (fun t i _ wr => ∃ k : Nat, k ≤ ms.length ∧ i = .int .i64 k ∧ t = .int .i64 (atB ms tick k) ∧ ∃ m, wr = w.drewN m) (fun _ i _ _ => ms.length - (intOf i).toNat)
  case atStart => exact ⟨0, by omega, rfl, rfl, 0, rfl⟩
  case round =>
    obtain ⟨k, hk, rfl, rfl, m, rfl⟩ := hrel
    by_cases hlt : k < ms.length
    · have hf := hv.fine k hlt
      have hbd := atB_bd hv h0 h1 k hk
      have hm' := hm.drewN m
      have g1 := hm.c0 k hlt
      have f0 := hf.b0
      have f1 := hf.b1
      have hbg := bgn_bd hv (bar := mb ms k) (by omega) ms.length (Nat.le_refl _)
      have hl := long_bd hf
      by_cases hc : bgn ms (mb ms k) ms.length ≤ tick
      · have hq : atB ms tick (k + 1) = mb ms k + (tick - bgn ms (mb ms k) ms.length) / (mt ms k * mu ms k) := by
          conv => lhs; unfold atB
          rw [if_pos hc]
        have E := Lib.hid hq
        clear hq
        have qd := quot_bd (x := tick - bgn ms (mb ms k) ms.length) (by omega) hl.1
        go_wp2_with (go_at_call 23; refine (begin_q _ _ _ _ _ _ hv (by assumption) (by omega) (by omega)).mono ?_; rintro e w' ⟨rfl, m2, rfl⟩)
        have g2 := hm.c1 k hlt
        have g3 := hm.c2 k hlt
        have i1 : IntKind.i64.wrap (tick - bgn ms (mb ms k) ms.length) = tick - bgn ms (mb ms k) ms.length := IntWalk.i64_in _ (by omega)
        have i2 : IntKind.i64.wrap (mt ms k * mu ms k) = mt ms k * mu ms k := IntWalk.i64_in _ (by omega)
        go_quiet (fail)
        go_wp2
        go_roundw
        case rel => exact ⟨k + 1, by omega, by go_num, by rw [E.out], _, rfl⟩
        case measure => simp [intOf]; omega
      · have hq : atB ms tick (k + 1) = atB ms tick k := by
          conv => lhs; unfold atB
          rw [if_neg hc]
        have E := Lib.hid hq
        clear hq
        go_wp2_with (go_at_call 23; refine (begin_q _ _ _ _ _ _ hv (by assumption) (by omega) (by omega)).mono ?_; rintro e w' ⟨rfl, m2, rfl⟩)
        go_roundw
        case rel => exact ⟨k + 1, by omega, by go_num, by rw [E.out], _, rfl⟩
        case measure => simp [intOf]; omega
    · obtain rfl : k = ms.length := by omega
      go_wp2
      go_ret
      exact ⟨rfl, _, rfl⟩
theorem at_t (b o c : Nat) (ms : List Met) (tick : Int) (w : World) (hv : Valid ms) (hm : MetAt w b o ms) (h0 : 0 ≤ tick) (h1 : tick ≤ 16777216) :
    Calls Try.prog 27 #[.slice (some ⟨b, o, none⟩) ms.length c, .int .i64 tick] w fun e w' => e = .returned (.int .i64 (atB ms tick ms.length)) ∧ Below w.heap.size w w' :=
  (at_q b o c ms tick w hv hm h0 h1).mono fun _ _ h => ⟨h.1, below_of_drewN h.2⟩

/-- What the reference's Tick gives for valid changes. -/
def rTick (ms : List Met) (bar beat off : Int) : Int × Int :=
  if bar < 0 ∨ 1048576 < bar then (0, 1) else
  if beat < 0 ∨ mt ms (ofI ms bar ms.length) ≤ beat ∨ off < 0 ∨ mu ms (ofI ms bar ms.length) ≤ off then (0, 1) else
  if 16777216 < bgn ms bar ms.length + beat * mu ms (ofI ms bar ms.length) + off then (0, 70) else
  (bgn ms bar ms.length + beat * mu ms (ofI ms bar ms.length) + off, 0)

set_option maxHeartbeats 1000000 in
theorem rtick_t (b o c : Nat) (ms : List Met) (bar beat off : Int) (w : World) (hv : Valid ms) (hm : MetAt w b o ms) :
    Calls Try.prog 12 #[.slice (some ⟨b, o, none⟩) ms.length c, .int .i64 bar, .int .i64 beat, .int .i64 off] w fun e w' =>
      e = .returned (.tuple #[.int .i64 (rTick ms bar beat off).1, .int .i64 (rTick ms bar beat off).2]) ∧ Below w.heap.size w w' := by
  have hb := hm.lt
  by_cases c1 : bar < 0
  · have E := Lib.hid (show rTick ms bar beat off = (0, 1) by unfold rTick; rw [if_pos (.inl c1)])
    go_enter Try.func12, Try.ntmps12
    go_wp2_with (go_at_call 14; refine (rcheck_yes _ _ _ _ _ hv (by assumption)).mono ?_; rintro e w' ⟨rfl, hw⟩)
    go_ret2
    exact ⟨by rw [E.out]; rfl, by assumption⟩
  by_cases c2 : 1048576 < bar
  · have E := Lib.hid (show rTick ms bar beat off = (0, 1) by unfold rTick; rw [if_pos (.inr c2)])
    go_enter Try.func12, Try.ntmps12
    go_wp2_with (go_at_call 14; refine (rcheck_yes _ _ _ _ _ hv (by assumption)).mono ?_; rintro e w' ⟨rfl, hw⟩)
    go_ret2
    exact ⟨by rw [E.out]; rfl, by assumption⟩
  have hi := ofI_lt ms bar ms.length hv.pos
  have hf := hv.fine _ hi
  by_cases c3 : beat < 0 ∨ mt ms (ofI ms bar ms.length) ≤ beat ∨ off < 0 ∨ mu ms (ofI ms bar ms.length) ≤ off
  · have E := Lib.hid (show rTick ms bar beat off = (0, 1) by unfold rTick; rw [if_neg (by omega), if_pos c3])
    rcases c3 with c3 | c3 | c3 | c3
    all_goals
      go_enter Try.func12, Try.ntmps12
      go_wp2_with (first
        | (go_at_call 14; refine (rcheck_yes _ _ _ _ _ hv (by assumption)).mono ?_; rintro e w1 ⟨rfl, hw1⟩; have hm1 := hm.below hw1)
        | (go_at_call 20; refine (of_t _ _ _ _ _ _ (by have := hv.few; omega) hv.pos (by assumption)).mono ?_; rintro e w2 ⟨rfl, hw2⟩; unfold mval))
      all_goals
        go_ret2
        exact ⟨by rw [E.out]; rfl, (hw1.trans (hw2.mono hw1.size)).alloc (Nat.le_trans hw1.size hw2.size) _⟩
  have hbb := bgn_bd hv (bar := bar) (by omega) ms.length (Nat.le_refl _)
  have hn := hv.few
  have hpr := mul_bd (a := beat) (b := mu ms (ofI ms bar ms.length)) (A := 32) (B := 65536) (by omega) (by have := hf.t1; omega) (by have := hf.u0; omega) hf.u1
  have d1 : decide (beat < 0) = false := decide_eq_false (by omega)
  have d2 : decide (mt ms (ofI ms bar ms.length) ≤ beat) = false := decide_eq_false (by omega)
  have d3 : decide (off < 0) = false := decide_eq_false (by omega)
  have d4 : decide (mu ms (ofI ms bar ms.length) ≤ off) = false := decide_eq_false (by omega)
  have f1 := hf.u1
  have i1 : IntKind.i64.wrap (beat * mu ms (ofI ms bar ms.length)) = beat * mu ms (ofI ms bar ms.length) := IntWalk.i64_in _ (by omega)
  have i2 : IntKind.i64.wrap (bgn ms bar ms.length + beat * mu ms (ofI ms bar ms.length)) = bgn ms bar ms.length + beat * mu ms (ofI ms bar ms.length) := IntWalk.i64_in _ (by omega)
  have i3 : IntKind.i64.wrap (bgn ms bar ms.length + beat * mu ms (ofI ms bar ms.length) + off) = bgn ms bar ms.length + beat * mu ms (ofI ms bar ms.length) + off := IntWalk.i64_in _ (by omega)
  by_cases c4 : 16777216 < bgn ms bar ms.length + beat * mu ms (ofI ms bar ms.length) + off
  · have E := Lib.hid (show rTick ms bar beat off = (0, 70) by unfold rTick; rw [if_neg (by omega), if_neg c3, if_pos c4])
    go_enter Try.func12, Try.ntmps12
    go_wp2_with (first
      | (go_at_call 14; refine (rcheck_yes _ _ _ _ _ hv (by assumption)).mono ?_; rintro e w1 ⟨rfl, hw1⟩; have hm1 := hm.below hw1)
      | (go_at_call 20; refine (of_t _ _ _ _ _ _ (by have := hv.few; omega) hv.pos (by assumption)).mono ?_; rintro e w2 ⟨rfl, hw2⟩; have hm2 := hm1.below hw2; unfold mval))
    have hm3 := (hm2.below ((Below.refl _ _).alloc (Nat.le_refl _) (Obj.cells #[Value.int IntKind.i64 (mb ms (ofI ms bar ms.length)), Value.int IntKind.i64 (mt ms (ofI ms bar ms.length)), Value.int IntKind.i64 (mu ms (ofI ms bar ms.length))] 38)))
    go_quiet ((go_at_call 23; exact Calls.quiet_of (begin_q _ _ _ _ _ _ hv (hm3.drewN _) (by omega) (by omega))))
    go_wp2
    go_ret2
    exact ⟨by rw [E.out]; rfl, below_drewN ((hw1.trans (hw2.mono hw1.size)).alloc (Nat.le_trans hw1.size hw2.size) _) _⟩
  · have E := Lib.hid (show rTick ms bar beat off = (bgn ms bar ms.length + beat * mu ms (ofI ms bar ms.length) + off, 0) by unfold rTick; rw [if_neg (by omega), if_neg c3, if_neg c4])
    go_enter Try.func12, Try.ntmps12
    go_wp2_with (first
      | (go_at_call 14; refine (rcheck_yes _ _ _ _ _ hv (by assumption)).mono ?_; rintro e w1 ⟨rfl, hw1⟩; have hm1 := hm.below hw1)
      | (go_at_call 20; refine (of_t _ _ _ _ _ _ (by have := hv.few; omega) hv.pos (by assumption)).mono ?_; rintro e w2 ⟨rfl, hw2⟩; have hm2 := hm1.below hw2; unfold mval))
    have hm3 := (hm2.below ((Below.refl _ _).alloc (Nat.le_refl _) (Obj.cells #[Value.int IntKind.i64 (mb ms (ofI ms bar ms.length)), Value.int IntKind.i64 (mt ms (ofI ms bar ms.length)), Value.int IntKind.i64 (mu ms (ofI ms bar ms.length))] 38)))
    go_quiet ((go_at_call 23; exact Calls.quiet_of (begin_q _ _ _ _ _ _ hv (hm3.drewN _) (by omega) (by omega))))
    go_wp2
    go_ret2
    exact ⟨by rw [E.out]; rfl, below_drewN ((hw1.trans (hw2.mono hw1.size)).alloc (Nat.le_trans hw1.size hw2.size) _) _⟩
end Go.Proofs.Ytdphnlcppaaccaa
