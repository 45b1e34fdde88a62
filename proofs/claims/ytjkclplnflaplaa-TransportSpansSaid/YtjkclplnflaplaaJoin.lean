/-
  Whether a span goes on with another; the iterator over the pieces is made. Conditions: numbers in their bounds.
-/
import Derived.Test.YtjkclplnflaplaaPcw
namespace Go.Proofs.Ytjkclplnflaplaa
open Go.RowKit

/-- The end of a span in the song. -/
def endS (a : Sp) : Int := if a.roll = true then a.song + a.len else a.song
def joinB (a b : Sp) : Bool := decide (a.roll = b.roll) && decide (a.rcd = b.rcd) && decide (endS a = b.song)

set_option maxHeartbeats 4000000 in
theorem joins_t (a b : Sp) (w : World) (h0 : 0 ≤ a.song) (h1 : a.song ≤ 4398046511104) (h2 : 0 ≤ a.len) (h3 : a.len ≤ 4398046511104) :
    Calls Try.prog 27 #[spv a, spv b] w fun e w' => e = .returned (.bool (joinB a b)) ∧ Below w.heap.size w w' := by
  unfold spv spc
  obtain ⟨ae, al, az, ar, ac⟩ := a
  obtain ⟨be, bl, bs, br, bc⟩ := b
  dsimp only at *
  have HB : Below w.heap.size w ((w.alloc (.cells #[.int .i64 ae, .int .i64 al, .int .i64 az, .bool ar, .bool ac] 36)).alloc (.cells #[.int .i64 be, .int .i64 bl, .int .i64 bs, .bool br, .bool bc] 36)) := ((Below.refl _ w).alloc (Nat.le_refl _) _).alloc (by simp) _
  cases ar
  case false =>
    cases br
    case false =>
      cases ac
      case false =>
        cases bc
        case false =>
          by_cases hq : az = bs
          case pos =>
            have d : (az == bs) = true := beq_iff_eq.2 hq
            have E := Lib.hid (show joinB ⟨ae, al, az, false, false⟩ ⟨be, bl, bs, false, false⟩ = true by unfold joinB endS; simp [hq])
            try clear hq
            go_enter Try.func27, Try.ntmps27
            go_wp2
            go_ret
            exact ⟨by rw [E.out]; rfl, HB⟩
          have d : (az == bs) = false := beq_eq_false_iff_ne.2 hq
          have E := Lib.hid (show joinB ⟨ae, al, az, false, false⟩ ⟨be, bl, bs, false, false⟩ = false by unfold joinB endS; simp [hq])
          try clear hq
          go_enter Try.func27, Try.ntmps27
          go_wp2
          go_ret
          exact ⟨by rw [E.out]; rfl, HB⟩
        case true =>
          have E := Lib.hid (show joinB ⟨ae, al, az, false, false⟩ ⟨be, bl, bs, false, true⟩ = false by unfold joinB endS; simp)
          try clear hq
          go_enter Try.func27, Try.ntmps27
          go_wp2
          go_ret
          exact ⟨by rw [E.out]; rfl, HB⟩
      case true =>
        cases bc
        case false =>
          have E := Lib.hid (show joinB ⟨ae, al, az, false, true⟩ ⟨be, bl, bs, false, false⟩ = false by unfold joinB endS; simp)
          try clear hq
          go_enter Try.func27, Try.ntmps27
          go_wp2
          go_ret
          exact ⟨by rw [E.out]; rfl, HB⟩
        case true =>
          by_cases hq : az = bs
          case pos =>
            have d : (az == bs) = true := beq_iff_eq.2 hq
            have E := Lib.hid (show joinB ⟨ae, al, az, false, true⟩ ⟨be, bl, bs, false, true⟩ = true by unfold joinB endS; simp [hq])
            try clear hq
            go_enter Try.func27, Try.ntmps27
            go_wp2
            go_ret
            exact ⟨by rw [E.out]; rfl, HB⟩
          have d : (az == bs) = false := beq_eq_false_iff_ne.2 hq
          have E := Lib.hid (show joinB ⟨ae, al, az, false, true⟩ ⟨be, bl, bs, false, true⟩ = false by unfold joinB endS; simp [hq])
          try clear hq
          go_enter Try.func27, Try.ntmps27
          go_wp2
          go_ret
          exact ⟨by rw [E.out]; rfl, HB⟩
    case true =>
      have E := Lib.hid (show joinB ⟨ae, al, az, false, ac⟩ ⟨be, bl, bs, true, bc⟩ = false by unfold joinB endS; simp)
      try clear hq
      go_enter Try.func27, Try.ntmps27
      go_wp2
      go_ret
      exact ⟨by rw [E.out]; rfl, HB⟩
  case true =>
    cases br
    case false =>
      have E := Lib.hid (show joinB ⟨ae, al, az, true, ac⟩ ⟨be, bl, bs, false, bc⟩ = false by unfold joinB endS; simp)
      try clear hq
      go_enter Try.func27, Try.ntmps27
      go_wp2
      go_ret
      exact ⟨by rw [E.out]; rfl, HB⟩
    case true =>
      cases ac
      case false =>
        cases bc
        case false =>
          by_cases hq : az + al = bs
          case pos =>
            have d : (az + al == bs) = true := beq_iff_eq.2 hq
            have E := Lib.hid (show joinB ⟨ae, al, az, true, false⟩ ⟨be, bl, bs, true, false⟩ = true by unfold joinB endS; simp [hq])
            try clear hq
            go_enter Try.func27, Try.ntmps27
            go_wp2
            go_ret
            exact ⟨by rw [E.out]; rfl, HB⟩
          have d : (az + al == bs) = false := beq_eq_false_iff_ne.2 hq
          have E := Lib.hid (show joinB ⟨ae, al, az, true, false⟩ ⟨be, bl, bs, true, false⟩ = false by unfold joinB endS; simp [hq])
          try clear hq
          go_enter Try.func27, Try.ntmps27
          go_wp2
          go_ret
          exact ⟨by rw [E.out]; rfl, HB⟩
        case true =>
          have E := Lib.hid (show joinB ⟨ae, al, az, true, false⟩ ⟨be, bl, bs, true, true⟩ = false by unfold joinB endS; simp)
          try clear hq
          go_enter Try.func27, Try.ntmps27
          go_wp2
          go_ret
          exact ⟨by rw [E.out]; rfl, HB⟩
      case true =>
        cases bc
        case false =>
          have E := Lib.hid (show joinB ⟨ae, al, az, true, true⟩ ⟨be, bl, bs, true, false⟩ = false by unfold joinB endS; simp)
          try clear hq
          go_enter Try.func27, Try.ntmps27
          go_wp2
          go_ret
          exact ⟨by rw [E.out]; rfl, HB⟩
        case true =>
          by_cases hq : az + al = bs
          case pos =>
            have d : (az + al == bs) = true := beq_iff_eq.2 hq
            have E := Lib.hid (show joinB ⟨ae, al, az, true, true⟩ ⟨be, bl, bs, true, true⟩ = true by unfold joinB endS; simp [hq])
            try clear hq
            go_enter Try.func27, Try.ntmps27
            go_wp2
            go_ret
            exact ⟨by rw [E.out]; rfl, HB⟩
          have d : (az + al == bs) = false := beq_eq_false_iff_ne.2 hq
          have E := Lib.hid (show joinB ⟨ae, al, az, true, true⟩ ⟨be, bl, bs, true, true⟩ = false by unfold joinB endS; simp [hq])
          try clear hq
          go_enter Try.func27, Try.ntmps27
          go_wp2
          go_ret
          exact ⟨by rw [E.out]; rfl, HB⟩

theorem pieces_t (A : Option Addr) (k c : Nat) (n : Int) (w : World) :
    Calls Try.prog 26 #[.slice A k c, .int .i64 n] w fun e w' => e = .returned (.func (.func 38) #[] #[.pointer (some ⟨w.heap.size + 1, 0, none⟩), .pointer (some ⟨w.heap.size, 0, none⟩)]) ∧ w' = (w.alloc (.cells #[.slice A k c] 22)).alloc (.cells #[.int .i64 n] 3) := by
  have hmf : ∀ (fn : Fn) (first cap : Array Value) (w : World), (Instr.makeFunc fn first cap).run Try.prog w = .ok (.func fn first cap) w := fun _ _ _ _ => rfl
  go_enter Try.func26, Try.ntmps26
  go_wp2
  go_ret
  exact ⟨rfl, rfl⟩
end Go.Proofs.Ytjkclplnflaplaa
