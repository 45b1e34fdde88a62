/-
  The walks of the reference's functions over changes of a metre.
-/
import Derived.Test.YtdphnlcppaaccaaPlain
import Derived.Test.YtdphnlcppaaccaaBase
namespace Go.Proofs.Ytdphnlcppaaccaa
open Go.RowKit

/-- A block and an offset at which changes lie. -/
structure MetAt (w : World) (b o : Nat) (ms : List Met) : Prop where
  lt : b < w.heap.size
  c0 : ∀ i, i < ms.length → w.cell? ⟨b, o + i * 3, none⟩ = some (.int .i64 (mb ms i))
  c1 : ∀ i, i < ms.length → w.cell? ⟨b, o + i * 3 + 1, none⟩ = some (.int .i64 (mt ms i))
  c2 : ∀ i, i < ms.length → w.cell? ⟨b, o + i * 3 + 2, none⟩ = some (.int .i64 (mu ms i))

theorem MetAt.below {w w' : World} {b o : Nat} {ms : List Met} (h : MetAt w b o ms) (hb : Below w.heap.size w w') : MetAt w' b o ms :=
  ⟨Nat.lt_of_lt_of_le h.lt hb.size, fun i hi => (hb.cell (p := ⟨b, _, none⟩) h.lt).trans (h.c0 i hi), fun i hi => (hb.cell (p := ⟨b, _, none⟩) h.lt).trans (h.c1 i hi), fun i hi => (hb.cell (p := ⟨b, _, none⟩) h.lt).trans (h.c2 i hi)⟩

def mval (ms : List Met) (i : Nat) : Value := .agg #[.int .i64 (mb ms i), .int .i64 (mt ms i), .int .i64 (mu ms i)]

set_option maxHeartbeats 400000 in
theorem of_t (b o c : Nat) (ms : List Met) (bar : Int) (w : World) (hn : ms.length ≤ 1000000000) (hn0 : 0 < ms.length) (hm : MetAt w b o ms) :
    Calls Try.prog 20 #[.slice (some ⟨b, o, none⟩) ms.length c, .int .i64 bar] w fun e w' => e = .returned (mval ms (ofI ms bar ms.length)) ∧ Below w.heap.size w w' := by
  have hb := hm.lt
  have g1 := hm.c0 0 hn0
  have g2 := hm.c1 0 hn0
  have g3 := hm.c2 0 hn0
  simp only [Nat.zero_mul, Nat.add_zero] at g1 g2 g3
  go_enter Try.func20, Try.ntmps20
  go_wp2
  go_loopw [6] (fun i wr => ∃ k : Nat, k ≤ ms.length ∧ i = .int .i64 k ∧ wr = (w.alloc (Obj.cells #[Value.int IntKind.i64 0, Value.int IntKind.i64 0, Value.int IntKind.i64 0] 38)).alloc (Obj.cells #[Value.int IntKind.i64 (mb ms (ofI ms bar k)), Value.int IntKind.i64 (mt ms (ofI ms bar k)), Value.int IntKind.i64 (mu ms (ofI ms bar k))] 38)) (fun i _ => ms.length - (intOf i).toNat)
  case atStart => exact ⟨0, by omega, rfl, rfl⟩
  case round =>
    obtain ⟨k, hk, rfl, rfl⟩ := hrel
    by_cases hlt : k < ms.length
    · have g1 := hm.c0 k hlt
      have g2 := hm.c1 k hlt
      have g3 := hm.c2 k hlt
      by_cases hle : mb ms k ≤ bar
      · have e : ofI ms bar (k + 1) = k := by unfold ofI; rw [if_pos hle]
        have E := Lib.hid e
        clear e
        go_wp2
        go_roundw
        case rel => exact ⟨k + 1, by omega, by go_num, by rw [E.out]⟩
        case measure => simp [intOf]; omega
      · have e : ofI ms bar (k + 1) = ofI ms bar k := by conv => lhs; unfold ofI; rw [if_neg hle]
        have E := Lib.hid e
        clear e
        go_wp2
        go_roundw
        case rel => exact ⟨k + 1, by omega, by go_num, by rw [E.out]⟩
        case measure => simp [intOf]; omega
    · obtain rfl : k = ms.length := by omega
      go_wp2
      refine bodyPost_ret (v := mval ms (ofI ms bar ms.length)) (by simp [results, Try.results20, go_sem, mval]) rfl ⟨rfl, ?_⟩
      exact ((Below.refl _ _).alloc (Nat.le_refl _) _).alloc (by simp) _
set_option maxHeartbeats 1000000 in
theorem begin_q (b o c : Nat) (ms : List Met) (bar : Int) (w : World) (hv : Valid ms) (hm : MetAt w b o ms) (h0 : 0 ≤ bar) (h1 : bar ≤ 1048577) :
    Calls Try.prog 23 #[.slice (some ⟨b, o, none⟩) ms.length c, .int .i64 bar] w fun e w' => e = .returned (.int .i64 (bgn ms bar ms.length)) ∧ ∃ m, w' = w.drewN m := by
  have hb := hm.lt
  have hn := hv.few
  go_enter Try.func23, Try.ntmps23
  go_wp2
  go_loopw [5, 6, 7] (fun t i _ wr => ∃ k : Nat, k ≤ ms.length ∧ i = .int .i64 k ∧ t = .int .i64 (bgn ms bar k) ∧ ∃ m, wr = w.drewN m) (fun _ i _ _ => ms.length - (intOf i).toNat)
  case atStart => exact ⟨0, by omega, rfl, rfl, 0, rfl⟩
  case round =>
    obtain ⟨k, hk, rfl, rfl, m, rfl⟩ := hrel
    by_cases hlt : k < ms.length
    · have hf := hv.fine k hlt
      have hbd := bgn_bd hv h1 k hk
      have g1 := hm.c0 k hlt
      have g2 := hm.c1 k hlt
      have g3 := hm.c2 k hlt
      have f0 := hf.b0
      have f1 := hf.b1
      by_cases hs : k + 1 < ms.length
      · have g4 := hm.c0 (k + 1) hs
        have hup := hv.up k hs
        have f1 := (hv.fine (k + 1) hs).b1
        by_cases hc : mb ms (k + 1) < bar
        · have hq : bgn ms bar (k + 1) = bgn ms bar k + (mb ms (k + 1) - mb ms k) * mt ms k * mu ms k := by
            have e : eN ms bar k = mb ms (k + 1) := by unfold eN; rw [if_pos hs]; omega
            conv => lhs; unfold bgn
            rw [e, if_pos hup]
          have E := Lib.hid hq
          clear hq
          obtain ⟨p1, p2, p3, p4⟩ := prod_bd hf (d := mb ms (k + 1) - mb ms k) (by omega) (by omega)
          go_wp2
          go_quiet (fail)
          go_wp2
          go_roundw
          case rel => exact ⟨k + 1, by omega, by go_num, by rw [E.out], _, rfl⟩
          case measure => simp [intOf]; omega
        · by_cases hd : mb ms k < bar
          · have hq : bgn ms bar (k + 1) = bgn ms bar k + (bar - mb ms k) * mt ms k * mu ms k := by
              have e : eN ms bar k = bar := by unfold eN; rw [if_pos hs]; omega
              conv => lhs; unfold bgn
              rw [e, if_pos hd]
            have E := Lib.hid hq
            clear hq
            obtain ⟨p1, p2, p3, p4⟩ := prod_bd hf (d := bar - mb ms k) (by omega) (by omega)
            go_wp2
            go_quiet (fail)
            go_wp2
            go_roundw
            case rel => exact ⟨k + 1, by omega, by go_num, by rw [E.out], _, rfl⟩
            case measure => simp [intOf]; omega
          · have hq : bgn ms bar (k + 1) = bgn ms bar k := by
              have e : eN ms bar k = bar := by unfold eN; rw [if_pos hs]; omega
              conv => lhs; unfold bgn
              rw [e, if_neg hd]
            have E := Lib.hid hq
            clear hq
            go_wp2
            go_roundw
            case rel => exact ⟨k + 1, by omega, by go_num, by rw [E.out], _, rfl⟩
            case measure => simp [intOf]; omega
      · by_cases hd : mb ms k < bar
        · have hq : bgn ms bar (k + 1) = bgn ms bar k + (bar - mb ms k) * mt ms k * mu ms k := by
            have e : eN ms bar k = bar := by unfold eN; rw [if_neg hs]
            conv => lhs; unfold bgn
            rw [e, if_pos hd]
          have E := Lib.hid hq
          clear hq
          obtain ⟨p1, p2, p3, p4⟩ := prod_bd hf (d := bar - mb ms k) (by omega) (by omega)
          go_wp2
          go_quiet (fail)
          go_wp2
          go_roundw
          case rel => exact ⟨k + 1, by omega, by go_num, by rw [E.out], _, rfl⟩
          case measure => simp [intOf]; omega
        · have hq : bgn ms bar (k + 1) = bgn ms bar k := by
            have e : eN ms bar k = bar := by unfold eN; rw [if_neg hs]
            conv => lhs; unfold bgn
            rw [e, if_neg hd]
          have E := Lib.hid hq
          clear hq
          go_wp2
          go_roundw
          case rel => exact ⟨k + 1, by omega, by go_num, by rw [E.out], _, rfl⟩
          case measure => simp [intOf]; omega
    · obtain rfl : k = ms.length := by omega
      go_wp2
      go_ret
      exact ⟨rfl, _, rfl⟩

theorem begin_t (b o c : Nat) (ms : List Met) (bar : Int) (w : World) (hv : Valid ms) (hm : MetAt w b o ms) (h0 : 0 ≤ bar) (h1 : bar ≤ 1048577) :
    Calls Try.prog 23 #[.slice (some ⟨b, o, none⟩) ms.length c, .int .i64 bar] w fun e w' => e = .returned (.int .i64 (bgn ms bar ms.length)) ∧ Below w.heap.size w w' :=
  (begin_q b o c ms bar w hv hm h0 h1).mono fun _ _ h => ⟨h.1, below_of_drewN h.2⟩

set_option maxHeartbeats 1000000 in
theorem rcheck_yes (b o c : Nat) (ms : List Met) (w : World) (hv : Valid ms) (hm : MetAt w b o ms) :
    Calls Try.prog 14 #[.slice (some ⟨b, o, none⟩) ms.length c] w fun e w' => e = .returned (.int .i64 0) ∧ Below w.heap.size w w' := by
  have hb := hm.lt
  have hn := hv.few
  have hp := hv.pos
  have g0 := hm.c0 0 hp
  simp only [Nat.zero_mul, Nat.add_zero] at g0
  have z0 := hv.zero
  rw [z0] at g0
  have n0 : ((ms.length : Int) == 0) = false := beq_eq_false_iff_ne.2 (by omega)
  go_enter Try.func14, Try.ntmps14
  go_wp2
  go_loopw [3] (fun i wr => ∃ k : Nat, k ≤ ms.length ∧ i = .int .i64 k ∧ Below w.heap.size w wr) (fun i _ => ms.length - (intOf i).toNat)
  case atStart => exact ⟨0, by omega, rfl, Below.refl _ _⟩
  case round =>
    obtain ⟨k, hk, rfl, hw⟩ := hrel
    have hm' := hm.below hw
    have hb' := hm'.lt
    by_cases hlt : k < ms.length
    · obtain ⟨f0, f1, f2, f3, f4, f5⟩ := hv.fine k hlt
      have g1 := hm'.c0 k hlt
      have g2 := hm'.c1 k hlt
      have g3 := hm'.c2 k hlt
      have d1 : decide (mb ms k < 0) = false := decide_eq_false (by omega)
      have d2 : decide (1048576 < mb ms k) = false := decide_eq_false (by omega)
      have d3 : decide (mt ms k < 1) = false := decide_eq_false (by omega)
      have d4 : decide (32 < mt ms k) = false := decide_eq_false (by omega)
      have d5 : decide (mu ms k < 1) = false := decide_eq_false (by omega)
      have d6 : decide (65536 < mu ms k) = false := decide_eq_false (by omega)
      by_cases hk0 : 0 < k
      · obtain ⟨j, rfl⟩ : ∃ j, k = j + 1 := ⟨k - 1, by omega⟩
        have hup := hv.up j (by omega)
        have g4 := hm'.c0 j (by omega)
        have d7 : decide (mb ms (j + 1) ≤ mb ms j) = false := decide_eq_false (by omega)
        have i3 : (j : Int) < (ms.length : Int) := by omega
        have i4 : IntKind.i64.wrap (j : Int) = (j : Int) := IntWalk.i64_in _ (by omega)
        go_wp2
        go_quiet (fail)
        go_wp2
        go_roundw
        case rel => exact ⟨j + 1 + 1, by omega, by go_num, below_drewN (hw.alloc hw.size _) _⟩
        case measure => simp [intOf]; omega
      · obtain rfl : k = 0 := by omega
        simp only [Nat.zero_mul, Nat.add_zero] at g1 g2 g3
        go_wp2
        go_quiet (fail)
        go_wp2
        go_roundw
        case rel => exact ⟨1, by omega, by go_num, below_drewN (hw.alloc hw.size _) _⟩
        case measure => simp [intOf]; omega
    · obtain rfl : k = ms.length := by omega
      go_wp2
      go_ret
      exact ⟨rfl, hw⟩
end Go.Proofs.Ytdphnlcppaaccaa
