/-
  The program's Check answers OK exactly for valid changes. Conditions: at least one change.
-/
import Derived.Test.YtdphnlcppaaccaaRefs
import Derived.Deep.RegionHeld3
namespace Go.Proofs.Ytdphnlcppaaccaa
open Go.RowKit

def prevB (ms : List Met) : Nat → Int
  | 0 => -1
  | k + 1 => mb ms k
/-- Change k is fine behind the one before it. -/
structure OkAt (ms : List Met) (k : Nat) : Prop where
  l : prevB ms k < mb ms k
  b1 : mb ms k ≤ 1048576
  t0 : 1 ≤ mt ms k
  t1 : mt ms k ≤ 32
  u0 : 1 ≤ mu ms k
  u1 : mu ms k ≤ 65536

theorem prevB_ge {ms : List Met} (k : Nat) (h : ∀ j, j < k → OkAt ms j) : -1 ≤ prevB ms k := by
  cases k with
  | zero => simp [prevB]
  | succ k =>
    induction k with
    | zero => have := (h 0 (by omega)).l; simp [prevB] at *; omega
    | succ k ih => have := (h (k + 1) (by omega)).l; have := ih (fun j hj => h j (by omega)); simp [prevB] at *; omega

theorem valid_of {ms : List Met} (h1 : 1 ≤ ms.length) (h2 : ms.length ≤ 64) (h3 : mb ms 0 = 0) (h : ∀ k, k < ms.length → OkAt ms k) : Valid ms :=
  ⟨h1, h2, h3, fun i hi => by
    have a := h i hi
    have b := prevB_ge i (fun j hj => h j (by omega))
    exact ⟨by have := a.l; omega, a.b1, a.t0, a.t1, a.u0, a.u1⟩, fun i hi => (h (i + 1) hi).l⟩
theorem Valid.ok {ms : List Met} (h : Valid ms) (k : Nat) (hk : k < ms.length) : OkAt ms k := by
  have f := h.fine k hk
  refine ⟨?_, f.b1, f.t0, f.t1, f.u0, f.u1⟩
  cases k with
  | zero => have := f.b0; simp [prevB]; omega
  | succ k => exact h.up k hk

/-- The variable that the closure has captured: what it holds, that it may be written; below it nothing has changed. -/
def LastIs (w : World) (B : Nat) (v : Int) (w' : World) : Prop := w'.cell? ⟨B, 0, none⟩ = some (.int .i64 v) ∧ w'.frozen? ⟨B, 0, none⟩ = false ∧ Below B w w'

theorem wrong_world (a b c : Int) (B : Nat) (w : World) {last : Int} (hB : B < w.heap.size) (hc : w.cell? ⟨B, 0, none⟩ = some (.int .i64 last)) (hf : w.frozen? ⟨B, 0, none⟩ = false) :
    LastIs w B a ((w.setCell ⟨B, 0, none⟩ (.int .i64 a)).alloc (.cells #[.int .i64 a, .int .i64 b, .int .i64 c] 38)) := by
  have h1 : (w.setCell ⟨B, 0, none⟩ (.int .i64 a)).cell? ⟨B, 0, none⟩ = some (.int .i64 a) := World.cell?_setCell_same' _ _ _ (by rw [hc]; rfl)
  have h2 : (w.setCell ⟨B, 0, none⟩ (.int .i64 a)).frozen? ⟨B, 0, none⟩ = false := by rw [World.frozen?_setCell]; exact hf
  have hs : (w.setCell ⟨B, 0, none⟩ (.int .i64 a)).heap.size = w.heap.size := by simp [World.setCell]
  have hb := (Below.refl (w.setCell ⟨B, 0, none⟩ (.int .i64 a)).heap.size (w.setCell ⟨B, 0, none⟩ (.int .i64 a))).alloc (Nat.le_refl _) (.cells #[.int .i64 a, .int .i64 b, .int .i64 c] 38)
  exact ⟨(hb.cell (p := ⟨B, 0, none⟩) (by rw [hs]; exact hB)).trans h1, (hb.frozen (p := ⟨B, 0, none⟩) (by rw [hs]; exact hB)).trans h2, ((Below.refl B w).setCell (Nat.le_refl _) _).alloc (by rw [hs]; omega) _⟩

set_option maxHeartbeats 1000000 in
theorem wrong_no (a b c last : Int) (B : Nat) (w : World) (h0 : last < a) (h1 : a ≤ 1048576) (h2 : 1 ≤ b) (h3 : b ≤ 32) (h4 : 1 ≤ c) (h5 : c ≤ 65536) (hB : B < w.heap.size)
    (hc : w.cell? ⟨B, 0, none⟩ = some (.int .i64 last)) (hf : w.frozen? ⟨B, 0, none⟩ = false) :
    Calls Try.prog 24 #[.agg #[.int .i64 a, .int .i64 b, .int .i64 c], .pointer (some ⟨B, 0, none⟩)] w fun e w' => e = .returned (.bool false) ∧ LastIs w B a w' := by
  go_enter Try.func24, Try.ntmps24
  go_wp2
  go_ret
  exact ⟨rfl, wrong_world a b c B w hB hc hf⟩
set_option maxHeartbeats 1000000 in
theorem wrong_yes (a b c last : Int) (B : Nat) (w : World) (hn : ¬ (last < a ∧ a ≤ 1048576 ∧ 1 ≤ b ∧ b ≤ 32 ∧ 1 ≤ c ∧ c ≤ 65536)) (hB : B < w.heap.size)
    (hc : w.cell? ⟨B, 0, none⟩ = some (.int .i64 last)) (hf : w.frozen? ⟨B, 0, none⟩ = false) :
    Calls Try.prog 24 #[.agg #[.int .i64 a, .int .i64 b, .int .i64 c], .pointer (some ⟨B, 0, none⟩)] w fun e w' => e = .returned (.bool true) ∧ LastIs w B a w' := by
  by_cases c0 : last < a
  case neg =>
    have d0 : decide (last < a) = false := decide_eq_false c0
    go_enter Try.func24, Try.ntmps24
    go_wp2
    go_ret
    exact ⟨rfl, wrong_world a b c B w hB hc hf⟩
  by_cases c1 : a ≤ 1048576
  case neg =>
    have d1 : decide (a ≤ 1048576) = false := decide_eq_false c1
    go_enter Try.func24, Try.ntmps24
    go_wp2
    go_ret
    exact ⟨rfl, wrong_world a b c B w hB hc hf⟩
  by_cases c2 : 1 ≤ b
  case neg =>
    have d2 : decide (1 ≤ b) = false := decide_eq_false c2
    go_enter Try.func24, Try.ntmps24
    go_wp2
    go_ret
    exact ⟨rfl, wrong_world a b c B w hB hc hf⟩
  by_cases c3 : b ≤ 32
  case neg =>
    have d3 : decide (b ≤ 32) = false := decide_eq_false c3
    go_enter Try.func24, Try.ntmps24
    go_wp2
    go_ret
    exact ⟨rfl, wrong_world a b c B w hB hc hf⟩
  by_cases c4 : 1 ≤ c
  case neg =>
    have d4 : decide (1 ≤ c) = false := decide_eq_false c4
    go_enter Try.func24, Try.ntmps24
    go_wp2
    go_ret
    exact ⟨rfl, wrong_world a b c B w hB hc hf⟩
  by_cases c5 : c ≤ 65536
  case neg =>
    have d5 : decide (c ≤ 65536) = false := decide_eq_false c5
    go_enter Try.func24, Try.ntmps24
    go_wp2
    go_ret
    exact ⟨rfl, wrong_world a b c B w hB hc hf⟩
  exact (hn ⟨c0, c1, c2, c3, c4, c5⟩).elim

/-- What stands when the search through the changes has come to number k. -/
def Search (ms : List Met) (w : World) (B k : Nat) (wr : World) : Prop := LastIs w B (prevB ms k) wr ∧ ∀ j, j < k → OkAt ms j

set_option maxHeartbeats 1000000 in
theorem index_t (b o c B : Nat) (ms : List Met) (w : World) (hn : ms.length ≤ 1000000000) (hb : b < B) (hm : MetAt w b o ms) (hB : B < w.heap.size) (hc : w.cell? ⟨B, 0, none⟩ = some (.int .i64 (-1))) (hf : w.frozen? ⟨B, 0, none⟩ = false) :
    Calls Try.prog 30 #[.slice (some ⟨b, o, none⟩) ms.length c, .func (.func 24) #[] #[.pointer (some ⟨B, 0, none⟩)]] w fun e w' =>
      ∃ r : Int, e = .returned (.int .i64 r) ∧ (r = -1 ∧ (∀ j, j < ms.length → OkAt ms j) ∨ 0 ≤ r ∧ ¬ ∀ j, j < ms.length → OkAt ms j) ∧ Below B w w' := by
  go_enter Try.func30, Try.ntmps30
  go_wp2
  go_loopw [8, 5, 4] (fun i _ _ wr => ∃ k : Nat, k ≤ ms.length ∧ i = .int .i64 k ∧ Search ms w B k wr) (fun i _ _ _ => ms.length - (intOf i).toNat)
  case atStart => exact ⟨0, by omega, rfl, ⟨hc, hf, Below.refl _ _⟩, fun j hj => by omega⟩
  case round =>
    obtain ⟨k, hk, rfl, ⟨hc1, hf1, hw⟩, hs⟩ := hrel
    have HS := Lib.hid hs
    clear hs
    have hsz := hw.size
    by_cases hlt : k < ms.length
    · have g1 := (hw.cell (p := ⟨b, _, none⟩) hb).trans (hm.c0 k hlt)
      have g2 := (hw.cell (p := ⟨b, _, none⟩) hb).trans (hm.c1 k hlt)
      have g3 := (hw.cell (p := ⟨b, _, none⟩) hb).trans (hm.c2 k hlt)
      by_cases hok : prevB ms k < mb ms k ∧ mb ms k ≤ 1048576 ∧ 1 ≤ mt ms k ∧ mt ms k ≤ 32 ∧ 1 ≤ mu ms k ∧ mu ms k ≤ 65536
      · obtain ⟨k0, k1, k2, k3, k4, k5⟩ := hok
        go_wp2_with (go_at_call 24; refine (wrong_no _ _ _ _ _ _ k0 k1 k2 k3 k4 k5 (by omega) hc1 hf1).mono ?_; rintro e w' ⟨rfl, hc2, hf2, hw2⟩)
        go_roundw
        case rel =>
          refine ⟨k + 1, by omega, by go_num, ⟨hc2, hf2, hw.trans hw2⟩, fun j hj => ?_⟩
          rcases Nat.lt_or_ge j k with h | h
          · exact HS.out j h
          · obtain rfl : j = k := by omega
            exact ⟨k0, k1, k2, k3, k4, k5⟩
        case measure => simp [intOf]; omega
      · have HO := Lib.hid hok
        clear hok
        go_wp2_with (go_at_call 24; refine (wrong_yes _ _ _ _ _ _ HO.out (by omega) hc1 hf1).mono ?_; rintro e w' ⟨rfl, hc2, hf2, hw2⟩)
        go_ret
        exact ⟨k, rfl, .inr ⟨by omega, fun h => HO.out (by have := h k hlt; exact ⟨this.l, this.b1, this.t0, this.t1, this.u0, this.u1⟩)⟩, hw.trans hw2⟩
    · obtain rfl : k = ms.length := by omega
      go_wp2
      go_ret
      exact ⟨-1, rfl, .inl ⟨rfl, HS.out⟩, hw⟩

theorem contains_t (b o c B : Nat) (ms : List Met) (w : World) (hn : ms.length ≤ 1000000000) (hb : b < B) (hm : MetAt w b o ms) (hB : B < w.heap.size) (hc : w.cell? ⟨B, 0, none⟩ = some (.int .i64 (-1))) (hf : w.frozen? ⟨B, 0, none⟩ = false) :
    Calls Try.prog 25 #[.slice (some ⟨b, o, none⟩) ms.length c, .func (.func 24) #[] #[.pointer (some ⟨B, 0, none⟩)]] w fun e w' =>
      ∃ r : Bool, e = .returned (.bool r) ∧ (r = false ∧ (∀ j, j < ms.length → OkAt ms j) ∨ r = true ∧ ¬ ∀ j, j < ms.length → OkAt ms j) ∧ Below B w w' := by
  go_enter Try.func25, Try.ntmps25
  go_wp2_with fail
  refine (index_t b o c B ms w hn hb hm hB hc hf).mono ?_
  rintro e w' ⟨r, rfl, hr, hw⟩
  have HR := Lib.hid hr
  clear hr
  go_wp2
  go_ret
  refine ⟨_, rfl, ?_, hw⟩
  rcases HR.out with ⟨h, h'⟩ | ⟨h, h'⟩
  · exact .inl ⟨decide_eq_false (by omega), h'⟩
  · exact .inr ⟨decide_eq_true h, h'⟩

theorem pcheck_nil (A : Option Addr) (c : Nat) (w : World) :
    Calls Try.prog 13 #[.slice A 0 c] w fun e w' => e = .returned (.int .i64 100) ∧ Below w.heap.size w w' := by
  go_enter Try.func13, Try.ntmps13
  go_wp2
  go_ret
  exact ⟨rfl, Below.refl _ _⟩

/-- What Check finds behind its first test. -/
def ckP (ms : List Met) : Int → Prop := fun v => v = 0 ∧ Valid ms ∨ v = 100 ∧ ¬ Valid ms

set_option maxHeartbeats 1000000 in
theorem pcheck_t (b o c : Nat) (ms : List Met) (w : World) (hp : 0 < ms.length) (hn : ms.length ≤ 1000000000) (hm : MetAt w b o ms) :
    Calls Try.prog 13 #[.slice (some ⟨b, o, none⟩) ms.length c] w fun e w' => ∃ v, e = .returned (.int .i64 v) ∧ ckP ms v ∧ Below w.heap.size w w' := by
  have hb := hm.lt
  have g0 := hm.c0 0 hp
  simp only [Nat.zero_mul, Nat.add_zero] at g0
  have n0 : ((ms.length : Int) == 0) = false := beq_eq_false_iff_ne.2 (by omega)
  have hmf : ∀ (fn : Fn) (first cap : Array Value) (w : World), (Instr.makeFunc fn first cap).run Try.prog w = .ok (.func fn first cap) w := fun _ _ _ _ => rfl
  by_cases hl : 64 < ms.length
  · have hl' : decide (64 < (ms.length : Int)) = true := decide_eq_true (by omega)
    go_enter Try.func13, Try.ntmps13
    go_wp2_with fail
    go_ret
    exact ⟨100, rfl, .inr ⟨rfl, fun h => by have := h.few; omega⟩, Below.refl _ _⟩
  have hl' : decide (64 < (ms.length : Int)) = false := decide_eq_false (by omega)
  by_cases hz : mb ms 0 = 0
  case neg =>
    have hz' : (mb ms 0 == 0) = false := beq_eq_false_iff_ne.2 hz
    go_enter Try.func13, Try.ntmps13
    go_wp2_with fail
    go_ret
    exact ⟨100, rfl, .inr ⟨rfl, fun h => hz h.zero⟩, Below.refl _ _⟩
  have HZ := Lib.hid hz
  rw [hz] at g0
  clear hz
  have hm1 := hm.below ((Below.refl _ w).alloc (Nat.le_refl _) (.cells #[.int .i64 (-1)] 3))
  go_enter Try.func13, Try.ntmps13
  go_wp2_with fail
  refine (contains_t b o c w.heap.size ms _ hn hb hm1 (by simp) (by go_simp) (by go_simp)).mono ?_
  rintro e w' ⟨r, rfl, hr, hw⟩
  have HR := Lib.hid hr
  clear hr
  have hbw := ((Below.refl _ w).alloc (Nat.le_refl _) (.cells #[.int .i64 (-1)] 3)).trans hw
  cases r
  all_goals
    go_wp2
    go_ret
  · refine ⟨0, rfl, .inl ⟨rfl, ?_⟩, hbw⟩
    rcases HR.out with ⟨h, h'⟩ | ⟨h, h'⟩
    · exact valid_of hp (by omega) HZ.out h'
    · cases h
  · refine ⟨100, rfl, .inr ⟨rfl, fun h => ?_⟩, hbw⟩
    rcases HR.out with ⟨h1, h'⟩ | ⟨h1, h'⟩
    · cases h1
    · exact h' h.ok
end Go.Proofs.Ytdphnlcppaaccaa
