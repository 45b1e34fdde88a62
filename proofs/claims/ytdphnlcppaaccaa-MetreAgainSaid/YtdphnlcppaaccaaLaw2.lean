/-
  The laws MetreInverse, MetreOrder and MetreLengths walked: they answer true.
-/
import Derived.Test.YtdphnlcppaaccaaLaw1
import Derived.Test.YtdphnlcppaaccaaPf
namespace Go.Proofs.Ytdphnlcppaaccaa
open Go.RowKit
attribute [local go_sem] Oper.semAt_some

theorem gtick_ok (ms : List Met) (bar beat off : Int) :
    ((gTick ms bar beat off).2 ≠ 0 ∧ (gTick ms bar beat off).1 = 0) ∨
    ((gTick ms bar beat off).2 = 0 ∧ 0 ≤ (gTick ms bar beat off).1 ∧ (gTick ms bar beat off).1 ≤ 16777216 ∧ gPlace ms (gTick ms bar beat off).1 = (bar, beat, off, 0)) := by
  unfold gTick gPlace
  by_cases hv : Valid ms
  · simp only [if_pos hv]
    exact tick_ok hv bar beat off
  · simp [if_neg hv]
theorem gvalid {ms : List Met} {tick : Int} (h : (gPlace ms tick).2.2.2 = 0) : Valid ms := by
  by_cases hv : Valid ms
  · exact hv
  · unfold gPlace at h
    rw [if_neg hv] at h
    simp at h
theorem gplace_r {ms : List Met} (hv : Valid ms) (tick : Int) : gPlace ms tick = rPlace ms tick := by unfold gPlace; rw [if_pos hv]
theorem gtick_r {ms : List Met} (hv : Valid ms) (bar beat off : Int) : gTick ms bar beat off = rTick ms bar beat off := by unfold gTick; rw [if_pos hv]
theorem gtick_of_place {ms : List Met} {tick : Int} (h : (gPlace ms tick).2.2.2 = 0) : gTick ms (gPlace ms tick).1 (gPlace ms tick).2.1 (gPlace ms tick).2.2.1 = (tick, 0) := by
  have hv := gvalid h
  rw [gplace_r hv] at h
  rw [gtick_r hv, gplace_r hv]
  exact tick_of_place hv h

set_option maxHeartbeats 1000000 in
theorem inverse_t (A : Option Addr) (c : Nat) (ms : List Met) (tick bar beat off : Int) (w : World) (h : SlAt w A ms) :
    Calls Try.prog 5 #[.slice A ms.length c, .int .i64 tick, .int .i64 bar, .int .i64 beat, .int .i64 off] w (Yes w) := by
  by_cases hl : 100 < ms.length
  · have d : decide (100 < (ms.length : Int)) = true := decide_eq_true (by omega)
    go_enter Try.func5, Try.ntmps5
    go_wp2_with (go_at_call 10; refine (sane_t _).mono ?_; rintro e w1 ⟨rfl, hw1⟩)
    go_ret
    exact ⟨rfl, hw1⟩
  have d : decide (100 < (ms.length : Int)) = false := decide_eq_false (by omega)
  have hn : ms.length ≤ 1000000000 := by omega
  have KP : ∀ W, SlAt W A ms → Calls Try.prog 15 #[.slice A ms.length c, .int .i64 tick] W fun e w' => e = .returned (quad (gPlace ms tick)) ∧ Below W.heap.size W w' := fun W h => pplace_a A c ms tick W hn h
  have K1 : (gPlace ms tick).2.2.2 = 0 → ∀ W, SlAt W A ms → Calls Try.prog 11 #[.slice A ms.length c, .int .i64 (gPlace ms tick).1, .int .i64 (gPlace ms tick).2.1, .int .i64 (gPlace ms tick).2.2.1] W fun e w' => e = .returned (.tuple #[.int .i64 tick, .int .i64 0]) ∧ Below W.heap.size W w' := fun hp W h => by
    have := ptick_a A c ms (gPlace ms tick).1 (gPlace ms tick).2.1 (gPlace ms tick).2.2.1 W hn h
    rwa [gtick_of_place hp] at this
  have KT : ∀ W, SlAt W A ms → Calls Try.prog 11 #[.slice A ms.length c, .int .i64 bar, .int .i64 beat, .int .i64 off] W fun e w' => e = .returned (.tuple #[.int .i64 (gTick ms bar beat off).1, .int .i64 (gTick ms bar beat off).2]) ∧ Below W.heap.size W w' := fun W h => ptick_a A c ms bar beat off W hn h
  have GT := gtick_ok ms bar beat off
  have K2 : gPlace ms (gTick ms bar beat off).1 = (bar, beat, off, 0) → ∀ W, SlAt W A ms → Calls Try.prog 15 #[.slice A ms.length c, .int .i64 (gTick ms bar beat off).1] W fun e w' => e = .returned (quad (bar, beat, off, 0)) ∧ Below W.heap.size W w' := fun t5 W h => by
    have := pplace_a A c ms (gTick ms bar beat off).1 W hn h
    rwa [t5] at this
  obtain ⟨P, hP⟩ : ∃ P, P = gPlace ms tick := ⟨_, rfl⟩
  obtain ⟨T, hT⟩ : ∃ T, T = gTick ms bar beat off := ⟨_, rfl⟩
  rw [← hP] at KP K1
  rw [← hT] at KT GT K2
  clear hP hT
  obtain ⟨p1, p2, p3, p4⟩ := P
  obtain ⟨t1, t2⟩ := T
  dsimp only [quad] at *
  by_cases hp : p4 = 0
  case pos =>
    have K1 := K1 hp
    have dp : (p4 == 0) = true := beq_iff_eq.2 hp
    rcases GT with ⟨g1, g2⟩ | ⟨g1, g3, g4, g5⟩
    · have dt : (t2 != 0) = true := bne_iff_ne.2 g1
      have dz : (t1 == 0) = true := beq_iff_eq.2 g2
      go_enter Try.func5, Try.ntmps5
      go_wp2_with (fail)
      go_at_call 10
      refine (sane_t _).mono ?_
      rintro e w1 ⟨rfl, hw1⟩
      have h1 := h.below hw1
      have b1 := hw1
      go_wp2_with (fail)
      go_at_call 15
      refine (KP _ h1).mono ?_
      rintro e w2 ⟨rfl, hw2⟩
      have h2 := h1.below hw2
      have b2 := b1.trans (hw2.mono b1.size)
      go_wp2_with (fail)
      go_at_call 11
      refine (K1 _ h2).mono ?_
      rintro e w3 ⟨rfl, hw3⟩
      have h3 := h2.below hw3
      have b3 := b2.trans (hw3.mono b2.size)
      go_wp2_with (fail)
      go_at_call 11
      refine (KT _ h3).mono ?_
      rintro e w4 ⟨rfl, hw4⟩
      have h4 := h3.below hw4
      have b4 := b3.trans (hw4.mono b3.size)
      go_wp2
      go_ret
      exact ⟨rfl, b4⟩
    · have dt : (t2 != 0) = false := bne_eq_false_iff_eq.2 g1
      have K2 := K2 g5
      have d3 : decide (0 ≤ t1) = true := decide_eq_true g3
      have d4 : decide (t1 ≤ 16777216) = true := decide_eq_true g4
      go_enter Try.func5, Try.ntmps5
      go_wp2_with (fail)
      go_at_call 10
      refine (sane_t _).mono ?_
      rintro e w1 ⟨rfl, hw1⟩
      have h1 := h.below hw1
      have b1 := hw1
      go_wp2_with (fail)
      go_at_call 15
      refine (KP _ h1).mono ?_
      rintro e w2 ⟨rfl, hw2⟩
      have h2 := h1.below hw2
      have b2 := b1.trans (hw2.mono b1.size)
      go_wp2_with (fail)
      go_at_call 11
      refine (K1 _ h2).mono ?_
      rintro e w3 ⟨rfl, hw3⟩
      have h3 := h2.below hw3
      have b3 := b2.trans (hw3.mono b2.size)
      go_wp2_with (fail)
      go_at_call 11
      refine (KT _ h3).mono ?_
      rintro e w4 ⟨rfl, hw4⟩
      have h4 := h3.below hw4
      have b4 := b3.trans (hw4.mono b3.size)
      go_wp2_with (fail)
      go_at_call 15
      refine (K2 _ h4).mono ?_
      rintro e w5 ⟨rfl, hw5⟩
      have h5 := h4.below hw5
      have b5 := b4.trans (hw5.mono b4.size)
      go_wp2
      go_ret
      exact ⟨rfl, b5⟩
  case neg =>
    have dp : (p4 == 0) = false := beq_eq_false_iff_ne.2 hp
    rcases GT with ⟨g1, g2⟩ | ⟨g1, g3, g4, g5⟩
    · have dt : (t2 != 0) = true := bne_iff_ne.2 g1
      have dz : (t1 == 0) = true := beq_iff_eq.2 g2
      go_enter Try.func5, Try.ntmps5
      go_wp2_with (fail)
      go_at_call 10
      refine (sane_t _).mono ?_
      rintro e w1 ⟨rfl, hw1⟩
      have h1 := h.below hw1
      have b1 := hw1
      go_wp2_with (fail)
      go_at_call 15
      refine (KP _ h1).mono ?_
      rintro e w2 ⟨rfl, hw2⟩
      have h2 := h1.below hw2
      have b2 := b1.trans (hw2.mono b1.size)
      go_wp2_with (fail)
      go_at_call 11
      refine (KT _ h2).mono ?_
      rintro e w3 ⟨rfl, hw3⟩
      have h3 := h2.below hw3
      have b3 := b2.trans (hw3.mono b2.size)
      go_wp2
      go_ret
      exact ⟨rfl, b3⟩
    · have dt : (t2 != 0) = false := bne_eq_false_iff_eq.2 g1
      have K2 := K2 g5
      have d3 : decide (0 ≤ t1) = true := decide_eq_true g3
      have d4 : decide (t1 ≤ 16777216) = true := decide_eq_true g4
      go_enter Try.func5, Try.ntmps5
      go_wp2_with (fail)
      go_at_call 10
      refine (sane_t _).mono ?_
      rintro e w1 ⟨rfl, hw1⟩
      have h1 := h.below hw1
      have b1 := hw1
      go_wp2_with (fail)
      go_at_call 15
      refine (KP _ h1).mono ?_
      rintro e w2 ⟨rfl, hw2⟩
      have h2 := h1.below hw2
      have b2 := b1.trans (hw2.mono b1.size)
      go_wp2_with (fail)
      go_at_call 11
      refine (KT _ h2).mono ?_
      rintro e w3 ⟨rfl, hw3⟩
      have h3 := h2.below hw3
      have b3 := b2.trans (hw3.mono b2.size)
      go_wp2_with (fail)
      go_at_call 15
      refine (K2 _ h3).mono ?_
      rintro e w4 ⟨rfl, hw4⟩
      have h4 := h3.below hw4
      have b4 := b3.trans (hw4.mono b3.size)
      go_wp2
      go_ret
      exact ⟨rfl, b4⟩

theorem gplace_bd {ms : List Met} {tick : Int} (h : (gPlace ms tick).2.2.2 = 0) : 0 ≤ tick ∧ tick ≤ 16777216 ∧ 0 ≤ (gPlace ms tick).1 ∧ (gPlace ms tick).1 ≤ 1048576 ∧ 0 ≤ (gPlace ms tick).2.1 ∧ (gPlace ms tick).2.1 ≤ 32 ∧ 0 ≤ (gPlace ms tick).2.2.1 ∧ (gPlace ms tick).2.2.1 ≤ 65536 := by
  have hv := gvalid h
  rw [gplace_r hv] at h ⊢
  obtain ⟨k, hk, hb, h0, h1, e, c0, c1, d0, d1⟩ := place_ok hv h
  have hbb := inPart_bd hv hk hb
  have hf := hv.fine k hk
  have := hf.t1
  have := hf.u1
  omega

theorem gplace_lt {ms : List Met} {a b : Int} (ha : (gPlace ms a).2.2.2 = 0) (hb : (gPlace ms b).2.2.2 = 0) :
    ((gPlace ms a).1 < (gPlace ms b).1 → a < b ∧ (b = a + 1 → (gPlace ms b).1 = (gPlace ms a).1 + 1 ∧ (gPlace ms b).2.1 = 0 ∧ (gPlace ms b).2.2.1 = 0)) ∧
    ((gPlace ms a).1 = (gPlace ms b).1 → (gPlace ms a).2.1 < (gPlace ms b).2.1 → a < b ∧ (b = a + 1 → (gPlace ms b).2.1 = (gPlace ms a).2.1 + 1 ∧ (gPlace ms b).2.2.1 = 0)) ∧
    ((gPlace ms a).1 = (gPlace ms b).1 → (gPlace ms a).2.1 = (gPlace ms b).2.1 → b - a = (gPlace ms b).2.2.1 - (gPlace ms a).2.2.1) := by
  have hv := gvalid ha
  rw [gplace_r hv] at ha hb ⊢
  rw [gplace_r hv]
  exact place_lt hv ha hb

set_option maxHeartbeats 4000000 in
theorem order_t (A : Option Addr) (c : Nat) (ms : List Met) (a b : Int) (w : World) (h : SlAt w A ms) :
    Calls Try.prog 6 #[.slice A ms.length c, .int .i64 a, .int .i64 b] w (Yes w) := by
  by_cases hl : 100 < ms.length
  · have d : decide (100 < (ms.length : Int)) = true := decide_eq_true (by omega)
    go_enter Try.func6, Try.ntmps6
    go_wp2_with (go_at_call 10; refine (sane_t _).mono ?_; rintro e w1 ⟨rfl, hw1⟩)
    go_ret
    exact ⟨rfl, hw1⟩
  have d : decide (100 < (ms.length : Int)) = false := decide_eq_false (by omega)
  have hn : ms.length ≤ 1000000000 := by omega
  have KA : ∀ W, SlAt W A ms → Calls Try.prog 15 #[.slice A ms.length c, .int .i64 a] W fun e w' => e = .returned (quad (gPlace ms a)) ∧ Below W.heap.size W w' := fun W h => pplace_a A c ms a W hn h
  have KB : ∀ W, SlAt W A ms → Calls Try.prog 15 #[.slice A ms.length c, .int .i64 b] W fun e w' => e = .returned (quad (gPlace ms b)) ∧ Below W.heap.size W w' := fun W h => pplace_a A c ms b W hn h
  have BA := @gplace_bd ms a
  have BB := @gplace_bd ms b
  have L1 := @gplace_lt ms a b
  have L2 := @gplace_lt ms b a
  obtain ⟨P, hP⟩ : ∃ P, P = gPlace ms a := ⟨_, rfl⟩
  obtain ⟨Q, hQ⟩ : ∃ Q, Q = gPlace ms b := ⟨_, rfl⟩
  rw [← hP] at KA BA L1 L2
  rw [← hQ] at KB BB L1 L2
  clear hP hQ
  obtain ⟨p1, p2, p3, p4⟩ := P
  obtain ⟨q1, q2, q3, q4⟩ := Q
  dsimp only [quad] at *
  by_cases hp : p4 = 0
  case neg =>
    have dp : (p4 != 0) = true := bne_iff_ne.2 hp
    go_enter Try.func6, Try.ntmps6
    go_wp2_with (fail)
    go_at_call 10
    refine (sane_t _).mono ?_
    rintro e w1 ⟨rfl, hw1⟩
    have h1 := h.below hw1
    have b1 := hw1
    go_wp2_with (fail)
    go_at_call 15
    refine (KA _ h1).mono ?_
    rintro e w2 ⟨rfl, hw2⟩
    have h2 := h1.below hw2
    have b2 := b1.trans (hw2.mono b1.size)
    go_wp2_with (fail)
    go_at_call 15
    refine (KB _ h2).mono ?_
    rintro e w3 ⟨rfl, hw3⟩
    have h3 := h2.below hw3
    have b3 := b2.trans (hw3.mono b2.size)
    go_wp2
    go_ret
    exact ⟨rfl, b3⟩
  have dp : (p4 != 0) = false := bne_eq_false_iff_eq.2 hp
  by_cases hq : q4 = 0
  case neg =>
    have dq : (q4 != 0) = true := bne_iff_ne.2 hq
    go_enter Try.func6, Try.ntmps6
    go_wp2_with (fail)
    go_at_call 10
    refine (sane_t _).mono ?_
    rintro e w1 ⟨rfl, hw1⟩
    have h1 := h.below hw1
    have b1 := hw1
    go_wp2_with (fail)
    go_at_call 15
    refine (KA _ h1).mono ?_
    rintro e w2 ⟨rfl, hw2⟩
    have h2 := h1.below hw2
    have b2 := b1.trans (hw2.mono b1.size)
    go_wp2_with (fail)
    go_at_call 15
    refine (KB _ h2).mono ?_
    rintro e w3 ⟨rfl, hw3⟩
    have h3 := h2.below hw3
    have b3 := b2.trans (hw3.mono b2.size)
    go_wp2
    go_ret
    exact ⟨rfl, b3⟩
  have dq : (q4 != 0) = false := bne_eq_false_iff_eq.2 hq
  have BA := BA hp
  have BB := BB hq
  have L1 := L1 hp hq
  have L2 := L2 hq hp
  have i1 : IntKind.i64.wrap (a + 1) = a + 1 := IntWalk.i64_in _ (by omega)
  have i2 : IntKind.i64.wrap (p1 + 1) = p1 + 1 := IntWalk.i64_in _ (by omega)
  have i3 : IntKind.i64.wrap (p2 + 1) = p2 + 1 := IntWalk.i64_in _ (by omega)
  have i4 : IntKind.i64.wrap (p3 + 1) = p3 + 1 := IntWalk.i64_in _ (by omega)
  by_cases hc : p1 < q1 ∧ b = a + 1
  · obtain ⟨L1, L3⟩ := L1.1 (by omega)
    obtain ⟨x1, x2, x3⟩ := L3 (by omega)
    have xl : decide (p1 < q1) = true := decide_eq_true (by omega)
    have xe : (p1 == q1) = false := beq_eq_false_iff_ne.2 (by omega)
    have abl : decide (a < b) = true := decide_eq_true (by omega)
    have abe : (a == b) = false := beq_eq_false_iff_ne.2 (by omega)
    have nx : (b != a + 1) = false := bne_eq_false_iff_eq.2 (by omega)
    have u1 : (q1 == p1 + 1) = true := beq_iff_eq.2 (by omega)
    have u2 : (q2 == 0) = true := beq_iff_eq.2 (by omega)
    have u3 : (q3 == 0) = true := beq_iff_eq.2 (by omega)
    clear BA BB L3 hc
    go_enter Try.func6, Try.ntmps6
    go_wp2_with (fail)
    go_at_call 10
    refine (sane_t _).mono ?_
    rintro e w1 ⟨rfl, hw1⟩
    have h1 := h.below hw1
    have b1 := hw1
    go_wp2_with (fail)
    go_at_call 15
    refine (KA _ h1).mono ?_
    rintro e w2 ⟨rfl, hw2⟩
    have h2 := h1.below hw2
    have b2 := b1.trans (hw2.mono b1.size)
    go_wp2_with (fail)
    go_at_call 15
    refine (KB _ h2).mono ?_
    rintro e w3 ⟨rfl, hw3⟩
    have h3 := h2.below hw3
    have b3 := b2.trans (hw3.mono b2.size)
    go_wp2
    go_ret
    exact ⟨rfl, b3⟩
  by_cases hc : p1 < q1 ∧ b ≠ a + 1
  · obtain ⟨L1, L3⟩ := L1.1 (by omega)
    have xl : decide (p1 < q1) = true := decide_eq_true (by omega)
    have xe : (p1 == q1) = false := beq_eq_false_iff_ne.2 (by omega)
    have abl : decide (a < b) = true := decide_eq_true (by omega)
    have abe : (a == b) = false := beq_eq_false_iff_ne.2 (by omega)
    have nx : (b != a + 1) = true := bne_iff_ne.2 (by omega)
    clear BA BB L3 hc
    go_enter Try.func6, Try.ntmps6
    go_wp2_with (fail)
    go_at_call 10
    refine (sane_t _).mono ?_
    rintro e w1 ⟨rfl, hw1⟩
    have h1 := h.below hw1
    have b1 := hw1
    go_wp2_with (fail)
    go_at_call 15
    refine (KA _ h1).mono ?_
    rintro e w2 ⟨rfl, hw2⟩
    have h2 := h1.below hw2
    have b2 := b1.trans (hw2.mono b1.size)
    go_wp2_with (fail)
    go_at_call 15
    refine (KB _ h2).mono ?_
    rintro e w3 ⟨rfl, hw3⟩
    have h3 := h2.below hw3
    have b3 := b2.trans (hw3.mono b2.size)
    go_wp2
    go_ret
    exact ⟨rfl, b3⟩
  by_cases hc : p1 = q1 ∧ p2 < q2 ∧ b = a + 1
  · obtain ⟨L1, L3⟩ := L1.2.1 (by omega) (by omega)
    obtain ⟨x1, x2⟩ := L3 (by omega)
    have xl : decide (p1 < q1) = false := decide_eq_false (by omega)
    have xe : (p1 == q1) = true := beq_iff_eq.2 (by omega)
    have yl : decide (p2 < q2) = true := decide_eq_true (by omega)
    have ye : (p2 == q2) = false := beq_eq_false_iff_ne.2 (by omega)
    have abl : decide (a < b) = true := decide_eq_true (by omega)
    have abe : (a == b) = false := beq_eq_false_iff_ne.2 (by omega)
    have nx : (b != a + 1) = false := bne_eq_false_iff_eq.2 (by omega)
    have u2 : (q2 == p2 + 1) = true := beq_iff_eq.2 (by omega)
    have u3 : (q3 == 0) = true := beq_iff_eq.2 (by omega)
    clear BA BB L3 hc
    go_enter Try.func6, Try.ntmps6
    go_wp2_with (fail)
    go_at_call 10
    refine (sane_t _).mono ?_
    rintro e w1 ⟨rfl, hw1⟩
    have h1 := h.below hw1
    have b1 := hw1
    go_wp2_with (fail)
    go_at_call 15
    refine (KA _ h1).mono ?_
    rintro e w2 ⟨rfl, hw2⟩
    have h2 := h1.below hw2
    have b2 := b1.trans (hw2.mono b1.size)
    go_wp2_with (fail)
    go_at_call 15
    refine (KB _ h2).mono ?_
    rintro e w3 ⟨rfl, hw3⟩
    have h3 := h2.below hw3
    have b3 := b2.trans (hw3.mono b2.size)
    go_wp2
    go_ret
    exact ⟨rfl, b3⟩
  by_cases hc : p1 = q1 ∧ p2 < q2 ∧ b ≠ a + 1
  · obtain ⟨L1, L3⟩ := L1.2.1 (by omega) (by omega)
    have xl : decide (p1 < q1) = false := decide_eq_false (by omega)
    have xe : (p1 == q1) = true := beq_iff_eq.2 (by omega)
    have yl : decide (p2 < q2) = true := decide_eq_true (by omega)
    have ye : (p2 == q2) = false := beq_eq_false_iff_ne.2 (by omega)
    have abl : decide (a < b) = true := decide_eq_true (by omega)
    have abe : (a == b) = false := beq_eq_false_iff_ne.2 (by omega)
    have nx : (b != a + 1) = true := bne_iff_ne.2 (by omega)
    clear BA BB L3 hc
    go_enter Try.func6, Try.ntmps6
    go_wp2_with (fail)
    go_at_call 10
    refine (sane_t _).mono ?_
    rintro e w1 ⟨rfl, hw1⟩
    have h1 := h.below hw1
    have b1 := hw1
    go_wp2_with (fail)
    go_at_call 15
    refine (KA _ h1).mono ?_
    rintro e w2 ⟨rfl, hw2⟩
    have h2 := h1.below hw2
    have b2 := b1.trans (hw2.mono b1.size)
    go_wp2_with (fail)
    go_at_call 15
    refine (KB _ h2).mono ?_
    rintro e w3 ⟨rfl, hw3⟩
    have h3 := h2.below hw3
    have b3 := b2.trans (hw3.mono b2.size)
    go_wp2
    go_ret
    exact ⟨rfl, b3⟩
  by_cases hc : p1 = q1 ∧ p2 = q2 ∧ p3 < q3 ∧ b = a + 1
  · have L3 := L1.2.2 (by omega) (by omega)
    have xl : decide (p1 < q1) = false := decide_eq_false (by omega)
    have xe : (p1 == q1) = true := beq_iff_eq.2 (by omega)
    have yl : decide (p2 < q2) = false := decide_eq_false (by omega)
    have ye : (p2 == q2) = true := beq_iff_eq.2 (by omega)
    have zl : decide (p3 < q3) = true := decide_eq_true (by omega)
    have ze : (p3 == q3) = false := beq_eq_false_iff_ne.2 (by omega)
    have abl : decide (a < b) = true := decide_eq_true (by omega)
    have abe : (a == b) = false := beq_eq_false_iff_ne.2 (by omega)
    have nx : (b != a + 1) = false := bne_eq_false_iff_eq.2 (by omega)
    have u3 : (q3 == p3 + 1) = true := beq_iff_eq.2 (by omega)
    clear BA BB L3 hc
    go_enter Try.func6, Try.ntmps6
    go_wp2_with (fail)
    go_at_call 10
    refine (sane_t _).mono ?_
    rintro e w1 ⟨rfl, hw1⟩
    have h1 := h.below hw1
    have b1 := hw1
    go_wp2_with (fail)
    go_at_call 15
    refine (KA _ h1).mono ?_
    rintro e w2 ⟨rfl, hw2⟩
    have h2 := h1.below hw2
    have b2 := b1.trans (hw2.mono b1.size)
    go_wp2_with (fail)
    go_at_call 15
    refine (KB _ h2).mono ?_
    rintro e w3 ⟨rfl, hw3⟩
    have h3 := h2.below hw3
    have b3 := b2.trans (hw3.mono b2.size)
    go_wp2
    go_ret
    exact ⟨rfl, b3⟩
  by_cases hc : p1 = q1 ∧ p2 = q2 ∧ p3 < q3 ∧ b ≠ a + 1
  · have L3 := L1.2.2 (by omega) (by omega)
    have xl : decide (p1 < q1) = false := decide_eq_false (by omega)
    have xe : (p1 == q1) = true := beq_iff_eq.2 (by omega)
    have yl : decide (p2 < q2) = false := decide_eq_false (by omega)
    have ye : (p2 == q2) = true := beq_iff_eq.2 (by omega)
    have zl : decide (p3 < q3) = true := decide_eq_true (by omega)
    have ze : (p3 == q3) = false := beq_eq_false_iff_ne.2 (by omega)
    have abl : decide (a < b) = true := decide_eq_true (by omega)
    have abe : (a == b) = false := beq_eq_false_iff_ne.2 (by omega)
    have nx : (b != a + 1) = true := bne_iff_ne.2 (by omega)
    clear BA BB L3 hc
    go_enter Try.func6, Try.ntmps6
    go_wp2_with (fail)
    go_at_call 10
    refine (sane_t _).mono ?_
    rintro e w1 ⟨rfl, hw1⟩
    have h1 := h.below hw1
    have b1 := hw1
    go_wp2_with (fail)
    go_at_call 15
    refine (KA _ h1).mono ?_
    rintro e w2 ⟨rfl, hw2⟩
    have h2 := h1.below hw2
    have b2 := b1.trans (hw2.mono b1.size)
    go_wp2_with (fail)
    go_at_call 15
    refine (KB _ h2).mono ?_
    rintro e w3 ⟨rfl, hw3⟩
    have h3 := h2.below hw3
    have b3 := b2.trans (hw3.mono b2.size)
    go_wp2
    go_ret
    exact ⟨rfl, b3⟩
  by_cases hc : p1 = q1 ∧ p2 = q2 ∧ p3 = q3
  · have L3 := L1.2.2 (by omega) (by omega)
    have xl : decide (p1 < q1) = false := decide_eq_false (by omega)
    have xe : (p1 == q1) = true := beq_iff_eq.2 (by omega)
    have yl : decide (p2 < q2) = false := decide_eq_false (by omega)
    have ye : (p2 == q2) = true := beq_iff_eq.2 (by omega)
    have zl : decide (p3 < q3) = false := decide_eq_false (by omega)
    have ze : (p3 == q3) = true := beq_iff_eq.2 (by omega)
    have abl : decide (a < b) = false := decide_eq_false (by omega)
    have abe : (a == b) = true := beq_iff_eq.2 (by omega)
    have nx : (b != a + 1) = true := bne_iff_ne.2 (by omega)
    clear BA BB L3 hc
    go_enter Try.func6, Try.ntmps6
    go_wp2_with (fail)
    go_at_call 10
    refine (sane_t _).mono ?_
    rintro e w1 ⟨rfl, hw1⟩
    have h1 := h.below hw1
    have b1 := hw1
    go_wp2_with (fail)
    go_at_call 15
    refine (KA _ h1).mono ?_
    rintro e w2 ⟨rfl, hw2⟩
    have h2 := h1.below hw2
    have b2 := b1.trans (hw2.mono b1.size)
    go_wp2_with (fail)
    go_at_call 15
    refine (KB _ h2).mono ?_
    rintro e w3 ⟨rfl, hw3⟩
    have h3 := h2.below hw3
    have b3 := b2.trans (hw3.mono b2.size)
    go_wp2
    go_ret
    exact ⟨rfl, b3⟩
  by_cases hc : p1 = q1 ∧ p2 = q2 ∧ p3 > q3
  · have L3 := L1.2.2 (by omega) (by omega)
    have xl : decide (p1 < q1) = false := decide_eq_false (by omega)
    have xe : (p1 == q1) = true := beq_iff_eq.2 (by omega)
    have yl : decide (p2 < q2) = false := decide_eq_false (by omega)
    have ye : (p2 == q2) = true := beq_iff_eq.2 (by omega)
    have zl : decide (p3 < q3) = false := decide_eq_false (by omega)
    have ze : (p3 == q3) = false := beq_eq_false_iff_ne.2 (by omega)
    have abl : decide (a < b) = false := decide_eq_false (by omega)
    have abe : (a == b) = false := beq_eq_false_iff_ne.2 (by omega)
    have nx : (b != a + 1) = true := bne_iff_ne.2 (by omega)
    clear BA BB L3 hc
    go_enter Try.func6, Try.ntmps6
    go_wp2_with (fail)
    go_at_call 10
    refine (sane_t _).mono ?_
    rintro e w1 ⟨rfl, hw1⟩
    have h1 := h.below hw1
    have b1 := hw1
    go_wp2_with (fail)
    go_at_call 15
    refine (KA _ h1).mono ?_
    rintro e w2 ⟨rfl, hw2⟩
    have h2 := h1.below hw2
    have b2 := b1.trans (hw2.mono b1.size)
    go_wp2_with (fail)
    go_at_call 15
    refine (KB _ h2).mono ?_
    rintro e w3 ⟨rfl, hw3⟩
    have h3 := h2.below hw3
    have b3 := b2.trans (hw3.mono b2.size)
    go_wp2
    go_ret
    exact ⟨rfl, b3⟩
  by_cases hc : p1 = q1 ∧ p2 > q2
  · obtain ⟨L2, L3⟩ := L2.2.1 (by omega) (by omega)
    have xl : decide (p1 < q1) = false := decide_eq_false (by omega)
    have xe : (p1 == q1) = true := beq_iff_eq.2 (by omega)
    have yl : decide (p2 < q2) = false := decide_eq_false (by omega)
    have ye : (p2 == q2) = false := beq_eq_false_iff_ne.2 (by omega)
    have abl : decide (a < b) = false := decide_eq_false (by omega)
    have abe : (a == b) = false := beq_eq_false_iff_ne.2 (by omega)
    have nx : (b != a + 1) = true := bne_iff_ne.2 (by omega)
    clear BA BB L3 hc
    go_enter Try.func6, Try.ntmps6
    go_wp2_with (fail)
    go_at_call 10
    refine (sane_t _).mono ?_
    rintro e w1 ⟨rfl, hw1⟩
    have h1 := h.below hw1
    have b1 := hw1
    go_wp2_with (fail)
    go_at_call 15
    refine (KA _ h1).mono ?_
    rintro e w2 ⟨rfl, hw2⟩
    have h2 := h1.below hw2
    have b2 := b1.trans (hw2.mono b1.size)
    go_wp2_with (fail)
    go_at_call 15
    refine (KB _ h2).mono ?_
    rintro e w3 ⟨rfl, hw3⟩
    have h3 := h2.below hw3
    have b3 := b2.trans (hw3.mono b2.size)
    go_wp2
    go_ret
    exact ⟨rfl, b3⟩
  by_cases hc : p1 > q1
  · obtain ⟨L2, L3⟩ := L2.1 (by omega)
    have xl : decide (p1 < q1) = false := decide_eq_false (by omega)
    have xe : (p1 == q1) = false := beq_eq_false_iff_ne.2 (by omega)
    have abl : decide (a < b) = false := decide_eq_false (by omega)
    have abe : (a == b) = false := beq_eq_false_iff_ne.2 (by omega)
    have nx : (b != a + 1) = true := bne_iff_ne.2 (by omega)
    clear BA BB L3 hc
    go_enter Try.func6, Try.ntmps6
    go_wp2_with (fail)
    go_at_call 10
    refine (sane_t _).mono ?_
    rintro e w1 ⟨rfl, hw1⟩
    have h1 := h.below hw1
    have b1 := hw1
    go_wp2_with (fail)
    go_at_call 15
    refine (KA _ h1).mono ?_
    rintro e w2 ⟨rfl, hw2⟩
    have h2 := h1.below hw2
    have b2 := b1.trans (hw2.mono b1.size)
    go_wp2_with (fail)
    go_at_call 15
    refine (KB _ h2).mono ?_
    rintro e w3 ⟨rfl, hw3⟩
    have h3 := h2.below hw3
    have b3 := b2.trans (hw3.mono b2.size)
    go_wp2
    go_ret
    exact ⟨rfl, b3⟩
  omega
end Go.Proofs.Ytdphnlcppaaccaa
