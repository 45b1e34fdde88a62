/-
  The law TransportSpec walked: it answers true.
-/
import Derived.Test.YtjkclplnflaplaaRsp
import Derived.Test.YtjkclplnflaplaaLaw7
namespace Go.Proofs.Ytjkclplnflaplaa
open Go.RowKit
attribute [local go_sem] Oper.semAt_some

theorem spans_len (l : List Ord) (n : Int) : (gSpans l n).1.length ≤ 65536 := by
  unfold gSpans
  split
  · simp
  · split
    · simp
    · cases ha : accOf (pcsL l n) with
      | none => simp [ansOf]
      | some acc => exact acc_len ha
theorem rsongIs {A : Option Addr} {c : Nat} {l : List Ord} {t p : Int} {r q : Bool} {e : Int} {w : World} (hn : l.length ≤ 1000000) (h : gSong l t = (p, r, q, e)) (hx : SlAt w A l) :
    Calls Try.prog 15 #[.slice A l.length c, .int .i64 t] w fun y w' => y = .returned (.tuple #[.int .i64 p, .bool r, .bool q, .int .i64 e]) ∧ Below w.heap.size w w' := by
  have := rsong_t A c l t w (by omega) hx
  unfold SongIs at this
  rw [h] at this
  exact this
theorem rspansIs {A : Option Addr} {c : Nat} {l : List Ord} {t : Int} {x : List Sp} {e : Int} {w : World} (hn : l.length ≤ 1000000) (hf : t ≤ 200 ∨ 1099511627776 < t) (h : gSpans l t = (x, e)) (hx : SlAt w A l) :
    Calls Try.prog 17 #[.slice A l.length c, .int .i64 t] w fun y w' => ∃ B d, y = .returned (.tuple #[.slice B x.length d, .int .i64 e]) ∧ SpAt w' B x ∧ Below w.heap.size w w' := by
  have := rspans_t A c l t w (by omega) hx hf
  unfold SpansIs at this
  rw [h] at this
  exact this

set_option maxRecDepth 20000 in
set_option maxHeartbeats 4000000 in
theorem spec_t (A : Option Addr) (c : Nat) (l : List Ord) (t n : Int) (w : World) (h : SlAt w A l) (hcap : l.length ≤ c) (hmax : l.length ≤ maxLen) (ht64 : -9223372036854775808 ≤ t ∧ t ≤ 9223372036854775807) (hn64 : -9223372036854775808 ≤ n ∧ n ≤ 9223372036854775807) :
    Calls Try.prog 4 #[.slice A l.length c, .int .i64 t, .int .i64 n] w (Yes w) := by
  by_cases hl : l.length ≤ 300
  case neg =>
    have hf : decide (l.length ≤ 300) = false := decide_eq_false hl
    clear hl
    go_enter Try.func4, Try.ntmps4
    go_wp2_with (first
      | (go_at_call 10; refine (sane_t _).mono ?_; rintro e w1 ⟨rfl, hw1⟩)
      | (go_at_call 11; refine (few_t _ _ _ _).mono ?_; rintro e w2 ⟨rfl, hw2⟩; rw [hf]; have b2 := hw1.trans (hw2.mono hw1.size)))
    go_ret
    exact ⟨rfl, b2⟩
  have hn : l.length ≤ 1000000 := by omega
  have hf : decide (l.length ≤ 300) = true := decide_eq_true hl
  clear hl
  by_cases r1 : 300 < t ∧ t ≤ 1099511627776
  case pos =>
    obtain ⟨ra, rb⟩ := r1
    have d1 : decide (300 < t) = true := decide_eq_true ra
    have d2 : decide (t ≤ 1099511627776) = true := decide_eq_true rb
    clear ra rb
    go_enter Try.func4, Try.ntmps4
    go_wp2_with (first
      | (go_at_call 10; refine (sane_t _).mono ?_; rintro e w1 ⟨rfl, hw1⟩; have h1 := h.below hw1)
      | (go_at_call 11; refine (few_t _ _ _ _).mono ?_; rintro e w2 ⟨rfl, hw2⟩; rw [hf]; have h2 := h1.below hw2; have b2 := hw1.trans (hw2.mono hw1.size)))
    go_ret
    exact ⟨rfl, b2⟩
  by_cases r2 : 200 < n ∧ n ≤ 1099511627776
  case pos =>
    obtain ⟨ra, rb⟩ := r2
    have d3 : decide (200 < n) = true := decide_eq_true ra
    have d4 : decide (n ≤ 1099511627776) = true := decide_eq_true rb
    clear ra rb
    by_cases r3 : t ≤ 300
    · have d1 : decide (300 < t) = false := decide_eq_false (by omega)
      clear r1 r3
      go_enter Try.func4, Try.ntmps4
      go_wp2_with (first
        | (go_at_call 10; refine (sane_t _).mono ?_; rintro e w1 ⟨rfl, hw1⟩; have h1 := h.below hw1)
        | (go_at_call 11; refine (few_t _ _ _ _).mono ?_; rintro e w2 ⟨rfl, hw2⟩; rw [hf]; have h2 := h1.below hw2; have b2 := hw1.trans (hw2.mono hw1.size)))
      go_ret
      exact ⟨rfl, b2⟩
    · have d1 : decide (300 < t) = true := decide_eq_true (by omega)
      have d2 : decide (t ≤ 1099511627776) = false := decide_eq_false (by omega)
      clear r1 r3
      go_enter Try.func4, Try.ntmps4
      go_wp2_with (first
        | (go_at_call 10; refine (sane_t _).mono ?_; rintro e w1 ⟨rfl, hw1⟩; have h1 := h.below hw1)
        | (go_at_call 11; refine (few_t _ _ _ _).mono ?_; rintro e w2 ⟨rfl, hw2⟩; rw [hf]; have h2 := h1.below hw2; have b2 := hw1.trans (hw2.mono hw1.size)))
      go_ret
      exact ⟨rfl, b2⟩
  have HFEW : n ≤ 200 ∨ 1099511627776 < n := by omega
  obtain ⟨⟨p, r, q, es⟩, hs⟩ : ∃ x, x = gSong l t := ⟨_, rfl⟩
  obtain ⟨⟨xs, er⟩, hx⟩ : ∃ x, x = gSpans l n := ⟨_, rfl⟩
  have hlen := spans_len l n
  rw [← hx] at hlen
  dsimp only at hlen
  have H0 := Lib.hid hs.symm
  have H1 := Lib.hid hx.symm
  have HF := Lib.hid HFEW
  clear hs hx HFEW
  by_cases r3 : t ≤ 300
  · have d1 : decide (300 < t) = false := decide_eq_false (by omega)
    by_cases r4 : n ≤ 200
    · have d3 : decide (200 < n) = false := decide_eq_false (by omega)
      clear r1 r2 r3 r4
      go_enter Try.func4, Try.ntmps4
      go_wp2_with (first
        | (go_at_call 10; refine (sane_t _).mono ?_; rintro e w1 ⟨rfl, hw1⟩; have h1 := h.below hw1)
        | (go_at_call 11; refine (few_t _ _ _ _).mono ?_; rintro e w2 ⟨rfl, hw2⟩; rw [hf]; have h2 := h1.below hw2; have b2 := hw1.trans (hw2.mono hw1.size)))
      go_wp2_with (fail)
      go_at_call 14
      refine (songIs hn H0.out h2).mono ?_
      rintro e w5 ⟨rfl, hw5⟩
      have b5 := b2.trans (hw5.mono b2.size)
      have h5 := h2.below hw5
      clear h1 h2 hw5 b2
      go_wp2_with (fail)
      go_at_call 15
      refine (rsongIs hn H0.out h5).mono ?_
      rintro e w6 ⟨rfl, hw6⟩
      have b6 := b5.trans (hw6.mono b5.size)
      have h6 := h5.below hw6
      clear h5 hw6 b5
      go_wp2_with (fail)
      go_at_call 16
      refine (spansIs hn hcap H1.out h6).mono ?_
      rintro e w7 ⟨A7, c7, rfl, s7, hw7⟩
      have b7 := b6.trans (hw7.mono b6.size)
      have h7 := h6.below hw7
      clear h6 hw7 b6
      go_wp2_with (fail)
      go_at_call 17
      refine (rspansIs hn HF.out H1.out h7).mono ?_
      rintro e w8 ⟨A8, c8, rfl, s8, hw8⟩
      have b8 := b7.trans (hw8.mono b7.size)
      have s7 := s7.below hw8
      clear h7 hw8 b7
      go_wp2_with (go_at_call 18; refine (sameIs rfl (by omega) s7 s8).mono ?_; rintro e w9 ⟨rfl, hw9⟩)
      go_ret
      exact ⟨rfl, b8.trans (hw9.mono b8.size)⟩
    · have d3 : decide (200 < n) = true := decide_eq_true (by omega)
      have d4 : decide (n ≤ 1099511627776) = false := decide_eq_false (by omega)
      clear r1 r2 r3 r4
      go_enter Try.func4, Try.ntmps4
      go_wp2_with (first
        | (go_at_call 10; refine (sane_t _).mono ?_; rintro e w1 ⟨rfl, hw1⟩; have h1 := h.below hw1)
        | (go_at_call 11; refine (few_t _ _ _ _).mono ?_; rintro e w2 ⟨rfl, hw2⟩; rw [hf]; have h2 := h1.below hw2; have b2 := hw1.trans (hw2.mono hw1.size)))
      go_wp2_with (fail)
      go_at_call 14
      refine (songIs hn H0.out h2).mono ?_
      rintro e w5 ⟨rfl, hw5⟩
      have b5 := b2.trans (hw5.mono b2.size)
      have h5 := h2.below hw5
      clear h1 h2 hw5 b2
      go_wp2_with (fail)
      go_at_call 15
      refine (rsongIs hn H0.out h5).mono ?_
      rintro e w6 ⟨rfl, hw6⟩
      have b6 := b5.trans (hw6.mono b5.size)
      have h6 := h5.below hw6
      clear h5 hw6 b5
      go_wp2_with (fail)
      go_at_call 16
      refine (spansIs hn hcap H1.out h6).mono ?_
      rintro e w7 ⟨A7, c7, rfl, s7, hw7⟩
      have b7 := b6.trans (hw7.mono b6.size)
      have h7 := h6.below hw7
      clear h6 hw7 b6
      go_wp2_with (fail)
      go_at_call 17
      refine (rspansIs hn HF.out H1.out h7).mono ?_
      rintro e w8 ⟨A8, c8, rfl, s8, hw8⟩
      have b8 := b7.trans (hw8.mono b7.size)
      have s7 := s7.below hw8
      clear h7 hw8 b7
      go_wp2_with (go_at_call 18; refine (sameIs rfl (by omega) s7 s8).mono ?_; rintro e w9 ⟨rfl, hw9⟩)
      go_ret
      exact ⟨rfl, b8.trans (hw9.mono b8.size)⟩
  · have d1 : decide (300 < t) = true := decide_eq_true (by omega)
    have d2 : decide (t ≤ 1099511627776) = false := decide_eq_false (by omega)
    by_cases r4 : n ≤ 200
    · have d3 : decide (200 < n) = false := decide_eq_false (by omega)
      clear r1 r2 r3 r4
      go_enter Try.func4, Try.ntmps4
      go_wp2_with (first
        | (go_at_call 10; refine (sane_t _).mono ?_; rintro e w1 ⟨rfl, hw1⟩; have h1 := h.below hw1)
        | (go_at_call 11; refine (few_t _ _ _ _).mono ?_; rintro e w2 ⟨rfl, hw2⟩; rw [hf]; have h2 := h1.below hw2; have b2 := hw1.trans (hw2.mono hw1.size)))
      go_wp2_with (fail)
      go_at_call 14
      refine (songIs hn H0.out h2).mono ?_
      rintro e w5 ⟨rfl, hw5⟩
      have b5 := b2.trans (hw5.mono b2.size)
      have h5 := h2.below hw5
      clear h1 h2 hw5 b2
      go_wp2_with (fail)
      go_at_call 15
      refine (rsongIs hn H0.out h5).mono ?_
      rintro e w6 ⟨rfl, hw6⟩
      have b6 := b5.trans (hw6.mono b5.size)
      have h6 := h5.below hw6
      clear h5 hw6 b5
      go_wp2_with (fail)
      go_at_call 16
      refine (spansIs hn hcap H1.out h6).mono ?_
      rintro e w7 ⟨A7, c7, rfl, s7, hw7⟩
      have b7 := b6.trans (hw7.mono b6.size)
      have h7 := h6.below hw7
      clear h6 hw7 b6
      go_wp2_with (fail)
      go_at_call 17
      refine (rspansIs hn HF.out H1.out h7).mono ?_
      rintro e w8 ⟨A8, c8, rfl, s8, hw8⟩
      have b8 := b7.trans (hw8.mono b7.size)
      have s7 := s7.below hw8
      clear h7 hw8 b7
      go_wp2_with (go_at_call 18; refine (sameIs rfl (by omega) s7 s8).mono ?_; rintro e w9 ⟨rfl, hw9⟩)
      go_ret
      exact ⟨rfl, b8.trans (hw9.mono b8.size)⟩
    · have d3 : decide (200 < n) = true := decide_eq_true (by omega)
      have d4 : decide (n ≤ 1099511627776) = false := decide_eq_false (by omega)
      clear r1 r2 r3 r4
      go_enter Try.func4, Try.ntmps4
      go_wp2_with (first
        | (go_at_call 10; refine (sane_t _).mono ?_; rintro e w1 ⟨rfl, hw1⟩; have h1 := h.below hw1)
        | (go_at_call 11; refine (few_t _ _ _ _).mono ?_; rintro e w2 ⟨rfl, hw2⟩; rw [hf]; have h2 := h1.below hw2; have b2 := hw1.trans (hw2.mono hw1.size)))
      go_wp2_with (fail)
      go_at_call 14
      refine (songIs hn H0.out h2).mono ?_
      rintro e w5 ⟨rfl, hw5⟩
      have b5 := b2.trans (hw5.mono b2.size)
      have h5 := h2.below hw5
      clear h1 h2 hw5 b2
      go_wp2_with (fail)
      go_at_call 15
      refine (rsongIs hn H0.out h5).mono ?_
      rintro e w6 ⟨rfl, hw6⟩
      have b6 := b5.trans (hw6.mono b5.size)
      have h6 := h5.below hw6
      clear h5 hw6 b5
      go_wp2_with (fail)
      go_at_call 16
      refine (spansIs hn hcap H1.out h6).mono ?_
      rintro e w7 ⟨A7, c7, rfl, s7, hw7⟩
      have b7 := b6.trans (hw7.mono b6.size)
      have h7 := h6.below hw7
      clear h6 hw7 b6
      go_wp2_with (fail)
      go_at_call 17
      refine (rspansIs hn HF.out H1.out h7).mono ?_
      rintro e w8 ⟨A8, c8, rfl, s8, hw8⟩
      have b8 := b7.trans (hw8.mono b7.size)
      have s7 := s7.below hw8
      clear h7 hw8 b7
      go_wp2_with (go_at_call 18; refine (sameIs rfl (by omega) s7 s8).mono ?_; rintro e w9 ⟨rfl, hw9⟩)
      go_ret
      exact ⟨rfl, b8.trans (hw9.mono b8.size)⟩
end Go.Proofs.Ytjkclplnflaplaa
