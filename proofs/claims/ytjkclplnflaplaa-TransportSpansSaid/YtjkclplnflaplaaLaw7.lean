/-
  The law TransportBefore walked: it answers true.
-/
import Derived.Test.YtjkclplnflaplaaLat
namespace Go.Proofs.Ytjkclplnflaplaa
open Go.RowKit
attribute [local go_sem] Oper.semAt_some

theorem step_len {acc acc' : List Sp} {y : Sp} (h : acc.length ≤ 65536) (hs : stepP acc y = some acc') : acc'.length ≤ 65536 := by
  unfold stepP at hs
  split at hs
  · rename_i hc
    cases hs
    have : 0 < acc.length := List.length_pos_iff.2 hc.1
    simp
    omega
  · split at hs
    · cases hs
    · cases hs
      simp
      omega
theorem fold_len {ys : List Sp} : ∀ {acc0 acc : List Sp}, acc0.length ≤ 65536 → ys.foldl (fun o y => o.bind fun acc => stepP acc y) (some acc0) = some acc → acc.length ≤ 65536 := by
  induction ys with
  | nil => intro acc0 acc h1 h3; cases h3; exact h1
  | cons y ys ih =>
    intro acc0 acc h1 h3
    rw [List.foldl_cons] at h3
    change ys.foldl _ (stepP acc0 y) = some acc at h3
    cases hs : stepP acc0 y with
    | none => rw [hs, foldl_none] at h3; cases h3
    | some acc1 =>
      rw [hs] at h3
      exact ih (step_len h1 hs) h3
theorem acc_len {pre acc : List Sp} (h : accOf pre = some acc) : acc.length ≤ 65536 := fold_len (by simp) h

theorem slTake {w : World} {A : Option Addr} {l : List Ord} {c : Nat} (k : Nat) (h : SlAt w A l) (hc : l.length ≤ c) : SlAt w (if c = 0 then A else A) (l.take k) := fun hp => by
  rw [List.length_take] at hp
  obtain ⟨b, o, rfl, hm⟩ := h (by omega)
  refine ⟨b, o, by simp, hm.lt, fun i hi => ?_, fun i hi => ?_, fun i hi => ?_, fun i hi => ?_⟩ <;> rw [List.length_take] at hi
  · rw [take_oT (by omega)]; exact hm.c0 i (by omega)
  · unfold oK; rw [take_get (by omega)]; exact hm.c1 i (by omega)
  · unfold oA; rw [take_get (by omega)]; exact hm.c2 i (by omega)
  · unfold oB; rw [take_get (by omega)]; exact hm.c3 i (by omega)
theorem slTake0 {w : World} {A : Option Addr} {l : List Ord} (k : Nat) (h : SlAt w A l) : SlAt w A (l.take k) := by
  have := slTake (c := l.length) k h (Nat.le_refl _)
  simpa using this

set_option maxRecDepth 20000 in
set_option maxHeartbeats 4000000 in
theorem before_t (A : Option Addr) (c : Nat) (l : List Ord) (n : Int) (w : World) (h : SlAt w A l) (hcap : l.length ≤ c) (hmax : l.length ≤ maxLen) (hn64 : -9223372036854775808 ≤ n ∧ n ≤ 9223372036854775807) :
    Calls Try.prog 6 #[.slice A l.length c, .int .i64 n] w (Yes w) := by
  by_cases hl : l.length ≤ 300
  case neg =>
    have hf : decide (l.length ≤ 300) = false := decide_eq_false hl
    clear hl
    go_enter Try.func6, Try.ntmps6
    go_wp2_with (first
      | (go_at_call 10; refine (sane_t _).mono ?_; rintro e w1 ⟨rfl, hw1⟩)
      | (go_at_call 11; refine (few_t _ _ _ _).mono ?_; rintro e w2 ⟨rfl, hw2⟩; rw [hf]; have b2 := hw1.trans (hw2.mono hw1.size)))
    go_ret
    exact ⟨rfl, b2⟩
  have hn : l.length ≤ 1000000 := by omega
  have hf : decide (l.length ≤ 300) = true := decide_eq_true hl
  clear hl
  by_cases hc : gCheck l = 0
  case neg =>
    have d : (gCheck l != 0) = true := bne_iff_ne.2 hc
    clear hc
    go_enter Try.func6, Try.ntmps6
    go_wp2_with (first
      | (go_at_call 10; refine (sane_t _).mono ?_; rintro e w1 ⟨rfl, hw1⟩; have h1 := h.below hw1)
      | (go_at_call 11; refine (few_t _ _ _ _).mono ?_; rintro e w2 ⟨rfl, hw2⟩; rw [hf]; have h2 := h1.below hw2; have b2 := hw1.trans (hw2.mono hw1.size))
      | (go_at_call 13; refine (rcheck_t _ _ l _ (by omega) h2).mono ?_; rintro e w3 ⟨rfl, hw3⟩; have h3 := h2.below hw3; have b3 := b2.trans (hw3.mono b2.size)))
    go_ret
    exact ⟨rfl, b3⟩
  have HC := Lib.hid hc
  clear hc
  by_cases r0 : n < 1
  case pos =>
    have d0 : decide (n < 1) = true := decide_eq_true r0
    clear r0
    go_enter Try.func6, Try.ntmps6
    go_wp2_with (first
      | (go_at_call 10; refine (sane_t _).mono ?_; rintro e w1 ⟨rfl, hw1⟩; have h1 := h.below hw1)
      | (go_at_call 11; refine (few_t _ _ _ _).mono ?_; rintro e w2 ⟨rfl, hw2⟩; rw [hf]; have h2 := h1.below hw2; have b2 := hw1.trans (hw2.mono hw1.size))
      | (go_at_call 13; refine (rcheck_t _ _ l _ (by omega) h2).mono ?_; rintro e w3 ⟨rfl, hw3⟩; rw [HC.out]; have h3 := h2.below hw3; have b3 := b2.trans (hw3.mono b2.size)))
    go_ret
    exact ⟨rfl, b3⟩
  have d0 : decide (n < 1) = false := decide_eq_false r0
  by_cases r1 : 1099511627776 < n
  case pos =>
    have d1 : decide (1099511627776 < n) = true := decide_eq_true r1
    clear r1
    go_enter Try.func6, Try.ntmps6
    go_wp2_with (first
      | (go_at_call 10; refine (sane_t _).mono ?_; rintro e w1 ⟨rfl, hw1⟩; have h1 := h.below hw1)
      | (go_at_call 11; refine (few_t _ _ _ _).mono ?_; rintro e w2 ⟨rfl, hw2⟩; rw [hf]; have h2 := h1.below hw2; have b2 := hw1.trans (hw2.mono hw1.size))
      | (go_at_call 13; refine (rcheck_t _ _ l _ (by omega) h2).mono ?_; rintro e w3 ⟨rfl, hw3⟩; rw [HC.out]; have h3 := h2.below hw3; have b3 := b2.trans (hw3.mono b2.size)))
    go_ret
    exact ⟨rfl, b3⟩
  have d1 : decide (1099511627776 < n) = false := decide_eq_false r1
  have n0 : 1 ≤ n := by omega
  have n1 : n ≤ 1099511627776 := by omega
  have hs1 := before_song HC.out n0 n1
  have hs2 := before_spans HC.out n0 n1
  have hl2 := cut_len l (n - 1)
  have hs0 := gSong_of HC.out (t := n - 1) (by omega) (by omega)
  obtain ⟨p, hp⟩ : ∃ x, x = (atS l (n - 1)).pos := ⟨_, rfl⟩
  obtain ⟨r, hr⟩ : ∃ x, x = (atS l (n - 1)).roll := ⟨_, rfl⟩
  obtain ⟨q, hq⟩ : ∃ x, x = recB (atS l (n - 1)) := ⟨_, rfl⟩
  obtain ⟨xs, er, hxs⟩ : ∃ xs er, gSpans l n = (xs, er) := ⟨_, _, rfl⟩
  rw [← hp, ← hr, ← hq] at hs0
  rw [hs0] at hs1
  rw [hxs] at hs2
  have H0 := Lib.hid hs0
  have H1 := Lib.hid hs1
  have H2 := Lib.hid hs2
  have H3 := Lib.hid hxs
  have HX := Lib.hid (show xs.length ≤ 1000000000000 by
    have := hxs
    rw [gSpans_of HC.out (by omega) n1] at this
    cases ha : accOf (pcsL l n) with
    | none => rw [ha] at this; cases this; simp
    | some acc =>
      rw [ha] at this
      cases this
      have := acc_len ha
      omega)
  clear hp hr hq hs0 hs1 hs2 hxs r0 r1 hmax
  go_enter Try.func6, Try.ntmps6
  go_wp2_with (first
    | (go_at_call 10; refine (sane_t _).mono ?_; rintro e w1 ⟨rfl, hw1⟩; have h1 := h.below hw1)
    | (go_at_call 11; refine (few_t _ _ _ _).mono ?_; rintro e w2 ⟨rfl, hw2⟩; rw [hf]; have h2 := h1.below hw2; have b2 := hw1.trans (hw2.mono hw1.size))
    | (go_at_call 13; refine (rcheck_t _ _ l _ (by omega) h2).mono ?_; rintro e w3 ⟨rfl, hw3⟩; rw [HC.out]; have h3 := h2.below hw3; have b3 := b2.trans (hw3.mono b2.size)))
  clear h h1 h2 hw1 hw2 hw3 b2
  go_loop [5] (fun i => ∃ k : Nat, k ≤ l.length ∧ i = .int .i64 k ∧ Hid (∀ j, j < k → oT l j < n)) (fun i => l.length - (intOf i).toNat)
  case atStart => exact ⟨0, by omega, rfl, Lib.hid (fun j hj => by omega)⟩
  case round =>
    obtain ⟨k, hk, rfl, hT⟩ := hrel
    by_cases hlt : k < l.length ∧ oT l k < n
    case pos =>
      obtain ⟨hlt, hb⟩ := hlt
      obtain ⟨b, o, rfl, hm⟩ := h3 (by omega)
      have g0 := hm.c0 k hlt
      obtain ⟨xt, ht⟩ : ∃ x, x = oT l k := ⟨_, rfl⟩
      rw [← ht] at g0 hb
      have HT2 := Lib.hid ht
      have d9 : decide (xt < n) = true := decide_eq_true hb
      clear hm h3 ht
      go_wp2
      go_round
      case rel => exact ⟨k + 1, by omega, by go_num, Lib.hid (fun j hj => by
        rcases Nat.lt_or_ge j k with h' | h'
        · exact hT.out j h'
        · obtain rfl : j = k := by omega
          rw [← HT2.out]
          exact hb)⟩
      case measure => simp [intOf]; omega
    case neg =>
      have hkc : k = cutK l (n - 1) := cut_uniq hk (fun i hi => by have := hT.out i hi; omega) (fun hh => by
        have : ¬ oT l k < n := fun hx => hlt ⟨hh, hx⟩
        omega)
      have h4 : SlAt w3 A (l.take k) := slTake0 k h3
      have hk4 : (l.take k).length = k := by rw [List.length_take]; omega
      have HQ1 := Lib.hid (hkc ▸ H1.out)
      have HQ2 := Lib.hid (hkc ▸ H2.out)
      have KS := fun (cc : Nat) (W : World) (hw : SlAt W A (l.take k)) => songIs (c := cc) (by omega) HQ1.out hw
      have KP := fun (cc : Nat) (hcc : k ≤ cc) (W : World) (hw : SlAt W A (l.take k)) => spansIs (c := cc) (by omega) (by omega) HQ2.out hw
      rw [hk4] at KS KP
      have HK4 := Lib.hid hk4
      clear hkc hk4
      have hkc2 : (k : Int) ≤ c := by omega
      have tail : True := trivial
      by_cases hll : k < l.length
      · obtain ⟨b, o, rfl, hm⟩ := h3 (by omega)
        have g0 := hm.c0 k hll
        obtain ⟨xt, ht⟩ : ∃ x, x = oT l k := ⟨_, rfl⟩
        rw [← ht] at g0
        have d9 : decide (xt < n) = false := decide_eq_false (fun hx => hlt ⟨hll, by rw [← ht]; exact hx⟩)
        have bb := hm.lt
        clear hm ht hlt
        go_wp2_with (fail)
        go_at_call 14
        refine (songIs hn H0.out h3).mono ?_
        rintro e w5 ⟨rfl, hw5⟩
        have b5 := b3.trans (hw5.mono b3.size)
        have h5 := h3.below hw5
        have k5 := h4.below hw5
        clear h3 h4 hw5 b3
        go_wp2_with (fail)
        go_at_call 14
        refine (KS _ _ k5).mono ?_
        rintro e w6 ⟨rfl, hw6⟩
        have b6 := b5.trans (hw6.mono b5.size)
        have h6 := h5.below hw6
        have k6 := k5.below hw6
        clear h5 k5 hw6 b5
        go_wp2_with (fail)
        go_at_call 16
        refine (spansIs hn hcap H3.out h6).mono ?_
        rintro e w7 ⟨A7, c7, rfl, s7, hw7⟩
        have b7 := b6.trans (hw7.mono b6.size)
        have k7 := k6.below hw7
        clear h6 k6 hw7 b6
        go_wp2_with (fail)
        go_at_call 16
        refine (KP _ (by omega) _ k7).mono ?_
        rintro e w8 ⟨A8, c8, rfl, s8, hw8⟩
        have b8 := b7.trans (hw8.mono b7.size)
        have s7 := s7.below hw8
        clear k7 hw8 b7
        go_wp2_with (go_at_call 18; refine (sameIs rfl HX.out s7 s8).mono ?_; rintro e w9 ⟨rfl, hw9⟩)
        go_ret
        exact ⟨rfl, b8.trans (hw9.mono b8.size)⟩
      · obtain rfl : k = l.length := by omega
        clear hlt hll
        go_wp2_with (fail)
        go_at_call 14
        refine (songIs hn H0.out h3).mono ?_
        rintro e w5 ⟨rfl, hw5⟩
        have b5 := b3.trans (hw5.mono b3.size)
        have h5 := h3.below hw5
        have k5 := h4.below hw5
        clear h3 h4 hw5 b3
        go_wp2_with (fail)
        go_at_call 14
        refine (KS _ _ k5).mono ?_
        rintro e w6 ⟨rfl, hw6⟩
        have b6 := b5.trans (hw6.mono b5.size)
        have h6 := h5.below hw6
        have k6 := k5.below hw6
        clear h5 k5 hw6 b5
        go_wp2_with (fail)
        go_at_call 16
        refine (spansIs hn hcap H3.out h6).mono ?_
        rintro e w7 ⟨A7, c7, rfl, s7, hw7⟩
        have b7 := b6.trans (hw7.mono b6.size)
        have k7 := k6.below hw7
        clear h6 k6 hw7 b6
        go_wp2_with (fail)
        go_at_call 16
        refine (KP _ (by omega) _ k7).mono ?_
        rintro e w8 ⟨A8, c8, rfl, s8, hw8⟩
        have b8 := b7.trans (hw8.mono b7.size)
        have s7 := s7.below hw8
        clear k7 hw8 b7
        go_wp2_with (go_at_call 18; refine (sameIs rfl HX.out s7 s8).mono ?_; rintro e w9 ⟨rfl, hw9⟩)
        go_ret
        exact ⟨rfl, b8.trans (hw9.mono b8.size)⟩
end Go.Proofs.Ytjkclplnflaplaa
