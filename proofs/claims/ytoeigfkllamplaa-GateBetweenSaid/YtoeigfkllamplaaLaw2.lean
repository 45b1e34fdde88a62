/-
  The law GateBetween walked: it answers true.
-/
import Derived.Test.YtoeigfkllamplaaBtw
namespace Go.Proofs.Ytoeigfkllamplaa
open Go.RowKit
attribute [local go_sem] Oper.semAt_some

/-- Between two rounds of the comparing: at so many that have passed, the least and the greatest of them. -/
def Ends (x : List Int) (a : Nat) (lo hi : Int) : Prop := ∀ j, j < x.length → (j < a ∨ j = 0) → lo ≤ gi x j ∧ gi x j ≤ hi
theorem Ends.step {x : List Int} {a : Nat} {lo hi : Int} (h : Ends x a lo hi) : Ends x (a + 1) (min lo (gi x a)) (max hi (gi x a)) := fun j hj hja => by
  by_cases e : j = a
  · subst e; omega
  · have := h j hj (hja.elim (fun h => .inl (by omega)) .inr)
    omega
theorem Ends.mean {x : List Int} {lo hi : Int} (h : Ends x x.length lo hi) (h0 : 0 < x.length) : lo ≤ meanE x ∧ meanE x ≤ hi :=
  mean_between h0 fun y hy => by
    obtain ⟨j, hj, rfl⟩ := List.getElem_of_mem hy
    have := h j hj (.inl hj)
    simpa [gi, hj] using this
theorem thr_at {l : List Int} {m : Int} {k : Nat} (hk : k < l.length) (hq : m ≤ gi l k) : (thr (l.take k) m).length < (thr l m).length ∧ gi (thr l m) (thr (l.take k) m).length = gi l k := by
  have e : l = l.take k ++ gi l k :: l.drop (k + 1) := by
    conv => lhs; rw [← List.take_append_drop (k + 1) l, take_snoc hk]
    simp
  have e2 : thr l m = thr (l.take k) m ++ gi l k :: thr (l.drop (k + 1)) m := by
    conv => lhs; rw [e]
    rw [thr_append]
    congr 1
    unfold thr
    rw [List.filter_cons_of_pos (by simpa using hq)]
  rw [e2]
  refine ⟨by simp, ?_⟩
  unfold gi
  rw [List.getD_eq_getElem?_getD, List.getElem?_append_right (Nat.le_refl _), Nat.sub_self]
  rfl

set_option maxRecDepth 20000 in
set_option maxHeartbeats 4000000 in
theorem between_t (A : Option Addr) (c : Nat) (l : List Int) (floor : Int) (w : World) (h : IntsAt .i64 w A l) :
    Calls Try.prog 4 #[.slice A l.length c, .int .i64 floor] w (Yes w) := by
  by_cases hl : 1000 < l.length
  · have d : decide (1000 < (l.length : Int)) = true := decide_eq_true (by omega)
    go_enter Try.func4, Try.ntmps4
    go_wp2_with (go_at_call 6; refine (sane_t _).mono ?_; rintro e w1 ⟨rfl, hw1⟩)
    go_ret
    exact ⟨rfl, hw1⟩
  have d : decide (1000 < (l.length : Int)) = false := decide_eq_false (by omega)
  have hn : l.length ≤ 1000000 := by omega
  have K7 := fun W (h : IntsAt .i64 W A l) => gated_t A c l floor W hn h
  have K9 := fun W (h : IntsAt .i64 W A l) => loud_t A c l floor W hn h
  have hlen := gG_len l floor
  unfold IntsErr at K7
  unfold Loud at K9
  by_cases he : (gGated l floor).2 = 0
  case neg =>
    have hg := gG_err he
    rw [hg.2] at K9
    rw [hg.1] at K7
    obtain ⟨er, her⟩ : ∃ x, x = (gGated l floor).2 := ⟨_, rfl⟩
    rw [← her] at K7 K9 he
    dsimp only at K7 K9
    have d1 : (er != 0) = true := bne_iff_ne.2 he
    clear hg her hlen he
    go_enter Try.func4, Try.ntmps4
    go_wp2_with (first
      | (go_at_call 6; refine (sane_t _).mono ?_; rintro e w1 ⟨rfl, hw1⟩; have h1 := h.below hw1)
      | (go_at_call 7; refine (K7 _ h1).mono ?_; rintro e w2 ⟨A2, c2, rfl, hI2, hw2⟩; have b2 := hw1.trans (hw2.mono hw1.size); have h2 := h1.below hw2)
      | (go_at_call 9; refine (K9 _ h2).mono ?_; rintro e w4 ⟨rfl, hw4⟩; have b4 := b2.trans (hw4.mono b2.size)))
    go_ret
    exact ⟨rfl, b4⟩
  obtain ⟨_, hall, hf, hG⟩ := gG_ok he
  have hL := gL_of (by omega) hall hf
  obtain ⟨T, hT⟩ : ∃ T, T = thr l floor := ⟨_, rfl⟩
  rw [← hT] at hG hL
  have hTa : AllE T := by rw [hT]; exact thr_all hall _
  have hTl : T.length ≤ l.length := by rw [hT]; exact thr_len _ _
  obtain ⟨x, n, ok, hx, hnL, hcase⟩ : ∃ x n ok, gGated l floor = (x, 0) ∧ gLoud l floor = (n, ok, 0) ∧ ((T = [] ∧ x = [] ∧ n = 0 ∧ ok = false) ∨ (T ≠ [] ∧ x = thr T (tenth (meanE T)) ∧ x ≠ [] ∧ n = meanE x ∧ ok = true)) := by
    by_cases hz : T = []
    · rw [if_pos hz] at hG hL
      exact ⟨_, _, _, hG, hL, .inl ⟨hz, rfl, rfl, rfl⟩⟩
    · rw [if_neg hz] at hG hL
      exact ⟨_, _, _, hG, hL, .inr ⟨hz, rfl, thr_ne hTa hz, rfl, rfl⟩⟩
  rw [hx] at K7 hlen
  rw [hnL] at K9
  dsimp only at K7 K9 hlen
  have HT := Lib.hid hT
  have HC := Lib.hid hcase
  have HA := Lib.hid hTa
  clear hx hnL hG hL hT hcase hTa he hall
  obtain ⟨i0, hi0, hz0, hz1, hz2⟩ := info_parts info3
  go_enter Try.func4, Try.ntmps4
  go_wp2_with (first
    | (go_at_call 6; refine (sane_t _).mono ?_; rintro e w1 ⟨rfl, hw1⟩; have h1 := h.below hw1)
    | (go_at_call 7; refine (K7 _ h1).mono ?_; rintro e w2 ⟨A2, c2, rfl, hI2, hw2⟩; have b2 := hw1.trans (hw2.mono hw1.size); have h2 := h1.below hw2)
    | (go_at_call 9; refine (K9 _ h2).mono ?_; rintro e w4 ⟨rfl, hw4⟩; have b4 := b2.trans (hw4.mono b2.size); have h4 := h2.below hw4; have hI4 := hI2.below hw4))
  clear K7 K9
  go_loopw [10, 11] (fun v i wr => ∃ (k : Nat) (N : List Int), k ≤ l.length ∧ i = .int .i64 k ∧ Hid (N = thr (l.take k) floor) ∧ wr.ownsRow w4.heap.size 3 1 v N.length (N.map (Value.int .i64)) ∧ Below w4.heap.size w4 wr) (fun _ i _ => l.length - (intOf i).toNat)
  case atStart => exact ⟨0, [], by omega, rfl, Lib.hid rfl, own_nil _ _ _, Below.refl _ _⟩
  case round =>
    obtain ⟨k, N, hk, rfl, hN, hown, hwr⟩ := hrel
    obtain ⟨V, cp, rfl⟩ := own_slice hown
    have hNl : N.length ≤ l.length := by
      rw [hN.out]
      exact Nat.le_trans (thr_len _ _) (by simp; omega)
    by_cases hlt : k < l.length
    · obtain ⟨b, o, rfl, hbb, hc⟩ := h4 (by omega)
      have hsz := hwr.size
      have g1 := (hwr.cell (p := ⟨b, o + k, none⟩) hbb).trans (hc k hlt)
      clear hc
      by_cases hq : floor ≤ gi l k
      · have E : Hid (thr (l.take (k + 1)) floor = N ++ [gi l k]) := Lib.hid (by rw [take_snoc hlt, thr_snoc, if_pos hq, hN.out])
        have d1 : decide (floor ≤ gi l k) = true := decide_eq_true hq
        go_wp2_with (at_builtin; refine wpList_append_own _ rfl _ _ 22 rfl w4.heap.size 3 i0 (.int .i64 0) 1 8 Try.underlying22 hi0 hz0 hz1 hz2 rfl (by decide) _ _ _ rfl (hown.alloc _) ⟨wr.heap.size, 0, none⟩ 1 1 [.int .i64 (gi l k)] rfl rfl (cell_one_new _ _ _) (by simp [Value.oneCell']) (by simp [maxLen]; omega) (by omega) (by have := hwr.size; simp; omega) ?_; intro v' w' hown' hgrow _)
        go_roundw
        case rel =>
          refine ⟨k + 1, N ++ [gi l k], by omega, by go_num, Lib.hid E.out.symm, by simpa using hown', ?_⟩
          exact (hwr.alloc hwr.size _).grown hgrow (by have := hwr.size; simp; omega) (own_base hown)
        case measure => simp [intOf]; omega
      · have E : Hid (thr (l.take (k + 1)) floor = N) := Lib.hid (by rw [take_snoc hlt, thr_snoc, if_neg hq, hN.out])
        have d1 : decide (floor ≤ gi l k) = false := decide_eq_false hq
        go_wp2_with (fail)
        go_roundw
        case rel => exact ⟨k + 1, N, by omega, by go_num, Lib.hid E.out.symm, hown, hwr⟩
        case measure => simp [intOf]; omega
    · obtain rfl : k = l.length := by omega
      have hNT : N = T := by rw [hN.out, List.take_length, HT.out]
      subst hNT
      have bW := b4.trans (hwr.mono b4.size)
      rcases HC.out with ⟨c1, c2, c3, c4⟩ | ⟨c1, c2, c3, c4, c5⟩
      · subst c1 c2 c3 c4
        clear HC HT hN
        go_wp2_with (fail)
        go_ret
        exact ⟨rfl, bW⟩
      subst c5
      have hxl : 0 < x.length := List.length_pos_iff.2 c3
      have hNl0 : 0 < N.length := List.length_pos_iff.2 c1
      have hIN := (IntsAt.of_own hown).2
      have KM := rmean_t V cp N wr hNl0 (by omega) HA.out hIN
      have hmb := mean_bd HA.out hNl0
      obtain ⟨m, hm⟩ : ∃ m, m = meanE N := ⟨_, rfl⟩
      rw [← hm] at KM hmb c2
      have hm0 := hmb.1
      have hm1 := hmb.2
      obtain ⟨b', o', rfl, hb', hc'⟩ := (hI4.below hwr) hxl
      have x0 := hc' 0 hxl
      obtain ⟨bv, ov, rfl, hbv, hcv⟩ := hIN hNl0
      have e1 : decide (0 < (x.length : Int)) = true := decide_eq_true (by omega)
      have e2 : decide (0 < (N.length : Int)) = true := decide_eq_true (by omega)
      have e3 : decide (0 < x.length) = true := decide_eq_true (by omega)
      have e4 : decide (0 < N.length) = true := decide_eq_true (by omega)
      have C2 := Lib.hid c2
      have C4 := Lib.hid c4
      have C3 := Lib.hid c3
      clear HC HT hN c1 c2 c3 c4 hm hmb
      go_wp2_with (go_at_call 12; refine KM.mono ?_; rintro e w5 ⟨rfl, hw5⟩; have y0 := (hw5.cell (p := ⟨b', o' + 0, none⟩) hb').trans x0; rw [Nat.add_zero] at y0)
      go_quiet (fail)
      go_wp2_with fail
      go_loopw [13, 14, 15, 16] (fun v13 v14 v15 i wk => ∃ (k a : Nat) (lo hi : Int), k ≤ N.length ∧ i = .int .i64 k ∧ v13 = .int .i64 a ∧ v14 = .int .i64 lo ∧ v15 = .int .i64 hi ∧ Hid (a = (thr (N.take k) (tenth m)).length) ∧ Hid (Ends x a lo hi) ∧ Below w5.heap.size w5 wk) (fun _ _ _ i _ => N.length - (intOf i).toNat)
      case atStart => exact ⟨0, 0, _, _, by omega, rfl, rfl, rfl, rfl, Lib.hid rfl, Lib.hid (fun j _ hja => (show j = 0 by omega) ▸ ⟨Int.le_refl _, Int.le_refl _⟩), below_drewN (Below.refl _ _) _⟩
      case round =>
        obtain ⟨k, a, lo, hi, hk, rfl, rfl, rfl, rfl, ha, he, hwk⟩ := hrel
        by_cases hkt : k < N.length
        case neg =>
          obtain rfl : k = N.length := by omega
          have hax : a = x.length := by rw [ha.out, List.take_length, C2.out]
          subst hax
          have hme := (he.out).mean hxl
          rw [← C4.out] at hme
          have f1 : decide (lo ≤ n) = true := decide_eq_true hme.1
          have f2 : decide (n ≤ hi) = true := decide_eq_true hme.2
          clear hme
          go_wp2_with fail
          go_ret
          exact ⟨rfl, (bW.trans (hw5.mono bW.size)).trans (hwk.mono (bW.trans (hw5.mono bW.size)).size)⟩
        have gN := (hwk.cell (p := ⟨bv, ov + k, none⟩) (Nat.lt_of_lt_of_le hbv hw5.size)).trans ((hw5.cell (p := ⟨bv, ov + k, none⟩) hbv).trans (hcv k hkt))
        obtain ⟨g, hg⟩ : ∃ g, g = gi N k := ⟨_, rfl⟩
        rw [← hg] at gN
        have HG := Lib.hid hg
        clear hg
        by_cases hz : 0 < m % 10
        case neg =>
          have hT : tenth m = m / 10 := by unfold tenth; omega
          have d0 : decide (0 < m % 10) = false := decide_eq_false hz
          have HTn := Lib.hid hT
          clear hT hz
          by_cases hq : m / 10 ≤ g
          · have d1 : decide (g < m / 10) = false := decide_eq_false (by omega)
            have hat := thr_at (l := N) (m := tenth m) hkt (by rw [← HG.out, HTn.out]; exact hq)
            rw [← ha.out, ← C2.out, ← HG.out] at hat
            obtain ⟨ha1, ha2⟩ := hat
            have hst := (he.out).step
            rw [ha2] at hst
            have gx := (hwk.cell (p := ⟨b', o' + a, none⟩) (Nat.lt_of_lt_of_le hb' hw5.size)).trans ((hw5.cell (p := ⟨b', o' + a, none⟩) hb').trans (hc' a ha1))
            rw [ha2] at gx
            have d2 : decide ((x.length : Int) ≤ (a : Int)) = false := decide_eq_false (by omega)
            have hak : (thr (N.take (k + 1)) (tenth m)).length = a + 1 := by rw [take_snoc hkt, thr_snoc, if_pos (by rw [← HG.out, HTn.out]; exact hq), List.length_append, ← ha.out]; rfl
            have HST := Lib.hid hst
            have HAK := Lib.hid hak
            clear hst hak hq ha2
            go_wp2_with fail
            go_quiet (fail)
            go_wp2_with fail
            go_quiet (fail)
            go_wp2_with fail
            go_roundw
            case rel => exact ⟨k + 1, a + 1, _, _, by omega, by go_num, by go_num, rfl, rfl, Lib.hid HAK.out.symm, HST, below_drewN hwk _⟩
            case measure => simp [intOf]; omega
          · have d1 : decide (g < m / 10) = true := decide_eq_true (by omega)
            have hak : (thr (N.take (k + 1)) (tenth m)).length = a := by rw [take_snoc hkt, thr_snoc, if_neg (by rw [← HG.out, HTn.out]; exact hq), ← ha.out]
            have HAK := Lib.hid hak
            clear hak hq
            go_wp2_with fail
            go_roundw
            case rel => exact ⟨k + 1, a, lo, hi, by omega, by go_num, rfl, rfl, rfl, Lib.hid HAK.out.symm, he, hwk⟩
            case measure => simp [intOf]; omega
        have hT : tenth m = m / 10 + 1 := by unfold tenth; omega
        have d0 : decide (0 < m % 10) = true := decide_eq_true hz
        have HTn := Lib.hid hT
        clear hT hz
        by_cases hq : m / 10 + 1 ≤ g
        · have d1 : decide (g < m / 10 + 1) = false := decide_eq_false (by omega)
          have hat := thr_at (l := N) (m := tenth m) hkt (by rw [← HG.out, HTn.out]; exact hq)
          rw [← ha.out, ← C2.out, ← HG.out] at hat
          obtain ⟨ha1, ha2⟩ := hat
          have hst := (he.out).step
          rw [ha2] at hst
          have gx := (hwk.cell (p := ⟨b', o' + a, none⟩) (Nat.lt_of_lt_of_le hb' hw5.size)).trans ((hw5.cell (p := ⟨b', o' + a, none⟩) hb').trans (hc' a ha1))
          rw [ha2] at gx
          have d2 : decide ((x.length : Int) ≤ (a : Int)) = false := decide_eq_false (by omega)
          have hak : (thr (N.take (k + 1)) (tenth m)).length = a + 1 := by rw [take_snoc hkt, thr_snoc, if_pos (by rw [← HG.out, HTn.out]; exact hq), List.length_append, ← ha.out]; rfl
          have HST := Lib.hid hst
          have HAK := Lib.hid hak
          clear hst hak hq ha2
          go_wp2_with fail
          go_quiet (fail)
          go_wp2_with fail
          go_quiet (fail)
          go_wp2_with fail
          go_roundw
          case rel => exact ⟨k + 1, a + 1, _, _, by omega, by go_num, by go_num, rfl, rfl, Lib.hid HAK.out.symm, HST, below_drewN hwk _⟩
          case measure => simp [intOf]; omega
        · have d1 : decide (g < m / 10 + 1) = true := decide_eq_true (by omega)
          have hak : (thr (N.take (k + 1)) (tenth m)).length = a := by rw [take_snoc hkt, thr_snoc, if_neg (by rw [← HG.out, HTn.out]; exact hq), ← ha.out]
          have HAK := Lib.hid hak
          clear hak hq
          go_wp2_with fail
          go_roundw
          case rel => exact ⟨k + 1, a, lo, hi, by omega, by go_num, rfl, rfl, rfl, Lib.hid HAK.out.symm, he, hwk⟩
          case measure => simp [intOf]; omega
end Go.Proofs.Ytoeigfkllamplaa
