/-
  The gate's Level: the logarithm of a number's 256th power. Conditions: an int.
-/
import Derived.Test.YtoeigfkllamplaaBack
import Derived.Test.YtoeigfkllamplaaSquare
import Derived.Test.YtoeigfkllamplaaLen32
namespace Go.Proofs.Ytoeigfkllamplaa
open Go.RowKit
attribute [local go_sem] Oper.semAt_some

/-- r is the Level of n. -/
def LevelOf (n r : Int) : Prop := (n < 1 ∧ r = -1) ∨ (1 ≤ n ∧ ∃ k : Nat, r = k ∧ (2 : Int) ^ k ≤ n ^ 256 ∧ n ^ 256 < (2 : Int) ^ (k + 1))

theorem level_low (n : Int) (w : World) (h : n < 1) (hlo : -9223372036854775808 ≤ n) : Calls Try.prog 13 #[.int .i64 n] w fun e w' => ∃ r, e = .returned (.int .i64 r) ∧ LevelOf n r ∧ Below w.heap.size w w' := by
  have d := decide_eq_true h
  have e3 := (Blk.new w 3 #[.int .i64 (-1)]).cell0
  go_enter Try.func13, Try.ntmps13
  go_wp2
  refine bodyPost_ret (v := .int .i64 (-1)) (by simp [results, Try.results13, go_sem, e3]) rfl ?_
  exact ⟨-1, rfl, .inl ⟨h, rfl⟩, (Below.refl _ w).alloc (Nat.le_refl _) _⟩

/-- Between two rounds over the digits from behind: those that have come are 0. -/
def LvI (ys : List Int) (w : World) (cc : Col) (pre : List Nat) (W : World) : Prop :=
  (Mine cc w.heap.size ∧ Blk W w.heap.size 3 #[.int .i64 0]) ∧ Old w.heap.size w cc W ∧ ∃ k, k ≤ ys.length ∧ pre = Dn ys.length k ∧ ∀ j, ys.length - k ≤ j → j < ys.length → gi ys j = 0
/-- A round has returned: the logarithm lies in the result's box. -/
def LvX (V : Int) (w : World) (j : Code) (cc : Col) (_pre : List Nat) (W : World) : Prop :=
  j = .ret ∧ (∃ k : Nat, (2 : Int) ^ k ≤ V ∧ V < (2 : Int) ^ (k + 1) ∧ Mine cc w.heap.size ∧ Blk W w.heap.size 3 #[.int .i64 k]) ∧ Old w.heap.size w cc W
theorem LvI.stable (ys : List Int) (w : World) : Stable (LvI ys w) := Stable.and (Stable.blk _ _ _) (.and (Stable.old (Nat.le_refl _)) (Stable.pure _))
theorem LvX.stable (V : Int) (w : World) (j : Code) : Stable (LvX V w j) :=
  Stable.and (Stable.pure _) (.and (Stable.ex fun k => Stable.and (Stable.pure _) (.and (Stable.pure _) (Stable.blk _ _ _))) (Stable.old (Nat.le_refl _)))

theorem pow_double (n : Int) (k : Nat) : n ^ (2 ^ k) * n ^ (2 ^ k) = n ^ (2 ^ (k + 1)) := by
  rw [← Int.pow_add, ← Nat.mul_two, ← Nat.pow_succ]

theorem two_digits (n : Int) (h0 : 1 ≤ n) (h1 : n ≤ 9223372036854775807) : Digits (gi [n % 4294967296, n / 4294967296]) 2 ∧ vU (gi [n % 4294967296, n / 4294967296]) 2 = n := by
  refine ⟨fun j hj => ?_, ?_⟩
  · rcases j with _ | _ | j
    · simp [gi]; omega
    · simp [gi]; omega
    · omega
  · simp [vU, gi]
    omega

set_option maxHeartbeats 2000000 in
theorem level_high (n : Int) (w : World) (h0 : 1 ≤ n) (h1 : n ≤ 9223372036854775807) : Calls Try.prog 13 #[.int .i64 n] w fun e w' => ∃ r, e = .returned (.int .i64 r) ∧ LevelOf n r ∧ Below w.heap.size w w' := by
  have d := decide_eq_false (show ¬ n < 1 by omega)
  refine (callsIn_wide (n := 5)).1 ?_
  refine callsIn_of_wp_marks Try.func13 rfl trivial (wpIn_wide.2 ?_) rfl
  simp only [Try.ntmps13, List.size_toArray, List.length_cons, List.length_nil, Nat.reduceAdd, Nat.reduceSub, Array.replicate_succ, Array.replicate_zero, List.push_toArray, List.append_toArray, List.nil_append, List.cons_append]
  go_wp2_with fail
  go_loopw [3, 14] (fun v i wr => ∃ (k : Nat) (ys : List Int) (A : Option Addr) (c : Nat), k ≤ 8 ∧ i = .int .i64 k ∧ v = .slice A ys.length c ∧ Hid (ys.length = 2 ^ (k + 1)) ∧ IntsAt .u32 wr A ys ∧ Digits (gi ys) ys.length ∧ Hid (vU (gi ys) ys.length = n ^ (2 ^ k)) ∧ Blk wr w.heap.size 3 #[.int .i64 0] ∧ Below w.heap.size w wr) (fun _ i _ => 8 - (intOf i).toNat)
  case atStart =>
    have t := two_digits n h0 h1
    refine ⟨0, [n % 4294967296, n / 4294967296], _, _, by omega, rfl, rfl, Lib.hid rfl, fun _ => ⟨_, _, rfl, by simp, fun i hi => ?_⟩, t.1, Lib.hid (by rw [Nat.pow_zero, Int.pow_succ, Int.pow_zero, Int.one_mul]; exact t.2), (Blk.new w 3 _).alloc _, ((Below.refl _ w).alloc (Nat.le_refl _) _).alloc (by simp) _⟩
    have e := (Blk.newAt (W := w.alloc (.cells #[.int .i64 0] 3)) (B := w.heap.size + 1) (by simp) 42 #[.int .u32 (n % 4294967296), .int .u32 (n / 4294967296)]).cell i
    rw [Nat.zero_add, e]
    rcases i with _ | _ | i
    · rfl
    · rfl
    · exact absurd hi (by simp)
  case round =>
    obtain ⟨k, ys, A, c, hk, rfl, rfl, hl, hys, hd, hV, hB, hwr⟩ := hrel
    have hp : 2 ^ (k + 1) ≤ 2 ^ 9 := Nat.pow_le_pow_right (by omega) (by omega)
    have hl0 : 0 < ys.length := by rw [hl.out]; exact Nat.pow_pos (by omega)
    have hl1 : ys.length ≤ 512 := by rw [hl.out]; exact hp
    clear hp
    by_cases hlt : k < 8
    · go_wp2_with (go_at_call 22; refine (square_t A c ys _ hl0 (by omega) hys hd).mono ?_; rintro e w2 ⟨zs, rfl, hz1, hz2, hz3, hz4, hw2⟩; replace hz1 := Lib.hid hz1; replace hz4 := Lib.hid hz4)
      go_roundw
      case rel => exact ⟨k + 1, zs, _, _, by omega, by go_num, rfl, Lib.hid (by rw [hz1.out, hl.out, ← Nat.mul_comm, ← Nat.pow_succ]), hz2, hz3, Lib.hid (by rw [hz4.out, hV.out, pow_double]), hB.below hw2 hB.lt, hwr.trans (hw2.mono hwr.size)⟩
      case measure => simp [intOf]; omega
    · obtain rfl : k = 8 := by omega
      obtain ⟨b, o, rfl, hb, hc⟩ := hys hl0
      go_wp2_with (go_at_call 23; refine (back_t _ _ _ _).mono ?_; rintro e w2 ⟨rfl, rfl⟩)
      obtain ⟨Wl, hWl⟩ : ∃ Wl, wr.alloc (.cells #[.slice (some ⟨b, o, none⟩) ys.length c] 44) = Wl := ⟨_, rfl⟩
      have hal : Below wr.heap.size wr Wl := by rw [← hWl]; exact (Below.refl _ wr).alloc (Nat.le_refl _) _
      have hbl : Below w.heap.size w Wl := hwr.trans (hal.mono hwr.size)
      have hBn : Wl.cell? ⟨wr.heap.size, 0, none⟩ = some (.slice (some ⟨b, o, none⟩) ys.length c) := by rw [← hWl]; exact (Blk.new wr 44 _).cell0
      have x0 : Blk Wl w.heap.size 3 #[.int .i64 0] := hB.below hal hB.lt
      have hc2 : ∀ i, i < ys.length → Wl.cell? ⟨b, o + i, none⟩ = some (.int .u32 (gi ys i)) := fun i hi => (hal.cell (p := ⟨b, o + i, none⟩) hb).trans (hc i hi)
      have hsl : Wl.heap.size = wr.heap.size + 1 := by rw [← hWl]; simp
      have hBl := hB.lt
      rw [hWl]
      clear hWl hc
      have hV256 : vU (gi ys) ys.length = n ^ 256 := hV.out
      obtain ⟨V, hVe⟩ : ∃ V, V = n ^ 256 := ⟨_, rfl⟩
      rw [← hVe] at hV256
      have hVp : 1 ≤ V := by
        rw [hVe]
        have : 0 < n ^ 256 := Int.pow_pos (by omega)
        omega
      have HV := Lib.hid hV256
      have HVE := Lib.hid hVe
      clear hV256 hVe hV hl
      refine (wpIn_wide (n := 5)).1 ?_
      refine wpIn_range (by omega) rfl (enters_of Try.func29 (by kernel_rfl) rfl) (back_iter _ wr.heap.size b o c ys Wl hBn (by omega) (by omega) hc2 (by omega)) (fun _ => rfl)
        (LvI ys w) (LvX V w)
        ?hI ?hIx ⟨fun _ => False, fun r => r = w.heap.size⟩ ?hc1 ?hc2 ?hc3 ?h0
        (fun a x _ => ((((a.put (some 21) (.int .i64 x)).put (some 22) (.int .u32 (gi ys x)))).put (some 4) (.int .i64 x)).put (some 5) (.int .u32 (gi ys x)))
        (fun _ _ _ => True) ?hAx ?assign ?body ?done ?stop
      case hI => exact LvI.stable _ _
      case hIx => exact LvX.stable _ _
      case hc1 => exact fun r h => h.elim
      case hc2 =>
        rintro r (h | h | h) h1
        · exact h
        · subst h
          have h1 : r = w.heap.size := h1
          have g := hc2 0 hl0
          rw [h1, x0.cell] at g
          rw [Nat.add_zero] at g
          rcases o with _ | o
          · simp at g
          · simp at g
        · have h1 : r = w.heap.size := h1
          omega
      case hc3 =>
        rintro r (h | rfl | rfl)
        · exact h.elim
        · omega
        · omega
      case h0 => exact ⟨⟨⟨rfl, id⟩, x0⟩, ⟨fun _ _ => id, hbl⟩, 0, by omega, rfl, fun j h1 h2 => by omega⟩
      case hAx => exact fun _ _ _ _ _ _ => trivial
      case assign =>
        intro l x W K hK
        gi_wp2
        exact hK _ (Below.refl _ _) trivial
      case body =>
        clear x0 hBn hbl hsl
        rintro lp cc pre x B W ⟨⟨m0, b0⟩, hold, k, hk, rfl, hz⟩ _ hBle hcol ⟨k', hk', hp'⟩
        obtain ⟨j, rfl, e1, rfl⟩ := Dn_next hp'
        obtain rfl : k = j := by
          have := congrArg List.length e1
          rwa [Dn_len, Dn_len] at this
        clear e1
        obtain ⟨x, hx⟩ : ∃ x, x = ys.length - 1 - k := ⟨_, rfl⟩
        rw [← hx] at hp' ⊢
        have hxl : x < ys.length := by omega
        have hzx : ∀ j, x < j → j < ys.length → gi ys j = 0 := fun j h1 h2 => hz j (by omega) h2
        obtain ⟨g, hg⟩ : ∃ g, g = gi ys x := ⟨_, rfl⟩
        have hg0 : 0 ≤ g := by rw [hg]; exact (hd x hxl).1
        have hg1 : g < 4294967296 := by rw [hg]; exact (hd x hxl).2
        rw [← hg]
        have HG := Lib.hid hg
        have HX := Lib.hid hx
        clear hg hx
        have c0 := b0.cell0
        have f0 := b0.frozen 0
        simp only [Act.put, List.setIfInBounds_toArray, List.set_cons_zero, List.set_cons_succ] at *
        by_cases hq : 0 < g
        · gi_wp2_with (gi_at_call 24; refine (callsIn_wide.2 (len32_t g _ hq hg1)).mono ?_; rintro e w2 ⟨q, rfl, q1, q2, q3, rfl⟩)
          have hlog := log_top hd hxl hzx (by rw [← HG.out]; exact q2) (by rw [← HG.out]; exact q3)
          rw [HV.out] at hlog
          have hb := b0.set0 (.int .i64 (32 * (x : Int) + ((q : Int) + 1) - 1))
          refine ⟨(Keep.refl _ _).setCell (p := ⟨w.heap.size, 0, none⟩) (fun _ => m0.1) _, rfl, ⟨32 * x + q, hlog.1, hlog.2, m0.by _, ?_⟩, hold.by _ ((Below.refl w.heap.size w2).setCell (show w.heap.size ≤ (⟨w.heap.size, 0, none⟩ : Addr).block from Nat.le_refl _) _)⟩
          rw [show ((32 * x + q : Nat) : Int) = 32 * (x : Int) + ((q : Int) + 1) - 1 by omega]
          exact hb
        · obtain rfl : g = 0 := by omega
          gi_wp2
          refine ⟨Keep.refl _ _, ⟨m0.by _, b0⟩, hold.by _ (Below.refl _ _), k + 1, hk', by first | rfl | exact hp', fun j h1 h2 => ?_⟩
          by_cases h3 : j = x
          · rw [h3, ← HG.out]
          · exact hzx j (by have := HX.out; omega) h2
      case done =>
        clear x0 hBn hbl hsl
        rintro D cc xs W hD rfl ⟨⟨m0, b0⟩, hold, k, hk, he, hz⟩ hK
        obtain rfl : ys.length = k := by
          have := congrArg List.length he
          rwa [Dn_len, Dn_len] at this
        have hv0 := vU_zero (f := gi ys) (n := 0) (m := ys.length) (by omega) (fun j _ h2 => hz j (by omega) h2)
        rw [HV.out] at hv0
        have : vU (gi ys) 0 = 0 := rfl
        omega
      case stop =>
        clear x0 hBn hbl
        rintro D j cc pre W hD _ ⟨rfl, ⟨k, k1, k2, m0, b0⟩, hold⟩ hK
        have hDw : w.heap.size ≠ D := by
          have := hB.lt
          omega
        gi_wp2
        refine ⟨by simp, .inl ⟨_, _, rfl, run_takeDeferred hK, ?_⟩⟩
        have e3 := (b0.putObj (D := D) hDw (.deferred none)).cell0
        refine ⟨.int .i64 k, ?_, k, rfl, .inr ⟨h0, k, rfl, by rw [← HVE.out]; exact k1, by rw [← HVE.out]; exact k2⟩, below_putObj hold.2 (by omega) _⟩
        simp [results, Try.results13, go_sem, e3]

theorem level_t (n : Int) (w : World) (h0 : -9223372036854775808 ≤ n) (h1 : n ≤ 9223372036854775807) : Calls Try.prog 13 #[.int .i64 n] w fun e w' => ∃ r, e = .returned (.int .i64 r) ∧ LevelOf n r ∧ Below w.heap.size w w' := by
  by_cases h : n < 1
  · exact level_low n w h h0
  · exact level_high n w (by omega) h1
end Go.Proofs.Ytoeigfkllamplaa
