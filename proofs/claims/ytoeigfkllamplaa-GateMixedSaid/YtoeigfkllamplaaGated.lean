/-
  The gate's Gated and Loudness answer what their plain laws say, and so do the reference's. Conditions: slices that read as lists.
-/
import Derived.Test.YtoeigfkllamplaaMean
namespace Go.Proofs.Ytoeigfkllamplaa
open Go.RowKit
attribute [local go_sem] Oper.semAt_some

theorem isOdd_iff (x : Int) : isOdd x = true ↔ ¬ okE x := by unfold isOdd okE; rw [Bool.not_eq_true', decide_eq_false_iff_not]
set_option maxHeartbeats 1000000 in
theorem index_t (A : Option Addr) (c : Nat) (l : List Int) (w : World) (hn : l.length ≤ 1000000000) (hx : IntsAt .i64 w A l) :
    Calls Try.prog 25 #[.slice A l.length c, .func (.func 14) #[] #[]] w fun e w' => ∃ i : Int, e = .returned (.int .i64 i) ∧ decide (0 ≤ i) = l.any isOdd ∧ w' = w := by
  go_enter Try.func25, Try.ntmps25
  go_wp2
  go_loopw [8] (fun i wr => ∃ k : Nat, k ≤ l.length ∧ i = .int .i64 k ∧ wr = w ∧ Hid ((l.take k).any isOdd = false)) (fun i _ => l.length - (intOf i).toNat)
  case atStart => exact ⟨0, by omega, rfl, rfl, Lib.hid (by simp)⟩
  case round =>
    obtain ⟨k, hk, rfl, rfl, hs⟩ := hrel
    by_cases hlt : k < l.length
    · obtain ⟨b, o, rfl, hbb, hc⟩ := hx (by omega)
      have g1 := hc k hlt
      by_cases hq : isOdd (gi l k) = true
      · have E := Lib.hid (show decide (0 ≤ (k : Int)) = l.any isOdd by
          rw [decide_eq_true (by omega)]
          exact (List.any_eq_true.2 ⟨_, gi_mem hlt, hq⟩).symm)
        go_wp2_with (go_at_call 14; refine (odd_t _ _).mono ?_; rintro e w2 ⟨rfl, hw2⟩; have hw2 := hw2.symm; subst hw2)
        go_ret
        exact ⟨_, rfl, E.out, rfl⟩
      · have hq' : isOdd (gi l k) = false := by simpa using hq
        have HT := Lib.hid (show (l.take (k + 1)).any isOdd = false by
          rw [take_snoc hlt, List.any_append, hs.out]
          simp [hq'])
        clear hq hs
        go_wp2_with (go_at_call 14; refine (odd_t _ _).mono ?_; rintro e w2 ⟨rfl, hw2⟩; have hw2 := hw2.symm; subst hw2)
        go_roundw
        case rel => exact ⟨k + 1, by omega, by go_num, by first | rfl | trivial, HT.out⟩
        case measure => simp [intOf]; omega
    · obtain rfl : k = l.length := by omega
      have E := Lib.hid (show decide (0 ≤ (-1 : Int)) = l.any isOdd by
        have := hs.out
        rw [List.take_length] at this
        rw [this]; rfl)
      go_wp2
      go_ret
      exact ⟨_, rfl, E.out, rfl⟩

theorem contains_t (A : Option Addr) (c : Nat) (l : List Int) (w : World) (hn : l.length ≤ 1000000000) (hx : IntsAt .i64 w A l) :
    Calls Try.prog 15 #[.slice A l.length c, .func (.func 14) #[] #[]] w fun e w' => e = .returned (.bool (l.any isOdd)) ∧ w' = w := by
  go_enter Try.func15, Try.ntmps15
  go_wp2_with (go_at_call 25; refine (index_t _ _ _ _ hn hx).mono ?_; rintro e w2 ⟨i, rfl, hi, rfl⟩)
  go_ret
  exact ⟨by rw [← hi]; rfl, rfl⟩

set_option maxHeartbeats 1000000 in
theorem pass1_t (A : Option Addr) (c B : Nat) (l : List Int) (m : Int) (w : World) (hn : l.length ≤ 1000000) (hB : Blk w B 3 #[.int .i64 m]) (hx : IntsAt .i64 w A l) :
    Calls Try.prog 16 #[.slice A l.length c, .func (.func 17) #[] #[.pointer (some ⟨B, 0, none⟩)]] w (Ints w (thr l m)) := by
  obtain ⟨i0, hi0, hz0, hz1, hz2⟩ := info_parts info3
  have hBl := hB.lt
  go_enter Try.func16, Try.ntmps16
  go_wp2
  go_loopw [4, 9] (fun v i wr => ∃ k : Nat, k ≤ l.length ∧ i = .int .i64 k ∧ wr.ownsRow w.heap.size 3 1 v (thr (l.take k) m).length ((thr (l.take k) m).map (Value.int .i64)) ∧ Below w.heap.size w wr) (fun _ i _ => l.length - (intOf i).toNat)
  case atStart => exact ⟨0, by omega, rfl, own_nil _ _ _, Below.refl _ _⟩
  case round =>
    obtain ⟨k, hk, rfl, hown, hw⟩ := hrel
    obtain ⟨V, cp, rfl⟩ := own_slice hown
    by_cases hlt : k < l.length
    · obtain ⟨b, o, rfl, hbb, hc⟩ := hx (by omega)
      have hlen := thr_len (l.take k) m
      have htl : (l.take k).length ≤ l.length := by simp; omega
      have hsz := hw.size
      have g1 := (hw.cell (p := ⟨b, o + k, none⟩) hbb).trans (hc k hlt)
      have hB1 := hB.below hw hBl
      by_cases hq : m ≤ gi l k
      · have E := Lib.hid (show thr (l.take (k + 1)) m = thr (l.take k) m ++ [gi l k] by rw [take_snoc hlt, thr_snoc, if_pos hq])
        have d1 : decide (m ≤ gi l k) = true := decide_eq_true hq
        go_wp2_with (first
          | (go_at_call 17; refine (first_t _ _ _ _ hB1).mono ?_; rintro e w2 ⟨rfl, hw2⟩; have hw2 := hw2.symm; subst hw2)
          | (at_builtin; refine wpList_append_own _ rfl _ _ 22 rfl w.heap.size 3 i0 (.int .i64 0) 1 8 Try.underlying22 hi0 hz0 hz1 hz2 rfl (by decide) _ _ _ rfl (hown.alloc _) ⟨wr.heap.size, 0, none⟩ 1 1 [.int .i64 (gi l k)] rfl rfl (cell_one_new _ _ _) (by simp [Value.oneCell']) (by simp [maxLen]; omega) (by omega) (by have := hw.size; simp; omega) ?_; intro v' w' hown' hgrow _))
        go_roundw
        case rel =>
          refine ⟨k + 1, by omega, by go_num, by rw [E.out]; simpa using hown', ?_⟩
          exact (hw.alloc hw.size _).grown hgrow (by have := hw.size; simp; omega) (own_base hown)
        case measure => simp [intOf]; omega
      · have E := Lib.hid (show thr (l.take (k + 1)) m = thr (l.take k) m by rw [take_snoc hlt, thr_snoc, if_neg hq])
        have d1 : decide (m ≤ gi l k) = false := decide_eq_false hq
        go_wp2_with (go_at_call 17; refine (first_t _ _ _ _ hB1).mono ?_; rintro e w2 ⟨rfl, hw2⟩; have hw2 := hw2.symm; subst hw2)
        go_roundw
        case rel => exact ⟨k + 1, by omega, by go_num, by rw [E.out]; exact hown, hw⟩
        case measure => simp [intOf]; omega
    · obtain rfl : k = l.length := by omega
      rw [List.take_length] at hown ⊢
      go_wp2
      go_ret
      exact ⟨_, _, rfl, (IntsAt.of_own hown).2, hw⟩

set_option maxHeartbeats 1000000 in
theorem pass2_t (A : Option Addr) (c B : Nat) (l : List Int) (m : Int) (w : World) (hn : l.length ≤ 1000000) (hm : okE m) (hB : Blk w B 3 #[.int .i64 m]) (hx : IntsAt .i64 w A l) :
    Calls Try.prog 16 #[.slice A l.length c, .func (.func 19) #[] #[.pointer (some ⟨B, 0, none⟩)]] w (Ints w (thr l (tenth m))) := by
  obtain ⟨i0, hi0, hz0, hz1, hz2⟩ := info_parts info3
  have hBl := hB.lt
  go_enter Try.func16, Try.ntmps16
  go_wp2
  go_loopw [4, 9] (fun v i wr => ∃ k : Nat, k ≤ l.length ∧ i = .int .i64 k ∧ wr.ownsRow w.heap.size 3 1 v (thr (l.take k) (tenth m)).length ((thr (l.take k) (tenth m)).map (Value.int .i64)) ∧ Below w.heap.size w wr) (fun _ i _ => l.length - (intOf i).toNat)
  case atStart => exact ⟨0, by omega, rfl, own_nil _ _ _, Below.refl _ _⟩
  case round =>
    obtain ⟨k, hk, rfl, hown, hw⟩ := hrel
    obtain ⟨V, cp, rfl⟩ := own_slice hown
    by_cases hlt : k < l.length
    · obtain ⟨b, o, rfl, hbb, hc⟩ := hx (by omega)
      have hlen := thr_len (l.take k) (tenth m)
      have htl : (l.take k).length ≤ l.length := by simp; omega
      have hsz := hw.size
      have g1 := (hw.cell (p := ⟨b, o + k, none⟩) hbb).trans (hc k hlt)
      have hB1 := hB.below hw hBl
      by_cases hq : (tenth m) ≤ gi l k
      · have E := Lib.hid (show thr (l.take (k + 1)) (tenth m) = thr (l.take k) (tenth m) ++ [gi l k] by rw [take_snoc hlt, thr_snoc, if_pos hq])
        have d1 : decide ((tenth m) ≤ gi l k) = true := decide_eq_true hq
        go_wp2_with (first
          | (go_at_call 19; refine (second_t _ _ _ _ hm hB1).mono ?_; rintro e w2 ⟨rfl, hw2⟩; have hw2 := hw2.symm; subst hw2)
          | (at_builtin; refine wpList_append_own _ rfl _ _ 22 rfl w.heap.size 3 i0 (.int .i64 0) 1 8 Try.underlying22 hi0 hz0 hz1 hz2 rfl (by decide) _ _ _ rfl (hown.alloc _) ⟨wr.heap.size, 0, none⟩ 1 1 [.int .i64 (gi l k)] rfl rfl (cell_one_new _ _ _) (by simp [Value.oneCell']) (by simp [maxLen]; omega) (by omega) (by have := hw.size; simp; omega) ?_; intro v' w' hown' hgrow _))
        go_roundw
        case rel =>
          refine ⟨k + 1, by omega, by go_num, by rw [E.out]; simpa using hown', ?_⟩
          exact (hw.alloc hw.size _).grown hgrow (by have := hw.size; simp; omega) (own_base hown)
        case measure => simp [intOf]; omega
      · have E := Lib.hid (show thr (l.take (k + 1)) (tenth m) = thr (l.take k) (tenth m) by rw [take_snoc hlt, thr_snoc, if_neg hq])
        have d1 : decide ((tenth m) ≤ gi l k) = false := decide_eq_false hq
        go_wp2_with (go_at_call 19; refine (second_t _ _ _ _ hm hB1).mono ?_; rintro e w2 ⟨rfl, hw2⟩; have hw2 := hw2.symm; subst hw2)
        go_roundw
        case rel => exact ⟨k + 1, by omega, by go_num, by rw [E.out]; exact hown, hw⟩
        case measure => simp [intOf]; omega
    · obtain rfl : k = l.length := by omega
      rw [List.take_length] at hown ⊢
      go_wp2
      go_ret
      exact ⟨_, _, rfl, (IntsAt.of_own hown).2, hw⟩

end Go.Proofs.Ytoeigfkllamplaa
