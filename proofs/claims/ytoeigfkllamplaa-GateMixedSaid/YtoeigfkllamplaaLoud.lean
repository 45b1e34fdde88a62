/-
  The gate's Gated and Loudness, and the reference's, answer one plain law. Conditions: slices that read as lists, at most a million long.
-/
import Derived.Test.YtoeigfkllamplaaGated
namespace Go.Proofs.Ytoeigfkllamplaa
open Go.RowKit
attribute [local go_sem] Oper.semAt_some

theorem any_odd (l : List Int) : l.any isOdd = true ↔ ¬ AllE l := by
  unfold AllE
  rw [List.any_eq_true]
  constructor
  · rintro ⟨x, hx, h⟩ hall
    exact (isOdd_iff x).1 h (hall x hx)
  · intro h
    refine Classical.byContradiction fun hn => h fun x hx => Classical.byContradiction fun ho => hn ⟨x, hx, (isOdd_iff x).2 ho⟩

set_option maxHeartbeats 1000000 in
theorem gated_t (A : Option Addr) (c : Nat) (l : List Int) (floor : Int) (w : World) (hn : l.length ≤ 1000000) (hx : IntsAt .i64 w A l) :
    Calls Try.prog 7 #[.slice A l.length c, .int .i64 floor] w (IntsErr w (gGated l floor)) := by
  have hmf : ∀ (fn : Fn) (first cap : Array Value) (w : World), (Instr.makeFunc fn first cap).run Try.prog w = .ok (.func fn first cap) w := fun _ _ _ _ => rfl
  have hb0 := (Below.refl w.heap.size w).alloc (Nat.le_refl _) (.cells #[.int .i64 floor] 3)
  by_cases h1 : 65536 < l.length
  · have E := Lib.hid (show gGated l floor = ([], 2) by unfold gGated; rw [if_pos h1])
    have d : decide (65536 < (l.length : Int)) = true := decide_eq_true (by omega)
    go_enter Try.func7, Try.ntmps7
    go_wp2
    go_ret2
    rw [E.out]
    exact ⟨none, 0, rfl, IntsAt.nil _ _ _, hb0⟩
  have d : decide (65536 < (l.length : Int)) = false := decide_eq_false (by omega)
  by_cases h2 : isOdd floor = true
  · have E := Lib.hid (show gGated l floor = ([], 1) by unfold gGated; rw [if_neg h1, if_pos fun h => (isOdd_iff _).1 h2 h.2])
    go_enter Try.func7, Try.ntmps7
    go_wp2_with (go_at_call 14; refine (odd_t _ _).mono ?_; rintro e w2 ⟨rfl, hw2⟩; have hw2 := hw2.symm; subst hw2)
    go_ret2
    rw [E.out]
    exact ⟨none, 0, rfl, IntsAt.nil _ _ _, hb0⟩
  have h2' : isOdd floor = false := by simpa using h2
  have hf : okE floor := Classical.byContradiction fun h => h2 ((isOdd_iff _).2 h)
  by_cases h3 : l.any isOdd = true
  · have E := Lib.hid (show gGated l floor = ([], 1) by unfold gGated; rw [if_neg h1, if_pos fun h => (any_odd _).1 h3 h.1])
    go_enter Try.func7, Try.ntmps7
    go_wp2_with (first
      | (go_at_call 14; refine (odd_t _ _).mono ?_; rintro e w2 ⟨rfl, hw2⟩; have hw2 := hw2.symm; subst hw2)
      | (go_at_call 15; refine (contains_t _ _ l _ (by omega) (hx.below hb0)).mono ?_; rintro e w2 ⟨rfl, hw2⟩; have hw2 := hw2.symm; subst hw2))
    go_ret2
    rw [E.out]
    exact ⟨none, 0, rfl, IntsAt.nil _ _ _, hb0⟩
  have h3' : l.any isOdd = false := by simpa using h3
  have ha : AllE l := Classical.byContradiction fun h => h3 ((any_odd _).2 h)
  have hlen := thr_len l floor
  by_cases h4 : thr l floor = []
  · have E := Lib.hid (show gGated l floor = ([], 0) by unfold gGated; rw [if_neg h1, if_neg (fun h => h ⟨ha, hf⟩), if_pos h4])
    have d4 : (((thr l floor).length : Int) == 0) = true := by rw [h4]; rfl
    clear h4
    go_enter Try.func7, Try.ntmps7
    go_wp2_with (first
      | (go_at_call 14; refine (odd_t _ _).mono ?_; rintro e w2 ⟨rfl, hw2⟩; have hw2 := hw2.symm; subst hw2)
      | (go_at_call 15; refine (contains_t _ _ l _ (by omega) (hx.below hb0)).mono ?_; rintro e w2 ⟨rfl, hw2⟩; have hw2 := hw2.symm; subst hw2)
      | (go_at_call 16; refine (pass1_t _ _ w.heap.size l floor _ hn (Blk.new _ _ _) (hx.below hb0)).mono ?_; rintro e w2 ⟨A2, c2, rfl, hI2, hw2⟩; have hb2 := hb0.trans (hw2.mono (by simp))))
    go_ret2
    rw [E.out]
    exact ⟨none, 0, rfl, IntsAt.nil _ _ _, hb2⟩
  have hp : 0 < (thr l floor).length := List.length_pos_iff.2 h4
  have hta := thr_all ha floor
  have hmn := mean_bd hta hp
  have E := Lib.hid (show gGated l floor = (thr (thr l floor) (tenth (meanE (thr l floor))), 0) by unfold gGated; rw [if_neg h1, if_neg (fun h => h ⟨ha, hf⟩), if_neg h4])
  have d4 : (((thr l floor).length : Int) == 0) = false := beq_eq_false_iff_ne.2 (by omega)
  clear h4
  go_enter Try.func7, Try.ntmps7
  go_wp2_with (first
    | (go_at_call 14; refine (odd_t _ _).mono ?_; rintro e w2 ⟨rfl, hw2⟩; have hw2 := hw2.symm; subst hw2)
    | (go_at_call 15; refine (contains_t _ _ l _ (by omega) (hx.below hb0)).mono ?_; rintro e w2 ⟨rfl, hw2⟩; have hw2 := hw2.symm; subst hw2)
    | (go_at_call 18; refine (mean_t _ _ (thr l floor) _ hp (by omega) hta hI2).mono ?_; rintro e w3 ⟨rfl, hw3⟩; have hb3 := hb2.trans (hw3.mono hb2.size); have hI3 := hI2.below hw3)
    | (go_at_call 16; guard_hyp hb3; refine (pass2_t _ _ w3.heap.size (thr l floor) (meanE (thr l floor)) _ (by omega) hmn (Blk.new _ _ _) (hI3.below ((Below.refl _ _).alloc (Nat.le_refl _) _))).mono ?_; rintro e w4 ⟨A4, c4, rfl, hI4, hw4⟩; have hb4 := (hb3.alloc hb3.size _).trans (hw4.mono (by have := hb3.size; simp; omega)))
    | (go_at_call 16; refine (pass1_t _ _ w.heap.size l floor _ hn (Blk.new _ _ _) (hx.below hb0)).mono ?_; rintro e w2 ⟨A2, c2, rfl, hI2, hw2⟩; have hb2 := hb0.trans (hw2.mono (by simp))))
  go_ret2
  rw [E.out]
  exact ⟨_, _, rfl, hI4, hb4⟩

theorem gG_fine (l : List Int) (floor : Int) : (gGated l floor).1.length ≤ 65536 ∧ AllE (gGated l floor).1 := by
  unfold gGated
  split
  · exact ⟨by simp, fun x hx => by simp at hx⟩
  · rename_i h1
    split
    · exact ⟨by simp, fun x hx => by simp at hx⟩
    · rename_i h2
      split
      · exact ⟨by simp, fun x hx => by simp at hx⟩
      · have ha := (Classical.not_not.1 h2).1
        refine ⟨?_, thr_all (thr_all ha _) _⟩
        have := thr_len (thr l floor) (tenth (meanE (thr l floor)))
        have := thr_len l floor
        show (thr (thr l floor) (tenth (meanE (thr l floor)))).length ≤ 65536
        omega

theorem rgated_t (A : Option Addr) (c : Nat) (l : List Int) (floor : Int) (w : World) (hn : l.length ≤ 1000000) (hx : IntsAt .i64 w A l) :
    Calls Try.prog 8 #[.slice A l.length c, .int .i64 floor] w (IntsErr w (gGated l floor)) := by
  by_cases h1 : gValid l floor = 0
  case neg =>
    have E := Lib.hid (show gGated l floor = ([], gValid l floor) by
      unfold gGated
      unfold gValid at h1 ⊢
      split
      · rfl
      · rename_i h
        rw [if_neg h] at h1
        split
        · rfl
        · rename_i h'
          rw [if_neg h'] at h1
          exact absurd rfl h1)
    have d : (gValid l floor != 0) = true := bne_iff_ne.2 h1
    go_enter Try.func8, Try.ntmps8
    go_wp2_with (go_at_call 20; refine (rvalid_t _ _ l floor _ (by omega) hx).mono ?_; rintro e w2 ⟨rfl, hw2⟩)
    go_ret2
    rw [E.out]
    exact ⟨none, 0, rfl, IntsAt.nil _ _ _, hw2⟩
  have hv : l.length ≤ 65536 ∧ AllE l ∧ okE floor := by
    unfold gValid at h1
    split at h1
    · simp at h1
    · split at h1
      · simp at h1
      · rename_i h h'
        exact ⟨by omega, Classical.not_not.1 h'⟩
  obtain ⟨hl, ha, hf⟩ := hv
  have d : (gValid l floor != 0) = false := bne_eq_false_iff_eq.2 h1
  have hlen := thr_len l floor
  have hbig : ¬ 65536 < l.length := by omega
  clear h1
  by_cases h4 : thr l floor = []
  · have E := Lib.hid (show gGated l floor = ([], 0) by unfold gGated; rw [if_neg hbig, if_neg (fun h => h ⟨ha, hf⟩), if_pos h4])
    have d4 : (((thr l floor).length : Int) == 0) = true := by rw [h4]; rfl
    clear h4
    go_enter Try.func8, Try.ntmps8
    go_wp2_with (first
      | (go_at_call 20; refine (rvalid_t _ _ l floor _ (by omega) hx).mono ?_; rintro e w2 ⟨rfl, hw2⟩)
      | (go_at_call 21; refine (above_t _ _ l floor _ hn (hx.below hw2)).mono ?_; rintro e w3 ⟨A3, c3, rfl, hI3, hw3⟩; have hb3 := hw2.trans (hw3.mono hw2.size)))
    go_ret2
    rw [E.out]
    exact ⟨none, 0, rfl, IntsAt.nil _ _ _, hb3⟩
  have hp : 0 < (thr l floor).length := List.length_pos_iff.2 h4
  have hta := thr_all ha floor
  have hmn := mean_bd hta hp
  have E := Lib.hid (show gGated l floor = (thr (thr l floor) (tenth (meanE (thr l floor))), 0) by unfold gGated; rw [if_neg hbig, if_neg (fun h => h ⟨ha, hf⟩), if_neg h4])
  have d4 : (((thr l floor).length : Int) == 0) = false := beq_eq_false_iff_ne.2 (by omega)
  have m0 := hmn.1
  have m1 := hmn.2
  have i1 : IntKind.i64.wrap (meanE (thr l floor) + 9) = meanE (thr l floor) + 9 := IntWalk.i64_in _ (by omega)
  have e1 : (meanE (thr l floor) + 9).tdiv 10 = tenth (meanE (thr l floor)) := Int.tdiv_eq_ediv_of_nonneg (by omega)
  have ht : 0 ≤ tenth (meanE (thr l floor)) ∧ tenth (meanE (thr l floor)) ≤ 4611686018427387904 := by unfold tenth; omega
  have i2 : IntKind.i64.wrap (tenth (meanE (thr l floor))) = tenth (meanE (thr l floor)) := IntWalk.i64_in _ (by omega)
  clear h4
  go_enter Try.func8, Try.ntmps8
  go_wp2_with (first
    | (go_at_call 20; refine (rvalid_t _ _ l floor _ (by omega) hx).mono ?_; rintro e w2 ⟨rfl, hw2⟩)
    | (go_at_call 12; refine (rmean_t _ _ (thr l floor) _ hp (by omega) hta hI3).mono ?_; rintro e w4 ⟨rfl, hw4⟩; have hb4 := hb3.trans (hw4.mono hb3.size); have hI4 := hI3.below hw4)
    | (go_at_call 21; guard_hyp hb4; refine (above_t _ _ (thr l floor) (tenth (meanE (thr l floor))) _ (by omega) hI4).mono ?_; rintro e w5 ⟨A5, c5, rfl, hI5, hw5⟩; have hb5 := hb4.trans (hw5.mono hb4.size))
    | (go_at_call 21; refine (above_t _ _ l floor _ hn (hx.below hw2)).mono ?_; rintro e w3 ⟨A3, c3, rfl, hI3, hw3⟩; have hb3 := hw2.trans (hw3.mono hw2.size)))
  go_ret2
  rw [E.out]
  exact ⟨_, _, rfl, hI5, hb5⟩

/-- A loudness, whether there is one, and an error, as a result. -/
def Loud (w : World) (r : Int × Bool × Int) (e : Ending) (w' : World) : Prop :=
  e = .returned (.tuple #[.int .i64 r.1, .bool r.2.1, .int .i64 r.2.2]) ∧ Below w.heap.size w w'

set_option maxHeartbeats 1000000 in
theorem loud_t (A : Option Addr) (c : Nat) (l : List Int) (floor : Int) (w : World) (hn : l.length ≤ 1000000) (hx : IntsAt .i64 w A l) :
    Calls Try.prog 9 #[.slice A l.length c, .int .i64 floor] w (Loud w (gLoud l floor)) := by
  have K := gated_t A c l floor w hn hx
  have F := gG_fine l floor
  have L : gLoud l floor = if (gGated l floor).2 ≠ 0 ∨ (gGated l floor).1 = [] then (0, false, (gGated l floor).2) else (meanE (gGated l floor).1, true, 0) := rfl
  obtain ⟨G, hG⟩ : ∃ G, G = gGated l floor := ⟨_, rfl⟩
  rw [← hG] at K F L
  clear hG
  obtain ⟨x, er⟩ := G
  dsimp only at F L
  obtain ⟨f1, f2⟩ := F
  unfold IntsErr at K
  dsimp only at K
  by_cases h1 : er = 0
  case neg =>
    have E := Lib.hid (show gLoud l floor = (0, false, er) by rw [L, if_pos (.inl h1)])
    have d : (er != 0) = true := bne_iff_ne.2 h1
    clear L
    go_enter Try.func9, Try.ntmps9
    go_wp2_with (go_at_call 7; refine K.mono ?_; rintro e w2 ⟨A2, c2, rfl, hI2, hw2⟩)
    refine bodyPost_ret (v := .tuple #[.int .i64 0, .bool false, .int .i64 er]) (by simp [results, Try.results9, go_sem]) rfl ?_
    rw [E.out]
    exact ⟨rfl, hw2⟩
  subst h1
  by_cases h4 : x = []
  · have E := Lib.hid (show gLoud l floor = (0, false, 0) by rw [L, if_pos (.inr h4)])
    have d4 : ((x.length : Int) == 0) = true := by rw [h4]; rfl
    clear L h4
    go_enter Try.func9, Try.ntmps9
    go_wp2_with (go_at_call 7; refine K.mono ?_; rintro e w2 ⟨A2, c2, rfl, hI2, hw2⟩)
    refine bodyPost_ret (v := .tuple #[.int .i64 0, .bool false, .int .i64 0]) (by simp [results, Try.results9, go_sem]) rfl ?_
    rw [E.out]
    exact ⟨rfl, hw2⟩
  have hp : 0 < x.length := List.length_pos_iff.2 h4
  have E := Lib.hid (show gLoud l floor = (meanE x, true, 0) by rw [L, if_neg (fun h => h.elim (fun h => h rfl) h4)])
  have d4 : ((x.length : Int) == 0) = false := beq_eq_false_iff_ne.2 (by omega)
  clear L h4
  go_enter Try.func9, Try.ntmps9
  go_wp2_with (first
    | (go_at_call 7; refine K.mono ?_; rintro e w2 ⟨A2, c2, rfl, hI2, hw2⟩)
    | (go_at_call 18; refine (mean_t _ _ x _ hp f1 f2 hI2).mono ?_; rintro e w3 ⟨rfl, hw3⟩; have hb3 := hw2.trans (hw3.mono hw2.size)))
  refine bodyPost_ret (v := .tuple #[.int .i64 (meanE x), .bool true, .int .i64 0]) (by simp [results, Try.results9, go_sem]) rfl ?_
  rw [E.out]
  exact ⟨rfl, hb3⟩

set_option maxHeartbeats 1000000 in
theorem rloud_t (A : Option Addr) (c : Nat) (l : List Int) (floor : Int) (w : World) (hn : l.length ≤ 1000000) (hx : IntsAt .i64 w A l) :
    Calls Try.prog 10 #[.slice A l.length c, .int .i64 floor] w (Loud w (gLoud l floor)) := by
  have K := rgated_t A c l floor w hn hx
  have F := gG_fine l floor
  have L : gLoud l floor = if (gGated l floor).2 ≠ 0 ∨ (gGated l floor).1 = [] then (0, false, (gGated l floor).2) else (meanE (gGated l floor).1, true, 0) := rfl
  obtain ⟨G, hG⟩ : ∃ G, G = gGated l floor := ⟨_, rfl⟩
  rw [← hG] at K F L
  clear hG
  obtain ⟨x, er⟩ := G
  dsimp only at F L
  obtain ⟨f1, f2⟩ := F
  unfold IntsErr at K
  dsimp only at K
  by_cases h1 : er = 0
  case neg =>
    have E := Lib.hid (show gLoud l floor = (0, false, er) by rw [L, if_pos (.inl h1)])
    have d : (er != 0) = true := bne_iff_ne.2 h1
    clear L
    go_enter Try.func10, Try.ntmps10
    go_wp2_with (go_at_call 8; refine K.mono ?_; rintro e w2 ⟨A2, c2, rfl, hI2, hw2⟩)
    refine bodyPost_ret (v := .tuple #[.int .i64 0, .bool false, .int .i64 er]) (by simp [results, Try.results10, go_sem]) rfl ?_
    rw [E.out]
    exact ⟨rfl, hw2⟩
  subst h1
  by_cases h4 : x = []
  · have E := Lib.hid (show gLoud l floor = (0, false, 0) by rw [L, if_pos (.inr h4)])
    have d4 : ((x.length : Int) == 0) = true := by rw [h4]; rfl
    clear L h4
    go_enter Try.func10, Try.ntmps10
    go_wp2_with (go_at_call 8; refine K.mono ?_; rintro e w2 ⟨A2, c2, rfl, hI2, hw2⟩)
    refine bodyPost_ret (v := .tuple #[.int .i64 0, .bool false, .int .i64 0]) (by simp [results, Try.results10, go_sem]) rfl ?_
    rw [E.out]
    exact ⟨rfl, hw2⟩
  have hp : 0 < x.length := List.length_pos_iff.2 h4
  have E := Lib.hid (show gLoud l floor = (meanE x, true, 0) by rw [L, if_neg (fun h => h.elim (fun h => h rfl) h4)])
  have d4 : ((x.length : Int) == 0) = false := beq_eq_false_iff_ne.2 (by omega)
  clear L h4
  go_enter Try.func10, Try.ntmps10
  go_wp2_with (first
    | (go_at_call 8; refine K.mono ?_; rintro e w2 ⟨A2, c2, rfl, hI2, hw2⟩)
    | (go_at_call 12; refine (rmean_t _ _ x _ hp f1 f2 hI2).mono ?_; rintro e w3 ⟨rfl, hw3⟩; have hb3 := hw2.trans (hw3.mono hw2.size)))
  refine bodyPost_ret (v := .tuple #[.int .i64 (meanE x), .bool true, .int .i64 0]) (by simp [results, Try.results10, go_sem]) rfl ?_
  rw [E.out]
  exact ⟨rfl, hb3⟩

end Go.Proofs.Ytoeigfkllamplaa
