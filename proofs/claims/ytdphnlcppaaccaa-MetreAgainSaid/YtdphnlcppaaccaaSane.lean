/-
  The chapter's examples: 'sane' answers true.
-/
import Derived.Test.YtdphnlcppaaccaaAll
namespace Go.Proofs.Ytdphnlcppaaccaa
open Go.RowKit
attribute [local go_sem] Oper.semAt_some

def four : List Met := [⟨0, 4, 480⟩]
def one : List Met := [⟨0, 1, 1⟩]
def two : List Met := [⟨0, 4, 480⟩, ⟨2, 3, 480⟩]
theorem valid_one (a b : Int) (h1 : 1 ≤ a) (h2 : a ≤ 32) (h3 : 1 ≤ b) (h4 : b ≤ 65536) : Valid [⟨0, a, b⟩] := by
  refine ⟨by simp, by simp, rfl, fun i hi => ?_, fun i hi => by simp at hi⟩
  obtain rfl : i = 0 := by simpa using hi
  exact ⟨by simp [mb], by simp [mb], by simpa [mt] using h1, by simpa [mt] using h2, by simpa [mu] using h3, by simpa [mu] using h4⟩
theorem valid_four : Valid four := valid_one 4 480 (by omega) (by omega) (by omega) (by omega)
theorem valid_one1 : Valid one := valid_one 1 1 (by omega) (by omega) (by omega) (by omega)
theorem valid_two : Valid two := by
  refine ⟨by simp [two], by simp [two], rfl, fun i hi => ?_, fun i hi => ?_⟩
  · have h : i = 0 ∨ i = 1 := by simp [two] at hi; omega
    rcases h with rfl | rfl <;> exact ⟨by decide, by decide, by decide, by decide, by decide, by decide⟩
  · obtain rfl : i = 0 := by simp [two] at hi; omega
    decide

theorem s1 : gTick four 2 1 3 = (4323, 0) := by unfold gTick; rw [if_pos valid_four]; decide
theorem s2 : gPlace four 1920 = (1, 0, 0, 0) := by unfold gPlace; rw [if_pos valid_four]; decide
theorem s3 : gBars two 1 6000 = ([1920, 3840, 5280], 0) := by unfold gBars; rw [if_pos valid_two]; kernel_rfl
theorem s4 : gTick one 7 0 0 = (7, 0) := by unfold gTick; rw [if_pos valid_one1]; decide
theorem s5 : gPlace one 1048576 = (1048576, 0, 0, 0) := by unfold gPlace; rw [if_pos valid_one1]; decide
theorem s6 : gPlace one 1048577 = (0, 0, 0, 70) := by unfold gPlace; rw [if_pos valid_one1]; decide
theorem bg_one (b : Int) (h0 : 0 ≤ b) : bg one b = b := by
  unfold bg one
  simp only [List.length_cons, List.length_nil, bgn, eN, mb, mt, mu]
  simp
  omega
theorem s7 : gBars one 0 4097 = ([], 2) := by
  unfold gBars
  rw [if_pos valid_one1]
  obtain ⟨L, h1, h2, h3⟩ := rBars_spec valid_one1 (lo := 0) (hi := 4097) (by omega) (by omega) (by omega)
  rw [h3, if_neg]
  intro hl
  have hs := sorted_sub (xs := (List.range 4097).map Int.ofNat) (ys := L) (by
    rw [List.pairwise_map]
    exact List.pairwise_lt_range.imp fun h => by simpa using h) h1 (fun t ht => by
    obtain ⟨k, hk, rfl⟩ := List.mem_map.1 ht
    have hk := List.mem_range.1 hk
    refine (h2 _).2 ⟨k, by omega, by omega, ?_, ?_, ?_⟩
    · rw [bg_one _ (by omega)]; rfl
    · simp
    · simp; omega)
  have := hs.1
  simp at this
  omega
theorem s8 : gBars one 5 5 = ([], 0) := by
  unfold gBars
  rw [if_pos valid_one1]
  kernel_rfl
theorem s9 : gCheck four = 0 := by unfold gCheck; rw [if_pos valid_four]

theorem c1 (A : Option Addr) (c : Nat) (w : World) (h : SlAt w A four) : Calls Try.prog 11 #[.slice A 1 c, .int .i64 2, .int .i64 1, .int .i64 3] w fun e w' => e = .returned (.tuple #[.int .i64 4323, .int .i64 0]) ∧ Below w.heap.size w w' := by
  have := ptick_a A c four 2 1 3 w (by decide) h
  rwa [s1] at this
theorem c2 (A : Option Addr) (c : Nat) (w : World) (h : SlAt w A four) : Calls Try.prog 15 #[.slice A 1 c, .int .i64 1920] w fun e w' => e = .returned (.tuple #[.int .i64 1, .int .i64 0, .int .i64 0, .int .i64 0]) ∧ Below w.heap.size w w' := by
  have := pplace_a A c four 1920 w (by decide) h
  rwa [s2] at this
theorem c3 (A : Option Addr) (c : Nat) (w : World) (h : SlAt w A two) : Calls Try.prog 17 #[.slice A 2 c, .int .i64 1, .int .i64 6000] w fun e w' => ∃ A c, e = .returned (.tuple #[.slice A 3 c, .int .i64 0]) ∧ IntsAt .i64 w' A [1920, 3840, 5280] ∧ Below w.heap.size w w' := by
  have := pbars_a A c two 1 6000 w (by decide) h
  rwa [s3] at this
theorem c4 (A : Option Addr) (c : Nat) (w : World) (h : SlAt w A one) : Calls Try.prog 11 #[.slice A 1 c, .int .i64 7, .int .i64 0, .int .i64 0] w fun e w' => e = .returned (.tuple #[.int .i64 7, .int .i64 0]) ∧ Below w.heap.size w w' := by
  have := ptick_a A c one 7 0 0 w (by decide) h
  rwa [s4] at this
theorem c5 (A : Option Addr) (c : Nat) (w : World) (h : SlAt w A one) : Calls Try.prog 15 #[.slice A 1 c, .int .i64 1048576] w fun e w' => e = .returned (.tuple #[.int .i64 1048576, .int .i64 0, .int .i64 0, .int .i64 0]) ∧ Below w.heap.size w w' := by
  have := pplace_a A c one 1048576 w (by decide) h
  rwa [s5] at this
theorem c6 (A : Option Addr) (c : Nat) (w : World) (h : SlAt w A one) : Calls Try.prog 15 #[.slice A 1 c, .int .i64 1048577] w fun e w' => e = .returned (.tuple #[.int .i64 0, .int .i64 0, .int .i64 0, .int .i64 70]) ∧ Below w.heap.size w w' := by
  have := pplace_a A c one 1048577 w (by decide) h
  rwa [s6] at this
theorem c7 (A : Option Addr) (c : Nat) (w : World) (h : SlAt w A one) : Calls Try.prog 17 #[.slice A 1 c, .int .i64 0, .int .i64 4097] w fun e w' => ∃ A c, e = .returned (.tuple #[.slice A 0 c, .int .i64 2]) ∧ IntsAt .i64 w' A [] ∧ Below w.heap.size w w' := by
  have := pbars_a A c one 0 4097 w (by decide) h
  rwa [s7] at this
theorem c8 (A : Option Addr) (c : Nat) (w : World) (h : SlAt w A one) : Calls Try.prog 17 #[.slice A 1 c, .int .i64 5, .int .i64 5] w fun e w' => ∃ A c, e = .returned (.tuple #[.slice A 0 c, .int .i64 0]) ∧ IntsAt .i64 w' A [] ∧ Below w.heap.size w w' := by
  have := pbars_a A c one 5 5 w (by decide) h
  rwa [s8] at this
theorem c9 (A : Option Addr) (c : Nat) (w : World) (h : SlAt w A four) : Calls Try.prog 13 #[.slice A 1 c] w fun e w' => e = .returned (.int .i64 0) ∧ Below w.heap.size w w' := by
  have := pcheck_a A c four w (by decide) h
  rwa [s9] at this

theorem sl1 {W : World} {B : Nat} {t : TypeId} (a b : Int) (h : Blk W B t #[.int .i64 0, .int .i64 a, .int .i64 b]) : SlAt W (some ⟨B, 0, none⟩) [⟨0, a, b⟩] := by
  refine SlAt.of ⟨h.lt, fun i hi => ?_, fun i hi => ?_, fun i hi => ?_⟩ <;> obtain rfl : i = 0 := (by simpa using hi)
  · rw [h.cell]; rfl
  · rw [h.cell]; rfl
  · rw [h.cell]; rfl
theorem sl2 {W : World} {B : Nat} {t : TypeId} (a b c d e : Int) (h : Blk W B t #[.int .i64 0, .int .i64 a, .int .i64 b, .int .i64 c, .int .i64 d, .int .i64 e]) : SlAt W (some ⟨B, 0, none⟩) [⟨0, a, b⟩, ⟨c, d, e⟩] := by
  refine SlAt.of ⟨h.lt, fun i hi => ?_, fun i hi => ?_, fun i hi => ?_⟩ <;> (have hi : i = 0 ∨ i = 1 := by simp at hi; omega) <;> rcases hi with rfl | rfl
  all_goals rw [h.cell]; rfl

set_option maxHeartbeats 4000000 in
theorem sane_t (w : World) : Calls Try.prog 10 #[] w fun e w' => e = .returned (.bool true) ∧ Below w.heap.size w w' := by
  have hb0 := ((Below.refl w.heap.size w).alloc (Nat.le_refl _) (.cells #[.int .i64 0, .int .i64 4, .int .i64 480] 38)).alloc (by simp) (.cells #[.int .i64 0, .int .i64 1, .int .i64 1] 38)
  have hF0 : SlAt ((w.alloc (.cells #[.int .i64 0, .int .i64 4, .int .i64 480] 38)).alloc (.cells #[.int .i64 0, .int .i64 1, .int .i64 1] 38)) (some ⟨w.heap.size, 0, none⟩) four := sl1 4 480 ((Blk.new w 38 _).alloc _)
  have hO0 : SlAt ((w.alloc (.cells #[.int .i64 0, .int .i64 4, .int .i64 480] 38)).alloc (.cells #[.int .i64 0, .int .i64 1, .int .i64 1] 38)) (some ⟨w.heap.size + 1, 0, none⟩) one := sl1 1 1 (Blk.newAt (by simp) 38 _)
  go_enter Try.func10, Try.ntmps10
  go_wp2_with fail
  go_at_call 11
  refine (c1 _ _ _ hF0).mono ?_
  rintro e w1 ⟨rfl, hw1⟩
  have hF1 := hF0.below hw1
  have hO1 := hO0.below hw1
  have hb1 := hb0.trans (hw1.mono (by simp <;> omega))
  clear hF0 hO0 hb0 hw1
  go_wp2_with fail
  go_at_call 15
  refine (c2 _ _ _ hF1).mono ?_
  rintro e w2 ⟨rfl, hw2⟩
  have hF2 := hF1.below hw2
  have hO2 := hO1.below hw2
  have hb2 := hb1.trans (hw2.mono hb1.size)
  clear hF1 hO1 hb1 hw2
  go_wp2_with fail
  go_at_call 17
  refine (c3 _ _ _ (sl2 4 480 2 3 480 (Blk.new _ 38 _))).mono ?_
  rintro e w3 ⟨A3, k3, rfl, hI3, hw3⟩
  have hb3 := (hb2.alloc hb2.size _).trans (hw3.mono (by have := hb2.size; simp; omega))
  have hw3' := (Below.refl w2.heap.size w2).alloc (Nat.le_refl _) (.cells #[.int .i64 0, .int .i64 4, .int .i64 480, .int .i64 2, .int .i64 3, .int .i64 480] 38) |>.trans (hw3.mono (by simp))
  have hF3 := hF2.below hw3'
  have hO3 := hO2.below hw3'
  clear hF2 hO2 hb2 hw3 hw3'
  go_wp2_with fail
  go_at_call 11
  refine (c4 _ _ _ hO3).mono ?_
  rintro e w4 ⟨rfl, hw4⟩
  have hI4 := hI3.below hw4
  have hF4 := hF3.below hw4
  have hO4 := hO3.below hw4
  have hb4 := hb3.trans (hw4.mono hb3.size)
  clear hI3 hF3 hO3 hb3 hw4
  go_wp2_with fail
  go_at_call 15
  refine (c5 _ _ _ hO4).mono ?_
  rintro e w5 ⟨rfl, hw5⟩
  have hI5 := hI4.below hw5
  have hF5 := hF4.below hw5
  have hO5 := hO4.below hw5
  have hb5 := hb4.trans (hw5.mono hb4.size)
  clear hI4 hF4 hO4 hb4 hw5
  go_wp2_with fail
  go_at_call 15
  refine (c6 _ _ _ hO5).mono ?_
  rintro e w6 ⟨rfl, hw6⟩
  have hI6 := hI5.below hw6
  have hF6 := hF5.below hw6
  have hO6 := hO5.below hw6
  have hb6 := hb5.trans (hw6.mono hb5.size)
  clear hI5 hF5 hO5 hb5 hw6
  go_wp2_with fail
  go_at_call 17
  refine (c7 _ _ _ hO6).mono ?_
  rintro e w7 ⟨A7, k7, rfl, hI7, hw7⟩
  have hI7 := hI6.below hw7
  have hF7 := hF6.below hw7
  have hO7 := hO6.below hw7
  have hb7 := hb6.trans (hw7.mono hb6.size)
  clear hI6 hF6 hO6 hb6 hw7
  go_wp2_with fail
  go_at_call 17
  refine (c8 _ _ _ hO7).mono ?_
  rintro e w8 ⟨A8, k8, rfl, hI8, hw8⟩
  have hI8 := hI7.below hw8
  have hF8 := hF7.below hw8
  have hb8 := hb7.trans (hw8.mono hb7.size)
  clear hI7 hF7 hO7 hb7 hw8
  go_wp2_with fail
  go_at_call 13
  refine (pcheck_nil _ _ _).mono ?_
  rintro e w9 ⟨rfl, hw9⟩
  have hI9 := hI8.below hw9
  have hF9 := hF8.below hw9
  have hb9 := hb8.trans (hw9.mono hb8.size)
  clear hI8 hF8 hb8 hw9
  go_wp2_with fail
  go_at_call 13
  refine (c9 _ _ _ hF9).mono ?_
  rintro e wa ⟨rfl, hwa⟩
  have hIa := hI9.below hwa
  have hba := hb9.trans (hwa.mono hb9.size)
  clear hI9 hF9 hb9 hwa
  go_wp2_with fail
  go_at_call 19
  have hN : IntsAt .i64 (wa.alloc (.cells #[.int .i64 1920, .int .i64 3840, .int .i64 5280] 3)) (some ⟨wa.heap.size, 0, none⟩) [1920, 3840, 5280] := fun _ => by
    refine ⟨_, _, rfl, by simp, fun i hi => ?_⟩
    have hB := Blk.new wa 3 #[.int .i64 1920, .int .i64 3840, .int .i64 5280]
    have h3 : i = 0 ∨ i = 1 ∨ i = 2 := by simp at hi; omega
    rcases h3 with rfl | rfl | rfl <;> (rw [hB.cell]; rfl)
  refine (same_t _ _ 3 3 _ _ [1920, 3840, 5280] [1920, 3840, 5280] _ rfl rfl (hIa.below ((Below.refl _ _).alloc (Nat.le_refl _) _)) hN (by simp) (by simp)).mono ?_
  rintro e wb ⟨rfl, hwb⟩
  have hbb := (hba.alloc hba.size _).trans (hwb.mono (by have := hba.size; simp; omega))
  clear hIa hN hba hwb
  go_wp2
  go_ret
  exact ⟨rfl, hbb⟩
end Go.Proofs.Ytdphnlcppaaccaa
