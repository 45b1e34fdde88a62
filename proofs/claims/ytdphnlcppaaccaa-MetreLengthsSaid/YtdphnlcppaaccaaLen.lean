/-
  The law MetreLengths walked: it answers true.
-/
import Derived.Test.YtdphnlcppaaccaaLaw1
import Derived.Test.YtdphnlcppaaccaaPf
namespace Go.Proofs.Ytdphnlcppaaccaa
open Go.RowKit
attribute [local go_sem] Oper.semAt_some

set_option maxHeartbeats 4000000 in
theorem lengths_t (A : Option Addr) (c : Nat) (ms : List Met) (bar : Int) (w : World) (h : SlAt w A ms) :
    Calls Try.prog 9 #[.slice A ms.length c, .int .i64 bar] w (Yes w) := by
  by_cases hl : 100 < ms.length
  · have d : decide (100 < (ms.length : Int)) = true := decide_eq_true (by omega)
    go_enter Try.func9, Try.ntmps9
    go_wp2_with (go_at_call 10; refine (sane_t _).mono ?_; rintro e w1 ⟨rfl, hw1⟩)
    go_ret
    exact ⟨rfl, hw1⟩
  have d : decide (100 < (ms.length : Int)) = false := decide_eq_false (by omega)
  have hn : ms.length ≤ 1000000000 := by omega
  have KC : ∀ W, SlAt W A ms → Calls Try.prog 14 #[.slice A ms.length c] W fun e w' => e = .returned (.int .i64 (gCheck ms)) ∧ Below W.heap.size W w' := fun W h => rcheck_a A c ms W hn h
  by_cases hv : Valid ms
  case neg =>
    have e0 : gCheck ms = 100 := by unfold gCheck; rw [if_neg hv]
    rw [e0] at KC
    go_enter Try.func9, Try.ntmps9
    go_wp2_with (first
      | (go_at_call 10; refine (sane_t _).mono ?_; rintro e w1 ⟨rfl, hw1⟩; have h1 := h.below hw1)
      | (go_at_call 14; refine (KC _ h1).mono ?_; rintro e w2 ⟨rfl, hw2⟩; have b2 := hw1.trans (hw2.mono hw1.size)))
    go_ret
    exact ⟨rfl, b2⟩
  have e0 : gCheck ms = 0 := by unfold gCheck; rw [if_pos hv]
  rw [e0] at KC
  clear e0
  by_cases hb0 : bar < 0
  · have d1 : decide (bar < 0) = true := decide_eq_true hb0
    go_enter Try.func9, Try.ntmps9
    go_wp2_with (first
      | (go_at_call 10; refine (sane_t _).mono ?_; rintro e w1 ⟨rfl, hw1⟩; have h1 := h.below hw1)
      | (go_at_call 14; refine (KC _ h1).mono ?_; rintro e w2 ⟨rfl, hw2⟩; have b2 := hw1.trans (hw2.mono hw1.size)))
    go_ret
    exact ⟨rfl, b2⟩
  have d1 : decide (bar < 0) = false := decide_eq_false hb0
  by_cases hb1 : 1048576 ≤ bar
  · have d2 : decide (1048576 ≤ bar) = true := decide_eq_true hb1
    go_enter Try.func9, Try.ntmps9
    go_wp2_with (first
      | (go_at_call 10; refine (sane_t _).mono ?_; rintro e w1 ⟨rfl, hw1⟩; have h1 := h.below hw1)
      | (go_at_call 14; refine (KC _ h1).mono ?_; rintro e w2 ⟨rfl, hw2⟩; have b2 := hw1.trans (hw2.mono hw1.size)))
    go_ret
    exact ⟨rfl, b2⟩
  have d2 : decide (1048576 ≤ bar) = false := decide_eq_false hb1
  obtain ⟨k, hk, hin⟩ := part_of_bar hv (bar := bar) (by omega) (by omega)
  obtain ⟨b, o, rfl, hm⟩ := h hv.pos
  clear h
  have hf := hv.fine k hk
  obtain ⟨_, _, f2, f3, f4, f5⟩ := hf
  have hlg := long_bd (hv.fine k hk)
  have hst := bg_step hv hk hin
  have hg0 := bgn_bd hv (bar := bar) (by omega) ms.length (Nat.le_refl _)
  have hfew := hv.few
  have KO : ∀ W, MetAt W b o ms → Calls Try.prog 20 #[.slice (some ⟨b, o, none⟩) ms.length c, .int .i64 bar] W fun e w' => e = .returned (.agg #[.int .i64 (mb ms k), .int .i64 (mt ms k), .int .i64 (mu ms k)]) ∧ Below W.heap.size W w' := fun W h => by
    have := of_t b o c ms bar W hn hv.pos h
    rwa [ofI_of_part hv hk hin ms.length hk (Nat.le_refl _)] at this
  have KT : ∀ x y z W, MetAt W b o ms → Calls Try.prog 11 #[.slice (some ⟨b, o, none⟩) ms.length c, .int .i64 x, .int .i64 y, .int .i64 z] W fun e w' => e = .returned (.tuple #[.int .i64 (rTick ms x y z).1, .int .i64 (rTick ms x y z).2]) ∧ Below W.heap.size W w' := fun x y z W h => ptick_t b o c ms x y z W hv h
  have T1 : rTick ms bar 0 0 = if 16777216 < bg ms bar then (0, 70) else (bg ms bar, 0) := by
    rw [tick_part hv hk hin, if_neg (by omega)]
    simp
  have T2 : rTick ms (bar + 1) 0 0 = if 16777216 < bg ms (bar + 1) then (0, 70) else (bg ms (bar + 1), 0) := by
    obtain ⟨j, hj, hjn⟩ := part_of_bar hv (bar := bar + 1) (by omega) (by omega)
    have := (hv.fine j hj).t0
    have := (hv.fine j hj).u0
    rw [tick_part hv hj hjn, if_neg (by omega)]
    simp
  have T3 : rTick ms bar (mt ms k - 1) (mu ms k - 1) = if 16777216 < bg ms bar + (mt ms k * mu ms k - 1) then (0, 70) else (bg ms bar + (mt ms k * mu ms k - 1), 0) := by
    have e : bg ms bar + (mt ms k - 1) * mu ms k + (mu ms k - 1) = bg ms bar + (mt ms k * mu ms k - 1) := by rw [Int.sub_mul, Int.one_mul]; omega
    rw [tick_part hv hk hin, if_neg (by omega), e]
  have T4 : rTick ms bar (mt ms k) 0 = (0, 1) := by rw [tick_part hv hk hin, if_pos (by omega)]
  have T5 : rTick ms bar 0 (mu ms k) = (0, 1) := by rw [tick_part hv hk hin, if_pos (by omega)]
  have hbg : 0 ≤ bg ms bar ∧ bg ms bar ≤ 140737622573056 := ⟨hg0.1, by have := hg0.2; unfold bg; omega⟩
  unfold lg at hst
  rw [hst] at T2
  have q1 : IntKind.i64.wrap (bar + 1) = bar + 1 := IntWalk.i64_in _ (by omega)
  have q2 : IntKind.i64.wrap (mt ms k - 1) = mt ms k - 1 := IntWalk.i64_in _ (by omega)
  have q3 : IntKind.i64.wrap (mu ms k - 1) = mu ms k - 1 := IntWalk.i64_in _ (by omega)
  have q4 : IntKind.i64.wrap (mt ms k * mu ms k) = mt ms k * mu ms k := IntWalk.i64_in _ (by omega)
  have q5 : IntKind.i64.wrap (bg ms bar + mt ms k * mu ms k) = bg ms bar + mt ms k * mu ms k := IntWalk.i64_in _ (by omega)
  have q6 : IntKind.i64.wrap (bg ms bar + mt ms k * mu ms k - 1) = bg ms bar + mt ms k * mu ms k - 1 := IntWalk.i64_in _ (by omega)
  have K1 := KT bar 0 0
  have K2 := KT (bar + 1) 0 0
  have K3 := KT bar (mt ms k - 1) (mu ms k - 1)
  have K4 := KT bar (mt ms k) 0
  have K5 := KT bar 0 (mu ms k)
  rw [T4] at K4
  rw [T5] at K5
  clear T4 T5 KT hst hg0 hin
  by_cases ha : bg ms bar + mt ms k * mu ms k ≤ 16777216
  · rw [T1, if_neg (by omega)] at K1
    rw [T2, if_neg (by omega)] at K2
    rw [T3, if_neg (by omega)] at K3
    have r1 : (bg ms bar + (mt ms k * mu ms k - 1) == bg ms bar + mt ms k * mu ms k - 1) = true := beq_iff_eq.2 (by omega)
    clear T1 T2 T3
    go_enter Try.func9, Try.ntmps9
    go_wp2_with (first
      | (go_at_call 10; refine (sane_t _).mono ?_; rintro e w1 ⟨rfl, hw1⟩; have h1 := hm.below hw1)
      | (go_at_call 14; refine (KC _ (SlAt.of h1)).mono ?_; rintro e w2 ⟨rfl, hw2⟩; have b2 := hw1.trans (hw2.mono hw1.size); have h2 := h1.below hw2)
      | (go_at_call 20; refine (KO _ h2).mono ?_; rintro e w3 ⟨rfl, hw3⟩; have b3 := b2.trans (hw3.mono b2.size); have h3 := h2.below hw3))
    go_at_call 11
    have hal := (Below.refl w3.heap.size w3).alloc (Nat.le_refl _) (.cells #[.int .i64 (mb ms k), .int .i64 (mt ms k), .int .i64 (mu ms k)] 38)
    have hbk : Blk (w3.alloc (.cells #[.int .i64 (mb ms k), .int .i64 (mt ms k), .int .i64 (mu ms k)] 38)) w3.heap.size 38 #[.int .i64 (mb ms k), .int .i64 (mt ms k), .int .i64 (mu ms k)] := Blk.new _ _ _
    have b4 := b3.alloc b3.size (.cells #[.int .i64 (mb ms k), .int .i64 (mt ms k), .int .i64 (mu ms k)] 38)
    refine (K1 _ (h3.below hal)).mono ?_
    rintro e w5 ⟨rfl, hw5⟩
    have h5 := (h3.below hal).below hw5
    have b5 := b4.trans (hw5.mono b4.size)
    have k5 := hbk.below hw5 hbk.lt
    have x5 : w5.cell? ⟨w3.heap.size, 1, none⟩ = some (.int .i64 (mt ms k)) := k5.cell 1
    have y5 : w5.cell? ⟨w3.heap.size, 2, none⟩ = some (.int .i64 (mu ms k)) := k5.cell 2
    have l5 := k5.lt
    go_wp2_with (fail)
    go_at_call 11
    refine (K2 _ h5).mono ?_
    rintro e w6 ⟨rfl, hw6⟩
    have h6 := (h5).below hw6
    have b6 := b5.trans (hw6.mono b5.size)
    have k6 := k5.below hw6 k5.lt
    have x6 : w6.cell? ⟨w3.heap.size, 1, none⟩ = some (.int .i64 (mt ms k)) := k6.cell 1
    have y6 : w6.cell? ⟨w3.heap.size, 2, none⟩ = some (.int .i64 (mu ms k)) := k6.cell 2
    have l6 := k6.lt
    go_wp2_with (fail)
    go_at_call 11
    refine (K3 _ h6).mono ?_
    rintro e w7 ⟨rfl, hw7⟩
    have h7 := (h6).below hw7
    have b7 := b6.trans (hw7.mono b6.size)
    have k7 := k6.below hw7 k6.lt
    have x7 : w7.cell? ⟨w3.heap.size, 1, none⟩ = some (.int .i64 (mt ms k)) := k7.cell 1
    have y7 : w7.cell? ⟨w3.heap.size, 2, none⟩ = some (.int .i64 (mu ms k)) := k7.cell 2
    have l7 := k7.lt
    go_wp2_with (fail)
    go_at_call 11
    refine (K4 _ h7).mono ?_
    rintro e w8 ⟨rfl, hw8⟩
    have h8 := (h7).below hw8
    have b8 := b7.trans (hw8.mono b7.size)
    have k8 := k7.below hw8 k7.lt
    have x8 : w8.cell? ⟨w3.heap.size, 1, none⟩ = some (.int .i64 (mt ms k)) := k8.cell 1
    have y8 : w8.cell? ⟨w3.heap.size, 2, none⟩ = some (.int .i64 (mu ms k)) := k8.cell 2
    have l8 := k8.lt
    go_wp2_with (fail)
    go_at_call 11
    refine (K5 _ h8).mono ?_
    rintro e w9 ⟨rfl, hw9⟩
    have h9 := (h8).below hw9
    have b9 := b8.trans (hw9.mono b8.size)
    have k9 := k8.below hw9 k8.lt
    have x9 : w9.cell? ⟨w3.heap.size, 1, none⟩ = some (.int .i64 (mt ms k)) := k9.cell 1
    have y9 : w9.cell? ⟨w3.heap.size, 2, none⟩ = some (.int .i64 (mu ms k)) := k9.cell 2
    have l9 := k9.lt
    go_wp2
    go_ret
    exact ⟨rfl, b9⟩
  rw [T2, if_pos (by omega)] at K2
  obtain ⟨⟨r31, r32⟩, hr3⟩ : ∃ r, r = rTick ms bar (mt ms k - 1) (mu ms k - 1) := ⟨_, rfl⟩
  rw [← hr3] at K3
  clear T2 T3 hr3
  by_cases hc : bg ms bar ≤ 16777216
  · rw [T1, if_neg (by omega)] at K1
    have r1 : decide (16777216 < bg ms bar + mt ms k * mu ms k) = true := decide_eq_true (by omega)
    clear T1
    go_enter Try.func9, Try.ntmps9
    go_wp2_with (first
      | (go_at_call 10; refine (sane_t _).mono ?_; rintro e w1 ⟨rfl, hw1⟩; have h1 := hm.below hw1)
      | (go_at_call 14; refine (KC _ (SlAt.of h1)).mono ?_; rintro e w2 ⟨rfl, hw2⟩; have b2 := hw1.trans (hw2.mono hw1.size); have h2 := h1.below hw2)
      | (go_at_call 20; refine (KO _ h2).mono ?_; rintro e w3 ⟨rfl, hw3⟩; have b3 := b2.trans (hw3.mono b2.size); have h3 := h2.below hw3))
    go_at_call 11
    have hal := (Below.refl w3.heap.size w3).alloc (Nat.le_refl _) (.cells #[.int .i64 (mb ms k), .int .i64 (mt ms k), .int .i64 (mu ms k)] 38)
    have hbk : Blk (w3.alloc (.cells #[.int .i64 (mb ms k), .int .i64 (mt ms k), .int .i64 (mu ms k)] 38)) w3.heap.size 38 #[.int .i64 (mb ms k), .int .i64 (mt ms k), .int .i64 (mu ms k)] := Blk.new _ _ _
    have b4 := b3.alloc b3.size (.cells #[.int .i64 (mb ms k), .int .i64 (mt ms k), .int .i64 (mu ms k)] 38)
    refine (K1 _ (h3.below hal)).mono ?_
    rintro e w5 ⟨rfl, hw5⟩
    have h5 := (h3.below hal).below hw5
    have b5 := b4.trans (hw5.mono b4.size)
    have k5 := hbk.below hw5 hbk.lt
    have x5 : w5.cell? ⟨w3.heap.size, 1, none⟩ = some (.int .i64 (mt ms k)) := k5.cell 1
    have y5 : w5.cell? ⟨w3.heap.size, 2, none⟩ = some (.int .i64 (mu ms k)) := k5.cell 2
    have l5 := k5.lt
    go_wp2_with (fail)
    go_at_call 11
    refine (K2 _ h5).mono ?_
    rintro e w6 ⟨rfl, hw6⟩
    have h6 := (h5).below hw6
    have b6 := b5.trans (hw6.mono b5.size)
    have k6 := k5.below hw6 k5.lt
    have x6 : w6.cell? ⟨w3.heap.size, 1, none⟩ = some (.int .i64 (mt ms k)) := k6.cell 1
    have y6 : w6.cell? ⟨w3.heap.size, 2, none⟩ = some (.int .i64 (mu ms k)) := k6.cell 2
    have l6 := k6.lt
    go_wp2_with (fail)
    go_at_call 11
    refine (K3 _ h6).mono ?_
    rintro e w7 ⟨rfl, hw7⟩
    have h7 := (h6).below hw7
    have b7 := b6.trans (hw7.mono b6.size)
    have k7 := k6.below hw7 k6.lt
    have x7 : w7.cell? ⟨w3.heap.size, 1, none⟩ = some (.int .i64 (mt ms k)) := k7.cell 1
    have y7 : w7.cell? ⟨w3.heap.size, 2, none⟩ = some (.int .i64 (mu ms k)) := k7.cell 2
    have l7 := k7.lt
    go_wp2_with (fail)
    go_at_call 11
    refine (K4 _ h7).mono ?_
    rintro e w8 ⟨rfl, hw8⟩
    have h8 := (h7).below hw8
    have b8 := b7.trans (hw8.mono b7.size)
    have k8 := k7.below hw8 k7.lt
    have x8 : w8.cell? ⟨w3.heap.size, 1, none⟩ = some (.int .i64 (mt ms k)) := k8.cell 1
    have y8 : w8.cell? ⟨w3.heap.size, 2, none⟩ = some (.int .i64 (mu ms k)) := k8.cell 2
    have l8 := k8.lt
    go_wp2_with (fail)
    go_at_call 11
    refine (K5 _ h8).mono ?_
    rintro e w9 ⟨rfl, hw9⟩
    have h9 := (h8).below hw9
    have b9 := b8.trans (hw9.mono b8.size)
    have k9 := k8.below hw9 k8.lt
    have x9 : w9.cell? ⟨w3.heap.size, 1, none⟩ = some (.int .i64 (mt ms k)) := k9.cell 1
    have y9 : w9.cell? ⟨w3.heap.size, 2, none⟩ = some (.int .i64 (mu ms k)) := k9.cell 2
    have l9 := k9.lt
    go_wp2
    go_ret
    exact ⟨rfl, b9⟩
  · rw [T1, if_pos (by omega)] at K1
    clear T1
    go_enter Try.func9, Try.ntmps9
    go_wp2_with (first
      | (go_at_call 10; refine (sane_t _).mono ?_; rintro e w1 ⟨rfl, hw1⟩; have h1 := hm.below hw1)
      | (go_at_call 14; refine (KC _ (SlAt.of h1)).mono ?_; rintro e w2 ⟨rfl, hw2⟩; have b2 := hw1.trans (hw2.mono hw1.size); have h2 := h1.below hw2)
      | (go_at_call 20; refine (KO _ h2).mono ?_; rintro e w3 ⟨rfl, hw3⟩; have b3 := b2.trans (hw3.mono b2.size); have h3 := h2.below hw3))
    go_at_call 11
    have hal := (Below.refl w3.heap.size w3).alloc (Nat.le_refl _) (.cells #[.int .i64 (mb ms k), .int .i64 (mt ms k), .int .i64 (mu ms k)] 38)
    have hbk : Blk (w3.alloc (.cells #[.int .i64 (mb ms k), .int .i64 (mt ms k), .int .i64 (mu ms k)] 38)) w3.heap.size 38 #[.int .i64 (mb ms k), .int .i64 (mt ms k), .int .i64 (mu ms k)] := Blk.new _ _ _
    have b4 := b3.alloc b3.size (.cells #[.int .i64 (mb ms k), .int .i64 (mt ms k), .int .i64 (mu ms k)] 38)
    refine (K1 _ (h3.below hal)).mono ?_
    rintro e w5 ⟨rfl, hw5⟩
    have h5 := (h3.below hal).below hw5
    have b5 := b4.trans (hw5.mono b4.size)
    have k5 := hbk.below hw5 hbk.lt
    have x5 : w5.cell? ⟨w3.heap.size, 1, none⟩ = some (.int .i64 (mt ms k)) := k5.cell 1
    have y5 : w5.cell? ⟨w3.heap.size, 2, none⟩ = some (.int .i64 (mu ms k)) := k5.cell 2
    have l5 := k5.lt
    go_wp2_with (fail)
    go_at_call 11
    refine (K2 _ h5).mono ?_
    rintro e w6 ⟨rfl, hw6⟩
    have h6 := (h5).below hw6
    have b6 := b5.trans (hw6.mono b5.size)
    have k6 := k5.below hw6 k5.lt
    have x6 : w6.cell? ⟨w3.heap.size, 1, none⟩ = some (.int .i64 (mt ms k)) := k6.cell 1
    have y6 : w6.cell? ⟨w3.heap.size, 2, none⟩ = some (.int .i64 (mu ms k)) := k6.cell 2
    have l6 := k6.lt
    go_wp2_with (fail)
    go_at_call 11
    refine (K3 _ h6).mono ?_
    rintro e w7 ⟨rfl, hw7⟩
    have h7 := (h6).below hw7
    have b7 := b6.trans (hw7.mono b6.size)
    have k7 := k6.below hw7 k6.lt
    have x7 : w7.cell? ⟨w3.heap.size, 1, none⟩ = some (.int .i64 (mt ms k)) := k7.cell 1
    have y7 : w7.cell? ⟨w3.heap.size, 2, none⟩ = some (.int .i64 (mu ms k)) := k7.cell 2
    have l7 := k7.lt
    go_wp2_with (fail)
    go_at_call 11
    refine (K4 _ h7).mono ?_
    rintro e w8 ⟨rfl, hw8⟩
    have h8 := (h7).below hw8
    have b8 := b7.trans (hw8.mono b7.size)
    have k8 := k7.below hw8 k7.lt
    have x8 : w8.cell? ⟨w3.heap.size, 1, none⟩ = some (.int .i64 (mt ms k)) := k8.cell 1
    have y8 : w8.cell? ⟨w3.heap.size, 2, none⟩ = some (.int .i64 (mu ms k)) := k8.cell 2
    have l8 := k8.lt
    go_wp2_with (fail)
    go_at_call 11
    refine (K5 _ h8).mono ?_
    rintro e w9 ⟨rfl, hw9⟩
    have h9 := (h8).below hw9
    have b9 := b8.trans (hw9.mono b8.size)
    have k9 := k8.below hw9 k8.lt
    have x9 : w9.cell? ⟨w3.heap.size, 1, none⟩ = some (.int .i64 (mt ms k)) := k9.cell 1
    have y9 : w9.cell? ⟨w3.heap.size, 2, none⟩ = some (.int .i64 (mu ms k)) := k9.cell 2
    have l9 := k9.lt
    go_wp2
    go_ret
    exact ⟨rfl, b9⟩
end Go.Proofs.Ytdphnlcppaaccaa
