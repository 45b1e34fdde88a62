/-
  The law MetreAgain walked: it answers true.
-/
import Derived.Test.YtdphnlcppaaccaaGrow
import Derived.Deep.Cut
namespace Go.Proofs.Ytdphnlcppaaccaa
open Go.RowKit
attribute [local go_sem] Oper.semAt_some

set_option maxRecDepth 20000 in
set_option maxHeartbeats 4000000 in
theorem again_t (A : Option Addr) (c : Nat) (ms : List Met) (bar tick lo hi : Int) (w : World) (h : SlAt w A ms) :
    Calls Try.prog 8 #[.slice A ms.length c, .int .i64 bar, .int .i64 tick, .int .i64 lo, .int .i64 hi] w (Yes w) := by
  by_cases hl : 64 ≤ ms.length
  · have d : decide (64 ≤ (ms.length : Int)) = true := decide_eq_true (by omega)
    go_enter Try.func8, Try.ntmps8
    go_wp2_with (go_at_call 10; refine (sane_t _).mono ?_; rintro e w1 ⟨rfl, hw1⟩)
    go_ret
    exact ⟨rfl, hw1⟩
  have d : decide (64 ≤ (ms.length : Int)) = false := decide_eq_false (by omega)
  have hn : ms.length ≤ 1000000000 := by omega
  by_cases hv : Valid ms
  case neg =>
    have KC : ∀ W, SlAt W A ms → Calls Try.prog 14 #[.slice A ms.length c] W fun e w' => e = .returned (.int .i64 100) ∧ Below W.heap.size W w' := fun W hW => by
      have := rcheck_a A c ms W hn hW
      unfold gCheck at this
      rwa [if_neg hv] at this
    clear hv
    go_enter Try.func8, Try.ntmps8
    go_wp2_with (first
      | (go_at_call 10; refine (sane_t _).mono ?_; rintro e w1 ⟨rfl, hw1⟩; have h1 := h.below hw1)
      | (go_at_call 14; refine (KC _ h1).mono ?_; rintro e w2 ⟨rfl, hw2⟩; have b2 := hw1.trans (hw2.mono hw1.size)))
    go_ret
    exact ⟨rfl, b2⟩
  have KC : ∀ W, SlAt W A ms → Calls Try.prog 14 #[.slice A ms.length c] W fun e w' => e = .returned (.int .i64 0) ∧ Below W.heap.size W w' := fun W hW => by
    have := rcheck_a A c ms W hn hW
    unfold gCheck at this
    rwa [if_pos hv] at this
  by_cases r1 : bar < 0
  · have d1 : decide (bar < 0) = true := decide_eq_true r1
    clear r1
    go_enter Try.func8, Try.ntmps8
    go_wp2_with (first
      | (go_at_call 10; refine (sane_t _).mono ?_; rintro e w1 ⟨rfl, hw1⟩; have h1 := h.below hw1)
      | (go_at_call 14; refine (KC _ h1).mono ?_; rintro e w2 ⟨rfl, hw2⟩; have b2 := hw1.trans (hw2.mono hw1.size)))
    go_ret
    exact ⟨rfl, b2⟩
  have d1 : decide (bar < 0) = false := decide_eq_false r1
  by_cases r2 : 1048576 < bar
  · have d2 : decide (1048576 < bar) = true := decide_eq_true r2
    clear r2
    go_enter Try.func8, Try.ntmps8
    go_wp2_with (first
      | (go_at_call 10; refine (sane_t _).mono ?_; rintro e w1 ⟨rfl, hw1⟩; have h1 := h.below hw1)
      | (go_at_call 14; refine (KC _ h1).mono ?_; rintro e w2 ⟨rfl, hw2⟩; have b2 := hw1.trans (hw2.mono hw1.size)))
    go_ret
    exact ⟨rfl, b2⟩
  have d2 : decide (1048576 < bar) = false := decide_eq_false r2
  obtain ⟨j, hj, hin⟩ := part_of_bar hv (bar := bar) (by omega) (by omega)
  have hof := ofI_of_part hv hj hin ms.length hj (Nat.le_refl _)
  obtain ⟨b, o, rfl, hm⟩ := h (by omega)
  have h : SlAt w (some ⟨b, o, none⟩) ms := fun _ => ⟨b, o, rfl, hm⟩
  have hb := hm.lt
  have KO : ∀ W, Below w.heap.size w W → Calls Try.prog 20 #[.slice (some ⟨b, o, none⟩) ms.length c, .int .i64 bar] W fun e w' => e = .returned (.agg #[.int .i64 (mb ms j), .int .i64 (mt ms j), .int .i64 (mu ms j)]) ∧ Below W.heap.size W w' := fun W hW => by
    have := of_t b o c ms bar W hn (by omega) (hm.below hW)
    rwa [hof] at this
  clear hof
  obtain ⟨B0, hB0⟩ : ∃ x, x = mb ms j := ⟨_, rfl⟩
  obtain ⟨T0, hT0⟩ : ∃ x, x = mt ms j := ⟨_, rfl⟩
  obtain ⟨U0, hU0⟩ : ∃ x, x = mu ms j := ⟨_, rfl⟩
  rw [← hB0, ← hT0, ← hU0] at KO
  by_cases he : B0 = bar
  · have de : (B0 == bar) = true := beq_iff_eq.2 he
    clear he hB0 hT0 hU0
    go_enter Try.func8, Try.ntmps8
    go_wp2_with (first
      | (go_at_call 10; refine (sane_t _).mono ?_; rintro e w1 ⟨rfl, hw1⟩; have h1 := h.below hw1)
      | (go_at_call 14; refine (KC _ h1).mono ?_; rintro e w2 ⟨rfl, hw2⟩; have b2 := hw1.trans (hw2.mono hw1.size))
      | (go_at_call 20; refine (KO _ b2).mono ?_; rintro e w3 ⟨rfl, hw3⟩; have b3 := b2.trans (hw3.mono b2.size)))
    go_ret
    exact ⟨rfl, b3.alloc b3.size _⟩
  have de : (B0 == bar) = false := beq_eq_false_iff_ne.2 he
  have HE := Lib.hid he
  have F := ins_finer hv (by omega) hj hin (by rw [← hB0]; exact he)
  rw [← hT0, ← hU0] at F
  have HF := Lib.hid F
  have HV := Lib.hid hv
  have HIN := Lib.hid hin
  have HBTU := Lib.hid (And.intro hB0 (And.intro hT0 hU0))
  clear hB0 hT0 hU0 F hv hin he r1 r2
  obtain ⟨i0, hi0, hz0, hz1, hz2⟩ := info_parts info38
  go_enter Try.func8, Try.ntmps8
  go_wp2_with (first
    | (go_at_call 10; refine (sane_t _).mono ?_; rintro e w1 ⟨rfl, hw1⟩; have h1 := h.below hw1)
    | (go_at_call 14; refine (KC _ h1).mono ?_; rintro e w2 ⟨rfl, hw2⟩; have b2 := hw1.trans (hw2.mono hw1.size))
    | (go_at_call 20; refine (KO _ b2).mono ?_; rintro e w3 ⟨rfl, hw3⟩; have b3 := b2.trans (hw3.mono b2.size)))
  obtain ⟨W4, hW4⟩ : ∃ W, w3.alloc (.cells #[.int .i64 B0, .int .i64 T0, .int .i64 U0] 38) = W := ⟨_, rfl⟩
  have b4 : Below w.heap.size w W4 := by rw [← hW4]; exact b3.alloc b3.size _
  have BM : Blk W4 w3.heap.size 38 #[.int .i64 B0, .int .i64 T0, .int .i64 U0] := by rw [← hW4]; exact Blk.new w3 38 _
  have hlt4 := BM.lt
  have h4 : SlAt W4 (some ⟨b, o, none⟩) ms := h.below b4
  have hm4 := hm.below b4
  rw [hW4]
  clear hW4 KC KO
  go_loopw [12, 54] (fun v i wr => ∃ (k : Nat) (N : List Met), k ≤ ms.length ∧ i = .int .i64 k ∧ Hid (N = growK ms j ⟨bar, T0, U0⟩ k) ∧ wr.ownsRow W4.heap.size 38 3 v N.length (flat N) ∧ Below W4.heap.size W4 wr) (fun _ i _ => ms.length - (intOf i).toNat)
  case atStart => exact ⟨0, [], by omega, rfl, Lib.hid growK_zero.symm, ⟨rfl, .inl ⟨rfl, rfl⟩⟩, Below.refl _ _⟩
  case round =>
    obtain ⟨k, N, hk, rfl, hN, hown, hwr⟩ := hrel
    obtain ⟨V, cp, rfl⟩ := own_slice hown
    have hbr := hwr.size
    have hmr := hm4.below hwr
    have BMr := BM.below hwr hlt4
    by_cases hlt : k < ms.length
    · have g0 := hmr.c0 k hlt
      have g1 := hmr.c1 k hlt
      have g2 := hmr.c2 k hlt
      obtain ⟨X0, hX0⟩ : ∃ x, x = mb ms k := ⟨_, rfl⟩
      obtain ⟨X1, hX1⟩ : ∃ x, x = mt ms k := ⟨_, rfl⟩
      obtain ⟨X2, hX2⟩ : ∃ x, x = mu ms k := ⟨_, rfl⟩
      rw [← hX0] at g0
      rw [← hX1] at g1
      rw [← hX2] at g2
      have hx : ms.getD k m0 = ⟨X0, X1, X2⟩ := by rw [hX0, hX1, hX2]; rfl
      have HX := Lib.hid hx
      have HX0 := Lib.hid hX0
      clear hx hX0 hX1 hX2
      have hlen := growK_len (ms := ms) (j := j) (m := ⟨bar, T0, U0⟩) hk
      by_cases c1 : k ≤ j
      · have hle : X0 < bar := by
          have h1 := mb_mono HV.out c1 hj
          have h2 := HIN.out.1
          have h3 := HE.out
          have h4 := HBTU.out.1
          have h5 := HX0.out
          omega
        have e1 : decide (bar < X0) = false := decide_eq_false (by omega)
        rw [if_pos (by omega)] at hlen
        have hstep := growK_step (j := j) (m := ⟨bar, T0, U0⟩) hlt (by omega)
        rw [HX.out] at hstep
        rw [← hN.out] at hlen hstep
        have HS := Lib.hid hstep
        have hle2 : N.length ≤ 64 := by omega
        clear hstep hlen hle
        go_wp2_with (at_builtin; refine wpList_append_own _ rfl (.tmp 87) (.tmp 89) 22 rfl W4.heap.size 38 i0 (.agg #[.int .i64 0, .int .i64 0, .int .i64 0]) 3 24 Try.underlying22 hi0 hz0 hz1 hz2 rfl (by decide) _ N.length (flat N) rfl ((hown.alloc _).alloc _) ⟨_, 0, none⟩ 1 1 (vals ⟨X0, X1, X2⟩) rfl rfl (cell_new3 (by simp)) (vals_one _) (by simp [maxLen]; omega) (by omega) (by simp; omega) ?_; intro v' w' hown' hgrow _)
        go_roundw
        case rel =>
          refine ⟨k + 1, N ++ [⟨X0, X1, X2⟩], by omega, by go_num, Lib.hid HS.out.symm, by rw [flat_append, List.length_append]; simpa [flat] using hown', ?_⟩
          exact ((hwr.alloc hwr.size _).alloc (by simp; omega) _).grown hgrow (by simp; omega) (own_base hown)
        case measure => simp [intOf]; omega
      · have h1 := HIN.out.2
        have h2 : bar < X0 := by
          have h5 := HX0.out
          have h6 := mb_mono HV.out (i := j + 1) (j := k) (by omega) hlt
          unfold lastN at h1
          rw [if_pos (by omega)] at h1
          omega
        have e1 : decide (bar < X0) = true := decide_eq_true h2
        clear h1 h2
        obtain ⟨q, rfl⟩ : ∃ q, k = q + 1 := ⟨k - 1, by omega⟩
        have hlast := growK_last (j := j) (m := ⟨bar, T0, U0⟩) (k := q) (by omega)
        rw [← hN.out] at hlast hlen
        have hN0 : 0 < N.length := by rw [hlen]; split <;> omega
        have hle2 : N.length ≤ 65 := by rw [hlen]; split <;> omega
        obtain ⟨_, gV, rfl, hgb, hgl, hcV⟩ := own_cell3 hown hN0
        have hlp := (hcV (N.length - 1) (by omega)).1
        rw [hlast] at hlp
        obtain ⟨p, hp⟩ : ∃ p, N.length = p + 1 := ⟨N.length - 1, by omega⟩
        rw [hp] at hlp hown hle2 hlen ⊢
        rw [Nat.add_sub_cancel] at hlp
        obtain ⟨LB, hLB⟩ : ∃ x, x = mb ms q := ⟨_, rfl⟩
        rw [← hLB] at hlp
        have HLB := Lib.hid hLB
        have HP := Lib.hid hp
        clear hlast hLB hcV hN0 hp
        have e3 : ((p : Int) + 1 == 0) = false := beq_eq_false_iff_ne.2 (by omega)
        by_cases c2 : q = j
        · have h3 : LB < bar := by
            have h1 := HLB.out
            rw [c2] at h1
            have h2 := HIN.out.1
            have h3 := HE.out
            have h4 := HBTU.out.1
            omega
          have e2 : decide (LB < bar) = true := decide_eq_true h3
          have hstep := growK_at (ms := ms) (m := ⟨bar, T0, U0⟩) (j := j) (by omega)
          rw [← c2, HX.out] at hstep
          have hNq : N = growK ms q ⟨bar, T0, U0⟩ (q + 1) := by rw [c2]; rw [c2] at hN; exact hN.out
          rw [← hNq] at hstep
          have HS : Hid (growK ms j ⟨bar, T0, U0⟩ (q + 1 + 1) = N ++ [⟨bar, T0, U0⟩] ++ [⟨X0, X1, X2⟩]) := Lib.hid (by rw [← c2]; exact hstep)
          clear hstep hNq h3 c1 c2 hlen
          have m1 : wr.cell? ⟨w3.heap.size, 1, none⟩ = some (.int .i64 T0) := BMr.cell 1
          have m2 : wr.cell? ⟨w3.heap.size, 2, none⟩ = some (.int .i64 U0) := BMr.cell 2
          have hm3 := BMr.lt
          have hneV : (Value.slice (some ⟨gV, 0, none⟩) (p + 1) cp).ownBlock ≠ some wr.heap.size := by simp [Value.ownBlock]; omega
          go_wp2_with (first
            | (at_builtin; refine wpList_append_own _ rfl (.tmp 78) (.tmp 85) 22 rfl W4.heap.size 38 i0 (.agg #[.int .i64 0, .int .i64 0, .int .i64 0]) 3 24 Try.underlying22 hi0 hz0 hz1 hz2 rfl (by decide) _ (p + 1) (flat N) rfl ((hown.alloc _).alloc _) ⟨_, 0, none⟩ 1 1 (vals ⟨bar, T0, U0⟩) rfl rfl (cell_new3 (by simp)) (vals_one _) (by simp [maxLen]; omega) (by omega) (by simp; omega) ?_; intro v' w' hown' hgrow _; obtain ⟨V1, cp1, rfl⟩ := own_slice hown'; have bw := ((hwr.alloc hwr.size _).alloc (by simp; omega) _).grown hgrow (by simp; omega) (own_base hown); have BX := (hgrow.block wr.heap.size (by simp; omega) (by exact fun h => hneV h.symm)).trans ((Blk.new wr 38 #[.int .i64 X0, .int .i64 X1, .int .i64 X2]).alloc _); have x0 : w'.cell? ⟨wr.heap.size, 0, none⟩ = some (.int .i64 X0) := Blk.cell BX 0; have x1 : w'.cell? ⟨wr.heap.size, 1, none⟩ = some (.int .i64 X1) := Blk.cell BX 1; have x2 : w'.cell? ⟨wr.heap.size, 2, none⟩ = some (.int .i64 X2) := Blk.cell BX 2)
            | (at_builtin; refine wpList_append_own _ rfl (.tmp 87) (.tmp 89) 22 rfl W4.heap.size 38 i0 (.agg #[.int .i64 0, .int .i64 0, .int .i64 0]) 3 24 Try.underlying22 hi0 hz0 hz1 hz2 rfl (by decide) _ (p + 1 + 1) _ rfl (hown'.alloc _) ⟨_, 0, none⟩ 1 1 (vals ⟨X0, X1, X2⟩) rfl rfl (cell_new3 (by simp)) (vals_one _) (by simp [maxLen]; omega) (by omega) (by have := bw.size; simp; omega) ?_; intro v'' w'' hown'' hgrow' _))
          go_roundw
          case rel =>
            have hL : N.length = p + 1 := HP.out
            refine ⟨q + 1 + 1, N ++ [⟨bar, T0, U0⟩] ++ [⟨X0, X1, X2⟩], by omega, by go_num, Lib.hid HS.out.symm, ?_, ?_⟩
            · rw [flat_append, flat_append, List.length_append, List.length_append, hL]
              simpa [flat] using hown''
            · exact (bw.alloc bw.size _).grown hgrow' (by have := bw.size; simp; omega) (own_base hown')
          case measure => simp [intOf]; omega
        · have h3 : bar < LB := by
            have h1 := HLB.out
            have h2 := HIN.out.2
            have h6 := mb_mono HV.out (i := j + 1) (j := q) (by omega) (by omega)
            unfold lastN at h2
            rw [if_pos (by omega)] at h2
            omega
          have e2 : decide (LB < bar) = false := decide_eq_false (by omega)
          have hstep := growK_step (j := j) (m := ⟨bar, T0, U0⟩) hlt (by omega)
          rw [HX.out, ← hN.out] at hstep
          have HS := Lib.hid hstep
          clear hstep h3 c1 c2 hlen
          go_wp2_with (at_builtin; refine wpList_append_own _ rfl (.tmp 87) (.tmp 89) 22 rfl W4.heap.size 38 i0 (.agg #[.int .i64 0, .int .i64 0, .int .i64 0]) 3 24 Try.underlying22 hi0 hz0 hz1 hz2 rfl (by decide) _ (p + 1) (flat N) rfl ((hown.alloc _).alloc _) ⟨_, 0, none⟩ 1 1 (vals ⟨X0, X1, X2⟩) rfl rfl (cell_new3 (by simp)) (vals_one _) (by simp [maxLen]; omega) (by omega) (by simp; omega) ?_; intro v' w' hown' hgrow _)
          go_roundw
          case rel =>
            have hL : N.length = p + 1 := HP.out
            refine ⟨q + 1 + 1, N ++ [⟨X0, X1, X2⟩], by omega, by go_num, Lib.hid HS.out.symm, by rw [flat_append, List.length_append, hL]; simpa [flat] using hown', ?_⟩
            exact ((hwr.alloc hwr.size _).alloc (by simp; omega) _).grown hgrow (by simp; omega) (own_base hown)
          case measure => simp [intOf]; omega
    · obtain rfl : k = ms.length := by omega
      obtain ⟨q, hq⟩ : ∃ q, ms.length = q + 1 := ⟨ms.length - 1, by omega⟩
      have hlast := growK_last (j := j) (m := ⟨bar, T0, U0⟩) (ms := ms) (k := q) (by omega)
      have hlen := growK_len (ms := ms) (j := j) (m := ⟨bar, T0, U0⟩) (k := ms.length) (by omega)
      rw [← hq, ← hN.out] at hlast
      rw [← hN.out] at hlen
      have hN0 : 0 < N.length := by rw [hlen]; split <;> omega
      have hle2 : N.length ≤ 64 := by rw [hlen]; split <;> omega
      obtain ⟨_, gV, rfl, hgb, hgl, hcV⟩ := own_cell3 hown hN0
      have hlp := (hcV (N.length - 1) (by omega)).1
      rw [hlast] at hlp
      obtain ⟨p, hp⟩ : ∃ p, N.length = p + 1 := ⟨N.length - 1, by omega⟩
      rw [hp] at hlp hown hle2 hlen ⊢
      rw [Nat.add_sub_cancel] at hlp
      obtain ⟨LB, hLB⟩ : ∃ x, x = mb ms q := ⟨_, rfl⟩
      rw [← hLB] at hlp
      have HLB := Lib.hid hLB
      have HP := Lib.hid hp
      have HQ := Lib.hid hq
      clear hlast hLB hcV hN0 hp hlen hq
      by_cases c2 : j + 1 < ms.length
      · have h3 : bar < LB := by
          have h1 := HLB.out
          have h2 := HIN.out.2
          have hq := HQ.out
          have h6 := mb_mono HV.out (i := j + 1) (j := q) (by omega) (by omega)
          unfold lastN at h2
          rw [if_pos c2] at h2
          omega
        have e2 : decide (LB < bar) = false := decide_eq_false (by omega)
        have hMe := (growK_end (m := ⟨bar, T0, U0⟩) hj).1 c2
        rw [← hN.out] at hMe
        have HM := Lib.hid hMe
        have hNL : N.length = p + 1 := HP.out
        have hMS : SlAt wr (some ⟨gV, 0, none⟩) N := by
          have := own_SlAt (A := some ⟨gV, 0, none⟩) (c := cp) (ns := N) (n := p + 1) hown
          exact this.2
        have bT := hwr
        clear hMe h3 c2
        have hl2 : (p + 1) ≤ 65 := by omega
        obtain ⟨p1, p2, p3, p4, hpp⟩ : ∃ p1 p2 p3 p4, gPlace ms tick = (p1, p2, p3, p4) := ⟨_, _, _, _, rfl⟩
        obtain ⟨x, er, hbb⟩ : ∃ x er, gBars ms lo hi = (x, er) := ⟨_, _, rfl⟩
        have hxl : x.length ≤ 4096 := by
          have := gBars_few ms lo hi
          rwa [hbb] at this
        have KP : ∀ W, SlAt W (some ⟨b, o, none⟩) ms → Calls Try.prog 15 #[.slice (some ⟨b, o, none⟩) ms.length c, .int .i64 tick] W fun e w' => e = .returned (.tuple #[.int .i64 p1, .int .i64 p2, .int .i64 p3, .int .i64 p4]) ∧ Below W.heap.size W w' := fun W hW => by
          have := pplace_a (some ⟨b, o, none⟩) c ms tick W hn hW
          rw [hpp] at this
          exact this
        have KQ : ∀ W, SlAt W (some ⟨gV, 0, none⟩) N → Calls Try.prog 15 #[.slice (some ⟨gV, 0, none⟩) (p + 1) cp, .int .i64 tick] W fun e w' => e = .returned (.tuple #[.int .i64 p1, .int .i64 p2, .int .i64 p3, .int .i64 p4]) ∧ Below W.heap.size W w' := fun W hW => by
          have := pplace_a (some ⟨gV, 0, none⟩) cp N tick W (by omega) hW
          rw [HM.out, gplace_same HF.out, hpp, ← HM.out, hNL] at this
          exact this
        have KB : ∀ W, SlAt W (some ⟨b, o, none⟩) ms → Calls Try.prog 17 #[.slice (some ⟨b, o, none⟩) ms.length c, .int .i64 lo, .int .i64 hi] W (IntsErr W (x, er)) := fun W hW => by
          have := pbars_a (some ⟨b, o, none⟩) c ms lo hi W hn hW
          rw [hbb] at this
          exact this
        have KC : ∀ W, SlAt W (some ⟨gV, 0, none⟩) N → Calls Try.prog 17 #[.slice (some ⟨gV, 0, none⟩) (p + 1) cp, .int .i64 lo, .int .i64 hi] W (IntsErr W (x, er)) := fun W hW => by
          have := pbars_a (some ⟨gV, 0, none⟩) cp N lo hi W (by omega) hW
          rw [HM.out, gbars_same HF.out, hbb, ← HM.out, hNL] at this
          exact this
        unfold IntsErr at KB KC
        dsimp only at KB KC
        have hrs := h4.below bT
        have b5 := b4.trans (bT.mono b4.size)
        clear hpp hbb
        go_wp2_with (fail)
        go_at_call 15
        refine (KP _ hrs).mono ?_
        rintro e w6 ⟨rfl, hw6⟩
        have b6 := b5.trans (hw6.mono b5.size)
        have hr6 := hrs.below hw6
        have hM6 := hMS.below hw6
        go_wp2_with (fail)
        go_at_call 15
        refine (KQ _ hM6).mono ?_
        rintro e w7 ⟨rfl, hw7⟩
        have b7 := b6.trans (hw7.mono b6.size)
        have hr7 := hr6.below hw7
        have hM7 := hM6.below hw7
        go_wp2_with (fail)
        go_at_call 17
        refine (KB _ hr7).mono ?_
        rintro e w8 ⟨A8, c8, rfl, I8, hw8⟩
        have b8 := b7.trans (hw8.mono b7.size)
        have hM8 := hM7.below hw8
        go_wp2_with (fail)
        go_at_call 17
        refine (KC _ hM8).mono ?_
        rintro e w9 ⟨A9, c9, rfl, I9, hw9⟩
        have b9 := b8.trans (hw9.mono b8.size)
        have I8 := I8.below hw9
        go_wp2_with (fail)
        go_at_call 19
        refine (same_t A8 A9 x.length x.length c8 c9 x x _ rfl rfl I8 I9 (by omega) (by omega)).mono ?_
        rintro e wa ⟨rfl, hwa⟩
        have ba := b9.trans (hwa.mono b9.size)
        go_wp2_with (fail)
        go_ret
        exact ⟨rfl, ba⟩
      · have h3 : LB < bar := by
          have h1 := HLB.out
          have hq := HQ.out
          obtain rfl : q = j := by omega
          have h2 := HIN.out.1
          have h3 := HE.out
          have h4 := HBTU.out.1
          omega
        have e2 : decide (LB < bar) = true := decide_eq_true h3
        have hMe := (growK_end (m := ⟨bar, T0, U0⟩) hj).2 c2
        rw [← hN.out] at hMe
        obtain ⟨M, hM⟩ : ∃ M, M = N ++ [(⟨bar, T0, U0⟩ : Met)] := ⟨_, rfl⟩
        rw [← hM] at hMe
        have HM := Lib.hid hMe
        have hNL : M.length = p + 1 + 1 := by rw [hM, List.length_append, HP.out]; rfl
        have HMN := Lib.hid hM
        have HNL := Lib.hid hNL
        have m1 : wr.cell? ⟨w3.heap.size, 1, none⟩ = some (.int .i64 T0) := BMr.cell 1
        have m2 : wr.cell? ⟨w3.heap.size, 2, none⟩ = some (.int .i64 U0) := BMr.cell 2
        have hm3 := BMr.lt
        clear hMe h3 c2 hM hNL
        go_wp2_with (first
          | (at_builtin; refine wpList_append_own _ rfl (.tmp 101) (.tmp 108) 22 rfl W4.heap.size 38 i0 (.agg #[.int .i64 0, .int .i64 0, .int .i64 0]) 3 24 Try.underlying22 hi0 hz0 hz1 hz2 rfl (by decide) _ (p + 1) (flat N) rfl (hown.alloc _) ⟨_, 0, none⟩ 1 1 (vals ⟨bar, T0, U0⟩) rfl rfl (cell_new3 (by simp)) (vals_one _) (by simp [maxLen]; omega) (by omega) (by simp; omega) ?_; intro v' w' hown' hgrow _; obtain ⟨V1, cp1, rfl⟩ := own_slice hown'))
        have bT := (hwr.alloc hwr.size _).grown hgrow (by simp; omega) (own_base hown)
        have hNL := HNL.out
        have hMS : SlAt w' V1 M := by
          have e : flat M = flat N ++ vals ⟨bar, T0, U0⟩ := by rw [HMN.out, flat_append]; simp [flat]
          have := own_SlAt (A := V1) (c := cp1) (ns := M) (n := p + 1 + 1) (by rw [e]; exact hown')
          exact this.2
        have hl2 : (p + 1 + 1) ≤ 65 := by omega
        obtain ⟨p1, p2, p3, p4, hpp⟩ : ∃ p1 p2 p3 p4, gPlace ms tick = (p1, p2, p3, p4) := ⟨_, _, _, _, rfl⟩
        obtain ⟨x, er, hbb⟩ : ∃ x er, gBars ms lo hi = (x, er) := ⟨_, _, rfl⟩
        have hxl : x.length ≤ 4096 := by
          have := gBars_few ms lo hi
          rwa [hbb] at this
        have KP : ∀ W, SlAt W (some ⟨b, o, none⟩) ms → Calls Try.prog 15 #[.slice (some ⟨b, o, none⟩) ms.length c, .int .i64 tick] W fun e w' => e = .returned (.tuple #[.int .i64 p1, .int .i64 p2, .int .i64 p3, .int .i64 p4]) ∧ Below W.heap.size W w' := fun W hW => by
          have := pplace_a (some ⟨b, o, none⟩) c ms tick W hn hW
          rw [hpp] at this
          exact this
        have KQ : ∀ W, SlAt W V1 M → Calls Try.prog 15 #[.slice V1 (p + 1 + 1) cp1, .int .i64 tick] W fun e w' => e = .returned (.tuple #[.int .i64 p1, .int .i64 p2, .int .i64 p3, .int .i64 p4]) ∧ Below W.heap.size W w' := fun W hW => by
          have := pplace_a V1 cp1 M tick W (by omega) hW
          rw [HM.out, gplace_same HF.out, hpp, ← HM.out, hNL] at this
          exact this
        have KB : ∀ W, SlAt W (some ⟨b, o, none⟩) ms → Calls Try.prog 17 #[.slice (some ⟨b, o, none⟩) ms.length c, .int .i64 lo, .int .i64 hi] W (IntsErr W (x, er)) := fun W hW => by
          have := pbars_a (some ⟨b, o, none⟩) c ms lo hi W hn hW
          rw [hbb] at this
          exact this
        have KC : ∀ W, SlAt W V1 M → Calls Try.prog 17 #[.slice V1 (p + 1 + 1) cp1, .int .i64 lo, .int .i64 hi] W (IntsErr W (x, er)) := fun W hW => by
          have := pbars_a V1 cp1 M lo hi W (by omega) hW
          rw [HM.out, gbars_same HF.out, hbb, ← HM.out, hNL] at this
          exact this
        unfold IntsErr at KB KC
        dsimp only at KB KC
        have hrs := h4.below bT
        have b5 := b4.trans (bT.mono b4.size)
        clear hpp hbb
        go_wp2_with (fail)
        go_at_call 15
        refine (KP _ hrs).mono ?_
        rintro e w6 ⟨rfl, hw6⟩
        have b6 := b5.trans (hw6.mono b5.size)
        have hr6 := hrs.below hw6
        have hM6 := hMS.below hw6
        go_wp2_with (fail)
        go_at_call 15
        refine (KQ _ hM6).mono ?_
        rintro e w7 ⟨rfl, hw7⟩
        have b7 := b6.trans (hw7.mono b6.size)
        have hr7 := hr6.below hw7
        have hM7 := hM6.below hw7
        go_wp2_with (fail)
        go_at_call 17
        refine (KB _ hr7).mono ?_
        rintro e w8 ⟨A8, c8, rfl, I8, hw8⟩
        have b8 := b7.trans (hw8.mono b7.size)
        have hM8 := hM7.below hw8
        go_wp2_with (fail)
        go_at_call 17
        refine (KC _ hM8).mono ?_
        rintro e w9 ⟨A9, c9, rfl, I9, hw9⟩
        have b9 := b8.trans (hw9.mono b8.size)
        have I8 := I8.below hw9
        go_wp2_with (fail)
        go_at_call 19
        refine (same_t A8 A9 x.length x.length c8 c9 x x _ rfl rfl I8 I9 (by omega) (by omega)).mono ?_
        rintro e wa ⟨rfl, hwa⟩
        have ba := b9.trans (hwa.mono b9.size)
        go_wp2_with (fail)
        go_ret
        exact ⟨rfl, ba⟩
end Go.Proofs.Ytdphnlcppaaccaa
