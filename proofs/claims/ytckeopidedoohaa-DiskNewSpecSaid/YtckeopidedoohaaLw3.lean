/-
  DiskNewSpec walked: it answers true.
-/
import Derived.Test.YtckeopidedoohaaLw9
import Derived.Deep.RegionHeld3
namespace Go.Proofs.Ytckeopidedoohaa
open Go.RowKit
variable {n₀ : Nat}
attribute [local go_sem] Oper.semAt_some

theorem new_small (s : Int) (h : ¬ (60 < s ∧ s ≤ 4096)) : (gNew s).1.secs.length ≤ 60 ∧ (gNew s).1.pend.length ≤ 1 := by
  unfold gNew
  split
  · exact ⟨Nat.zero_le _, Nat.zero_le _⟩
  · simp
    omega

set_option maxRecDepth 20000 in
set_option maxHeartbeats 8000000 in
theorem newSpec_t (SA PA : Option Addr) (sc pc : Nat) (d : Dk) (s : Int) (w : World) (hn : n₀ ≤ w.heap.size) (hre : Reach d) (hcs : d.secs.length ≤ sc) (hcp : d.pend.length ≤ pc) (r0 : RowsAt n₀ w SA d.secs) (q0 : WrsAt n₀ w PA d.pend) :
    Calls Try.prog 3 #[.int .i64 s, .agg #[.slice SA d.secs.length sc, .slice PA d.pend.length pc, .int .i64 d.left, .bool d.stop]] w (Yes w) := by
  obtain ⟨hl1, hl2⟩ := reach_le hre
  have HRE := Lib.hid hre
  clear hre
  by_cases hs : 60 < s ∧ s ≤ 4096
  case pos =>
    have e1 : decide (60 < s) = true := decide_eq_true hs.1
    have e2 : decide (s ≤ 4096) = true := decide_eq_true hs.2
    clear hs
    go_enter Try.func3, Try.ntmps3
    go_wp2_with (fail)
    obtain ⟨W1, hW1⟩ : ∃ W, W = w.alloc (.cells #[.slice SA d.secs.length sc, .slice PA d.pend.length pc, .int .i64 d.left, .bool d.stop] 25) := ⟨_, rfl⟩
    rw [← hW1]
    have hb : Below w.heap.size w W1 := by rw [hW1]; exact (Below.refl _ _).alloc (Nat.le_refl _) _
    have x3 : Blk W1 w.heap.size 25 #[.slice SA d.secs.length sc, .slice PA d.pend.length pc, .int .i64 d.left, .bool d.stop] := by rw [hW1]; exact Blk.new w 25 _
    clear hW1
    replace r0 := r0.below hb
    replace q0 := q0.below hb
    have hw := hb
    clear hb
    have K : Calls Try.prog 23 #[] W1 (fun e w' => e = .returned (.bool true) ∧ Below W1.heap.size W1 w') := sane_t W1
    go_at_call 23
    refine K.mono ?_
    rintro e w2 ⟨rfl, hb⟩
    clear K
    replace r0 := r0.below hb
    replace q0 := q0.below hb
    replace x3 := x3.below hb x3.lt
    replace hw := hw.trans (hb.mono hw.size)
    clear hb
    go_wp2
    go_ret
    exact ⟨rfl, hw⟩
  have hsm := new_small s hs
  obtain ⟨⟨x, ex⟩, hgw⟩ : ∃ r, r = gNew s := ⟨_, rfl⟩
  rw [← hgw] at hsm
  obtain ⟨hx1, hx2⟩ := hsm
  have HGW := Lib.hid hgw
  dsimp only at hx1 hx2
  clear hgw
  obtain ⟨gc, hgc⟩ : ∃ r, r = gChk d := ⟨_, rfl⟩
  have HGC := Lib.hid hgc
  clear hgc
  obtain ⟨p, hp, hpw⟩ : ∃ p, p = decide (60 < s) ∧ (p = true → decide (s ≤ 4096) = false) := ⟨_, rfl, fun h => decide_eq_false (fun h2 => hs ⟨of_decide_eq_true h, h2⟩)⟩
  have e1 := hp.symm
  clear hs hp
  cases p
  all_goals
    first | (have e2 := hpw rfl; clear hpw) | clear hpw
    go_enter Try.func3, Try.ntmps3
    go_wp2_with (fail)
    obtain ⟨W1, hW1⟩ : ∃ W, W = w.alloc (.cells #[.slice SA d.secs.length sc, .slice PA d.pend.length pc, .int .i64 d.left, .bool d.stop] 25) := ⟨_, rfl⟩
    rw [← hW1]
    have hb : Below w.heap.size w W1 := by rw [hW1]; exact (Below.refl _ _).alloc (Nat.le_refl _) _
    have x3 : Blk W1 w.heap.size 25 #[.slice SA d.secs.length sc, .slice PA d.pend.length pc, .int .i64 d.left, .bool d.stop] := by rw [hW1]; exact Blk.new w 25 _
    clear hW1
    replace r0 := r0.below hb
    replace q0 := q0.below hb
    have hw := hb
    clear hb
    have K : Calls Try.prog 23 #[] W1 (fun e w' => e = .returned (.bool true) ∧ Below W1.heap.size W1 w') := sane_t W1
    go_at_call 23
    refine K.mono ?_
    rintro e w2 ⟨rfl, hb⟩
    clear K
    replace r0 := r0.below hb
    replace q0 := q0.below hb
    replace x3 := x3.below hb x3.lt
    replace hw := hw.trans (hb.mono hw.size)
    clear hb
    have x3c0 := x3.cell 0
    have x3c1 := x3.cell 1
    have x3c2 := x3.cell 2
    have x3c3 := x3.cell 3
    simp only [List.getElem?_toArray, List.getElem?_cons_zero, List.getElem?_cons_succ] at x3c0 x3c1 x3c2 x3c3
    have x3l := x3.lt
    go_wp2_with (fail)
    have K : Calls Try.prog 24 #[.agg #[.slice SA d.secs.length sc, .slice PA d.pend.length pc, .int .i64 d.left, .bool d.stop]] w2 (FewIs w2 d) := few_t SA PA sc pc d w2 HRE.out r0 q0
    go_at_call 24
    refine K.mono ?_
    rintro e w3 ⟨y, rfl, hy, hb⟩
    clear K
    replace r0 := r0.below hb
    replace q0 := q0.below hb
    replace x3 := x3.below hb x3.lt
    replace hw := hw.trans (hb.mono hw.size)
    clear x3c0 x3c1 x3c2 x3c3 x3l
    clear hb
    cases y
    case false =>
      go_wp2
      go_ret
      exact ⟨rfl, hw⟩
    obtain ⟨hy1, hy2⟩ := hy rfl
    clear hy
    go_wp2_with (fail)
    have K : Calls Try.prog 25 #[.int .i64 s] w3 (DkIs n₀ w3 ((x, ex))) := by rw [HGW.out]; exact new_t s w3
    go_at_call 25
    refine K.mono ?_
    rintro e w4 ⟨v5, rfl, ⟨S5, s5, P5, p5, rfl, hs5, hp5, r5, q5⟩, hb⟩
    clear K
    replace r0 := r0.below hb
    replace q0 := q0.below hb
    replace x3 := x3.below hb x3.lt
    replace hw := hw.trans (hb.mono hw.size)
    clear hb
    go_upto_region 6 with (fail)
    obtain ⟨W5, hW5⟩ : ∃ W, W = w4.alloc (.cells #[.slice S5 x.secs.length s5, .slice P5 x.pend.length p5, .int .i64 x.left, .bool x.stop] 25) := ⟨_, rfl⟩
    rw [← hW5]
    have hb : Below w4.heap.size w4 W5 := by rw [hW5]; exact (Below.refl _ _).alloc (Nat.le_refl _) _
    have x5 : Blk W5 w4.heap.size 25 #[.slice S5 x.secs.length s5, .slice P5 x.pend.length p5, .int .i64 x.left, .bool x.stop] := by rw [hW5]; exact Blk.new w4 25 _
    clear hW5
    replace r0 := r0.below hb
    replace q0 := q0.below hb
    replace r5 := r5.below hb
    replace q5 := q5.below hb
    replace x3 := x3.below hb x3.lt
    replace hw := hw.trans (hb.mono hw.size)
    clear hb
    go_wp2_with (fail)
    have K : Calls Try.prog 26 #[.int .i64 s] W5 (DkIs n₀ W5 ((x, ex))) := by rw [HGW.out]; exact rnew_t s W5
    go_at_call 26
    refine K.mono ?_
    rintro e w6 ⟨v7, rfl, ⟨S7, s7, P7, p7, rfl, hs7, hp7, r7, q7⟩, hb⟩
    clear K
    replace r0 := r0.below hb
    replace q0 := q0.below hb
    replace r5 := r5.below hb
    replace q5 := q5.below hb
    replace x3 := x3.below hb x3.lt
    replace x5 := x5.below hb x5.lt
    replace hw := hw.trans (hb.mono hw.size)
    clear hb
    go_upto_region 7 with (fail)
    obtain ⟨W7, hW7⟩ : ∃ W, W = w6.alloc (.cells #[.slice S7 x.secs.length s7, .slice P7 x.pend.length p7, .int .i64 x.left, .bool x.stop] 25) := ⟨_, rfl⟩
    rw [← hW7]
    have hb : Below w6.heap.size w6 W7 := by rw [hW7]; exact (Below.refl _ _).alloc (Nat.le_refl _) _
    have x7 : Blk W7 w6.heap.size 25 #[.slice S7 x.secs.length s7, .slice P7 x.pend.length p7, .int .i64 x.left, .bool x.stop] := by rw [hW7]; exact Blk.new w6 25 _
    clear hW7
    replace r0 := r0.below hb
    replace q0 := q0.below hb
    replace r5 := r5.below hb
    replace q5 := q5.below hb
    replace r7 := r7.below hb
    replace q7 := q7.below hb
    replace x3 := x3.below hb x3.lt
    replace x5 := x5.below hb x5.lt
    replace hw := hw.trans (hb.mono hw.size)
    clear hb
    have hb : Below W7.heap.size W7 W7.drew := (Below.refl _ _).drew
    replace r0 := r0.below hb
    replace q0 := q0.below hb
    replace r5 := r5.below hb
    replace q5 := q5.below hb
    replace r7 := r7.below hb
    replace q7 := q7.below hb
    replace x3 := x3.below hb x3.lt
    replace x5 := x5.below hb x5.lt
    replace x7 := x7.below hb x7.lt
    replace hw := hw.trans (hb.mono hw.size)
    clear hb
    have x3c0 := x3.cell 0
    have x3c1 := x3.cell 1
    have x3c2 := x3.cell 2
    have x3c3 := x3.cell 3
    simp only [List.getElem?_toArray, List.getElem?_cons_zero, List.getElem?_cons_succ] at x3c0 x3c1 x3c2 x3c3
    have x3l := x3.lt
    have x5c0 := x5.cell 0
    have x5c1 := x5.cell 1
    have x5c2 := x5.cell 2
    have x5c3 := x5.cell 3
    simp only [List.getElem?_toArray, List.getElem?_cons_zero, List.getElem?_cons_succ] at x5c0 x5c1 x5c2 x5c3
    have x5l := x5.lt
    have x7c0 := x7.cell 0
    have x7c1 := x7.cell 1
    have x7c2 := x7.cell 2
    have x7c3 := x7.cell 3
    simp only [List.getElem?_toArray, List.getElem?_cons_zero, List.getElem?_cons_succ] at x7c0 x7c1 x7c2 x7c3
    have x7l := x7.lt
    go_region_held3 (fun W => W.cell? ⟨w.heap.size, 0, none⟩ = some (.slice SA d.secs.length sc) ∧ W.cell? ⟨w.heap.size, 1, none⟩ = some (.slice PA d.pend.length pc) ∧ W.cell? ⟨w.heap.size, 2, none⟩ = some (.int .i64 d.left) ∧ W.cell? ⟨w.heap.size, 3, none⟩ = some (.bool d.stop) ∧ W.cell? ⟨w4.heap.size, 0, none⟩ = some (.slice S5 x.secs.length s5) ∧ W.cell? ⟨w4.heap.size, 1, none⟩ = some (.slice P5 x.pend.length p5) ∧ W.cell? ⟨w4.heap.size, 2, none⟩ = some (.int .i64 x.left) ∧ W.cell? ⟨w4.heap.size, 3, none⟩ = some (.bool x.stop) ∧ W.cell? ⟨w6.heap.size, 0, none⟩ = some (.slice S7 x.secs.length s7) ∧ W.cell? ⟨w6.heap.size, 1, none⟩ = some (.slice P7 x.pend.length p7) ∧ W.cell? ⟨w6.heap.size, 2, none⟩ = some (.int .i64 x.left) ∧ W.cell? ⟨w6.heap.size, 3, none⟩ = some (.bool x.stop)) (exact ⟨x3c0, x3c1, x3c2, x3c3, x5c0, x5c1, x5c2, x5c3, x7c0, x7c1, x7c2, x7c3⟩) (first
        | (go_at_call_of 27 S5; refine (same_t S5 P5 S7 P7 s5 p5 s7 p7 x.secs.length x.pend.length x.secs.length x.pend.length x x _ rfl rfl rfl rfl (by omega) (by omega) (by omega) (by omega) r5 q5 r7 q7).mono ?_; rintro e wa ⟨rfl, hb⟩; rw [same_yes rfl]; replace r0 := r0.below hb; replace q0 := q0.below hb; replace r5 := r5.below hb; replace q5 := q5.below hb; replace r7 := r7.below hb; replace q7 := q7.below hb; replace x3 := Blk.below x3 hb x3.lt; replace x5 := Blk.below x5 hb x5.lt; replace x7 := Blk.below x7 hb x7.lt; replace hw := hw.trans (hb.mono hw.size); replace x3c0 := x3.cell 0; replace x3c1 := x3.cell 1; replace x3c2 := x3.cell 2; replace x3c3 := x3.cell 3; replace x5c0 := x5.cell 0; replace x5c1 := x5.cell 1; replace x5c2 := x5.cell 2; replace x5c3 := x5.cell 3; replace x7c0 := x7.cell 0; replace x7c1 := x7.cell 1; replace x7c2 := x7.cell 2; replace x7c3 := x7.cell 3; simp only [List.getElem?_toArray, List.getElem?_cons_zero, List.getElem?_cons_succ] at x3c0 x3c1 x3c2 x3c3 x5c0 x5c1 x5c2 x5c3 x7c0 x7c1 x7c2 x7c3; clear hb)
        | (go_at_call 28; refine (check_t SA PA sc pc d _ hl1 hl2 r0 q0).mono ?_; rintro e wb ⟨rfl, hb⟩; rw [← HGC.out]; replace r0 := r0.below hb; replace q0 := q0.below hb; replace r5 := r5.below hb; replace q5 := q5.below hb; replace r7 := r7.below hb; replace q7 := q7.below hb; replace x3 := Blk.below x3 hb x3.lt; replace x5 := Blk.below x5 hb x5.lt; replace x7 := Blk.below x7 hb x7.lt; replace hw := hw.trans (hb.mono hw.size); replace x3c0 := x3.cell 0; replace x3c1 := x3.cell 1; replace x3c2 := x3.cell 2; replace x3c3 := x3.cell 3; replace x5c0 := x5.cell 0; replace x5c1 := x5.cell 1; replace x5c2 := x5.cell 2; replace x5c3 := x5.cell 3; replace x7c0 := x7.cell 0; replace x7c1 := x7.cell 1; replace x7c2 := x7.cell 2; replace x7c3 := x7.cell 3; simp only [List.getElem?_toArray, List.getElem?_cons_zero, List.getElem?_cons_succ] at x3c0 x3c1 x3c2 x3c3 x5c0 x5c1 x5c2 x5c3 x7c0 x7c1 x7c2 x7c3; clear hb)
        | (go_at_call 29; refine (rcheck_t SA PA sc pc d _ hl1 hl2 r0 q0).mono ?_; rintro e wd ⟨rfl, hb⟩; rw [← HGC.out]; replace r0 := r0.below hb; replace q0 := q0.below hb; replace r5 := r5.below hb; replace q5 := q5.below hb; replace r7 := r7.below hb; replace q7 := q7.below hb; replace x3 := Blk.below x3 hb x3.lt; replace x5 := Blk.below x5 hb x5.lt; replace x7 := Blk.below x7 hb x7.lt; replace hw := hw.trans (hb.mono hw.size); replace x3c0 := x3.cell 0; replace x3c1 := x3.cell 1; replace x3c2 := x3.cell 2; replace x3c3 := x3.cell 3; replace x5c0 := x5.cell 0; replace x5c1 := x5.cell 1; replace x5c2 := x5.cell 2; replace x5c3 := x5.cell 3; replace x7c0 := x7.cell 0; replace x7c1 := x7.cell 1; replace x7c2 := x7.cell 2; replace x7c3 := x7.cell 3; simp only [List.getElem?_toArray, List.getElem?_cons_zero, List.getElem?_cons_succ] at x3c0 x3c1 x3c2 x3c3 x5c0 x5c1 x5c2 x5c3 x7c0 x7c1 x7c2 x7c3; clear hb)
        | (go_at_call 30; refine (restart_t SA PA sc pc d _).mono ?_; rintro e we ⟨rfl, hb⟩; replace r0 := r0.below hb; replace q0 := q0.below hb; replace r5 := r5.below hb; replace q5 := q5.below hb; replace r7 := r7.below hb; replace q7 := q7.below hb; replace x3 := Blk.below x3 hb x3.lt; replace x5 := Blk.below x5 hb x5.lt; replace x7 := Blk.below x7 hb x7.lt; replace hw := hw.trans (hb.mono hw.size); replace x3c0 := x3.cell 0; replace x3c1 := x3.cell 1; replace x3c2 := x3.cell 2; replace x3c3 := x3.cell 3; replace x5c0 := x5.cell 0; replace x5c1 := x5.cell 1; replace x5c2 := x5.cell 2; replace x5c3 := x5.cell 3; replace x7c0 := x7.cell 0; replace x7c1 := x7.cell 1; replace x7c2 := x7.cell 2; replace x7c3 := x7.cell 3; simp only [List.getElem?_toArray, List.getElem?_cons_zero, List.getElem?_cons_succ] at x3c0 x3c1 x3c2 x3c3 x5c0 x5c1 x5c2 x5c3 x7c0 x7c1 x7c2 x7c3; clear hb)
        | (go_at_call 31; refine (rrestart_t SA PA sc pc d _).mono ?_; rintro e wf ⟨rfl, hb⟩; replace r0 := r0.below hb; replace q0 := q0.below hb; replace r5 := r5.below hb; replace q5 := q5.below hb; replace r7 := r7.below hb; replace q7 := q7.below hb; replace x3 := Blk.below x3 hb x3.lt; replace x5 := Blk.below x5 hb x5.lt; replace x7 := Blk.below x7 hb x7.lt; replace hw := hw.trans (hb.mono hw.size); replace x3c0 := x3.cell 0; replace x3c1 := x3.cell 1; replace x3c2 := x3.cell 2; replace x3c3 := x3.cell 3; replace x5c0 := x5.cell 0; replace x5c1 := x5.cell 1; replace x5c2 := x5.cell 2; replace x5c3 := x5.cell 3; replace x7c0 := x7.cell 0; replace x7c1 := x7.cell 1; replace x7c2 := x7.cell 2; replace x7c3 := x7.cell 3; simp only [List.getElem?_toArray, List.getElem?_cons_zero, List.getElem?_cons_succ] at x3c0 x3c1 x3c2 x3c3 x5c0 x5c1 x5c2 x5c3 x7c0 x7c1 x7c2 x7c3; clear hb)
        | (go_at_call 27; refine (same_t SA none SA none sc 0 sc 0 d.secs.length 0 d.secs.length 0 (gRestart d) (gRestart d) _ rfl rfl rfl rfl hl1 (by decide) hl1 (by decide) r0 (WrsAt.nil _ _) r0 (WrsAt.nil _ _)).mono ?_; rintro e wg ⟨rfl, hb⟩; rw [same_yes rfl]; replace r0 := r0.below hb; replace q0 := q0.below hb; replace r5 := r5.below hb; replace q5 := q5.below hb; replace r7 := r7.below hb; replace q7 := q7.below hb; replace x3 := Blk.below x3 hb x3.lt; replace x5 := Blk.below x5 hb x5.lt; replace x7 := Blk.below x7 hb x7.lt; replace hw := hw.trans (hb.mono hw.size); replace x3c0 := x3.cell 0; replace x3c1 := x3.cell 1; replace x3c2 := x3.cell 2; replace x3c3 := x3.cell 3; replace x5c0 := x5.cell 0; replace x5c1 := x5.cell 1; replace x5c2 := x5.cell 2; replace x5c3 := x5.cell 3; replace x7c0 := x7.cell 0; replace x7c1 := x7.cell 1; replace x7c2 := x7.cell 2; replace x7c3 := x7.cell 3; simp only [List.getElem?_toArray, List.getElem?_cons_zero, List.getElem?_cons_succ] at x3c0 x3c1 x3c2 x3c3 x5c0 x5c1 x5c2 x5c3 x7c0 x7c1 x7c2 x7c3; clear hb))
    go_wp2
    go_ret
    exact ⟨rfl, hw⟩
end Go.Proofs.Ytckeopidedoohaa
