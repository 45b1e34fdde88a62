/-
  Stop of a disk, the program's and the reference's. Conditions: the disk lies as plain data.
-/
import Derived.Test.YtckeopidedoohaaDref
namespace Go.Proofs.Ytckeopidedoohaa
open Go.RowKit
variable {n₀ : Nat}
attribute [local go_sem] Oper.semAt_some

theorem dkV_mk {w : World} {SA PA : Option Addr} {sc pc : Nat} {d : Dk} (hc1 : d.secs.length ≤ sc) (hc2 : d.pend.length ≤ pc) (h1 : RowsAt n₀ w SA d.secs) (h2 : WrsAt n₀ w PA d.pend) : DkV n₀ w (.agg #[.slice SA d.secs.length sc, .slice PA d.pend.length pc, .int .i64 d.left, .bool d.stop]) d := ⟨SA, sc, PA, pc, rfl, hc1, hc2, h1, h2⟩
theorem gStop_no {d : Dk} {left : Int} (h : ¬ Runs d) : gStop d left = (dk0, 40) := by unfold gStop; rw [if_pos h]
theorem gStop_arg {d : Dk} {left : Int} (h : Runs d) (h2 : left < 0 ∨ 65536 < left) : gStop d left = (dk0, 1) := by unfold gStop; rw [if_neg (not_not_intro h), if_pos h2]
theorem gStop_ok {d : Dk} {left : Int} (h : Runs d) (h2 : ¬ (left < 0 ∨ 65536 < left)) : gStop d left = ({ d with left := left }, 0) := by unfold gStop; rw [if_neg (not_not_intro h), if_neg h2]
theorem runs_no1 {d : Dk} (h : gChk d ≠ 0) : ¬ Runs d := fun hr => h (chk_yes hr.1)
theorem runs_no2 {d : Dk} (h : d.stop = true) : ¬ Runs d := fun hr => by rw [hr.2] at h; cases h
theorem runs_yes {d : Dk} (h : gChk d = 0) (hs : d.stop = false) : Runs d := ⟨by
  unfold gChk at h
  split at h
  · assumption
  · simp at h, hs⟩
theorem dk_end {w W : World} {v : Value} {d : Dk} {e : Int} (h : ∀ W, Below w.heap.size w W → DkV n₀ W v d) (hb : Below w.heap.size w W) : DkIs n₀ w (d, e) (.returned (.tuple #[v, .int .i64 e])) W := ⟨v, rfl, h W hb, hb⟩

set_option maxHeartbeats 2000000 in
theorem stop_t (SA PA : Option Addr) (sc pc : Nat) (d : Dk) (left : Int) (w : World) (hl1 : d.secs.length ≤ 140737488355328) (hl2 : d.pend.length ≤ 140737488355328) (hc1 : d.secs.length ≤ sc) (hc2 : d.pend.length ≤ pc) (h1 : RowsAt n₀ w SA d.secs) (h2 : WrsAt n₀ w PA d.pend) :
    Calls Try.prog 38 #[.agg #[.slice SA d.secs.length sc, .slice PA d.pend.length pc, .int .i64 d.left, .bool d.stop], .int .i64 left] w (DkIs n₀ w (gStop d left)) := by
  obtain ⟨secs, pend, lf, st⟩ := d
  dsimp only at hl1 hl2 hc1 hc2 h1 h2 ⊢
  cases st
  case true =>
    have HBx : Below w.heap.size w ((w.alloc (.cells #[.slice SA secs.length sc, .slice PA pend.length pc, .int .i64 lf, .bool true] 25)).alloc (.cells #[.slice none 0 0, .slice none 0 0, .int .i64 0, .bool false] 25)) := ((Below.refl _ w).alloc (Nat.le_refl _) _).alloc (by simp) _
    have b0 : Blk ((w.alloc (.cells #[.slice SA secs.length sc, .slice PA pend.length pc, .int .i64 lf, .bool true] 25)).alloc (.cells #[.slice none 0 0, .slice none 0 0, .int .i64 0, .bool false] 25)) w.heap.size 25 #[.slice SA secs.length sc, .slice PA pend.length pc, .int .i64 lf, .bool true] := (Blk.new w 25 _).alloc _
    have b1 : Blk ((w.alloc (.cells #[.slice SA secs.length sc, .slice PA pend.length pc, .int .i64 lf, .bool true] 25)).alloc (.cells #[.slice none 0 0, .slice none 0 0, .int .i64 0, .bool false] 25)) (w.heap.size + 1) 25 #[.slice none 0 0, .slice none 0 0, .int .i64 0, .bool false] := Blk.newAt (by simp) 25 _
    have K := runs_t SA PA sc pc (⟨secs, pend, lf, true⟩ : Dk) _ hl1 hl2 (h1.below HBx) (h2.below HBx)
    have E := Lib.hid (gStop_no (d := (⟨secs, pend, lf, true⟩ : Dk)) (left := left) (runs_no2 rfl))
    have hy : ((gChk (⟨secs, pend, lf, true⟩ : Dk) == 0) && !true) = false := by simp
    dsimp only at K
    rw [hy] at K
    clear hy
    go_enter Try.func38, Try.ntmps38
    go_wp2_with (fail)
    go_at_call 74
    refine K.mono ?_
    rintro e w2 ⟨rfl, hw2⟩
    have hb2 := HBx.trans (hw2.mono (by simp <;> omega))
    have x0 := b0.below hw2 b0.lt
    have x1 := b1.below hw2 b1.lt
    have y0 := x0.cell 0
    have y1 := x0.cell 1
    have y2 := x0.cell 2
    have y3 := x0.cell 3
    have z0 := x1.cell 0
    have z1 := x1.cell 1
    have z2 := x1.cell 2
    have z3 := x1.cell 3
    have yf := x0.frozen 2
    have zf0 := x1.frozen 0
    have zf1 := x1.frozen 1
    have zf2 := x1.frozen 2
    have zf3 := x1.frozen 3
    simp only [List.getElem?_toArray, List.getElem?_cons_zero, List.getElem?_cons_succ] at y0 y1 y2 y3 z0 z1 z2 z3
    have lx0 := x0.lt
    have lx1 := x1.lt
    clear x0 x1 b0 b1 HBx hw2
    go_wp2
    refine bodyPost_ret (v := .tuple #[.agg #[.slice none 0 0, .slice none 0 0, .int .i64 0, .bool false], .int .i64 40]) (by simp [results, Try.results38, go_sem, z0, z1, z2, z3]) rfl ?_
    rw [E.out]
    refine dk_end (fun W BB => dk0V W) (by repeat (first | refine Below.setCell ?_ (by simp <;> omega) _ | exact hb2))
  case false =>
    have HBx : Below w.heap.size w ((w.alloc (.cells #[.slice SA secs.length sc, .slice PA pend.length pc, .int .i64 lf, .bool false] 25)).alloc (.cells #[.slice none 0 0, .slice none 0 0, .int .i64 0, .bool false] 25)) := ((Below.refl _ w).alloc (Nat.le_refl _) _).alloc (by simp) _
    have b0 : Blk ((w.alloc (.cells #[.slice SA secs.length sc, .slice PA pend.length pc, .int .i64 lf, .bool false] 25)).alloc (.cells #[.slice none 0 0, .slice none 0 0, .int .i64 0, .bool false] 25)) w.heap.size 25 #[.slice SA secs.length sc, .slice PA pend.length pc, .int .i64 lf, .bool false] := (Blk.new w 25 _).alloc _
    have b1 : Blk ((w.alloc (.cells #[.slice SA secs.length sc, .slice PA pend.length pc, .int .i64 lf, .bool false] 25)).alloc (.cells #[.slice none 0 0, .slice none 0 0, .int .i64 0, .bool false] 25)) (w.heap.size + 1) 25 #[.slice none 0 0, .slice none 0 0, .int .i64 0, .bool false] := Blk.newAt (by simp) 25 _
    have K := runs_t SA PA sc pc (⟨secs, pend, lf, false⟩ : Dk) _ hl1 hl2 (h1.below HBx) (h2.below HBx)
    by_cases c1 : gChk (⟨secs, pend, lf, false⟩ : Dk) = 0
    case neg =>
      have E := Lib.hid (gStop_no (d := (⟨secs, pend, lf, false⟩ : Dk)) (left := left) (runs_no1 c1))
      have hy : ((gChk (⟨secs, pend, lf, false⟩ : Dk) == 0) && !false) = false := by rw [beq_eq_false_iff_ne.2 c1]; rfl
      dsimp only at K
      rw [hy] at K
      clear hy c1
      go_enter Try.func38, Try.ntmps38
      go_wp2_with (fail)
      go_at_call 74
      refine K.mono ?_
      rintro e w2 ⟨rfl, hw2⟩
      have hb2 := HBx.trans (hw2.mono (by simp <;> omega))
      have x0 := b0.below hw2 b0.lt
      have x1 := b1.below hw2 b1.lt
      have y0 := x0.cell 0
      have y1 := x0.cell 1
      have y2 := x0.cell 2
      have y3 := x0.cell 3
      have z0 := x1.cell 0
      have z1 := x1.cell 1
      have z2 := x1.cell 2
      have z3 := x1.cell 3
      have yf := x0.frozen 2
      have zf0 := x1.frozen 0
      have zf1 := x1.frozen 1
      have zf2 := x1.frozen 2
      have zf3 := x1.frozen 3
      simp only [List.getElem?_toArray, List.getElem?_cons_zero, List.getElem?_cons_succ] at y0 y1 y2 y3 z0 z1 z2 z3
      have lx0 := x0.lt
      have lx1 := x1.lt
      clear x0 x1 b0 b1 HBx hw2
      go_wp2
      refine bodyPost_ret (v := .tuple #[.agg #[.slice none 0 0, .slice none 0 0, .int .i64 0, .bool false], .int .i64 40]) (by simp [results, Try.results38, go_sem, z0, z1, z2, z3]) rfl ?_
      rw [E.out]
      refine dk_end (fun W BB => dk0V W) (by repeat (first | refine Below.setCell ?_ (by simp <;> omega) _ | exact hb2))
    have hr := runs_yes c1 rfl
    have hy : ((gChk (⟨secs, pend, lf, false⟩ : Dk) == 0) && !false) = true := by rw [c1]; rfl
    dsimp only at K
    rw [hy] at K
    clear hy
    clear c1
    by_cases q1 : left < 0
    · have E := Lib.hid (gStop_arg (d := (⟨secs, pend, lf, false⟩ : Dk)) (left := left) hr (.inl q1))
      have d1 : decide (left < 0) = true := decide_eq_true q1
      clear q1 hr
      go_enter Try.func38, Try.ntmps38
      go_wp2_with (fail)
      go_at_call 74
      refine K.mono ?_
      rintro e w2 ⟨rfl, hw2⟩
      have hb2 := HBx.trans (hw2.mono (by simp <;> omega))
      have x0 := b0.below hw2 b0.lt
      have x1 := b1.below hw2 b1.lt
      have y0 := x0.cell 0
      have y1 := x0.cell 1
      have y2 := x0.cell 2
      have y3 := x0.cell 3
      have z0 := x1.cell 0
      have z1 := x1.cell 1
      have z2 := x1.cell 2
      have z3 := x1.cell 3
      have yf := x0.frozen 2
      have zf0 := x1.frozen 0
      have zf1 := x1.frozen 1
      have zf2 := x1.frozen 2
      have zf3 := x1.frozen 3
      simp only [List.getElem?_toArray, List.getElem?_cons_zero, List.getElem?_cons_succ] at y0 y1 y2 y3 z0 z1 z2 z3
      have lx0 := x0.lt
      have lx1 := x1.lt
      clear x0 x1 b0 b1 HBx hw2
      go_wp2
      refine bodyPost_ret (v := .tuple #[.agg #[.slice none 0 0, .slice none 0 0, .int .i64 0, .bool false], .int .i64 1]) (by simp [results, Try.results38, go_sem, z0, z1, z2, z3]) rfl ?_
      rw [E.out]
      refine dk_end (fun W BB => dk0V W) (by repeat (first | refine Below.setCell ?_ (by simp <;> omega) _ | exact hb2))
    have d1 : decide (left < 0) = false := decide_eq_false q1
    by_cases q2 : 65536 < left
    · have E := Lib.hid (gStop_arg (d := (⟨secs, pend, lf, false⟩ : Dk)) (left := left) hr (.inr q2))
      have d2 : decide (65536 < left) = true := decide_eq_true q2
      clear q1 q2 hr
      go_enter Try.func38, Try.ntmps38
      go_wp2_with (fail)
      go_at_call 74
      refine K.mono ?_
      rintro e w2 ⟨rfl, hw2⟩
      have hb2 := HBx.trans (hw2.mono (by simp <;> omega))
      have x0 := b0.below hw2 b0.lt
      have x1 := b1.below hw2 b1.lt
      have y0 := x0.cell 0
      have y1 := x0.cell 1
      have y2 := x0.cell 2
      have y3 := x0.cell 3
      have z0 := x1.cell 0
      have z1 := x1.cell 1
      have z2 := x1.cell 2
      have z3 := x1.cell 3
      have yf := x0.frozen 2
      have zf0 := x1.frozen 0
      have zf1 := x1.frozen 1
      have zf2 := x1.frozen 2
      have zf3 := x1.frozen 3
      simp only [List.getElem?_toArray, List.getElem?_cons_zero, List.getElem?_cons_succ] at y0 y1 y2 y3 z0 z1 z2 z3
      have lx0 := x0.lt
      have lx1 := x1.lt
      clear x0 x1 b0 b1 HBx hw2
      go_wp2
      refine bodyPost_ret (v := .tuple #[.agg #[.slice none 0 0, .slice none 0 0, .int .i64 0, .bool false], .int .i64 1]) (by simp [results, Try.results38, go_sem, z0, z1, z2, z3]) rfl ?_
      rw [E.out]
      refine dk_end (fun W BB => dk0V W) (by repeat (first | refine Below.setCell ?_ (by simp <;> omega) _ | exact hb2))
    have d2 : decide (65536 < left) = false := decide_eq_false q2
    have E := Lib.hid (gStop_ok (d := (⟨secs, pend, lf, false⟩ : Dk)) (left := left) hr (by omega))
    clear q1 q2 hr
    go_enter Try.func38, Try.ntmps38
    go_wp2_with (fail)
    go_at_call 74
    refine K.mono ?_
    rintro e w2 ⟨rfl, hw2⟩
    have hb2 := HBx.trans (hw2.mono (by simp <;> omega))
    have x0 := b0.below hw2 b0.lt
    have x1 := b1.below hw2 b1.lt
    have y0 := x0.cell 0
    have y1 := x0.cell 1
    have y2 := x0.cell 2
    have y3 := x0.cell 3
    have z0 := x1.cell 0
    have z1 := x1.cell 1
    have z2 := x1.cell 2
    have z3 := x1.cell 3
    have yf := x0.frozen 2
    have zf0 := x1.frozen 0
    have zf1 := x1.frozen 1
    have zf2 := x1.frozen 2
    have zf3 := x1.frozen 3
    simp only [List.getElem?_toArray, List.getElem?_cons_zero, List.getElem?_cons_succ] at y0 y1 y2 y3 z0 z1 z2 z3
    have lx0 := x0.lt
    have lx1 := x1.lt
    clear x0 x1 b0 b1 HBx hw2
    go_wp2
    refine bodyPost_ret (v := .tuple #[.agg #[.slice SA secs.length sc, .slice PA pend.length pc, .int .i64 left, .bool false], .int .i64 0]) (by simp [results, Try.results38, go_sem, z0, z1, z2, z3]) rfl ?_
    rw [E.out]
    refine dk_end (fun W BB => dkV_mk (d := ⟨secs, pend, left, false⟩) hc1 hc2 (h1.below BB) (h2.below BB)) (by repeat (first | refine Below.setCell ?_ (by simp <;> omega) _ | exact hb2))

set_option maxHeartbeats 2000000 in
theorem rstop_t (SA PA : Option Addr) (sc pc : Nat) (d : Dk) (left : Int) (w : World) (hl1 : d.secs.length ≤ 140737488355328) (hl2 : d.pend.length ≤ 140737488355328) (hc1 : d.secs.length ≤ sc) (hc2 : d.pend.length ≤ pc) (h1 : RowsAt n₀ w SA d.secs) (h2 : WrsAt n₀ w PA d.pend) :
    Calls Try.prog 39 #[.agg #[.slice SA d.secs.length sc, .slice PA d.pend.length pc, .int .i64 d.left, .bool d.stop], .int .i64 left] w (DkIs n₀ w (gStop d left)) := by
  obtain ⟨secs, pend, lf, st⟩ := d
  dsimp only at hl1 hl2 hc1 hc2 h1 h2 ⊢
  cases st
  case true =>
    have HBx : Below w.heap.size w ((w.alloc (.cells #[.slice SA secs.length sc, .slice PA pend.length pc, .int .i64 lf, .bool true] 25)).alloc (.cells #[.slice none 0 0, .slice none 0 0, .int .i64 0, .bool false] 25)) := ((Below.refl _ w).alloc (Nat.le_refl _) _).alloc (by simp) _
    have b0 : Blk ((w.alloc (.cells #[.slice SA secs.length sc, .slice PA pend.length pc, .int .i64 lf, .bool true] 25)).alloc (.cells #[.slice none 0 0, .slice none 0 0, .int .i64 0, .bool false] 25)) w.heap.size 25 #[.slice SA secs.length sc, .slice PA pend.length pc, .int .i64 lf, .bool true] := (Blk.new w 25 _).alloc _
    have b1 : Blk ((w.alloc (.cells #[.slice SA secs.length sc, .slice PA pend.length pc, .int .i64 lf, .bool true] 25)).alloc (.cells #[.slice none 0 0, .slice none 0 0, .int .i64 0, .bool false] 25)) (w.heap.size + 1) 25 #[.slice none 0 0, .slice none 0 0, .int .i64 0, .bool false] := Blk.newAt (by simp) 25 _
    have K := rcheck_t SA PA sc pc (⟨secs, pend, lf, true⟩ : Dk) _ hl1 hl2 (h1.below HBx) (h2.below HBx)
    have E := Lib.hid (gStop_no (d := (⟨secs, pend, lf, true⟩ : Dk)) (left := left) (runs_no2 rfl))
    obtain ⟨g, hg⟩ : ∃ g, g = gChk (⟨secs, pend, lf, true⟩ : Dk) := ⟨_, rfl⟩
    rw [← hg] at K
    clear hg
    by_cases c1 : g = 0
    · subst c1
      go_enter Try.func39, Try.ntmps39
      go_wp2_with (fail)
      go_at_call 29
      refine K.mono ?_
      rintro e w2 ⟨rfl, hw2⟩
      have hb2 := HBx.trans (hw2.mono (by simp <;> omega))
      have x0 := b0.below hw2 b0.lt
      have x1 := b1.below hw2 b1.lt
      have y0 := x0.cell 0
      have y1 := x0.cell 1
      have y2 := x0.cell 2
      have y3 := x0.cell 3
      have z0 := x1.cell 0
      have z1 := x1.cell 1
      have z2 := x1.cell 2
      have z3 := x1.cell 3
      have yf := x0.frozen 2
      have zf0 := x1.frozen 0
      have zf1 := x1.frozen 1
      have zf2 := x1.frozen 2
      have zf3 := x1.frozen 3
      simp only [List.getElem?_toArray, List.getElem?_cons_zero, List.getElem?_cons_succ] at y0 y1 y2 y3 z0 z1 z2 z3
      have lx0 := x0.lt
      have lx1 := x1.lt
      clear x0 x1 b0 b1 HBx hw2
      go_wp2
      refine bodyPost_ret (v := .tuple #[.agg #[.slice none 0 0, .slice none 0 0, .int .i64 0, .bool false], .int .i64 40]) (by simp [results, Try.results39, go_sem, z0, z1, z2, z3]) rfl ?_
      rw [E.out]
      refine dk_end (fun W BB => dk0V W) (by repeat (first | refine Below.setCell ?_ (by simp <;> omega) _ | exact hb2))
    · have dg : (g != 0) = true := bne_iff_ne.2 c1
      clear c1
      go_enter Try.func39, Try.ntmps39
      go_wp2_with (fail)
      go_at_call 29
      refine K.mono ?_
      rintro e w2 ⟨rfl, hw2⟩
      have hb2 := HBx.trans (hw2.mono (by simp <;> omega))
      have x0 := b0.below hw2 b0.lt
      have x1 := b1.below hw2 b1.lt
      have y0 := x0.cell 0
      have y1 := x0.cell 1
      have y2 := x0.cell 2
      have y3 := x0.cell 3
      have z0 := x1.cell 0
      have z1 := x1.cell 1
      have z2 := x1.cell 2
      have z3 := x1.cell 3
      have yf := x0.frozen 2
      have zf0 := x1.frozen 0
      have zf1 := x1.frozen 1
      have zf2 := x1.frozen 2
      have zf3 := x1.frozen 3
      simp only [List.getElem?_toArray, List.getElem?_cons_zero, List.getElem?_cons_succ] at y0 y1 y2 y3 z0 z1 z2 z3
      have lx0 := x0.lt
      have lx1 := x1.lt
      clear x0 x1 b0 b1 HBx hw2
      go_wp2
      refine bodyPost_ret (v := .tuple #[.agg #[.slice none 0 0, .slice none 0 0, .int .i64 0, .bool false], .int .i64 40]) (by simp [results, Try.results39, go_sem, z0, z1, z2, z3]) rfl ?_
      rw [E.out]
      refine dk_end (fun W BB => dk0V W) (by repeat (first | refine Below.setCell ?_ (by simp <;> omega) _ | exact hb2))
  case false =>
    have HBx : Below w.heap.size w ((w.alloc (.cells #[.slice SA secs.length sc, .slice PA pend.length pc, .int .i64 lf, .bool false] 25)).alloc (.cells #[.slice none 0 0, .slice none 0 0, .int .i64 0, .bool false] 25)) := ((Below.refl _ w).alloc (Nat.le_refl _) _).alloc (by simp) _
    have b0 : Blk ((w.alloc (.cells #[.slice SA secs.length sc, .slice PA pend.length pc, .int .i64 lf, .bool false] 25)).alloc (.cells #[.slice none 0 0, .slice none 0 0, .int .i64 0, .bool false] 25)) w.heap.size 25 #[.slice SA secs.length sc, .slice PA pend.length pc, .int .i64 lf, .bool false] := (Blk.new w 25 _).alloc _
    have b1 : Blk ((w.alloc (.cells #[.slice SA secs.length sc, .slice PA pend.length pc, .int .i64 lf, .bool false] 25)).alloc (.cells #[.slice none 0 0, .slice none 0 0, .int .i64 0, .bool false] 25)) (w.heap.size + 1) 25 #[.slice none 0 0, .slice none 0 0, .int .i64 0, .bool false] := Blk.newAt (by simp) 25 _
    have K := rcheck_t SA PA sc pc (⟨secs, pend, lf, false⟩ : Dk) _ hl1 hl2 (h1.below HBx) (h2.below HBx)
    by_cases c1 : gChk (⟨secs, pend, lf, false⟩ : Dk) = 0
    case neg =>
      have E := Lib.hid (gStop_no (d := (⟨secs, pend, lf, false⟩ : Dk)) (left := left) (runs_no1 c1))
      have dg : (gChk (⟨secs, pend, lf, false⟩ : Dk) != 0) = true := bne_iff_ne.2 c1
      obtain ⟨g, hg⟩ : ∃ g, g = gChk (⟨secs, pend, lf, false⟩ : Dk) := ⟨_, rfl⟩
      rw [← hg] at K dg
      clear hg c1
      go_enter Try.func39, Try.ntmps39
      go_wp2_with (fail)
      go_at_call 29
      refine K.mono ?_
      rintro e w2 ⟨rfl, hw2⟩
      have hb2 := HBx.trans (hw2.mono (by simp <;> omega))
      have x0 := b0.below hw2 b0.lt
      have x1 := b1.below hw2 b1.lt
      have y0 := x0.cell 0
      have y1 := x0.cell 1
      have y2 := x0.cell 2
      have y3 := x0.cell 3
      have z0 := x1.cell 0
      have z1 := x1.cell 1
      have z2 := x1.cell 2
      have z3 := x1.cell 3
      have yf := x0.frozen 2
      have zf0 := x1.frozen 0
      have zf1 := x1.frozen 1
      have zf2 := x1.frozen 2
      have zf3 := x1.frozen 3
      simp only [List.getElem?_toArray, List.getElem?_cons_zero, List.getElem?_cons_succ] at y0 y1 y2 y3 z0 z1 z2 z3
      have lx0 := x0.lt
      have lx1 := x1.lt
      clear x0 x1 b0 b1 HBx hw2
      go_wp2
      refine bodyPost_ret (v := .tuple #[.agg #[.slice none 0 0, .slice none 0 0, .int .i64 0, .bool false], .int .i64 40]) (by simp [results, Try.results39, go_sem, z0, z1, z2, z3]) rfl ?_
      rw [E.out]
      refine dk_end (fun W BB => dk0V W) (by repeat (first | refine Below.setCell ?_ (by simp <;> omega) _ | exact hb2))
    have hr := runs_yes c1 rfl
    rw [c1] at K
    clear c1
    by_cases q1 : left < 0
    · have E := Lib.hid (gStop_arg (d := (⟨secs, pend, lf, false⟩ : Dk)) (left := left) hr (.inl q1))
      have d1 : decide (left < 0) = true := decide_eq_true q1
      clear q1 hr
      go_enter Try.func39, Try.ntmps39
      go_wp2_with (fail)
      go_at_call 29
      refine K.mono ?_
      rintro e w2 ⟨rfl, hw2⟩
      have hb2 := HBx.trans (hw2.mono (by simp <;> omega))
      have x0 := b0.below hw2 b0.lt
      have x1 := b1.below hw2 b1.lt
      have y0 := x0.cell 0
      have y1 := x0.cell 1
      have y2 := x0.cell 2
      have y3 := x0.cell 3
      have z0 := x1.cell 0
      have z1 := x1.cell 1
      have z2 := x1.cell 2
      have z3 := x1.cell 3
      have yf := x0.frozen 2
      have zf0 := x1.frozen 0
      have zf1 := x1.frozen 1
      have zf2 := x1.frozen 2
      have zf3 := x1.frozen 3
      simp only [List.getElem?_toArray, List.getElem?_cons_zero, List.getElem?_cons_succ] at y0 y1 y2 y3 z0 z1 z2 z3
      have lx0 := x0.lt
      have lx1 := x1.lt
      clear x0 x1 b0 b1 HBx hw2
      go_wp2
      refine bodyPost_ret (v := .tuple #[.agg #[.slice none 0 0, .slice none 0 0, .int .i64 0, .bool false], .int .i64 1]) (by simp [results, Try.results39, go_sem, z0, z1, z2, z3]) rfl ?_
      rw [E.out]
      refine dk_end (fun W BB => dk0V W) (by repeat (first | refine Below.setCell ?_ (by simp <;> omega) _ | exact hb2))
    have d1 : decide (left < 0) = false := decide_eq_false q1
    by_cases q2 : 65536 < left
    · have E := Lib.hid (gStop_arg (d := (⟨secs, pend, lf, false⟩ : Dk)) (left := left) hr (.inr q2))
      have d2 : decide (65536 < left) = true := decide_eq_true q2
      clear q1 q2 hr
      go_enter Try.func39, Try.ntmps39
      go_wp2_with (fail)
      go_at_call 29
      refine K.mono ?_
      rintro e w2 ⟨rfl, hw2⟩
      have hb2 := HBx.trans (hw2.mono (by simp <;> omega))
      have x0 := b0.below hw2 b0.lt
      have x1 := b1.below hw2 b1.lt
      have y0 := x0.cell 0
      have y1 := x0.cell 1
      have y2 := x0.cell 2
      have y3 := x0.cell 3
      have z0 := x1.cell 0
      have z1 := x1.cell 1
      have z2 := x1.cell 2
      have z3 := x1.cell 3
      have yf := x0.frozen 2
      have zf0 := x1.frozen 0
      have zf1 := x1.frozen 1
      have zf2 := x1.frozen 2
      have zf3 := x1.frozen 3
      simp only [List.getElem?_toArray, List.getElem?_cons_zero, List.getElem?_cons_succ] at y0 y1 y2 y3 z0 z1 z2 z3
      have lx0 := x0.lt
      have lx1 := x1.lt
      clear x0 x1 b0 b1 HBx hw2
      go_wp2
      refine bodyPost_ret (v := .tuple #[.agg #[.slice none 0 0, .slice none 0 0, .int .i64 0, .bool false], .int .i64 1]) (by simp [results, Try.results39, go_sem, z0, z1, z2, z3]) rfl ?_
      rw [E.out]
      refine dk_end (fun W BB => dk0V W) (by repeat (first | refine Below.setCell ?_ (by simp <;> omega) _ | exact hb2))
    have d2 : decide (65536 < left) = false := decide_eq_false q2
    have E := Lib.hid (gStop_ok (d := (⟨secs, pend, lf, false⟩ : Dk)) (left := left) hr (by omega))
    clear q1 q2 hr
    go_enter Try.func39, Try.ntmps39
    go_wp2_with (fail)
    go_at_call 29
    refine K.mono ?_
    rintro e w2 ⟨rfl, hw2⟩
    have hb2 := HBx.trans (hw2.mono (by simp <;> omega))
    have x0 := b0.below hw2 b0.lt
    have x1 := b1.below hw2 b1.lt
    have y0 := x0.cell 0
    have y1 := x0.cell 1
    have y2 := x0.cell 2
    have y3 := x0.cell 3
    have z0 := x1.cell 0
    have z1 := x1.cell 1
    have z2 := x1.cell 2
    have z3 := x1.cell 3
    have yf := x0.frozen 2
    have zf0 := x1.frozen 0
    have zf1 := x1.frozen 1
    have zf2 := x1.frozen 2
    have zf3 := x1.frozen 3
    simp only [List.getElem?_toArray, List.getElem?_cons_zero, List.getElem?_cons_succ] at y0 y1 y2 y3 z0 z1 z2 z3
    have lx0 := x0.lt
    have lx1 := x1.lt
    clear x0 x1 b0 b1 HBx hw2
    go_wp2
    refine bodyPost_ret (v := .tuple #[.agg #[.slice SA secs.length sc, .slice PA pend.length pc, .int .i64 left, .bool false], .int .i64 0]) (by simp [results, Try.results39, go_sem, z0, z1, z2, z3]) rfl ?_
    rw [E.out]
    refine dk_end (fun W BB => dkV_mk (d := ⟨secs, pend, left, false⟩) hc1 hc2 (h1.below BB) (h2.below BB)) (by repeat (first | refine Below.setCell ?_ (by simp <;> omega) _ | exact hb2))
end Go.Proofs.Ytckeopidedoohaa
