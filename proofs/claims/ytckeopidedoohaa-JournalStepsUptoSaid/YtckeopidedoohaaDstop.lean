/-
  The reference's Check of a disk; Restart and Stop, the program's and the reference's; few bytes. Conditions: the disk lies as plain data. | Stop of a disk, the program's and the reference's. Conditions: the disk lies as plain data.
-/
import Derived.Test.YtckeopidedoohaaDchk
namespace Go.Proofs.Ytckeopidedoohaa
open Go.RowKit
variable {n₀ : Nat}
attribute [local go_sem] Oper.semAt_some

set_option maxHeartbeats 4000000 in
theorem rcheck_t (SA PA : Option Addr) (sc pc : Nat) (d : Dk) (w : World) (hl1 : d.secs.length ≤ 140737488355328) (hl2 : d.pend.length ≤ 140737488355328) (h1 : RowsAt n₀ w SA d.secs) (h2 : WrsAt n₀ w PA d.pend) :
    Calls Try.prog 29 #[.agg #[.slice SA d.secs.length sc, .slice PA d.pend.length pc, .int .i64 d.left, .bool d.stop]] w fun e w' => e = .returned (.int .i64 (gChk d)) ∧ Below w.heap.size w w' := by
  have HBx : Below w.heap.size w (w.alloc (.cells #[.slice SA d.secs.length sc, .slice PA d.pend.length pc, .int .i64 d.left, .bool d.stop] 25)) := (Below.refl _ w).alloc (Nat.le_refl _) _
  by_cases c1 : d.secs.length < 1
  · have E := Lib.hid (chk_no (d := d) (fun h => by have := h.1; omega))
    have e1 : decide ((d.secs.length : Int) < 1) = true := decide_eq_true (by omega)
    clear c1
    go_enter Try.func29, Try.ntmps29
    go_wp2
    go_ret
    exact ⟨by rw [E.out]; rfl, HBx⟩
  have e1 : decide ((d.secs.length : Int) < 1) = false := decide_eq_false (by omega)
  by_cases c2 : 4096 < d.secs.length
  · have E := Lib.hid (chk_no (d := d) (fun h => by have := h.2.1; omega))
    have e2 : decide (4096 < (d.secs.length : Int)) = true := decide_eq_true (by omega)
    clear c1 c2
    go_enter Try.func29, Try.ntmps29
    go_wp2
    go_ret
    exact ⟨by rw [E.out]; rfl, HBx⟩
  have e2 : decide (4096 < (d.secs.length : Int)) = false := decide_eq_false (by omega)
  by_cases c3 : 4096 < d.pend.length
  · have E := Lib.hid (chk_no (d := d) (fun h => by have := h.2.2.1; omega))
    have e3 : decide (4096 < (d.pend.length : Int)) = true := decide_eq_true (by omega)
    clear c1 c2 c3
    go_enter Try.func29, Try.ntmps29
    go_wp2
    go_ret
    exact ⟨by rw [E.out]; rfl, HBx⟩
  have e3 : decide (4096 < (d.pend.length : Int)) = false := decide_eq_false (by omega)
  by_cases c4 : d.left < -1
  · have E := Lib.hid (chk_no (d := d) (fun h => by have := h.2.2.2.1; omega))
    have e4 : decide (d.left < -1) = true := decide_eq_true (by omega)
    clear c1 c2 c3 c4
    go_enter Try.func29, Try.ntmps29
    go_wp2
    go_ret
    exact ⟨by rw [E.out]; rfl, HBx⟩
  have e4 : decide (d.left < -1) = false := decide_eq_false (by omega)
  by_cases c5 : 65536 < d.left
  · have E := Lib.hid (chk_no (d := d) (fun h => by have := h.2.2.2.2.1; omega))
    have e5 : decide (65536 < d.left) = true := decide_eq_true (by omega)
    clear c1 c2 c3 c4 c5
    go_enter Try.func29, Try.ntmps29
    go_wp2
    go_ret
    exact ⟨by rw [E.out]; rfl, HBx⟩
  have e5 : decide (65536 < d.left) = false := decide_eq_false (by omega)
  have V := Lib.hid (show (1 ≤ d.secs.length ∧ d.secs.length ≤ 4096 ∧ d.pend.length ≤ 4096 ∧ -1 ≤ d.left ∧ d.left ≤ 65536) by omega)
  have n1 : d.secs.length ≤ 4096 := by omega
  have n2 : d.pend.length ≤ 4096 := by omega
  have b0 : Blk (w.alloc (.cells #[.slice SA d.secs.length sc, .slice PA d.pend.length pc, .int .i64 d.left, .bool d.stop] 25)) w.heap.size 25 #[.slice SA d.secs.length sc, .slice PA d.pend.length pc, .int .i64 d.left, .bool d.stop] := Blk.new w 25 _
  clear c1 c2 c3 c4 c5
  go_enter Try.func29, Try.ntmps29
  go_wp2
  go_loop [4] (fun i => ∃ k : Nat, k ≤ d.secs.length ∧ i = .int .i64 k ∧ Hid (∀ j, j < k → (d.secs.getD j []).length = 128)) (fun i => d.secs.length - (intOf i).toNat)
  case atStart => exact ⟨0, by omega, rfl, Lib.hid (fun j hj => by omega)⟩
  case round =>
    obtain ⟨k, hk, rfl, hT⟩ := hrel
    by_cases hlt : k < d.secs.length
    · obtain ⟨b, o, rfl, hb, hc⟩ := (h1.below HBx).get (by omega)
      obtain ⟨A', c', g1, _, _⟩ := hc k hlt
      obtain ⟨x, hx⟩ : ∃ x, x = (d.secs.getD k []).length := ⟨_, rfl⟩
      rw [← hx] at g1
      have HX := Lib.hid hx
      clear hc hx
      by_cases hq : x = 128
      · subst hq
        go_wp2
        go_round
        case rel => exact ⟨k + 1, by omega, by go_num, Lib.hid (fun j hj => by
          rcases Nat.lt_or_ge j k with h' | h'
          · exact hT.out j h'
          · obtain rfl : j = k := by omega
            exact HX.out.symm)⟩
        case measure => simp [intOf]; omega
      · have dq : ((x : Int) != 128) = true := bne_iff_ne.2 (by omega)
        have E := Lib.hid (chk_no (d := d) (fun h => hq (by rw [HX.out]; exact h.2.2.2.2.2.2 _ (by simp [List.getD, hlt]))))
        clear hq
        go_wp2
        go_ret
        exact ⟨by rw [E.out]; rfl, HBx⟩
    · obtain rfl : k = d.secs.length := by omega
      clear hlt
      go_wp2
      go_loopw [5] (fun i wr => ∃ k : Nat, k ≤ d.pend.length ∧ i = .int .i64 k ∧ Hid (∀ j, j < k → badW d.secs.length (d.pend.getD j wr0) = false) ∧ Below (w.alloc (.cells #[.slice SA d.secs.length sc, .slice PA d.pend.length pc, .int .i64 d.left, .bool d.stop] 25)).heap.size (w.alloc (.cells #[.slice SA d.secs.length sc, .slice PA d.pend.length pc, .int .i64 d.left, .bool d.stop] 25)) wr) (fun i _ => d.pend.length - (intOf i).toNat)
      case atStart => exact ⟨0, by omega, rfl, Lib.hid (fun j hj => by omega), Below.refl _ _⟩
      case round =>
        obtain ⟨k, hk, rfl, hP, hw⟩ := hrel
        have b1 := b0.below hw (by simp)
        have b10 := b1.cell 0
        have b11 : wr.cell? ⟨w.heap.size, 1, none⟩ = some (.slice PA d.pend.length pc) := b1.cell 1
        have hw1 := HBx.trans (hw.mono (by simp))
        by_cases hlt : k < d.pend.length
        · obtain ⟨b, o, rfl, hb, hc⟩ := (h2.below hw1).get (by omega)
          obtain ⟨g0, A', c', g1, _, _⟩ := hc k hlt
          obtain ⟨⟨xa, xd⟩, hx⟩ : ∃ x, x = d.pend.getD k wr0 := ⟨_, rfl⟩
          rw [← hx] at g0 g1
          dsimp only at g0 g1
          obtain ⟨y, hy⟩ : ∃ y, y = badW d.secs.length ⟨xa, xd⟩ := ⟨_, rfl⟩
          have HX := Lib.hid hx
          have HY := Lib.hid hy
          have hy2 : y = badB xa d.secs.length xd.length := by rw [hy, ← badB_W]
          have hno : y = true → gChk d = 40 := fun h => chk_no (fun hv => by
            have := hv.2.2.2.2.2.1 (d.pend.getD k wr0) (by simp [List.getD, hlt])
            rw [← HX.out] at this
            rw [h] at hy
            unfold badW at hy
            rw [decide_eq_true this] at hy
            cases hy)
          have HNO := Lib.hid hno
          have HW1 := hw1
          unfold badB at hy2
          clear hc hx hy hno b1
          by_cases q1 : xa < 0
          · have f1 : decide (xa < 0) = true := decide_eq_true q1
            have hyt : y = true := by rw [hy2, decide_eq_false (show ¬ 0 ≤ xa by omega)]; rfl
            have E := Lib.hid (HNO.out hyt)
            clear q1 hy2 hyt
            go_wp2
            go_ret
            exact ⟨by rw [E.out]; rfl, hw1.alloc hw1.size _⟩
          have f1 : decide (xa < 0) = false := decide_eq_false q1
          by_cases q2 : (d.secs.length : Int) ≤ xa
          · have f2 : decide ((d.secs.length : Int) ≤ xa) = true := decide_eq_true q2
            have hyt : y = true := by rw [hy2, decide_eq_false (show ¬ xa < d.secs.length by omega)]; simp
            have E := Lib.hid (HNO.out hyt)
            clear q1 q2 hy2 hyt
            go_wp2
            go_ret
            exact ⟨by rw [E.out]; rfl, hw1.alloc hw1.size _⟩
          have f2 : decide ((d.secs.length : Int) ≤ xa) = false := decide_eq_false q2
          by_cases q3 : xd.length = 128
          · have hyf : y = false := by rw [hy2, decide_eq_true (show 0 ≤ xa by omega), decide_eq_true (show xa < d.secs.length by omega), q3]; rfl
            have HYF := Lib.hid hyf
            rw [q3] at g1
            clear q1 q2 q3 hy2 hyf
            go_wp2
            go_roundw
            case rel => exact ⟨k + 1, by omega, by go_num, Lib.hid (fun j hj => by
              rcases Nat.lt_or_ge j k with h' | h'
              · exact hP.out j h'
              · obtain rfl : j = k := by omega
                rw [← HX.out, ← HY.out]
                exact HYF.out), hw.alloc hw.size _⟩
            case measure => simp [intOf]; omega
          · have f3 : ((xd.length : Int) != 128) = true := bne_iff_ne.2 (by omega)
            have hyt : y = true := by rw [hy2, show (xd.length == 128) = false from beq_eq_false_iff_ne.2 q3]; simp
            have E := Lib.hid (HNO.out hyt)
            clear q1 q2 q3 hy2 hyt
            go_wp2
            go_ret
            exact ⟨by rw [E.out]; rfl, hw1.alloc hw1.size _⟩
        · obtain rfl : k = d.pend.length := by omega
          have E := Lib.hid (chk_yes (d := d) (by
            obtain ⟨a1, a2, a3, a4, a5⟩ := V.out
            refine ⟨a1, a2, a3, a4, a5, fun x hx => ?_, fun b hb => ?_⟩
            · obtain ⟨i, hi, rfl⟩ := List.getElem_of_mem hx
              have := hP.out i hi
              unfold badW at this
              simpa [List.getD, hi] using this
            · obtain ⟨i, hi, rfl⟩ := List.getElem_of_mem hb
              have := hT.out i hi
              simpa [List.getD, hi] using this))
          clear hlt
          go_wp2
          go_ret
          exact ⟨by rw [E.out]; rfl, hw1⟩

/-- A disk started again. -/
def gRestart (d : Dk) : Dk := ⟨d.secs, [], -1, false⟩
theorem results_c25 {fn : Func} {t : Tmp} (_h : fn.results = #[.cell t 25]) : True := trivial

theorem restart_t (SA PA : Option Addr) (sc pc : Nat) (d : Dk) (w : World) :
    Calls Try.prog 30 #[.agg #[.slice SA d.secs.length sc, .slice PA d.pend.length pc, .int .i64 d.left, .bool d.stop]] w fun e w' => e = .returned (.agg #[.slice SA d.secs.length sc, .slice none 0 0, .int .i64 (-1), .bool false]) ∧ Below w.heap.size w w' := by
  go_enter Try.func30, Try.ntmps30
  go_wp2
  refine bodyPost_ret (v := .agg #[.slice SA d.secs.length sc, .slice none 0 0, .int .i64 (-1), .bool false]) (by simp [results, Try.results30, go_sem]) rfl ?_
  exact ⟨rfl, by repeat (first | exact Below.refl _ _ | refine Below.alloc ?_ (by simp <;> omega) _ | refine Below.setCell ?_ (by simp <;> omega) _)⟩
theorem rrestart_t (SA PA : Option Addr) (sc pc : Nat) (d : Dk) (w : World) :
    Calls Try.prog 31 #[.agg #[.slice SA d.secs.length sc, .slice PA d.pend.length pc, .int .i64 d.left, .bool d.stop]] w fun e w' => e = .returned (.agg #[.slice SA d.secs.length sc, .slice none 0 0, .int .i64 (-1), .bool false]) ∧ Below w.heap.size w w' := by
  go_enter Try.func31, Try.ntmps31
  go_wp2
  refine bodyPost_ret (v := .agg #[.slice SA d.secs.length sc, .slice none 0 0, .int .i64 (-1), .bool false]) (by simp [results, Try.results31, go_sem]) rfl ?_
  exact ⟨rfl, by repeat (first | exact Below.refl _ _ | refine Below.alloc ?_ (by simp <;> omega) _ | refine Below.setCell ?_ (by simp <;> omega) _)⟩

/-- A disk that is right and has not stopped. -/
def Runs (d : Dk) : Prop := Val d ∧ d.stop = false
open Classical in
/-- What Stop answers. -/
noncomputable def gStop (d : Dk) (left : Int) : Dk × Int := if ¬ Runs d then (dk0, 40) else if left < 0 ∨ 65536 < left then (dk0, 1) else ({ d with left := left }, 0)
theorem runs_iff (d : Dk) : ((gChk d == 0) && !d.stop) = true ↔ Runs d := by
  unfold gChk Runs
  by_cases h : Val d <;> simp [h]
/-- What a function answers that gives a disk and an error. -/
def DkIs (n₀ : Nat) (w : World) (r : Dk × Int) (e : Ending) (w' : World) : Prop := ∃ v, e = .returned (.tuple #[v, .int .i64 r.2]) ∧ DkV n₀ w' v r.1 ∧ Below w.heap.size w w'
theorem dk0V (w : World) : DkV n₀ w (.agg #[.slice none 0 0, .slice none 0 0, .int .i64 0, .bool false]) dk0 := ⟨none, 0, none, 0, rfl, Nat.le_refl _, Nat.le_refl _, RowsAt.nil _ _, WrsAt.nil _ _⟩
end Go.Proofs.Ytckeopidedoohaa

namespace Go.Proofs.Ytckeopidedoohaa
open Go.RowKit
variable {n₀ : Nat}
attribute [local go_sem] Oper.semAt_some

theorem dkV_mk {w : World} {SA PA : Option Addr} {sc pc : Nat} {d : Dk} (hc1 : d.secs.length ≤ sc) (hc2 : d.pend.length ≤ pc) (h1 : RowsAt n₀ w SA d.secs) (h2 : WrsAt n₀ w PA d.pend) : DkV n₀ w (.agg #[.slice SA d.secs.length sc, .slice PA d.pend.length pc, .int .i64 d.left, .bool d.stop]) d := ⟨SA, sc, PA, pc, rfl, hc1, hc2, h1, h2⟩
theorem gStop_no {d : Dk} {left : Int} (h : ¬ Runs d) : gStop d left = (dk0, 40) := by unfold gStop; rw [if_pos h]
theorem gStop_arg {d : Dk} {left : Int} (h : Runs d) (h2 : left < 0 ∨ 65536 < left) : gStop d left = (dk0, 1) := by unfold gStop; rw [if_neg (not_not_intro h), if_pos h2]
theorem gStop_ok {d : Dk} {left : Int} (h : Runs d) (h2 : ¬ (left < 0 ∨ 65536 < left)) : gStop d left = ({ d with left := left }, 0) := by unfold gStop; rw [if_neg (not_not_intro h), if_neg h2]
theorem runs_no1 {d : Dk} (h : gChk d ≠ 0) : ¬ Runs d := fun hr => h (chk_yes hr.1)
theorem runs_no2 {d : Dk} (h : d.stop = true) : ¬ Runs d := fun hr => by rw [hr.2] at h; cases h
theorem runs_yes {d : Dk} (h : gChk d = 0) (hs : d.stop = false) : Runs d := ⟨by
  unfold gChk at h
  split at h
  · assumption
  · simp at h, hs⟩
theorem dk_end {w W : World} {v : Value} {d : Dk} {e : Int} (h : ∀ W, Below w.heap.size w W → DkV n₀ W v d) (hb : Below w.heap.size w W) : DkIs n₀ w (d, e) (.returned (.tuple #[v, .int .i64 e])) W := ⟨v, rfl, h W hb, hb⟩

set_option maxHeartbeats 2000000 in
theorem stop_t (SA PA : Option Addr) (sc pc : Nat) (d : Dk) (left : Int) (w : World) (hl1 : d.secs.length ≤ 140737488355328) (hl2 : d.pend.length ≤ 140737488355328) (hc1 : d.secs.length ≤ sc) (hc2 : d.pend.length ≤ pc) (h1 : RowsAt n₀ w SA d.secs) (h2 : WrsAt n₀ w PA d.pend) :
    Calls Try.prog 38 #[.agg #[.slice SA d.secs.length sc, .slice PA d.pend.length pc, .int .i64 d.left, .bool d.stop], .int .i64 left] w (DkIs n₀ w (gStop d left)) := by
  obtain ⟨secs, pend, lf, st⟩ := d
  dsimp only at hl1 hl2 hc1 hc2 h1 h2 ⊢
  cases st
  case true =>
    have HBx : Below w.heap.size w ((w.alloc (.cells #[.slice SA secs.length sc, .slice PA pend.length pc, .int .i64 lf, .bool true] 25)).alloc (.cells #[.slice none 0 0, .slice none 0 0, .int .i64 0, .bool false] 25)) := ((Below.refl _ w).alloc (Nat.le_refl _) _).alloc (by simp) _
    have b0 : Blk ((w.alloc (.cells #[.slice SA secs.length sc, .slice PA pend.length pc, .int .i64 lf, .bool true] 25)).alloc (.cells #[.slice none 0 0, .slice none 0 0, .int .i64 0, .bool false] 25)) w.heap.size 25 #[.slice SA secs.length sc, .slice PA pend.length pc, .int .i64 lf, .bool true] := (Blk.new w 25 _).alloc _
    have b1 : Blk ((w.alloc (.cells #[.slice SA secs.length sc, .slice PA pend.length pc, .int .i64 lf, .bool true] 25)).alloc (.cells #[.slice none 0 0, .slice none 0 0, .int .i64 0, .bool false] 25)) (w.heap.size + 1) 25 #[.slice none 0 0, .slice none 0 0, .int .i64 0, .bool false] := Blk.newAt (by simp) 25 _
    have K := runs_t SA PA sc pc (⟨secs, pend, lf, true⟩ : Dk) _ hl1 hl2 (h1.below HBx) (h2.below HBx)
    have E := Lib.hid (gStop_no (d := (⟨secs, pend, lf, true⟩ : Dk)) (left := left) (runs_no2 rfl))
    have hy : ((gChk (⟨secs, pend, lf, true⟩ : Dk) == 0) && !true) = false := by simp
    dsimp only at K
    rw [hy] at K
    clear hy
    go_enter Try.func38, Try.ntmps38
    go_wp2_with (fail)
    go_at_call 74
    refine K.mono ?_
    rintro e w2 ⟨rfl, hw2⟩
    have hb2 := HBx.trans (hw2.mono (by simp <;> omega))
    have x0 := b0.below hw2 b0.lt
    have x1 := b1.below hw2 b1.lt
    have y0 := x0.cell 0
    have y1 := x0.cell 1
    have y2 := x0.cell 2
    have y3 := x0.cell 3
    have z0 := x1.cell 0
    have z1 := x1.cell 1
    have z2 := x1.cell 2
    have z3 := x1.cell 3
    have yf := x0.frozen 2
    have zf0 := x1.frozen 0
    have zf1 := x1.frozen 1
    have zf2 := x1.frozen 2
    have zf3 := x1.frozen 3
    simp only [List.getElem?_toArray, List.getElem?_cons_zero, List.getElem?_cons_succ] at y0 y1 y2 y3 z0 z1 z2 z3
    have lx0 := x0.lt
    have lx1 := x1.lt
    clear x0 x1 b0 b1 HBx hw2
    go_wp2
    refine bodyPost_ret (v := .tuple #[.agg #[.slice none 0 0, .slice none 0 0, .int .i64 0, .bool false], .int .i64 40]) (by simp [results, Try.results38, go_sem, z0, z1, z2, z3]) rfl ?_
    rw [E.out]
    refine dk_end (fun W BB => dk0V W) (by repeat (first | refine Below.setCell ?_ (by simp <;> omega) _ | exact hb2))
  case false =>
    have HBx : Below w.heap.size w ((w.alloc (.cells #[.slice SA secs.length sc, .slice PA pend.length pc, .int .i64 lf, .bool false] 25)).alloc (.cells #[.slice none 0 0, .slice none 0 0, .int .i64 0, .bool false] 25)) := ((Below.refl _ w).alloc (Nat.le_refl _) _).alloc (by simp) _
    have b0 : Blk ((w.alloc (.cells #[.slice SA secs.length sc, .slice PA pend.length pc, .int .i64 lf, .bool false] 25)).alloc (.cells #[.slice none 0 0, .slice none 0 0, .int .i64 0, .bool false] 25)) w.heap.size 25 #[.slice SA secs.length sc, .slice PA pend.length pc, .int .i64 lf, .bool false] := (Blk.new w 25 _).alloc _
    have b1 : Blk ((w.alloc (.cells #[.slice SA secs.length sc, .slice PA pend.length pc, .int .i64 lf, .bool false] 25)).alloc (.cells #[.slice none 0 0, .slice none 0 0, .int .i64 0, .bool false] 25)) (w.heap.size + 1) 25 #[.slice none 0 0, .slice none 0 0, .int .i64 0, .bool false] := Blk.newAt (by simp) 25 _
    have K := runs_t SA PA sc pc (⟨secs, pend, lf, false⟩ : Dk) _ hl1 hl2 (h1.below HBx) (h2.below HBx)
    by_cases c1 : gChk (⟨secs, pend, lf, false⟩ : Dk) = 0
    case neg =>
      have E := Lib.hid (gStop_no (d := (⟨secs, pend, lf, false⟩ : Dk)) (left := left) (runs_no1 c1))
      have hy : ((gChk (⟨secs, pend, lf, false⟩ : Dk) == 0) && !false) = false := by rw [beq_eq_false_iff_ne.2 c1]; rfl
      dsimp only at K
      rw [hy] at K
      clear hy c1
      go_enter Try.func38, Try.ntmps38
      go_wp2_with (fail)
      go_at_call 74
      refine K.mono ?_
      rintro e w2 ⟨rfl, hw2⟩
      have hb2 := HBx.trans (hw2.mono (by simp <;> omega))
      have x0 := b0.below hw2 b0.lt
      have x1 := b1.below hw2 b1.lt
      have y0 := x0.cell 0
      have y1 := x0.cell 1
      have y2 := x0.cell 2
      have y3 := x0.cell 3
      have z0 := x1.cell 0
      have z1 := x1.cell 1
      have z2 := x1.cell 2
      have z3 := x1.cell 3
      have yf := x0.frozen 2
      have zf0 := x1.frozen 0
      have zf1 := x1.frozen 1
      have zf2 := x1.frozen 2
      have zf3 := x1.frozen 3
      simp only [List.getElem?_toArray, List.getElem?_cons_zero, List.getElem?_cons_succ] at y0 y1 y2 y3 z0 z1 z2 z3
      have lx0 := x0.lt
      have lx1 := x1.lt
      clear x0 x1 b0 b1 HBx hw2
      go_wp2
      refine bodyPost_ret (v := .tuple #[.agg #[.slice none 0 0, .slice none 0 0, .int .i64 0, .bool false], .int .i64 40]) (by simp [results, Try.results38, go_sem, z0, z1, z2, z3]) rfl ?_
      rw [E.out]
      refine dk_end (fun W BB => dk0V W) (by repeat (first | refine Below.setCell ?_ (by simp <;> omega) _ | exact hb2))
    have hr := runs_yes c1 rfl
    have hy : ((gChk (⟨secs, pend, lf, false⟩ : Dk) == 0) && !false) = true := by rw [c1]; rfl
    dsimp only at K
    rw [hy] at K
    clear hy
    clear c1
    by_cases q1 : left < 0
    · have E := Lib.hid (gStop_arg (d := (⟨secs, pend, lf, false⟩ : Dk)) (left := left) hr (.inl q1))
      have d1 : decide (left < 0) = true := decide_eq_true q1
      clear q1 hr
      go_enter Try.func38, Try.ntmps38
      go_wp2_with (fail)
      go_at_call 74
      refine K.mono ?_
      rintro e w2 ⟨rfl, hw2⟩
      have hb2 := HBx.trans (hw2.mono (by simp <;> omega))
      have x0 := b0.below hw2 b0.lt
      have x1 := b1.below hw2 b1.lt
      have y0 := x0.cell 0
      have y1 := x0.cell 1
      have y2 := x0.cell 2
      have y3 := x0.cell 3
      have z0 := x1.cell 0
      have z1 := x1.cell 1
      have z2 := x1.cell 2
      have z3 := x1.cell 3
      have yf := x0.frozen 2
      have zf0 := x1.frozen 0
      have zf1 := x1.frozen 1
      have zf2 := x1.frozen 2
      have zf3 := x1.frozen 3
      simp only [List.getElem?_toArray, List.getElem?_cons_zero, List.getElem?_cons_succ] at y0 y1 y2 y3 z0 z1 z2 z3
      have lx0 := x0.lt
      have lx1 := x1.lt
      clear x0 x1 b0 b1 HBx hw2
      go_wp2
      refine bodyPost_ret (v := .tuple #[.agg #[.slice none 0 0, .slice none 0 0, .int .i64 0, .bool false], .int .i64 1]) (by simp [results, Try.results38, go_sem, z0, z1, z2, z3]) rfl ?_
      rw [E.out]
      refine dk_end (fun W BB => dk0V W) (by repeat (first | refine Below.setCell ?_ (by simp <;> omega) _ | exact hb2))
    have d1 : decide (left < 0) = false := decide_eq_false q1
    by_cases q2 : 65536 < left
    · have E := Lib.hid (gStop_arg (d := (⟨secs, pend, lf, false⟩ : Dk)) (left := left) hr (.inr q2))
      have d2 : decide (65536 < left) = true := decide_eq_true q2
      clear q1 q2 hr
      go_enter Try.func38, Try.ntmps38
      go_wp2_with (fail)
      go_at_call 74
      refine K.mono ?_
      rintro e w2 ⟨rfl, hw2⟩
      have hb2 := HBx.trans (hw2.mono (by simp <;> omega))
      have x0 := b0.below hw2 b0.lt
      have x1 := b1.below hw2 b1.lt
      have y0 := x0.cell 0
      have y1 := x0.cell 1
      have y2 := x0.cell 2
      have y3 := x0.cell 3
      have z0 := x1.cell 0
      have z1 := x1.cell 1
      have z2 := x1.cell 2
      have z3 := x1.cell 3
      have yf := x0.frozen 2
      have zf0 := x1.frozen 0
      have zf1 := x1.frozen 1
      have zf2 := x1.frozen 2
      have zf3 := x1.frozen 3
      simp only [List.getElem?_toArray, List.getElem?_cons_zero, List.getElem?_cons_succ] at y0 y1 y2 y3 z0 z1 z2 z3
      have lx0 := x0.lt
      have lx1 := x1.lt
      clear x0 x1 b0 b1 HBx hw2
      go_wp2
      refine bodyPost_ret (v := .tuple #[.agg #[.slice none 0 0, .slice none 0 0, .int .i64 0, .bool false], .int .i64 1]) (by simp [results, Try.results38, go_sem, z0, z1, z2, z3]) rfl ?_
      rw [E.out]
      refine dk_end (fun W BB => dk0V W) (by repeat (first | refine Below.setCell ?_ (by simp <;> omega) _ | exact hb2))
    have d2 : decide (65536 < left) = false := decide_eq_false q2
    have E := Lib.hid (gStop_ok (d := (⟨secs, pend, lf, false⟩ : Dk)) (left := left) hr (by omega))
    clear q1 q2 hr
    go_enter Try.func38, Try.ntmps38
    go_wp2_with (fail)
    go_at_call 74
    refine K.mono ?_
    rintro e w2 ⟨rfl, hw2⟩
    have hb2 := HBx.trans (hw2.mono (by simp <;> omega))
    have x0 := b0.below hw2 b0.lt
    have x1 := b1.below hw2 b1.lt
    have y0 := x0.cell 0
    have y1 := x0.cell 1
    have y2 := x0.cell 2
    have y3 := x0.cell 3
    have z0 := x1.cell 0
    have z1 := x1.cell 1
    have z2 := x1.cell 2
    have z3 := x1.cell 3
    have yf := x0.frozen 2
    have zf0 := x1.frozen 0
    have zf1 := x1.frozen 1
    have zf2 := x1.frozen 2
    have zf3 := x1.frozen 3
    simp only [List.getElem?_toArray, List.getElem?_cons_zero, List.getElem?_cons_succ] at y0 y1 y2 y3 z0 z1 z2 z3
    have lx0 := x0.lt
    have lx1 := x1.lt
    clear x0 x1 b0 b1 HBx hw2
    go_wp2
    refine bodyPost_ret (v := .tuple #[.agg #[.slice SA secs.length sc, .slice PA pend.length pc, .int .i64 left, .bool false], .int .i64 0]) (by simp [results, Try.results38, go_sem, z0, z1, z2, z3]) rfl ?_
    rw [E.out]
    refine dk_end (fun W BB => dkV_mk (d := ⟨secs, pend, left, false⟩) hc1 hc2 (h1.below BB) (h2.below BB)) (by repeat (first | refine Below.setCell ?_ (by simp <;> omega) _ | exact hb2))

set_option maxHeartbeats 2000000 in
theorem rstop_t (SA PA : Option Addr) (sc pc : Nat) (d : Dk) (left : Int) (w : World) (hl1 : d.secs.length ≤ 140737488355328) (hl2 : d.pend.length ≤ 140737488355328) (hc1 : d.secs.length ≤ sc) (hc2 : d.pend.length ≤ pc) (h1 : RowsAt n₀ w SA d.secs) (h2 : WrsAt n₀ w PA d.pend) :
    Calls Try.prog 39 #[.agg #[.slice SA d.secs.length sc, .slice PA d.pend.length pc, .int .i64 d.left, .bool d.stop], .int .i64 left] w (DkIs n₀ w (gStop d left)) := by
  obtain ⟨secs, pend, lf, st⟩ := d
  dsimp only at hl1 hl2 hc1 hc2 h1 h2 ⊢
  cases st
  case true =>
    have HBx : Below w.heap.size w ((w.alloc (.cells #[.slice SA secs.length sc, .slice PA pend.length pc, .int .i64 lf, .bool true] 25)).alloc (.cells #[.slice none 0 0, .slice none 0 0, .int .i64 0, .bool false] 25)) := ((Below.refl _ w).alloc (Nat.le_refl _) _).alloc (by simp) _
    have b0 : Blk ((w.alloc (.cells #[.slice SA secs.length sc, .slice PA pend.length pc, .int .i64 lf, .bool true] 25)).alloc (.cells #[.slice none 0 0, .slice none 0 0, .int .i64 0, .bool false] 25)) w.heap.size 25 #[.slice SA secs.length sc, .slice PA pend.length pc, .int .i64 lf, .bool true] := (Blk.new w 25 _).alloc _
    have b1 : Blk ((w.alloc (.cells #[.slice SA secs.length sc, .slice PA pend.length pc, .int .i64 lf, .bool true] 25)).alloc (.cells #[.slice none 0 0, .slice none 0 0, .int .i64 0, .bool false] 25)) (w.heap.size + 1) 25 #[.slice none 0 0, .slice none 0 0, .int .i64 0, .bool false] := Blk.newAt (by simp) 25 _
    have K := rcheck_t SA PA sc pc (⟨secs, pend, lf, true⟩ : Dk) _ hl1 hl2 (h1.below HBx) (h2.below HBx)
    have E := Lib.hid (gStop_no (d := (⟨secs, pend, lf, true⟩ : Dk)) (left := left) (runs_no2 rfl))
    obtain ⟨g, hg⟩ : ∃ g, g = gChk (⟨secs, pend, lf, true⟩ : Dk) := ⟨_, rfl⟩
    rw [← hg] at K
    clear hg
    by_cases c1 : g = 0
    · subst c1
      go_enter Try.func39, Try.ntmps39
      go_wp2_with (fail)
      go_at_call 29
      refine K.mono ?_
      rintro e w2 ⟨rfl, hw2⟩
      have hb2 := HBx.trans (hw2.mono (by simp <;> omega))
      have x0 := b0.below hw2 b0.lt
      have x1 := b1.below hw2 b1.lt
      have y0 := x0.cell 0
      have y1 := x0.cell 1
      have y2 := x0.cell 2
      have y3 := x0.cell 3
      have z0 := x1.cell 0
      have z1 := x1.cell 1
      have z2 := x1.cell 2
      have z3 := x1.cell 3
      have yf := x0.frozen 2
      have zf0 := x1.frozen 0
      have zf1 := x1.frozen 1
      have zf2 := x1.frozen 2
      have zf3 := x1.frozen 3
      simp only [List.getElem?_toArray, List.getElem?_cons_zero, List.getElem?_cons_succ] at y0 y1 y2 y3 z0 z1 z2 z3
      have lx0 := x0.lt
      have lx1 := x1.lt
      clear x0 x1 b0 b1 HBx hw2
      go_wp2
      refine bodyPost_ret (v := .tuple #[.agg #[.slice none 0 0, .slice none 0 0, .int .i64 0, .bool false], .int .i64 40]) (by simp [results, Try.results39, go_sem, z0, z1, z2, z3]) rfl ?_
      rw [E.out]
      refine dk_end (fun W BB => dk0V W) (by repeat (first | refine Below.setCell ?_ (by simp <;> omega) _ | exact hb2))
    · have dg : (g != 0) = true := bne_iff_ne.2 c1
      clear c1
      go_enter Try.func39, Try.ntmps39
      go_wp2_with (fail)
      go_at_call 29
      refine K.mono ?_
      rintro e w2 ⟨rfl, hw2⟩
      have hb2 := HBx.trans (hw2.mono (by simp <;> omega))
      have x0 := b0.below hw2 b0.lt
      have x1 := b1.below hw2 b1.lt
      have y0 := x0.cell 0
      have y1 := x0.cell 1
      have y2 := x0.cell 2
      have y3 := x0.cell 3
      have z0 := x1.cell 0
      have z1 := x1.cell 1
      have z2 := x1.cell 2
      have z3 := x1.cell 3
      have yf := x0.frozen 2
      have zf0 := x1.frozen 0
      have zf1 := x1.frozen 1
      have zf2 := x1.frozen 2
      have zf3 := x1.frozen 3
      simp only [List.getElem?_toArray, List.getElem?_cons_zero, List.getElem?_cons_succ] at y0 y1 y2 y3 z0 z1 z2 z3
      have lx0 := x0.lt
      have lx1 := x1.lt
      clear x0 x1 b0 b1 HBx hw2
      go_wp2
      refine bodyPost_ret (v := .tuple #[.agg #[.slice none 0 0, .slice none 0 0, .int .i64 0, .bool false], .int .i64 40]) (by simp [results, Try.results39, go_sem, z0, z1, z2, z3]) rfl ?_
      rw [E.out]
      refine dk_end (fun W BB => dk0V W) (by repeat (first | refine Below.setCell ?_ (by simp <;> omega) _ | exact hb2))
  case false =>
    have HBx : Below w.heap.size w ((w.alloc (.cells #[.slice SA secs.length sc, .slice PA pend.length pc, .int .i64 lf, .bool false] 25)).alloc (.cells #[.slice none 0 0, .slice none 0 0, .int .i64 0, .bool false] 25)) := ((Below.refl _ w).alloc (Nat.le_refl _) _).alloc (by simp) _
    have b0 : Blk ((w.alloc (.cells #[.slice SA secs.length sc, .slice PA pend.length pc, .int .i64 lf, .bool false] 25)).alloc (.cells #[.slice none 0 0, .slice none 0 0, .int .i64 0, .bool false] 25)) w.heap.size 25 #[.slice SA secs.length sc, .slice PA pend.length pc, .int .i64 lf, .bool false] := (Blk.new w 25 _).alloc _
    have b1 : Blk ((w.alloc (.cells #[.slice SA secs.length sc, .slice PA pend.length pc, .int .i64 lf, .bool false] 25)).alloc (.cells #[.slice none 0 0, .slice none 0 0, .int .i64 0, .bool false] 25)) (w.heap.size + 1) 25 #[.slice none 0 0, .slice none 0 0, .int .i64 0, .bool false] := Blk.newAt (by simp) 25 _
    have K := rcheck_t SA PA sc pc (⟨secs, pend, lf, false⟩ : Dk) _ hl1 hl2 (h1.below HBx) (h2.below HBx)
    by_cases c1 : gChk (⟨secs, pend, lf, false⟩ : Dk) = 0
    case neg =>
      have E := Lib.hid (gStop_no (d := (⟨secs, pend, lf, false⟩ : Dk)) (left := left) (runs_no1 c1))
      have dg : (gChk (⟨secs, pend, lf, false⟩ : Dk) != 0) = true := bne_iff_ne.2 c1
      obtain ⟨g, hg⟩ : ∃ g, g = gChk (⟨secs, pend, lf, false⟩ : Dk) := ⟨_, rfl⟩
      rw [← hg] at K dg
      clear hg c1
      go_enter Try.func39, Try.ntmps39
      go_wp2_with (fail)
      go_at_call 29
      refine K.mono ?_
      rintro e w2 ⟨rfl, hw2⟩
      have hb2 := HBx.trans (hw2.mono (by simp <;> omega))
      have x0 := b0.below hw2 b0.lt
      have x1 := b1.below hw2 b1.lt
      have y0 := x0.cell 0
      have y1 := x0.cell 1
      have y2 := x0.cell 2
      have y3 := x0.cell 3
      have z0 := x1.cell 0
      have z1 := x1.cell 1
      have z2 := x1.cell 2
      have z3 := x1.cell 3
      have yf := x0.frozen 2
      have zf0 := x1.frozen 0
      have zf1 := x1.frozen 1
      have zf2 := x1.frozen 2
      have zf3 := x1.frozen 3
      simp only [List.getElem?_toArray, List.getElem?_cons_zero, List.getElem?_cons_succ] at y0 y1 y2 y3 z0 z1 z2 z3
      have lx0 := x0.lt
      have lx1 := x1.lt
      clear x0 x1 b0 b1 HBx hw2
      go_wp2
      refine bodyPost_ret (v := .tuple #[.agg #[.slice none 0 0, .slice none 0 0, .int .i64 0, .bool false], .int .i64 40]) (by simp [results, Try.results39, go_sem, z0, z1, z2, z3]) rfl ?_
      rw [E.out]
      refine dk_end (fun W BB => dk0V W) (by repeat (first | refine Below.setCell ?_ (by simp <;> omega) _ | exact hb2))
    have hr := runs_yes c1 rfl
    rw [c1] at K
    clear c1
    by_cases q1 : left < 0
    · have E := Lib.hid (gStop_arg (d := (⟨secs, pend, lf, false⟩ : Dk)) (left := left) hr (.inl q1))
      have d1 : decide (left < 0) = true := decide_eq_true q1
      clear q1 hr
      go_enter Try.func39, Try.ntmps39
      go_wp2_with (fail)
      go_at_call 29
      refine K.mono ?_
      rintro e w2 ⟨rfl, hw2⟩
      have hb2 := HBx.trans (hw2.mono (by simp <;> omega))
      have x0 := b0.below hw2 b0.lt
      have x1 := b1.below hw2 b1.lt
      have y0 := x0.cell 0
      have y1 := x0.cell 1
      have y2 := x0.cell 2
      have y3 := x0.cell 3
      have z0 := x1.cell 0
      have z1 := x1.cell 1
      have z2 := x1.cell 2
      have z3 := x1.cell 3
      have yf := x0.frozen 2
      have zf0 := x1.frozen 0
      have zf1 := x1.frozen 1
      have zf2 := x1.frozen 2
      have zf3 := x1.frozen 3
      simp only [List.getElem?_toArray, List.getElem?_cons_zero, List.getElem?_cons_succ] at y0 y1 y2 y3 z0 z1 z2 z3
      have lx0 := x0.lt
      have lx1 := x1.lt
      clear x0 x1 b0 b1 HBx hw2
      go_wp2
      refine bodyPost_ret (v := .tuple #[.agg #[.slice none 0 0, .slice none 0 0, .int .i64 0, .bool false], .int .i64 1]) (by simp [results, Try.results39, go_sem, z0, z1, z2, z3]) rfl ?_
      rw [E.out]
      refine dk_end (fun W BB => dk0V W) (by repeat (first | refine Below.setCell ?_ (by simp <;> omega) _ | exact hb2))
    have d1 : decide (left < 0) = false := decide_eq_false q1
    by_cases q2 : 65536 < left
    · have E := Lib.hid (gStop_arg (d := (⟨secs, pend, lf, false⟩ : Dk)) (left := left) hr (.inr q2))
      have d2 : decide (65536 < left) = true := decide_eq_true q2
      clear q1 q2 hr
      go_enter Try.func39, Try.ntmps39
      go_wp2_with (fail)
      go_at_call 29
      refine K.mono ?_
      rintro e w2 ⟨rfl, hw2⟩
      have hb2 := HBx.trans (hw2.mono (by simp <;> omega))
      have x0 := b0.below hw2 b0.lt
      have x1 := b1.below hw2 b1.lt
      have y0 := x0.cell 0
      have y1 := x0.cell 1
      have y2 := x0.cell 2
      have y3 := x0.cell 3
      have z0 := x1.cell 0
      have z1 := x1.cell 1
      have z2 := x1.cell 2
      have z3 := x1.cell 3
      have yf := x0.frozen 2
      have zf0 := x1.frozen 0
      have zf1 := x1.frozen 1
      have zf2 := x1.frozen 2
      have zf3 := x1.frozen 3
      simp only [List.getElem?_toArray, List.getElem?_cons_zero, List.getElem?_cons_succ] at y0 y1 y2 y3 z0 z1 z2 z3
      have lx0 := x0.lt
      have lx1 := x1.lt
      clear x0 x1 b0 b1 HBx hw2
      go_wp2
      refine bodyPost_ret (v := .tuple #[.agg #[.slice none 0 0, .slice none 0 0, .int .i64 0, .bool false], .int .i64 1]) (by simp [results, Try.results39, go_sem, z0, z1, z2, z3]) rfl ?_
      rw [E.out]
      refine dk_end (fun W BB => dk0V W) (by repeat (first | refine Below.setCell ?_ (by simp <;> omega) _ | exact hb2))
    have d2 : decide (65536 < left) = false := decide_eq_false q2
    have E := Lib.hid (gStop_ok (d := (⟨secs, pend, lf, false⟩ : Dk)) (left := left) hr (by omega))
    clear q1 q2 hr
    go_enter Try.func39, Try.ntmps39
    go_wp2_with (fail)
    go_at_call 29
    refine K.mono ?_
    rintro e w2 ⟨rfl, hw2⟩
    have hb2 := HBx.trans (hw2.mono (by simp <;> omega))
    have x0 := b0.below hw2 b0.lt
    have x1 := b1.below hw2 b1.lt
    have y0 := x0.cell 0
    have y1 := x0.cell 1
    have y2 := x0.cell 2
    have y3 := x0.cell 3
    have z0 := x1.cell 0
    have z1 := x1.cell 1
    have z2 := x1.cell 2
    have z3 := x1.cell 3
    have yf := x0.frozen 2
    have zf0 := x1.frozen 0
    have zf1 := x1.frozen 1
    have zf2 := x1.frozen 2
    have zf3 := x1.frozen 3
    simp only [List.getElem?_toArray, List.getElem?_cons_zero, List.getElem?_cons_succ] at y0 y1 y2 y3 z0 z1 z2 z3
    have lx0 := x0.lt
    have lx1 := x1.lt
    clear x0 x1 b0 b1 HBx hw2
    go_wp2
    refine bodyPost_ret (v := .tuple #[.agg #[.slice SA secs.length sc, .slice PA pend.length pc, .int .i64 left, .bool false], .int .i64 0]) (by simp [results, Try.results39, go_sem, z0, z1, z2, z3]) rfl ?_
    rw [E.out]
    refine dk_end (fun W BB => dkV_mk (d := ⟨secs, pend, left, false⟩) hc1 hc2 (h1.below BB) (h2.below BB)) (by repeat (first | refine Below.setCell ?_ (by simp <;> omega) _ | exact hb2))
end Go.Proofs.Ytckeopidedoohaa
