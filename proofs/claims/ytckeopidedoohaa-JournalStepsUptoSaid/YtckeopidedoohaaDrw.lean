/-
  The reference's Write of a disk. Conditions: the disk lies as plain data.
-/
import Derived.Test.YtckeopidedoohaaDwr
namespace Go.Proofs.Ytckeopidedoohaa
open Go.RowKit
variable {n₀ : Nat}
attribute [local go_sem] Oper.semAt_some

theorem wr_end2 {w W : World} {SA A9 : Option Addr} {sc c9 base : Nat} {secs : List Bs} {pend : List Wr} {vs : List Value} {v : Value} {lf at_ : Int} {st : Bool} {b : Bs}
    (hc1 : secs.length ≤ sc) (h1 : RowsAt n₀ w SA secs) (hrw : Rws n₀ w vs (pend.map Wr.data)) (hBW : Below w.heap.size w W)
    (hown : W.ownsRow base 90 2 (.slice A9 (pend.length + 1) c9) (pend.length + 1) (flatW pend vs ++ [.int .i64 at_, v])) (hc9 : pend.length + 1 ≤ c9) (hv : BsV n₀ W v (pad b)) :
    DkIs n₀ w (⟨secs, pend ++ [⟨at_, pad b⟩], lf, st⟩, 0) (.returned (.tuple #[.agg #[.slice SA secs.length sc, .slice A9 (pend.length + 1) c9, .int .i64 lf, .bool st], .int .i64 0])) W := by
  have hl : vs.length = pend.length := by have := hrw.1; simpa using this
  have e1 : (pend ++ [(⟨at_, pad b⟩ : Wr)]).length = pend.length + 1 := by simp
  refine ⟨_, rfl, ⟨SA, sc, A9, c9, by rw [e1], hc1, by rw [e1]; exact hc9, h1.below hBW, ?_⟩, hBW⟩
  have e2 : flatW pend vs ++ [.int .i64 at_, v] = flatW (pend ++ [⟨at_, pad b⟩]) (vs ++ [v]) := by
    rw [flatW_append _ _ _ _ hl]
    rfl
  rw [e2] at hown
  refine own_WrsAt hown e1.symm ?_
  rw [List.map_append]
  exact rws_snoc (hrw.below hBW) hv
theorem wr_end3 {may : Nat → Prop} {w w6 W : World} {SA A9 DA : Option Addr} {sc c9 dc base base2 : Nat} {secs : List Bs} {pend : List Wr} {vs : List Value} {lf at_ : Int} {st : Bool} {b : Bs}
    (hc1 : secs.length ≤ sc) (h1 : RowsAt n₀ w SA secs) (hrw : Rws n₀ w vs (pend.map Wr.data)) (hb : b.length ≤ 128) (hb6 : Below w.heap.size w w6) (hk : Keep may w6 W) (hm : ∀ r, r < w.heap.size → ¬ may r)
    (hown : w6.ownsRow base 90 2 (.slice A9 (pend.length + 1) c9) (pend.length + 1) (flatW pend vs ++ [.int .i64 at_, .slice DA 128 dc])) (hc9 : pend.length + 1 ≤ c9) (hbase : ∀ k, base ≤ k → ¬ may k)
    (hdat : w6.ownsRow base2 5 1 (.slice DA 128 dc) 128 (bcells (pad b))) (hdc : 128 ≤ dc) (hbase2 : ∀ k, base2 ≤ k → ¬ may k) :
    DkIs n₀ w (⟨secs, pend ++ [⟨at_, pad b⟩], lf, st⟩, 0) (.returned (.tuple #[.agg #[.slice SA secs.length sc, .slice A9 (pend.length + 1) c9, .int .i64 lf, .bool st], .int .i64 0])) W :=
  wr_end2 hc1 h1 hrw (hb6.trans (hk.below hb6.size hm)) (own_keep hown hk hbase) hc9 ⟨DA, dc, by rw [pad_len hb], by rw [pad_len hb]; exact hdc, own_BsAt (own_keep hdat hk hbase2) (pad_len hb).symm⟩
def lenV : Value → Nat
  | .slice _ n _ => n
  | _ => 0
theorem pad_more {b : Bs} {j : Nat} (h : b.length + j = 128) : b ++ List.replicate j 0 = pad b := by unfold pad; congr 2; omega
theorem cell_new1 (w : World) (a : Value) (t : TypeId) : ∀ j u, [a][j]? = some u → (w.alloc (.cells #[a] t)).cell? ((⟨w.heap.size, 0, none⟩ : Addr).add j) = some u := fun j u h => by
  rw [addr_add, Nat.zero_add, (Blk.new w t #[a]).cell j]
  simpa using h
theorem bcells_snoc (bs : Bs) (x : UInt8) : bcells (bs ++ [x]) = bcells bs ++ [u8v x] := by simp [bcells]
theorem rep_snoc (b : Bs) (j : Nat) : b ++ List.replicate (j + 1) (0 : UInt8) = (b ++ List.replicate j 0) ++ [0] := by rw [List.replicate_succ', List.append_assoc]
def RwI (w2 : World) (b : Bs) (v : Value) (wr : World) : Prop := ∃ j, b.length + j ≤ 128 ∧ wr.ownsRow w2.heap.size 5 1 v (b.length + j) (bcells (b ++ List.replicate j 0)) ∧ Below w2.heap.size w2 wr

set_option maxRecDepth 20000 in
set_option maxHeartbeats 8000000 in
theorem rwrite_t (SA PA A : Option Addr) (sc pc c : Nat) (d : Dk) (at_ : Int) (b : Bs) (w : World) (hl1 : d.secs.length ≤ 140737488355328) (hl2 : d.pend.length ≤ 140737488355328) (hbl : b.length ≤ 140737488355328) (hc1 : d.secs.length ≤ sc) (h1 : RowsAt n₀ w SA d.secs) (h2 : WrsAt n₀ w PA d.pend) (h3 : BsAt n₀ w A b) :
    Calls Try.prog 33 #[.agg #[.slice SA d.secs.length sc, .slice PA d.pend.length pc, .int .i64 d.left, .bool d.stop], .int .i64 at_, .slice A b.length c] w (DkIs n₀ w (gWrite d at_ b)) := by
  obtain ⟨secs, pend, lf, st⟩ := d
  dsimp only at hl1 hl2 hc1 h1 h2 ⊢
  cases st
  case true =>
    have HBx : Below w.heap.size w ((w.alloc (.cells #[.slice SA secs.length sc, .slice PA pend.length pc, .int .i64 lf, .bool true] 25)).alloc (.cells #[.slice none 0 0, .slice none 0 0, .int .i64 0, .bool false] 25)) := ((Below.refl _ w).alloc (Nat.le_refl _) _).alloc (by simp) _
    have b0 : Blk ((w.alloc (.cells #[.slice SA secs.length sc, .slice PA pend.length pc, .int .i64 lf, .bool true] 25)).alloc (.cells #[.slice none 0 0, .slice none 0 0, .int .i64 0, .bool false] 25)) w.heap.size 25 #[.slice SA secs.length sc, .slice PA pend.length pc, .int .i64 lf, .bool true] := (Blk.new w 25 _).alloc _
    have b1 : Blk ((w.alloc (.cells #[.slice SA secs.length sc, .slice PA pend.length pc, .int .i64 lf, .bool true] 25)).alloc (.cells #[.slice none 0 0, .slice none 0 0, .int .i64 0, .bool false] 25)) (w.heap.size + 1) 25 #[.slice none 0 0, .slice none 0 0, .int .i64 0, .bool false] := Blk.newAt (by simp) 25 _
    have K := rcheck_t SA PA sc pc (⟨secs, pend, lf, true⟩ : Dk) _ hl1 hl2 (h1.below HBx) (h2.below HBx)
    have E := Lib.hid (gWrite_no (d := (⟨secs, pend, lf, true⟩ : Dk)) (at_ := at_) (b := b) (fun h => runs_no2 rfl h.1))
    obtain ⟨g, hg⟩ : ∃ g, g = gChk (⟨secs, pend, lf, true⟩ : Dk) := ⟨_, rfl⟩
    rw [← hg] at K
    clear hg
    by_cases c1 : g = 0
    · subst c1
      go_enter Try.func33, Try.ntmps33
      go_wp2_with (fail)
      go_at_call 29
      refine K.mono ?_
      rintro e w2 ⟨rfl, hw2⟩
      have hb2 := HBx.trans (hw2.mono (by simp <;> omega))
      have x0 := b0.below hw2 b0.lt
      have x1 := b1.below hw2 b1.lt
      clear b0 b1 HBx hw2 K
      have y0 := x0.cell 0
      have y1 := x0.cell 1
      have y2 := x0.cell 2
      have y3 := x0.cell 3
      have z0 := x1.cell 0
      have z1 := x1.cell 1
      have z2 := x1.cell 2
      have z3 := x1.cell 3
      have zf0 := x1.frozen 0
      have zf1 := x1.frozen 1
      have zf2 := x1.frozen 2
      have zf3 := x1.frozen 3
      simp only [List.getElem?_toArray, List.getElem?_cons_zero, List.getElem?_cons_succ] at y0 y1 y2 y3 z0 z1 z2 z3
      have lx0 := x0.lt
      have lx1 := x1.lt
      go_wp2
      refine bodyPost_ret (v := .tuple #[.agg #[.slice none 0 0, .slice none 0 0, .int .i64 0, .bool false], .int .i64 40]) (by simp [results, Try.results33, go_sem, z0, z1, z2, z3]) rfl ?_
      rw [E.out]
      exact dk_end (fun W BB => dk0V W) (by repeat (first | refine Below.setCell ?_ (by simp <;> omega) _ | exact hb2))
    · have dg : (g != 0) = true := bne_iff_ne.2 c1
      clear c1
      go_enter Try.func33, Try.ntmps33
      go_wp2_with (fail)
      go_at_call 29
      refine K.mono ?_
      rintro e w2 ⟨rfl, hw2⟩
      have hb2 := HBx.trans (hw2.mono (by simp <;> omega))
      have x0 := b0.below hw2 b0.lt
      have x1 := b1.below hw2 b1.lt
      clear b0 b1 HBx hw2 K
      have y0 := x0.cell 0
      have y1 := x0.cell 1
      have y2 := x0.cell 2
      have y3 := x0.cell 3
      have z0 := x1.cell 0
      have z1 := x1.cell 1
      have z2 := x1.cell 2
      have z3 := x1.cell 3
      have zf0 := x1.frozen 0
      have zf1 := x1.frozen 1
      have zf2 := x1.frozen 2
      have zf3 := x1.frozen 3
      simp only [List.getElem?_toArray, List.getElem?_cons_zero, List.getElem?_cons_succ] at y0 y1 y2 y3 z0 z1 z2 z3
      have lx0 := x0.lt
      have lx1 := x1.lt
      go_wp2
      refine bodyPost_ret (v := .tuple #[.agg #[.slice none 0 0, .slice none 0 0, .int .i64 0, .bool false], .int .i64 40]) (by simp [results, Try.results33, go_sem, z0, z1, z2, z3]) rfl ?_
      rw [E.out]
      exact dk_end (fun W BB => dk0V W) (by repeat (first | refine Below.setCell ?_ (by simp <;> omega) _ | exact hb2))
  case false =>
    have HBx : Below w.heap.size w ((w.alloc (.cells #[.slice SA secs.length sc, .slice PA pend.length pc, .int .i64 lf, .bool false] 25)).alloc (.cells #[.slice none 0 0, .slice none 0 0, .int .i64 0, .bool false] 25)) := ((Below.refl _ w).alloc (Nat.le_refl _) _).alloc (by simp) _
    have b0 : Blk ((w.alloc (.cells #[.slice SA secs.length sc, .slice PA pend.length pc, .int .i64 lf, .bool false] 25)).alloc (.cells #[.slice none 0 0, .slice none 0 0, .int .i64 0, .bool false] 25)) w.heap.size 25 #[.slice SA secs.length sc, .slice PA pend.length pc, .int .i64 lf, .bool false] := (Blk.new w 25 _).alloc _
    have b1 : Blk ((w.alloc (.cells #[.slice SA secs.length sc, .slice PA pend.length pc, .int .i64 lf, .bool false] 25)).alloc (.cells #[.slice none 0 0, .slice none 0 0, .int .i64 0, .bool false] 25)) (w.heap.size + 1) 25 #[.slice none 0 0, .slice none 0 0, .int .i64 0, .bool false] := Blk.newAt (by simp) 25 _
    have K := rcheck_t SA PA sc pc (⟨secs, pend, lf, false⟩ : Dk) _ hl1 hl2 (h1.below HBx) (h2.below HBx)
    by_cases c1 : gChk (⟨secs, pend, lf, false⟩ : Dk) = 0
    case neg =>
      have E := Lib.hid (gWrite_no (d := (⟨secs, pend, lf, false⟩ : Dk)) (at_ := at_) (b := b) (fun h => runs_no1 c1 h.1))
      have dg : (gChk (⟨secs, pend, lf, false⟩ : Dk) != 0) = true := bne_iff_ne.2 c1
      obtain ⟨g, hg⟩ : ∃ g, g = gChk (⟨secs, pend, lf, false⟩ : Dk) := ⟨_, rfl⟩
      rw [← hg] at K dg
      clear hg c1
      go_enter Try.func33, Try.ntmps33
      go_wp2_with (fail)
      go_at_call 29
      refine K.mono ?_
      rintro e w2 ⟨rfl, hw2⟩
      have hb2 := HBx.trans (hw2.mono (by simp <;> omega))
      have x0 := b0.below hw2 b0.lt
      have x1 := b1.below hw2 b1.lt
      clear b0 b1 HBx hw2 K
      have y0 := x0.cell 0
      have y1 := x0.cell 1
      have y2 := x0.cell 2
      have y3 := x0.cell 3
      have z0 := x1.cell 0
      have z1 := x1.cell 1
      have z2 := x1.cell 2
      have z3 := x1.cell 3
      have zf0 := x1.frozen 0
      have zf1 := x1.frozen 1
      have zf2 := x1.frozen 2
      have zf3 := x1.frozen 3
      simp only [List.getElem?_toArray, List.getElem?_cons_zero, List.getElem?_cons_succ] at y0 y1 y2 y3 z0 z1 z2 z3
      have lx0 := x0.lt
      have lx1 := x1.lt
      go_wp2
      refine bodyPost_ret (v := .tuple #[.agg #[.slice none 0 0, .slice none 0 0, .int .i64 0, .bool false], .int .i64 40]) (by simp [results, Try.results33, go_sem, z0, z1, z2, z3]) rfl ?_
      rw [E.out]
      exact dk_end (fun W BB => dk0V W) (by repeat (first | refine Below.setCell ?_ (by simp <;> omega) _ | exact hb2))
    have hr := runs_yes c1 rfl
    have hpl : pend.length ≤ 4096 := hr.1.2.2.1
    rw [c1] at K
    clear c1
    by_cases q1 : at_ < 0
    · have E := Lib.hid (gWrite_no (d := (⟨secs, pend, lf, false⟩ : Dk)) (at_ := at_) (b := b) (fun h => by have := h.2.1; omega))
      have d1 : decide (at_ < 0) = true := decide_eq_true q1
      clear q1 hr
      go_enter Try.func33, Try.ntmps33
      go_wp2_with (fail)
      go_at_call 29
      refine K.mono ?_
      rintro e w2 ⟨rfl, hw2⟩
      have hb2 := HBx.trans (hw2.mono (by simp <;> omega))
      have x0 := b0.below hw2 b0.lt
      have x1 := b1.below hw2 b1.lt
      clear b0 b1 HBx hw2 K
      have y0 := x0.cell 0
      have y1 := x0.cell 1
      have y2 := x0.cell 2
      have y3 := x0.cell 3
      have z0 := x1.cell 0
      have z1 := x1.cell 1
      have z2 := x1.cell 2
      have z3 := x1.cell 3
      have zf0 := x1.frozen 0
      have zf1 := x1.frozen 1
      have zf2 := x1.frozen 2
      have zf3 := x1.frozen 3
      simp only [List.getElem?_toArray, List.getElem?_cons_zero, List.getElem?_cons_succ] at y0 y1 y2 y3 z0 z1 z2 z3
      have lx0 := x0.lt
      have lx1 := x1.lt
      go_wp2
      refine bodyPost_ret (v := .tuple #[.agg #[.slice none 0 0, .slice none 0 0, .int .i64 0, .bool false], .int .i64 40]) (by simp [results, Try.results33, go_sem, z0, z1, z2, z3]) rfl ?_
      rw [E.out]
      exact dk_end (fun W BB => dk0V W) (by repeat (first | refine Below.setCell ?_ (by simp <;> omega) _ | exact hb2))
    have d1 : decide (at_ < 0) = false := decide_eq_false q1
    by_cases q2 : (secs.length : Int) ≤ at_
    · have E := Lib.hid (gWrite_no (d := (⟨secs, pend, lf, false⟩ : Dk)) (at_ := at_) (b := b) (fun h => by have := h.2.2; dsimp only at this; omega))
      have d2 : decide ((secs.length : Int) ≤ at_) = true := decide_eq_true q2
      clear q1 q2 hr
      go_enter Try.func33, Try.ntmps33
      go_wp2_with (fail)
      go_at_call 29
      refine K.mono ?_
      rintro e w2 ⟨rfl, hw2⟩
      have hb2 := HBx.trans (hw2.mono (by simp <;> omega))
      have x0 := b0.below hw2 b0.lt
      have x1 := b1.below hw2 b1.lt
      clear b0 b1 HBx hw2 K
      have y0 := x0.cell 0
      have y1 := x0.cell 1
      have y2 := x0.cell 2
      have y3 := x0.cell 3
      have z0 := x1.cell 0
      have z1 := x1.cell 1
      have z2 := x1.cell 2
      have z3 := x1.cell 3
      have zf0 := x1.frozen 0
      have zf1 := x1.frozen 1
      have zf2 := x1.frozen 2
      have zf3 := x1.frozen 3
      simp only [List.getElem?_toArray, List.getElem?_cons_zero, List.getElem?_cons_succ] at y0 y1 y2 y3 z0 z1 z2 z3
      have lx0 := x0.lt
      have lx1 := x1.lt
      go_wp2
      refine bodyPost_ret (v := .tuple #[.agg #[.slice none 0 0, .slice none 0 0, .int .i64 0, .bool false], .int .i64 40]) (by simp [results, Try.results33, go_sem, z0, z1, z2, z3]) rfl ?_
      rw [E.out]
      exact dk_end (fun W BB => dk0V W) (by repeat (first | refine Below.setCell ?_ (by simp <;> omega) _ | exact hb2))
    have d2 : decide ((secs.length : Int) ≤ at_) = false := decide_eq_false q2
    have hat : Runs (⟨secs, pend, lf, false⟩ : Dk) ∧ 0 ≤ at_ ∧ at_ < (secs.length : Int) := ⟨hr, by omega, by omega⟩
    clear q1 q2
    by_cases q3 : 128 < b.length
    · have E := Lib.hid (gWrite_arg (d := (⟨secs, pend, lf, false⟩ : Dk)) (at_ := at_) (b := b) hat q3)
      have d3 : decide (128 < (b.length : Int)) = true := decide_eq_true (by omega)
      clear q3 hr hat
      go_enter Try.func33, Try.ntmps33
      go_wp2_with (fail)
      go_at_call 29
      refine K.mono ?_
      rintro e w2 ⟨rfl, hw2⟩
      have hb2 := HBx.trans (hw2.mono (by simp <;> omega))
      have x0 := b0.below hw2 b0.lt
      have x1 := b1.below hw2 b1.lt
      clear b0 b1 HBx hw2 K
      have y0 := x0.cell 0
      have y1 := x0.cell 1
      have y2 := x0.cell 2
      have y3 := x0.cell 3
      have z0 := x1.cell 0
      have z1 := x1.cell 1
      have z2 := x1.cell 2
      have z3 := x1.cell 3
      have zf0 := x1.frozen 0
      have zf1 := x1.frozen 1
      have zf2 := x1.frozen 2
      have zf3 := x1.frozen 3
      simp only [List.getElem?_toArray, List.getElem?_cons_zero, List.getElem?_cons_succ] at y0 y1 y2 y3 z0 z1 z2 z3
      have lx0 := x0.lt
      have lx1 := x1.lt
      go_wp2
      refine bodyPost_ret (v := .tuple #[.agg #[.slice none 0 0, .slice none 0 0, .int .i64 0, .bool false], .int .i64 1]) (by simp [results, Try.results33, go_sem, z0, z1, z2, z3]) rfl ?_
      rw [E.out]
      exact dk_end (fun W BB => dk0V W) (by repeat (first | refine Below.setCell ?_ (by simp <;> omega) _ | exact hb2))
    have d3 : decide (128 < (b.length : Int)) = false := decide_eq_false (by omega)
    by_cases q4 : pend.length = 4096
    · have E := Lib.hid (gWrite_lim (d := (⟨secs, pend, lf, false⟩ : Dk)) (at_ := at_) (b := b) hat q3 q4)
      have d4 : ((pend.length : Int) == 4096) = true := beq_iff_eq.2 (by omega)
      clear q3 q4 hr hat
      go_enter Try.func33, Try.ntmps33
      go_wp2_with (fail)
      go_at_call 29
      refine K.mono ?_
      rintro e w2 ⟨rfl, hw2⟩
      have hb2 := HBx.trans (hw2.mono (by simp <;> omega))
      have x0 := b0.below hw2 b0.lt
      have x1 := b1.below hw2 b1.lt
      clear b0 b1 HBx hw2 K
      have y0 := x0.cell 0
      have y1 := x0.cell 1
      have y2 := x0.cell 2
      have y3 := x0.cell 3
      have z0 := x1.cell 0
      have z1 := x1.cell 1
      have z2 := x1.cell 2
      have z3 := x1.cell 3
      have zf0 := x1.frozen 0
      have zf1 := x1.frozen 1
      have zf2 := x1.frozen 2
      have zf3 := x1.frozen 3
      simp only [List.getElem?_toArray, List.getElem?_cons_zero, List.getElem?_cons_succ] at y0 y1 y2 y3 z0 z1 z2 z3
      have lx0 := x0.lt
      have lx1 := x1.lt
      go_wp2
      refine bodyPost_ret (v := .tuple #[.agg #[.slice none 0 0, .slice none 0 0, .int .i64 0, .bool false], .int .i64 2]) (by simp [results, Try.results33, go_sem, z0, z1, z2, z3]) rfl ?_
      rw [E.out]
      exact dk_end (fun W BB => dk0V W) (by repeat (first | refine Below.setCell ?_ (by simp <;> omega) _ | exact hb2))
    have d4 : ((pend.length : Int) == 4096) = false := beq_eq_false_iff_ne.2 (by omega)
    have E := Lib.hid (gWrite_ok (d := (⟨secs, pend, lf, false⟩ : Dk)) (at_ := at_) (b := b) hat q3 q4)
    have hb128 : b.length ≤ 128 := by omega
    obtain ⟨vs, hrw, hca⟩ := h2
    obtain ⟨j0, hj0, jz0, jz1, jz2⟩ := info_parts info5
    obtain ⟨i0, hi0, hz0, hz1, hz2⟩ := info_parts info90
    have hws := wrs_cells hca rfl
    have HWS := Lib.hid hws
    have H3 := Lib.hid h3
    have HRW := Lib.hid hrw
    have HH1 := Lib.hid h1
    clear hr hat q3 q4 hca hrw h3 h1 hl1 hl2 hbl hws
    go_enter Try.func33, Try.ntmps33
    go_wp2_with (fail)
    go_at_call 29
    refine K.mono ?_
    rintro e w2 ⟨rfl, hw2⟩
    have hb2 := HBx.trans (hw2.mono (by simp <;> omega))
    have x0 := b0.below hw2 b0.lt
    have x1 := b1.below hw2 b1.lt
    clear b0 b1 HBx hw2 K
    have y0 := x0.cell 0
    have y1 := x0.cell 1
    have y2 := x0.cell 2
    have y3 := x0.cell 3
    have z0 := x1.cell 0
    have z1 := x1.cell 1
    have z2 := x1.cell 2
    have z3 := x1.cell 3
    have zf0 := x1.frozen 0
    have zf1 := x1.frozen 1
    have zf2 := x1.frozen 2
    have zf3 := x1.frozen 3
    simp only [List.getElem?_toArray, List.getElem?_cons_zero, List.getElem?_cons_succ] at y0 y1 y2 y3 z0 z1 z2 z3
    have lx0 := x0.lt
    have lx1 := x1.lt
    have ow := World.ownsRow_lit (base := w2.heap.size) (e := 5) (size := 1) w2 #[] 0 (Nat.le_refl _) (by simp [maxLen]) rfl
    have hal : Below w2.heap.size w2 (w2.alloc (.cells #[] 5)) := (Below.refl _ _).alloc (Nat.le_refl _) _
    have HSB := Lib.hid (bs_src (H3.out.below hb2) hal)
    go_wp2_with (at_builtin; refine wpList_append_any (by rfl) (.tmp 37) (.tmp 38) 35 rfl w2.heap.size 5 j0 (.int .u8 0) 1 1 Try.underlying35 hj0 jz0 jz1 jz2 rfl (by decide) _ 0 [] rfl ow A b.length c (bcells b) rfl (by rw [bcells_len]; omega) HSB.out (bcells_one b) (by simp [maxLen]; omega) (by omega) (by simp) ?_; intro v7 w7 hown7 hgrow7; simp only [Nat.zero_add, List.nil_append] at hown7; have b7 := hal.grown hgrow7 (by simp) (own_base ow))
    clear ow hal hgrow7 y0 y1 y2 y3 z0 z1 z2 z3 zf0 zf1 zf2 zf3
    go_loopw [8] (fun v wr => RwI w2 b v wr) (fun v _ => 128 - lenV v)
    case atStart => exact ⟨0, by omega, by simpa using hown7, b7⟩
    case round =>
      obtain ⟨j, hj, hown, hwr⟩ := hrel
      obtain ⟨DA, dc, rfl, hdc⟩ := own_slice hown
      by_cases hlt : b.length + j < 128
      case pos =>
        have dj : decide ((b.length : Int) + (j : Int) < 128) = true := decide_eq_true (by omega)
        obtain ⟨n, hn⟩ : ∃ n, n = b.length + j := ⟨_, rfl⟩
        rw [← hn] at hown hdc ⊢
        have HN := Lib.hid hn
        have hn127 : n < 128 := by omega
        have dj : decide ((n : Int) < 128) = true := decide_eq_true (by omega)
        clear hown7 b7 hn
        go_wp2_with (at_builtin; (refine wpList_append_own _ rfl (.tmp 43) (.tmp 44) 35 rfl w2.heap.size 5 j0 (.int .u8 0) 1 1 Try.underlying35 hj0 jz0 jz1 jz2 rfl (by decide) _ n (bcells (b ++ List.replicate j 0)) rfl (hown.alloc _) ⟨wr.heap.size, 0, none⟩ 1 1 [.int .u8 0] rfl rfl (cell_new1 wr _ _) (by simp [Value.oneCell']) (by simp [maxLen]; omega) (by omega) (by have := hwr.size; simp; omega) ?_); intro v9 w9 hown9 hgrow9 _; have b9 := ((hwr.alloc hwr.size (.cells #[.int .u8 0] 5)).grown hgrow9 (by have := hwr.size; simp; omega) (own_base hown)))
        go_roundw
        case rel => exact ⟨j + 1, by omega, by rw [rep_snoc, bcells_snoc, ← Nat.add_assoc, ← HN.out]; exact hown9, b9⟩
        case measure =>
          obtain ⟨A9, c9, rfl, _⟩ := own_slice hown9
          simp only [lenV]
          omega
      case neg =>
        have hj128 : b.length + j = 128 := by omega
        rw [pad_more hj128] at hown
        rw [hj128] at hown hdc ⊢
        have HJ := Lib.hid hj128
        clear hown7 b7 hlt hj128
        have r0 := x0.below hwr lx0
        have r1 := x1.below hwr lx1
        have p1 : wr.cell? ⟨w.heap.size, 1, none⟩ = some (.slice PA pend.length pc) := r0.cell 1
        have lr0 := r0.lt
        have lr1 := r1.lt
        have hbr := hb2.trans (hwr.mono hb2.size)
        have ow2 := World.ownsRow_lit (base := wr.heap.size) (e := 90) (size := 2) wr #[] 0 (Nat.le_refl _) (by simp [maxLen]) rfl
        have hal2 : Below wr.heap.size wr (wr.alloc (.cells #[] 90)) := (Below.refl _ _).alloc (Nat.le_refl _) _
        have HSW := Lib.hid (wsrc (wsrc_up HWS.out hbr) hal2)
        go_wp2_with (first
          | (at_builtin; refine wpList_append_any (by rfl) (.tmp 46) (.tmp 48) 23 rfl wr.heap.size 90 i0 (.agg #[.int .i64 0, .slice none 0 0]) 2 32 Try.underlying23 hi0 hz0 hz1 hz2 rfl (by decide) _ 0 [] rfl ow2 PA pend.length pc (flatW pend vs) rfl (flatW_len _ _) HSW.out (wcells_one HRW.out) (by simp [maxLen]; omega) (by omega) (by simp) ?_; intro v9 w9 hown9 hgrow9; simp only [Nat.zero_add, List.nil_append] at hown9; have b9 := hal2.grown hgrow9 (by simp) (own_base ow2))
          | (at_builtin; refine wpList_append_own _ rfl (.tmp 49) (.tmp 53) 23 rfl wr.heap.size 90 i0 (.agg #[.int .i64 0, .slice none 0 0]) 2 32 Try.underlying23 hi0 hz0 hz1 hz2 rfl (by decide) _ pend.length (flatW pend vs) rfl (hown9.alloc _) ⟨w9.heap.size, 0, none⟩ 1 1 [.int .i64 at_, .slice DA 128 dc] rfl rfl (cell_new2 w9 _ _ _) (two_one _ _) (by simp [maxLen]; omega) (by omega) (by have := b9.size; simp; omega) ?_; intro v6 w6 hown6 hgrow6 _; obtain ⟨A6, c6, rfl, hc6⟩ := own_slice hown6; have b6 := (b9.alloc b9.size _).grown hgrow6 (by have := b9.size; simp; omega) (own_base hown9); have t0 := r0.below b6 r0.lt; have t1 := r1.below b6 r1.lt; have p0 := t0.cell 0; have p1 := t0.cell 1; have p2 := t0.cell 2; have p3 := t0.cell 3; have s0 := t1.cell 0; have s1 := t1.cell 1; have s2 := t1.cell 2; have s3 := t1.cell 3; have rf := t0.frozen 1; have sf0 := t1.frozen 0; have sf1 := t1.frozen 1; have sf2 := t1.frozen 2; have sf3 := t1.frozen 3; simp only [List.getElem?_toArray, List.getElem?_cons_zero, List.getElem?_cons_succ] at p0 p1 p2 p3 s0 s1 s2 s3))
        refine bodyPost_ret (v := .tuple #[.agg #[.slice SA secs.length sc, .slice A6 (pend.length + 1) c6, .int .i64 lf, .bool false], .int .i64 0]) (by simp [results, Try.results33, go_sem, s0, s1, s2, s3]) rfl ?_
        rw [E.out]
        have hb6 := hbr.trans (b6.mono hbr.size)
        have hszr := hwr.size
        exact wr_end3 (may := fun r => r = w.heap.size ∨ r = w.heap.size + 1) hc1 HH1.out HRW.out hb128 hb6 (by repeat (first | refine Keep.setCell ?_ (fun _ => by simp) _ | exact Keep.refl _ _)) (fun r hr h => by omega) hown6 hc6 (fun k hk h => by omega) (row_keep hown b6) hdc (fun k hk h => by omega)
end Go.Proofs.Ytckeopidedoohaa
