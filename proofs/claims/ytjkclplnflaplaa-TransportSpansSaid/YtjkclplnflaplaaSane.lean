/-
  The chapter's examples of the transport: 'sane' answers true.
-/
import Derived.Test.YtjkclplnflaplaaEx
import Derived.Test.YtjkclplnflaplaaSong
namespace Go.Proofs.Ytjkclplnflaplaa
open Go.RowKit
attribute [local go_sem] Oper.semAt_some

def ordc : List Ord → List Value
  | [] => []
  | x :: xs => Value.int .i64 x.at_ :: .int .i64 x.kind :: .int .i64 x.a :: .int .i64 x.b :: ordc xs
theorem ordc_get (l : List Ord) (i : Nat) (hi : i < l.length) : (ordc l)[i * 4]? = some (.int .i64 (oT l i)) ∧ (ordc l)[i * 4 + 1]? = some (.int .i64 (oK l i)) ∧ (ordc l)[i * 4 + 2]? = some (.int .i64 (oA l i)) ∧ (ordc l)[i * 4 + 3]? = some (.int .i64 (oB l i)) := by
  induction l generalizing i with
  | nil => simp at hi
  | cons x xs ih =>
    cases i with
    | zero => exact ⟨rfl, rfl, rfl, rfl⟩
    | succ i =>
      have := ih i (by simpa using hi)
      rw [show (i + 1) * 4 = i * 4 + 4 by omega, show i * 4 + 4 + 1 = i * 4 + 1 + 4 by omega, show i * 4 + 4 + 2 = i * 4 + 2 + 4 by omega, show i * 4 + 4 + 3 = i * 4 + 3 + 4 by omega]
      exact this
theorem ordsNew (W : World) (cs : Array Value) (l : List Ord) (h : cs = (ordc l).toArray) : SlAt (W.alloc (.cells cs 40)) (some ⟨W.heap.size, 0, none⟩) l := fun _ => by
  subst h
  refine ⟨_, _, rfl, ⟨by simp, fun i hi => ?_, fun i hi => ?_, fun i hi => ?_, fun i hi => ?_⟩⟩
  · have e := (Blk.new W 40 (ordc l).toArray).cell (i * 4)
    rw [Nat.zero_add, e, List.getElem?_toArray]; exact (ordc_get l i hi).1
  · have e := (Blk.new W 40 (ordc l).toArray).cell (i * 4 + 1)
    rw [Nat.zero_add, e, List.getElem?_toArray]; exact (ordc_get l i hi).2.1
  · have e := (Blk.new W 40 (ordc l).toArray).cell (i * 4 + 2)
    rw [Nat.zero_add, e, List.getElem?_toArray]; exact (ordc_get l i hi).2.2.1
  · have e := (Blk.new W 40 (ordc l).toArray).cell (i * 4 + 3)
    rw [Nat.zero_add, e, List.getElem?_toArray]; exact (ordc_get l i hi).2.2.2
theorem spsNew (W : World) (cs : Array Value) (l : List Sp) (h : cs = (flat5 l).toArray) : SpAt (W.alloc (.cells cs 36)) (some ⟨W.heap.size, 0, none⟩) l := fun _ => by
  subst h
  refine ⟨_, _, rfl, by simp, fun i hi c hc => ?_⟩
  have e := (Blk.new W 36 (flat5 l).toArray).cell (i * 5 + c)
  rw [Nat.zero_add, e, List.getElem?_toArray]
  exact flat5_get l i hi c hc
def F1 : List Sp := [⟨0, 4, 0, true, false⟩, ⟨4, 4, 0, true, false⟩, ⟨8, 2, 0, true, false⟩]
def F2 : List Sp := [⟨0, 5, 0, false, false⟩]
def F3 : List Sp := [⟨0, 2, 0, true, false⟩, ⟨2, 1, 2, true, true⟩, ⟨3, 2, 3, true, false⟩]
theorem slNil (w : World) (A : Option Addr) : SlAt w A [] := fun h => absurd h (by simp)

theorem spansIs {A : Option Addr} {c : Nat} {l : List Ord} {t : Int} {x : List Sp} {e : Int} {w : World} (hn : l.length ≤ 1000000) (hc : l.length ≤ c) (h : gSpans l t = (x, e)) (hx : SlAt w A l) :
    Calls Try.prog 16 #[.slice A l.length c, .int .i64 t] w fun y w' => ∃ B d, y = .returned (.tuple #[.slice B x.length d, .int .i64 e]) ∧ SpAt w' B x ∧ Below w.heap.size w w' := by
  have := spans_t A c l t w (by omega) hc hx
  unfold SpansIs at this
  rw [h] at this
  exact this
theorem songIs {A : Option Addr} {c : Nat} {l : List Ord} {t p : Int} {r q : Bool} {e : Int} {w : World} (hn : l.length ≤ 1000000) (h : gSong l t = (p, r, q, e)) (hx : SlAt w A l) :
    Calls Try.prog 14 #[.slice A l.length c, .int .i64 t] w fun y w' => y = .returned (.tuple #[.int .i64 p, .bool r, .bool q, .int .i64 e]) ∧ Below w.heap.size w w' := by
  have := song_t A c l t w (by omega) hx
  unfold SongIs at this
  rw [h] at this
  exact this

open Classical in
theorem sameIs {A B : Option Addr} {n c d : Nat} {xs : List Sp} {w : World} (hn : n = xs.length) (hl : xs.length ≤ 1000000000000) (hx : SpAt w A xs) (hy : SpAt w B xs) :
    Calls Try.prog 18 #[.slice A n c, .slice B n d] w fun y w' => y = .returned (.bool true) ∧ Below w.heap.size w w' := by
  have := same_t A B n n c d xs xs w hn hn hx hy hl hl
  rw [decide_eq_true rfl] at this
  exact this
set_option maxRecDepth 20000 in
set_option maxHeartbeats 4000000 in
theorem sane_t (w : World) : Calls Try.prog 10 #[] w fun e w' => e = .returned (.bool true) ∧ Below w.heap.size w w' := by
  go_enter Try.func10, Try.ntmps10
  obtain ⟨n0, hn0⟩ : ∃ n, n = w.heap.size := ⟨_, rfl⟩
  go_wp2_with (fail)
  go_at_call 16
  have B0 : Below w.heap.size w ((w.alloc (.cells #[.int .i64 0, .int .i64 1, .int .i64 0, .int .i64 0] 40)).alloc (.cells #[.int .i64 0, .int .i64 1, .int .i64 0, .int .i64 0, .int .i64 0, .int .i64 4, .int .i64 0, .int .i64 4] 40)) := ((Below.refl _ w).alloc (Nat.le_refl _) _).alloc (by simp) _
  have P0 : Blk ((w.alloc (.cells #[.int .i64 0, .int .i64 1, .int .i64 0, .int .i64 0] 40)).alloc (.cells #[.int .i64 0, .int .i64 1, .int .i64 0, .int .i64 0, .int .i64 0, .int .i64 4, .int .i64 0, .int .i64 4] 40)) w.heap.size 40 #[.int .i64 0, .int .i64 1, .int .i64 0, .int .i64 0] := (Blk.new w 40 _).alloc _
  have L0 : SlAt ((w.alloc (.cells #[.int .i64 0, .int .i64 1, .int .i64 0, .int .i64 0] 40)).alloc (.cells #[.int .i64 0, .int .i64 1, .int .i64 0, .int .i64 0, .int .i64 0, .int .i64 4, .int .i64 0, .int .i64 4] 40)) (some ⟨w.heap.size + 1, 0, none⟩) E1 := by
    have := ordsNew (w.alloc (.cells #[.int .i64 0, .int .i64 1, .int .i64 0, .int .i64 0] 40)) _ E1 rfl
    rw [World.size_alloc] at this
    exact this
  refine (spansIs (l := E1) (by decide) (by decide) g1 L0).mono ?_
  rintro e w1 ⟨A1, d1, rfl, I1, h1⟩
  have B1 := B0.trans (h1.mono B0.size)
  have P1 := P0.below h1 P0.lt
  have L1 := L0.below h1
  have a0 := P1.cell 0
  have a1 := P1.cell 1
  have a2 := P1.cell 2
  have a3 := P1.cell 3
  clear B0 P0 L0 h1
  go_wp2_with (fail)
  go_at_call 16
  refine (spansIs (l := []) (by decide) (by decide) g2 (slNil _ _)).mono ?_
  rintro e w2 ⟨A2, d2, rfl, I2, h2⟩
  have B2 := B1.trans (h2.mono B1.size)
  have P2 := P1.below h2 P1.lt
  have L2 := L1.below h2
  replace I1 := I1.below h2
  clear a0 a1 a2 a3
  have a0 := P2.cell 0
  have a1 := P2.cell 1
  have a2 := P2.cell 2
  have a3 := P2.cell 3
  clear B1 P1 L1 h2
  go_wp2_with (fail)
  go_at_call 16
  have S3 := ordsNew w2 #[.int .i64 0, .int .i64 1, .int .i64 0, .int .i64 0, .int .i64 0, .int .i64 6, .int .i64 2, .int .i64 3] E3 rfl
  refine (spansIs (l := E3) (by decide) (by decide) g3 S3).mono ?_
  rintro e w3 ⟨A3, d3, rfl, I3, h3⟩
  have h3 := ((Below.refl _ w2).alloc (Nat.le_refl _) _).trans (h3.mono (by simp))
  have B3 := B2.trans (h3.mono B2.size)
  have P3 := P2.below h3 P2.lt
  have L3 := L2.below h3
  replace I1 := I1.below h3
  replace I2 := I2.below h3
  clear a0 a1 a2 a3
  have a0 := P3.cell 0
  have a1 := P3.cell 1
  have a2 := P3.cell 2
  have a3 := P3.cell 3
  clear B2 P2 L2 h3 S3
  go_wp2_with (fail)
  go_at_call 14
  have S4 := ordsNew w3 #[.int .i64 3, .int .i64 3, .int .i64 7, .int .i64 0] E4 rfl
  refine (songIs (l := E4) (by decide) g4 S4).mono ?_
  rintro e w4 ⟨rfl, h4⟩
  have h4 := ((Below.refl _ w3).alloc (Nat.le_refl _) _).trans (h4.mono (by simp))
  have B4 := B3.trans (h4.mono B3.size)
  have P4 := P3.below h4 P3.lt
  have L4 := L3.below h4
  replace I1 := I1.below h4
  replace I2 := I2.below h4
  replace I3 := I3.below h4
  clear a0 a1 a2 a3
  have a0 := P4.cell 0
  have a1 := P4.cell 1
  have a2 := P4.cell 2
  have a3 := P4.cell 3
  clear B3 P3 L3 h4 S4
  go_wp2_with (fail)
  go_at_call 14
  have S5 := ordsNew w4 #[.int .i64 3, .int .i64 3, .int .i64 7, .int .i64 0] E4 rfl
  refine (songIs (l := E4) (by decide) g5 S5).mono ?_
  rintro e w5 ⟨rfl, h5⟩
  have h5 := ((Below.refl _ w4).alloc (Nat.le_refl _) _).trans (h5.mono (by simp))
  have B5 := B4.trans (h5.mono B4.size)
  have P5 := P4.below h5 P4.lt
  have L5 := L4.below h5
  replace I1 := I1.below h5
  replace I2 := I2.below h5
  replace I3 := I3.below h5
  clear a0 a1 a2 a3
  have a0 := P5.cell 0
  have a1 := P5.cell 1
  have a2 := P5.cell 2
  have a3 := P5.cell 3
  clear B4 P4 L4 h5 S5
  go_wp2_with (fail)
  go_at_call 14
  have S6 := ordsNew w5 #[.int .i64 0, .int .i64 1, .int .i64 0, .int .i64 0, .int .i64 6, .int .i64 4, .int .i64 2, .int .i64 4] E6 rfl
  refine (songIs (l := E6) (by decide) g6 S6).mono ?_
  rintro e w6 ⟨rfl, h6⟩
  have h6 := ((Below.refl _ w5).alloc (Nat.le_refl _) _).trans (h6.mono (by simp))
  have B6 := B5.trans (h6.mono B5.size)
  have P6 := P5.below h6 P5.lt
  have L6 := L5.below h6
  replace I1 := I1.below h6
  replace I2 := I2.below h6
  replace I3 := I3.below h6
  clear a0 a1 a2 a3
  have a0 := P6.cell 0
  have a1 := P6.cell 1
  have a2 := P6.cell 2
  have a3 := P6.cell 3
  clear B5 P5 L5 h6 S6
  go_wp2_with (fail)
  go_at_call 14
  have S7 := ordsNew w6 #[.int .i64 2, .int .i64 1, .int .i64 0, .int .i64 0] E7 rfl
  refine (songIs (l := E7) (by decide) g7 S7).mono ?_
  rintro e w7 ⟨rfl, h7⟩
  have h7 := ((Below.refl _ w6).alloc (Nat.le_refl _) _).trans (h7.mono (by simp))
  have B7 := B6.trans (h7.mono B6.size)
  have P7 := P6.below h7 P6.lt
  have L7 := L6.below h7
  replace I1 := I1.below h7
  replace I2 := I2.below h7
  replace I3 := I3.below h7
  clear a0 a1 a2 a3
  have a0 := P7.cell 0
  have a1 := P7.cell 1
  have a2 := P7.cell 2
  have a3 := P7.cell 3
  clear B6 P6 L6 h7 S7
  go_wp2_with (fail)
  go_at_call 14
  refine (songIs (l := E1) (by decide) g8 L7).mono ?_
  rintro e w8 ⟨rfl, h8⟩
  have B8 := B7.trans (h8.mono B7.size)
  have P8 := P7.below h8 P7.lt
  have L8 := L7.below h8
  replace I1 := I1.below h8
  replace I2 := I2.below h8
  replace I3 := I3.below h8
  clear a0 a1 a2 a3
  have a0 := P8.cell 0
  have a1 := P8.cell 1
  have a2 := P8.cell 2
  have a3 := P8.cell 3
  clear B7 P7 L7 h8
  go_wp2_with (fail)
  go_at_call 16
  refine (spansIs (l := E1) (by decide) (by decide) g9 L8).mono ?_
  rintro e w9 ⟨A9, d9, rfl, I9, h9⟩
  have B9 := B8.trans (h9.mono B8.size)
  have P9 := P8.below h9 P8.lt
  have L9 := L8.below h9
  replace I1 := I1.below h9
  replace I2 := I2.below h9
  replace I3 := I3.below h9
  clear a0 a1 a2 a3
  have a0 := P9.cell 0
  have a1 := P9.cell 1
  have a2 := P9.cell 2
  have a3 := P9.cell 3
  clear B8 P8 L8 h9
  go_wp2_with (fail)
  go_at_call 12
  have SA := ordsNew w9 #[.int .i64 0, .int .i64 4, .int .i64 5, .int .i64 5] E10 rfl
  have KA := pcheck_t (some ⟨w9.heap.size, 0, none⟩) 1 E10 _ (by decide) SA
  rw [c10] at KA
  refine KA.mono ?_
  rintro e wa ⟨rfl, ha⟩
  have ha := ((Below.refl _ w9).alloc (Nat.le_refl _) _).trans (ha.mono (by simp))
  have Ba := B9.trans (ha.mono B9.size)
  replace I1 := I1.below ha
  replace I2 := I2.below ha
  replace I3 := I3.below ha
  clear KA SA B9 P9 L9 ha a0 a1 a2 a3
  go_wp2_with (fail)
  have M1 := (Below.refl wa.heap.size wa).alloc (Nat.le_refl _) (.cells (flat5 F1).toArray 36)
  have M2 := M1.alloc M1.size (.cells (flat5 F3).toArray 36)
  have X1 : SpAt ((wa.alloc (.cells (flat5 F1).toArray 36)).alloc (.cells (flat5 F3).toArray 36)) (some ⟨wa.heap.size, 0, none⟩) F1 := (spsNew wa _ F1 rfl).below ((Below.refl _ _).alloc (Nat.le_refl _) _)
  have X3 : SpAt ((wa.alloc (.cells (flat5 F1).toArray 36)).alloc (.cells (flat5 F3).toArray 36)) (some ⟨wa.heap.size + 1, 0, none⟩) F3 := by
    have := spsNew (wa.alloc (.cells (flat5 F1).toArray 36)) _ F3 rfl
    rw [World.size_alloc] at this
    exact this
  go_at_call 18
  refine (sameIs (xs := F1) rfl (by decide) (I1.below M2) X1).mono ?_
  rintro e wb ⟨rfl, hb⟩
  replace X3 := X3.below hb
  have hb := M2.trans (hb.mono M2.size)
  have Bb := Ba.trans (hb.mono Ba.size)
  replace I2 := I2.below hb
  replace I3 := I3.below hb
  clear I1 X1 M1 M2 hb Ba
  go_wp2_with (fail)
  have X2 := spsNew wb _ F2 rfl
  have M1 := (Below.refl wb.heap.size wb).alloc (Nat.le_refl _) (.cells (flat5 F2).toArray 36)
  go_at_call 18
  refine (sameIs (xs := F2) rfl (by decide) (I2.below M1) X2).mono ?_
  rintro e wc ⟨rfl, hc⟩
  have hc := M1.trans (hc.mono M1.size)
  have Bc := Bb.trans (hc.mono Bb.size)
  replace I3 := I3.below hc
  replace X3 := X3.below hc
  clear I2 X2 M1 hc Bb
  go_wp2_with (fail)
  go_at_call 18
  refine (sameIs (xs := F3) rfl (by decide) I3 X3).mono ?_
  rintro e wd ⟨rfl, hd⟩
  have Bd := Bc.trans (hd.mono Bc.size)
  go_wp2_with (fail)
  go_ret
  exact ⟨rfl, Bd⟩
end Go.Proofs.Ytjkclplnflaplaa
