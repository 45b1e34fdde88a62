/-
  The program's Place answers what the reference's Place says. Conditions: valid changes.
-/
import Derived.Test.YtdphnlcppaaccaaAt
import Derived.Test.YtdphnlcppaaccaaTick
namespace Go.Proofs.Ytdphnlcppaaccaa
open Go.RowKit
attribute [local go_sem] Oper.semAt_some

/-- Between two rounds of Place's loop: its boxes; the parts that have come end at the tick or before it. -/
def PlaceI (ms : List Met) (tick : Int) (w : World) (cc : Col) (pre : List (Ix ms)) (W : World) : Prop :=
  ((Mine cc (w.heap.size) ∧ Blk W (w.heap.size) 3 #[.int .i64 tick]) ∧ (Mine cc (w.heap.size + 1) ∧ Blk W (w.heap.size + 1) 3 #[.int .i64 0]) ∧ (Mine cc (w.heap.size + 1 + 1) ∧ Blk W (w.heap.size + 1 + 1) 3 #[.int .i64 0]) ∧ (Mine cc (w.heap.size + 1 + 1 + 1) ∧ Blk W (w.heap.size + 1 + 1 + 1) 3 #[.int .i64 0]) ∧ (Mine cc (w.heap.size + 1 + 1 + 1 + 1) ∧ Blk W (w.heap.size + 1 + 1 + 1 + 1) 24 #[.int .i64 70])) ∧ Old w.heap.size w cc W ∧ ∀ x ∈ pre, endN ms x.1 ≤ tick
/-- A round of it has left the loop: the answer lies in the boxes of the results. -/
def PlaceX (ms : List Met) (tick : Int) (w : World) (j : Code) (cc : Col) (_pre : List (Ix ms)) (W : World) : Prop :=
  j = .exit 0 ∧ (Mine cc (w.heap.size + 1) ∧ Blk W (w.heap.size + 1) 3 #[.int .i64 (rPlace ms tick).1]) ∧ (Mine cc (w.heap.size + 1 + 1) ∧ Blk W (w.heap.size + 1 + 1) 3 #[.int .i64 (rPlace ms tick).2.1]) ∧ (Mine cc (w.heap.size + 1 + 1 + 1) ∧ Blk W (w.heap.size + 1 + 1 + 1) 3 #[.int .i64 (rPlace ms tick).2.2.1]) ∧ (Mine cc (w.heap.size + 1 + 1 + 1 + 1) ∧ Blk W (w.heap.size + 1 + 1 + 1 + 1) 24 #[.int .i64 (rPlace ms tick).2.2.2]) ∧ Old w.heap.size w cc W
theorem PlaceI.stable (ms : List Met) (tick : Int) (w : World) : Stable (PlaceI ms tick w) :=
  Stable.and (.and (Stable.blk _ _ _) (.and (Stable.blk _ _ _) (.and (Stable.blk _ _ _) (.and (Stable.blk _ _ _) (Stable.blk _ _ _))))) (.and (Stable.old (Nat.le_refl _)) (Stable.pure _))
theorem PlaceX.stable (ms : List Met) (tick : Int) (w : World) (j : Code) : Stable (PlaceX ms tick w j) :=
  Stable.and (Stable.pure _) (.and (Stable.blk _ _ _) (.and (Stable.blk _ _ _) (.and (Stable.blk _ _ _) (.and (Stable.blk _ _ _) (Stable.old (Nat.le_refl _))))))

theorem cell_same_drew {W : World} {p : Addr} {u v : Value} (h : W.drew.cell? p = some v) : (W.setCell p u).drew.cell? p = some u := World.cell?_setCell_same' W p u (by rw [show W.cell? p = some v from h]; rfl)

theorem tick_of_pre {ms : List Met} (_ : Valid ms) {k : Nat} (hk : k < ms.length) {tick : Int} (h0 : 0 ≤ tick) {pre : List (Ix ms)} (hsp : pre ++ [⟨k, hk⟩] <+: upto ms) (hpre : ∀ x ∈ pre, endN ms x.1 ≤ tick) : tickN ms k ≤ tick := by
  cases k with
  | zero => exact h0
  | succ k =>
    have hl : pre.length < ms.length := by
      have := hsp.length_le
      simp [upto_length] at this
      omega
    have e1 : pre ++ [⟨k + 1, hk⟩] = (upto ms).take (pre.length + 1) := by
      have := List.prefix_iff_eq_take.1 hsp
      simpa using this
    rw [upto_take ms pre.length hl] at e1
    obtain ⟨e2, e3⟩ := List.append_inj' e1 rfl
    have e4 : k + 1 = pre.length := by simpa using e3
    have hm : (⟨k, Nat.lt_of_succ_lt hk⟩ : Ix ms) ∈ pre := by
      rw [e2, ← e4, upto_take ms k (Nat.lt_of_succ_lt hk)]
      simp
    have := hpre _ hm
    rw [endN_next hk] at this
    exact this

set_option maxHeartbeats 4000000 in
theorem pplace_t (b o c : Nat) (ms : List Met) (tick : Int) (w : World) (hv : Valid ms) (hm : MetAt w b o ms) :
    Calls Try.prog 15 #[.slice (some ⟨b, o, none⟩) ms.length c, .int .i64 tick] w fun e w' => e = .returned (quad (rPlace ms tick)) ∧ Below w.heap.size w w' := by
  have hb := hm.lt
  have hb0 := (((((Below.refl w.heap.size w).alloc (Nat.le_refl _) (.cells #[.int .i64 tick] 3)).alloc (by simp) (.cells #[.int .i64 0] 3)).alloc (by simp <;> omega) (.cells #[.int .i64 0] 3)).alloc (by simp <;> omega) (.cells #[.int .i64 0] 3)).alloc (by simp <;> omega) (.cells #[.int .i64 0] 24)
  refine (callsIn_wide (n := 5)).1 ?_
  refine callsIn_of_wp_marks Try.func15 rfl trivial (wpIn_wide.2 ?_) rfl
  simp only [Try.ntmps15, List.size_toArray, List.length_cons, List.length_nil, Nat.reduceAdd, Nat.reduceSub, Array.replicate_succ, Array.replicate_zero, List.push_toArray, List.append_toArray, List.nil_append, List.cons_append]
  by_cases hr : tick < 0 ∨ 16777216 < tick
  · have E := Lib.hid (show rPlace ms tick = (0, 0, 0, 1) by unfold rPlace; rw [if_pos hr])
    rcases hr with hr | hr
    all_goals
      go_wp2_with fail
      go_step3
      go_wp2_with (go_at_call 13; refine (pcheck_yes _ _ _ _ _ hv (hm.below hb0)).mono ?_; rintro e w1 ⟨rfl, hw1⟩; obtain ⟨hc1, hf1⟩ := bcell hw1; have hz1 : w.heap.size + 1 + 1 + 1 + 1 < w1.heap.size := (by have := hw1.size; simp at this; omega))
    all_goals
      rw [Exit.noGoto_ret]
      have y0 : Blk w1 (w.heap.size) 3 #[.int .i64 tick] := (Blk.alloc (Blk.alloc (Blk.alloc (Blk.alloc (Blk.newAt (W := w) rfl 3 _) _) _) _) _).below hw1 (by simp <;> omega)
      have y1 : Blk w1 (w.heap.size + 1) 3 #[.int .i64 0] := (Blk.alloc (Blk.alloc (Blk.alloc (Blk.newAt (W := w.alloc _) (by simp) 3 _) _) _) _).below hw1 (by simp)
      have y2 : Blk w1 (w.heap.size + 1 + 1) 3 #[.int .i64 0] := (Blk.alloc (Blk.alloc (Blk.newAt (W := (w.alloc _).alloc _) (by simp) 3 _) _) _).below hw1 (by simp)
      have y3 : Blk w1 (w.heap.size + 1 + 1 + 1) 3 #[.int .i64 0] := (Blk.alloc (Blk.newAt (W := ((w.alloc _).alloc _).alloc _) (by simp) 3 _) _).below hw1 (by simp)
      have y4 : Blk w1 (w.heap.size + 1 + 1 + 1 + 1) 24 #[.int .i64 0] := (Blk.newAt (W := (((w.alloc _).alloc _).alloc _).alloc _) (by simp) 24 _).below hw1 (by simp)
      refine ⟨quad (rPlace ms tick), ?_, rfl, ?_⟩
      · rw [E.out]
        have z1 := ((((y1.other (p := ⟨w.heap.size + 1 + 1 + 1 + 1, 0, none⟩) (by simp <;> omega) (.int .i64 0)).set0 (.int .i64 0)).other (p := ⟨w.heap.size + 1 + 1, 0, none⟩) (by simp <;> omega) (.int .i64 0)).other (p := ⟨w.heap.size + 1 + 1 + 1, 0, none⟩) (by simp <;> omega) (.int .i64 0)).other (p := ⟨w.heap.size + 1 + 1 + 1 + 1, 0, none⟩) (by simp <;> omega) (.int .i64 1)
        have z2 := ((((y2.other (p := ⟨w.heap.size + 1 + 1 + 1 + 1, 0, none⟩) (by simp <;> omega) (.int .i64 0)).other (p := ⟨w.heap.size + 1, 0, none⟩) (by simp <;> omega) (.int .i64 0)).set0 (.int .i64 0)).other (p := ⟨w.heap.size + 1 + 1 + 1, 0, none⟩) (by simp <;> omega) (.int .i64 0)).other (p := ⟨w.heap.size + 1 + 1 + 1 + 1, 0, none⟩) (by simp <;> omega) (.int .i64 1)
        have z3 := ((((y3.other (p := ⟨w.heap.size + 1 + 1 + 1 + 1, 0, none⟩) (by simp <;> omega) (.int .i64 0)).other (p := ⟨w.heap.size + 1, 0, none⟩) (by simp <;> omega) (.int .i64 0)).other (p := ⟨w.heap.size + 1 + 1, 0, none⟩) (by simp <;> omega) (.int .i64 0)).set0 (.int .i64 0)).other (p := ⟨w.heap.size + 1 + 1 + 1 + 1, 0, none⟩) (by simp <;> omega) (.int .i64 1)
        have z4 := ((((y4.set0 (.int .i64 0)).other (p := ⟨w.heap.size + 1, 0, none⟩) (by simp <;> omega) (.int .i64 0)).other (p := ⟨w.heap.size + 1 + 1, 0, none⟩) (by simp <;> omega) (.int .i64 0)).other (p := ⟨w.heap.size + 1 + 1 + 1, 0, none⟩) (by simp <;> omega) (.int .i64 0)).set0 (.int .i64 1)
        have e1 := z1.cell0
        have e2 := z2.cell0
        have e3 := z3.cell0
        have e4 := z4.cell0
        clear hc1 hf1
        simp [results, Try.results15, go_sem, e1, e2, e3, e4, quad]
      · have hbl : Below w.heap.size w w1 := hb0.trans (hw1.mono (by simp <;> omega))
        exact ((((hbl.setCell (by simp <;> omega) _).setCell (by simp) _).setCell (by simp <;> omega) _).setCell (by simp <;> omega) _).setCell (by simp <;> omega) _
  have h0 : 0 ≤ tick := by omega
  have h1 : tick ≤ 16777216 := by omega
  clear hr
  go_wp2_with fail
  go_step3
  go_wp2_with (first
    | (go_at_call 13; refine (pcheck_yes _ _ _ _ _ hv (hm.below hb0)).mono ?_; rintro e w1 ⟨rfl, hw1⟩; obtain ⟨hc1, hf1⟩ := bcell hw1; have hz1 : w.heap.size + 1 + 1 + 1 + 1 < w1.heap.size := (by have := hw1.size; simp at this; omega))
    | (go_at_call 21; refine (parts_t _ _ _ _ _).mono ?_; rintro e w2 ⟨rfl, rfl⟩))
  go_step3
  go_wp2_with (go_at_call 21; refine (parts_t _ _ _ _ _).mono ?_; rintro e w2 ⟨rfl, rfl⟩)
  have hsz := hw1.size
  simp only [World.size_alloc] at hsz
  have y0 : Blk w1 (w.heap.size) 3 #[.int .i64 tick] := (Blk.alloc (Blk.alloc (Blk.alloc (Blk.alloc (Blk.newAt (W := w) rfl 3 _) _) _) _) _).below hw1 (by simp; omega)
  have y1 : Blk w1 (w.heap.size + 1) 3 #[.int .i64 0] := (Blk.alloc (Blk.alloc (Blk.alloc (Blk.newAt (W := w.alloc _) (by simp) 3 _) _) _) _).below hw1 (by simp)
  have y2 : Blk w1 (w.heap.size + 1 + 1) 3 #[.int .i64 0] := (Blk.alloc (Blk.alloc (Blk.newAt (W := (w.alloc _).alloc _) (by simp) 3 _) _) _).below hw1 (by simp)
  have y3 : Blk w1 (w.heap.size + 1 + 1 + 1) 3 #[.int .i64 0] := (Blk.alloc (Blk.newAt (W := ((w.alloc _).alloc _).alloc _) (by simp) 3 _) _).below hw1 (by simp)
  have y4 : Blk w1 (w.heap.size + 1 + 1 + 1 + 1) 24 #[.int .i64 0] := (Blk.newAt (W := (((w.alloc _).alloc _).alloc _).alloc _) (by simp) 24 _).below hw1 (by simp)
  have hbl : Below w.heap.size w w1 := hb0.trans (hw1.mono (by simp <;> omega))
  obtain ⟨Wl, hWl⟩ : ∃ Wl, ((w1.setCell ⟨w.heap.size + 1 + 1 + 1 + 1, 0, none⟩ (.int .i64 0)).setCell ⟨w.heap.size + 1 + 1 + 1 + 1, 0, none⟩ (.int .i64 70)).alloc (.cells #[.slice (some ⟨b, o, none⟩) ms.length c] 22) = Wl := ⟨_, rfl⟩
  have hbl : Below w.heap.size w Wl := by rw [← hWl]; exact ((hbl.setCell (by simp <;> omega) _).setCell (by simp <;> omega) _).alloc (by simp [World.setCell]; omega) _
  have hmw : MetAt Wl b o ms := hm.below hbl
  have hsl : Wl.heap.size = w1.heap.size + 1 := by rw [← hWl]; simp [World.setCell]
  have hBn : Wl.cell? ⟨w1.heap.size, 0, none⟩ = some (.slice (some ⟨b, o, none⟩) ms.length c) := by
    rw [← hWl]
    exact (Blk.newAt (B := w1.heap.size) (by simp [World.setCell]) 22 #[.slice (some ⟨b, o, none⟩) ms.length c]).cell0
  have x0 : Blk Wl (w.heap.size) 3 #[.int .i64 tick] := by rw [← hWl]; exact ((y0.other (by simp <;> omega) _).other (by simp <;> omega) _).alloc _
  have x1 : Blk Wl (w.heap.size + 1) 3 #[.int .i64 0] := by rw [← hWl]; exact ((y1.other (by simp <;> omega) _).other (by simp <;> omega) _).alloc _
  have x2 : Blk Wl (w.heap.size + 1 + 1) 3 #[.int .i64 0] := by rw [← hWl]; exact ((y2.other (by simp <;> omega) _).other (by simp <;> omega) _).alloc _
  have x3 : Blk Wl (w.heap.size + 1 + 1 + 1) 3 #[.int .i64 0] := by rw [← hWl]; exact ((y3.other (by simp <;> omega) _).other (by simp <;> omega) _).alloc _
  have x4 : Blk Wl (w.heap.size + 1 + 1 + 1 + 1) 24 #[.int .i64 70] := by rw [← hWl]; exact ((y4.set0 _).set0 _).alloc _
  rw [hWl]
  clear hWl y0 y1 y2 y3 y4 hc1 hf1
  refine (wpIn_wide (n := 5)).1 ?_
  refine wpIn_range (by omega) rfl (enters_of Try.func29 (by kernel_rfl) rfl) (parts_iter _ w1.heap.size b o c (by omega) ms Wl hv hBn (by omega) hmw) (fun _ => rfl)
    (PlaceI ms tick w) (PlaceX ms tick w)
    ?hI ?hIx ⟨fun _ => False, fun r => w.heap.size ≤ r ∧ r < w.heap.size + 5⟩ ?hc1 ?hc2 ?hc3 ?h0
    (fun a x B => (a.put (some 23) (partN ms x.1)).put (some 8) (.pointer (some ⟨B, 0, none⟩)))
    (fun x B W => Blk W B 45 #[.int .i64 (mb ms x.1), .int .i64 (mt ms x.1), .int .i64 (mu ms x.1), .int .i64 (lastN ms x.1), .int .i64 (tickN ms x.1)]) ?hAx ?assign ?body ?done ?stop
  case hI => exact PlaceI.stable _ _ _
  case hIx => exact PlaceX.stable _ _ _
  case hc1 => exact fun r h => h.elim
  case hc2 =>
    rintro r (h | rfl | rfl) ⟨h1, h2⟩
    · exact h
    · omega
    · omega
  case hc3 =>
    rintro r (h | rfl | rfl)
    · exact h.elim
    · exact hmw.lt
    · omega
  case h0 => exact ⟨⟨⟨⟨⟨by omega, by omega⟩, id⟩, x0⟩, ⟨⟨⟨by omega, by omega⟩, id⟩, x1⟩, ⟨⟨⟨by omega, by omega⟩, id⟩, x2⟩, ⟨⟨⟨by omega, by omega⟩, id⟩, x3⟩, ⟨⟨⟨by omega, by omega⟩, id⟩, x4⟩⟩, ⟨fun _ _ => id, hbl⟩, by simp⟩
  case hAx => exact fun x B W1 W2 h hk => h.keep hk (Nat.lt_irrefl _)
  case assign =>
    intro l x W K hK
    unfold partN
    gi_wp2
    exact hK _ ((Below.refl _ _).alloc (Nat.le_refl _) _) (Blk.new _ _ _)
  case body =>
    clear x0 x1 x2 x3 x4 hBn hmw hbl hw1
    rintro l cc pre ⟨k, hk⟩ B W ⟨⟨⟨m0, b0⟩, ⟨m1, b1⟩, ⟨m2, b2⟩, ⟨m3, b3⟩, ⟨m4, b4⟩⟩, hold, hpre⟩ hA hBle hcol hsp
    have c0 := b0.cell0
    have c1 := b1.cell0
    have f1 := b1.frozen 0
    have c2 := b2.cell0
    have f2 := b2.frozen 0
    have c3 := b3.cell0
    have f3 := b3.frozen 0
    have c4 := b4.cell0
    have f4 := b4.frozen 0
    have a0 : W.cell? ⟨B, 0, none⟩ = some (.int .i64 (mb ms k)) := hA.cell 0
    have a1 : W.cell? ⟨B, 1, none⟩ = some (.int .i64 (mt ms k)) := hA.cell 1
    have a2 : W.cell? ⟨B, 2, none⟩ = some (.int .i64 (mu ms k)) := hA.cell 2
    have a3 : W.cell? ⟨B, 3, none⟩ = some (.int .i64 (lastN ms k)) := hA.cell 3
    have a4 : W.cell? ⟨B, 4, none⟩ = some (.int .i64 (tickN ms k)) := hA.cell 4
    simp only [partN, Act.put, List.setIfInBounds_toArray, List.set_cons_zero, List.set_cons_succ] at *
    have bs4 := b4.lt
    have bs := hA.lt
    have htk := tick_of_pre hv hk h0 hsp hpre
    have hlast := lastN_le hv hk
    have hf := hv.fine k hk
    have HF := Lib.hid hf
    obtain ⟨e0, e1, e2, e3, e4, e5⟩ := hf
    have hlg := long_bd HF.out
    have htb := tickN_bd hv k hk
    have hfew := hv.few
    have q1 := mul_bd (a := lastN ms k + 1 - mb ms k) (A := 1048577) (by omega) (by omega) (by omega : 0 ≤ mt ms k * mu ms k) hlg.2
    have j1 : IntKind.i64.wrap (lastN ms k + 1) = lastN ms k + 1 := IntWalk.i64_in _ (by omega)
    by_cases hc : endN ms k ≤ tick
    · have d : decide (tickN ms k + (lastN ms k + 1 - mb ms k) * (mt ms k * mu ms k) ≤ tick) = true := decide_eq_true hc
      gi_wp2
      refine wpIn_region_heldR (fun W => W.cell? ⟨B, 0, none⟩ = some (.int .i64 (mb ms k)) ∧ W.cell? ⟨B, 1, none⟩ = some (.int .i64 (mt ms k)) ∧ W.cell? ⟨B, 2, none⟩ = some (.int .i64 (mu ms k)) ∧ W.cell? ⟨B, 3, none⟩ = some (.int .i64 (lastN ms k)) ∧ W.cell? ⟨B, 4, none⟩ = some (.int .i64 (tickN ms k)) ∧ W.cell? ⟨w.heap.size, 0, none⟩ = some (.int .i64 tick)) (by kernel_rfl) (by kernel_rfl) ?_ ?_ (fun hHeld => ?_)
      · rintro ⟨a, w, h⟩; exact h
      · go_keep
      refine wpAnyH_take (i := 0) (oi := { dst := some 24, op := Op.load 3 (Operand.tmp 3), type := 3, pos := "metre.go:90", after := #[], guard := none }) (v := ?_) rfl (by kernel_rfl) (by kernel_rfl) (by kernel_rfl) (fun _ _ _ h => h) (Or.inl ⟨by rfl, ?_⟩) (by assumption) ?_
      rotate_left
      · intro wS hSw; go_split_ands; go_simp; first | done | with_reducible rfl
      simp only [Act.put, List.setIfInBounds_toArray, List.set_cons_zero, List.set_cons_succ]
      refine wpAnyH_take (i := 1) (oi := { dst := some 25, op := Op.load 45 (Operand.tmp 8), type := 45, pos := "metre.go:90", after := #[], guard := none }) (v := ?_) rfl (by kernel_rfl) (by kernel_rfl) (by kernel_rfl) (fun _ _ _ h => h) (Or.inl ⟨by rfl, ?_⟩) (by assumption) ?_
      rotate_left
      · intro wS hSw; go_split_ands; go_simp; first | done | with_reducible rfl
      simp only [Act.put, List.setIfInBounds_toArray, List.set_cons_zero, List.set_cons_succ]
      refine wpAnyH_take (i := 2) (oi := { dst := some 26, op := Op.fieldAddr 45 (Operand.tmp 8) 1, type := 0, pos := "metre.go:90", after := #[], guard := none }) (v := ?_) rfl (by kernel_rfl) (by kernel_rfl) (by kernel_rfl) (fun _ _ _ h => h) (Or.inl ⟨by rfl, ?_⟩) (by assumption) ?_
      rotate_left
      · intro wS hSw; go_split_ands; go_simp; first | done | with_reducible rfl
      simp only [Act.put, List.setIfInBounds_toArray, List.set_cons_zero, List.set_cons_succ]
      refine wpAnyH_take (i := 3) (oi := { dst := some 27, op := Op.load 3 (Operand.tmp 26), type := 3, pos := "metre.go:90", after := #[{ on := 2, ground := Ground.data }], guard := none }) (v := ?_) rfl (by kernel_rfl) (by kernel_rfl) (by kernel_rfl) (fun _ _ _ h => h) (Or.inl ⟨by rfl, ?_⟩) (by assumption) ?_
      rotate_left
      · intro wS hSw; go_split_ands; go_simp; first | done | with_reducible rfl
      simp only [Act.put, List.setIfInBounds_toArray, List.set_cons_zero, List.set_cons_succ]
      refine wpAnyH_take (i := 4) (oi := { dst := some 28, op := Op.binOp BinOp.add 3 (Operand.tmp 27) (Operand.const (Value.int IntKind.i64 1)) 3, type := 3, pos := "metre.go:90", after := #[{ on := 3, ground := Ground.data }], guard := none }) (v := ?_) rfl (by kernel_rfl) (by kernel_rfl) (by kernel_rfl) (fun _ _ _ h => h) (Or.inl ⟨by rfl, ?_⟩) (by assumption) ?_
      rotate_left
      · intro wS hSw; go_split_ands; go_simp; first | done | with_reducible rfl
      simp only [Act.put, List.setIfInBounds_toArray, List.set_cons_zero, List.set_cons_succ]
      refine wpAnyH_ready (rs := [5]) (by kernel_rfl) (by simp) ?_
      refine AllReadyH.cons (o := { dst := some 29, op := Op.call { callee := Callee.value (Operand.func 22), args := #[Operand.tmp 25, Operand.tmp 28], argTypes := #[45, 3] }, type := 3, pos := "metre.go:90", after := #[{ on := 1, ground := Ground.data }, { on := 4, ground := Ground.data }], guard := none }) rfl (fun K hK => ?_) AllReadyH.nil
      go_simp
      go_at_call 22; refine (pbegin_t _ _ _ _ _ _ _ (by omega) (by omega) (by omega) (by omega) (by omega) (by omega) (by omega) (by omega)).mono ?_; rintro e w2 ⟨rfl, hw2⟩
      refine hK.out _ _ ?_ (fun hHeld => ?_)
      · exact ⟨(hw2.cell (p := ⟨B, 0, none⟩) (by simp; omega)).trans (by go_keep), (hw2.cell (p := ⟨B, 1, none⟩) (by simp; omega)).trans (by go_keep), (hw2.cell (p := ⟨B, 2, none⟩) (by simp; omega)).trans (by go_keep), (hw2.cell (p := ⟨B, 3, none⟩) (by simp; omega)).trans (by go_keep), (hw2.cell (p := ⟨B, 4, none⟩) (by simp; omega)).trans (by go_keep), (hw2.cell (p := ⟨w.heap.size, 0, none⟩) (by simp; omega)).trans (by go_keep)⟩
      clear hK K
      try simp only [Act.put, List.setIfInBounds_toArray, List.set_cons_zero, List.set_cons_succ]
      refine wpAnyH_take (i := 6) (oi := { dst := some 30, op := Op.binOp BinOp.geq 3 (Operand.tmp 24) (Operand.tmp 29) 3, type := 4, pos := "metre.go:90", after := #[{ on := 0, ground := Ground.data }, { on := 5, ground := Ground.data }], guard := none }) (v := ?_) rfl (by kernel_rfl) (by kernel_rfl) (by kernel_rfl) (fun _ _ _ h => h) (Or.inl ⟨by rfl, ?_⟩) (by assumption) ?_
      rotate_left
      · intro wS hSw; go_split_ands; go_simp; first | done | with_reducible rfl
      simp only [Act.put, List.setIfInBounds_toArray, List.set_cons_zero, List.set_cons_succ]
      refine wpAnyH_done (by kernel_rfl) ?_ _
      gi_wp2
      have hbb : Below W.heap.size W w2 := Below.trans (Below.refl _ W).drew hw2
      exact ⟨Keep.of_same hbb _, ⟨⟨m0.by _, b0.below hbb b0.lt⟩, ⟨m1.by _, b1.below hbb b1.lt⟩, ⟨m2.by _, b2.below hbb b2.lt⟩, ⟨m3.by _, b3.below hbb b3.lt⟩, ⟨m4.by _, b4.below hbb b4.lt⟩⟩, hold.by _ (hbb.mono (by omega)), fun y hy => by
        rcases List.mem_append.1 hy with h | h
        · exact hpre y h
        · rw [List.mem_singleton.1 h]; exact hc⟩
    · have d : decide (tickN ms k + (lastN ms k + 1 - mb ms k) * (mt ms k * mu ms k) ≤ tick) = false := decide_eq_false hc
      gi_wp2
      refine wpIn_region_heldR (fun W => W.cell? ⟨B, 0, none⟩ = some (.int .i64 (mb ms k)) ∧ W.cell? ⟨B, 1, none⟩ = some (.int .i64 (mt ms k)) ∧ W.cell? ⟨B, 2, none⟩ = some (.int .i64 (mu ms k)) ∧ W.cell? ⟨B, 3, none⟩ = some (.int .i64 (lastN ms k)) ∧ W.cell? ⟨B, 4, none⟩ = some (.int .i64 (tickN ms k)) ∧ W.cell? ⟨w.heap.size, 0, none⟩ = some (.int .i64 tick)) (by kernel_rfl) (by kernel_rfl) ?_ ?_ (fun hHeld => ?_)
      · rintro ⟨a, w, h⟩; exact h
      · go_keep
      refine wpAnyH_take (i := 0) (oi := { dst := some 24, op := Op.load 3 (Operand.tmp 3), type := 3, pos := "metre.go:90", after := #[], guard := none }) (v := ?_) rfl (by kernel_rfl) (by kernel_rfl) (by kernel_rfl) (fun _ _ _ h => h) (Or.inl ⟨by rfl, ?_⟩) (by assumption) ?_
      rotate_left
      · intro wS hSw; go_split_ands; go_simp; first | done | with_reducible rfl
      simp only [Act.put, List.setIfInBounds_toArray, List.set_cons_zero, List.set_cons_succ]
      refine wpAnyH_take (i := 1) (oi := { dst := some 25, op := Op.load 45 (Operand.tmp 8), type := 45, pos := "metre.go:90", after := #[], guard := none }) (v := ?_) rfl (by kernel_rfl) (by kernel_rfl) (by kernel_rfl) (fun _ _ _ h => h) (Or.inl ⟨by rfl, ?_⟩) (by assumption) ?_
      rotate_left
      · intro wS hSw; go_split_ands; go_simp; first | done | with_reducible rfl
      simp only [Act.put, List.setIfInBounds_toArray, List.set_cons_zero, List.set_cons_succ]
      refine wpAnyH_take (i := 2) (oi := { dst := some 26, op := Op.fieldAddr 45 (Operand.tmp 8) 1, type := 0, pos := "metre.go:90", after := #[], guard := none }) (v := ?_) rfl (by kernel_rfl) (by kernel_rfl) (by kernel_rfl) (fun _ _ _ h => h) (Or.inl ⟨by rfl, ?_⟩) (by assumption) ?_
      rotate_left
      · intro wS hSw; go_split_ands; go_simp; first | done | with_reducible rfl
      simp only [Act.put, List.setIfInBounds_toArray, List.set_cons_zero, List.set_cons_succ]
      refine wpAnyH_take (i := 3) (oi := { dst := some 27, op := Op.load 3 (Operand.tmp 26), type := 3, pos := "metre.go:90", after := #[{ on := 2, ground := Ground.data }], guard := none }) (v := ?_) rfl (by kernel_rfl) (by kernel_rfl) (by kernel_rfl) (fun _ _ _ h => h) (Or.inl ⟨by rfl, ?_⟩) (by assumption) ?_
      rotate_left
      · intro wS hSw; go_split_ands; go_simp; first | done | with_reducible rfl
      simp only [Act.put, List.setIfInBounds_toArray, List.set_cons_zero, List.set_cons_succ]
      refine wpAnyH_take (i := 4) (oi := { dst := some 28, op := Op.binOp BinOp.add 3 (Operand.tmp 27) (Operand.const (Value.int IntKind.i64 1)) 3, type := 3, pos := "metre.go:90", after := #[{ on := 3, ground := Ground.data }], guard := none }) (v := ?_) rfl (by kernel_rfl) (by kernel_rfl) (by kernel_rfl) (fun _ _ _ h => h) (Or.inl ⟨by rfl, ?_⟩) (by assumption) ?_
      rotate_left
      · intro wS hSw; go_split_ands; go_simp; first | done | with_reducible rfl
      simp only [Act.put, List.setIfInBounds_toArray, List.set_cons_zero, List.set_cons_succ]
      refine wpAnyH_ready (rs := [5]) (by kernel_rfl) (by simp) ?_
      refine AllReadyH.cons (o := { dst := some 29, op := Op.call { callee := Callee.value (Operand.func 22), args := #[Operand.tmp 25, Operand.tmp 28], argTypes := #[45, 3] }, type := 3, pos := "metre.go:90", after := #[{ on := 1, ground := Ground.data }, { on := 4, ground := Ground.data }], guard := none }) rfl (fun K hK => ?_) AllReadyH.nil
      go_simp
      go_at_call 22; refine (pbegin_t _ _ _ _ _ _ _ (by omega) (by omega) (by omega) (by omega) (by omega) (by omega) (by omega) (by omega)).mono ?_; rintro e w2 ⟨rfl, hw2⟩
      refine hK.out _ _ ?_ (fun hHeld => ?_)
      · exact ⟨(hw2.cell (p := ⟨B, 0, none⟩) (by simp; omega)).trans (by go_keep), (hw2.cell (p := ⟨B, 1, none⟩) (by simp; omega)).trans (by go_keep), (hw2.cell (p := ⟨B, 2, none⟩) (by simp; omega)).trans (by go_keep), (hw2.cell (p := ⟨B, 3, none⟩) (by simp; omega)).trans (by go_keep), (hw2.cell (p := ⟨B, 4, none⟩) (by simp; omega)).trans (by go_keep), (hw2.cell (p := ⟨w.heap.size, 0, none⟩) (by simp; omega)).trans (by go_keep)⟩
      clear hK K
      try simp only [Act.put, List.setIfInBounds_toArray, List.set_cons_zero, List.set_cons_succ]
      refine wpAnyH_take (i := 6) (oi := { dst := some 30, op := Op.binOp BinOp.geq 3 (Operand.tmp 24) (Operand.tmp 29) 3, type := 4, pos := "metre.go:90", after := #[{ on := 0, ground := Ground.data }, { on := 5, ground := Ground.data }], guard := none }) (v := ?_) rfl (by kernel_rfl) (by kernel_rfl) (by kernel_rfl) (fun _ _ _ h => h) (Or.inl ⟨by rfl, ?_⟩) (by assumption) ?_
      rotate_left
      · intro wS hSw; go_split_ands; go_simp; first | done | with_reducible rfl
      simp only [Act.put, List.setIfInBounds_toArray, List.set_cons_zero, List.set_cons_succ]
      refine wpAnyH_done (by kernel_rfl) ?_ _
      have hbb : Below W.heap.size W w2 := Below.trans (Below.refl _ W).drew hw2
      have n0 := b0.below hbb b0.lt
      have n1 := b1.below hbb b1.lt
      have n2 := b2.below hbb b2.lt
      have n3 := b3.below hbb b3.lt
      have n4 := b4.below hbb b4.lt
      have nA := hA.below hbb hA.lt
      have hbs := hbb.size
      clear c0 c1 c2 c3 c4 f1 f2 f3 f4 a0 a1 a2 a3 a4 hw2 hHeld bs bs4
      have c0 := n0.cell0
      have c1 := n1.cell0
      have f1 := n1.frozen 0
      have c2 := n2.cell0
      have f2 := n2.frozen 0
      have c3 := n3.cell0
      have f3 := n3.frozen 0
      have c4 := n4.cell0
      have f4 := n4.frozen 0
      have a0 : w2.cell? ⟨B, 0, none⟩ = some (.int .i64 (mb ms k)) := nA.cell 0
      have a1 : w2.cell? ⟨B, 1, none⟩ = some (.int .i64 (mt ms k)) := nA.cell 1
      have a2 : w2.cell? ⟨B, 2, none⟩ = some (.int .i64 (mu ms k)) := nA.cell 2
      have a3 : w2.cell? ⟨B, 3, none⟩ = some (.int .i64 (lastN ms k)) := nA.cell 3
      have a4 : w2.cell? ⟨B, 4, none⟩ = some (.int .i64 (tickN ms k)) := nA.cell 4
      have bs4 := n4.lt
      have bs := nA.lt
      have hll : endN ms k - tickN ms k = (lastN ms k + 1 - mb ms k) * (mt ms k * mu ms k) := by unfold endN lg; omega
      have HR := Lib.hid (rPlace_part hv hk h0 h1 htk (by omega))
      have hbi := bar_in hv hk htk (by omega : tick < endN ms k)
      have r2 := quot_bd (x := tick - tickN ms k) (y := mt ms k * mu ms k) (by omega) hlg.1
      have r3 := Int.emod_nonneg (tick - tickN ms k) (b := mt ms k * mu ms k) (by omega)
      have r4 := Int.emod_lt_of_pos (tick - tickN ms k) (b := mt ms k * mu ms k) (by omega)
      have r5 := quot_bd (x := (tick - tickN ms k) % (mt ms k * mu ms k)) (y := mu ms k) r3 e4
      have s1 : (tick - tickN ms k).tmod (mt ms k * mu ms k) = (tick - tickN ms k) % (mt ms k * mu ms k) := Int.tmod_eq_emod_of_nonneg (by omega)
      have s2 : (tick - tickN ms k).tmod (mu ms k) = (tick - tickN ms k) % mu ms k := Int.tmod_eq_emod_of_nonneg (by omega)
      have s3 : (tick - tickN ms k).tdiv (mt ms k * mu ms k) = (tick - tickN ms k) / (mt ms k * mu ms k) := Int.tdiv_eq_ediv_of_nonneg (by omega)
      have s4 : ((tick - tickN ms k) % (mt ms k * mu ms k)).tdiv (mu ms k) = (tick - tickN ms k) % (mt ms k * mu ms k) / mu ms k := Int.tdiv_eq_ediv_of_nonneg r3
      have s5 : ¬ mu ms k = 0 := by omega
      have s6 : ¬ mt ms k * mu ms k = 0 := by omega
      have i1 : IntKind.i64.wrap ((tick - tickN ms k) / (mt ms k * mu ms k)) = (tick - tickN ms k) / (mt ms k * mu ms k) := IntWalk.i64_in _ (by omega)
      have i2 : IntKind.i64.wrap (mb ms k + (tick - tickN ms k) / (mt ms k * mu ms k)) = mb ms k + (tick - tickN ms k) / (mt ms k * mu ms k) := IntWalk.i64_in _ (by omega)
      have i3 : IntKind.i64.wrap ((tick - tickN ms k) % (mt ms k * mu ms k) / mu ms k) = (tick - tickN ms k) % (mt ms k * mu ms k) / mu ms k := IntWalk.i64_in _ (by omega)
      have ne0 : ¬ (w.heap.size) = B := b0.ne hA (by decide)
      have en0 : ¬ B = (w.heap.size) := fun h => ne0 h.symm
      have ne1 : ¬ (w.heap.size + 1) = B := b1.ne hA (by decide)
      have en1 : ¬ B = (w.heap.size + 1) := fun h => ne1 h.symm
      have ne2 : ¬ (w.heap.size + 1 + 1) = B := b2.ne hA (by decide)
      have en2 : ¬ B = (w.heap.size + 1 + 1) := fun h => ne2 h.symm
      have ne3 : ¬ (w.heap.size + 1 + 1 + 1) = B := b3.ne hA (by decide)
      have en3 : ¬ B = (w.heap.size + 1 + 1 + 1) := fun h => ne3 h.symm
      have ne4 : ¬ (w.heap.size + 1 + 1 + 1 + 1) = B := b4.ne hA (by decide)
      have en4 : ¬ B = (w.heap.size + 1 + 1 + 1 + 1) := fun h => ne4 h.symm
      clear hll d q1 j1 hbi
      gi_wp2
      refine wpIn_region_heldR (fun W => W.cell? ⟨B, 0, none⟩ = some (.int .i64 (mb ms k)) ∧ W.cell? ⟨B, 1, none⟩ = some (.int .i64 (mt ms k)) ∧ W.cell? ⟨B, 2, none⟩ = some (.int .i64 (mu ms k)) ∧ W.cell? ⟨B, 3, none⟩ = some (.int .i64 (lastN ms k)) ∧ W.cell? ⟨B, 4, none⟩ = some (.int .i64 (tickN ms k)) ∧ W.cell? ⟨w.heap.size, 0, none⟩ = some (.int .i64 tick)) (by kernel_rfl) (by kernel_rfl) ?_ ?_ (fun hHeld => ?_)
      · rintro ⟨a, w, h⟩; exact h
      · go_keep
      refine wpAnyH_take (i := 0) (oi := { dst := some 35, op := Op.fieldAddr 45 (Operand.tmp 8) 0, type := 0, pos := "metre.go:94", after := #[], guard := none }) (v := ?_) rfl (by kernel_rfl) (by kernel_rfl) (by kernel_rfl) (fun _ _ _ h => h) (Or.inl ⟨by rfl, ?_⟩) (by assumption) ?_
      rotate_left
      · intro wS hSw; go_split_ands; go_simp; first | done | with_reducible rfl
      simp only [Act.put, List.setIfInBounds_toArray, List.set_cons_zero, List.set_cons_succ]
      refine wpAnyH_take (i := 1) (oi := { dst := some 36, op := Op.fieldAddr 38 (Operand.tmp 35) 0, type := 0, pos := "metre.go:94", after := #[{ on := 0, ground := Ground.data }], guard := none }) (v := ?_) rfl (by kernel_rfl) (by kernel_rfl) (by kernel_rfl) (fun _ _ _ h => h) (Or.inl ⟨by rfl, ?_⟩) (by assumption) ?_
      rotate_left
      · intro wS hSw; go_split_ands; go_simp; first | done | with_reducible rfl
      simp only [Act.put, List.setIfInBounds_toArray, List.set_cons_zero, List.set_cons_succ]
      refine wpAnyH_take (i := 2) (oi := { dst := some 37, op := Op.load 3 (Operand.tmp 36), type := 3, pos := "metre.go:94", after := #[{ on := 1, ground := Ground.data }], guard := none }) (v := ?_) rfl (by kernel_rfl) (by kernel_rfl) (by kernel_rfl) (fun _ _ _ h => h) (Or.inl ⟨by rfl, ?_⟩) (by assumption) ?_
      rotate_left
      · intro wS hSw; go_split_ands; go_simp; first | done | with_reducible rfl
      simp only [Act.put, List.setIfInBounds_toArray, List.set_cons_zero, List.set_cons_succ]
      refine wpAnyH_take (i := 3) (oi := { dst := some 38, op := Op.move (Operand.tmp 9), type := 3, pos := "metre.go:94", after := #[], guard := none }) (v := ?_) rfl (by kernel_rfl) (by kernel_rfl) (by kernel_rfl) (fun _ _ _ h => h) (Or.inl ⟨by rfl, ?_⟩) (by assumption) ?_
      rotate_left
      · intro wS hSw; go_split_ands; go_simp; first | done | with_reducible rfl
      simp only [Act.put, List.setIfInBounds_toArray, List.set_cons_zero, List.set_cons_succ]
      refine wpAnyH_take (i := 4) (oi := { dst := some 39, op := Op.load 45 (Operand.tmp 8), type := 45, pos := "metre.go:94", after := #[], guard := none }) (v := ?_) rfl (by kernel_rfl) (by kernel_rfl) (by kernel_rfl) (fun _ _ _ h => h) (Or.inl ⟨by rfl, ?_⟩) (by assumption) ?_
      rotate_left
      · intro wS hSw; go_split_ands; go_simp; first | done | with_reducible rfl
      simp only [Act.put, List.setIfInBounds_toArray, List.set_cons_zero, List.set_cons_succ]
      refine wpAnyH_take (i := 8) (oi := { dst := some 43, op := Op.move (Operand.tmp 9), type := 3, pos := "metre.go:94", after := #[{ on := 21, ground := Ground.gcOnly Departure.lateStores }], guard := none }) (v := ?_) rfl (by kernel_rfl) (by kernel_rfl) (by kernel_rfl) (fun _ _ _ h => h) (Or.inl ⟨by rfl, ?_⟩) (by assumption) ?_
      rotate_left
      · intro wS hSw; go_split_ands; go_simp; first | done | with_reducible rfl
      simp only [Act.put, List.setIfInBounds_toArray, List.set_cons_zero, List.set_cons_succ]
      refine wpAnyH_take (i := 9) (oi := { dst := some 44, op := Op.load 45 (Operand.tmp 8), type := 45, pos := "metre.go:94", after := #[], guard := none }) (v := ?_) rfl (by kernel_rfl) (by kernel_rfl) (by kernel_rfl) (fun _ _ _ h => h) (Or.inl ⟨by rfl, ?_⟩) (by assumption) ?_
      rotate_left
      · intro wS hSw; go_split_ands; go_simp; first | done | with_reducible rfl
      simp only [Act.put, List.setIfInBounds_toArray, List.set_cons_zero, List.set_cons_succ]
      refine wpAnyH_take (i := 12) (oi := { dst := some 47, op := Op.fieldAddr 45 (Operand.tmp 8) 0, type := 0, pos := "metre.go:94", after := #[{ on := 21, ground := Ground.gcOnly Departure.lateStores }], guard := none }) (v := ?_) rfl (by kernel_rfl) (by kernel_rfl) (by kernel_rfl) (fun _ _ _ h => h) (Or.inl ⟨by rfl, ?_⟩) (by assumption) ?_
      rotate_left
      · intro wS hSw; go_split_ands; go_simp; first | done | with_reducible rfl
      simp only [Act.put, List.setIfInBounds_toArray, List.set_cons_zero, List.set_cons_succ]
      refine wpAnyH_take (i := 13) (oi := { dst := some 48, op := Op.fieldAddr 38 (Operand.tmp 47) 2, type := 0, pos := "metre.go:94", after := #[{ on := 12, ground := Ground.data }, { on := 21, ground := Ground.gcOnly Departure.lateStores }], guard := none }) (v := ?_) rfl (by kernel_rfl) (by kernel_rfl) (by kernel_rfl) (fun _ _ _ h => h) (Or.inl ⟨by rfl, ?_⟩) (by assumption) ?_
      rotate_left
      · intro wS hSw; go_split_ands; go_simp; first | done | with_reducible rfl
      simp only [Act.put, List.setIfInBounds_toArray, List.set_cons_zero, List.set_cons_succ]
      refine wpAnyH_take (i := 14) (oi := { dst := some 49, op := Op.load 3 (Operand.tmp 48), type := 3, pos := "metre.go:94", after := #[{ on := 13, ground := Ground.data }, { on := 21, ground := Ground.gcOnly Departure.lateStores }], guard := none }) (v := ?_) rfl (by kernel_rfl) (by kernel_rfl) (by kernel_rfl) (fun _ _ _ h => h) (Or.inl ⟨by rfl, ?_⟩) (by assumption) ?_
      rotate_left
      · intro wS hSw; go_split_ands; go_simp; first | done | with_reducible rfl
      simp only [Act.put, List.setIfInBounds_toArray, List.set_cons_zero, List.set_cons_succ]
      refine wpAnyH_take (i := 16) (oi := { dst := some 51, op := Op.move (Operand.tmp 9), type := 3, pos := "metre.go:94", after := #[{ on := 22, ground := Ground.gcOnly Departure.lateStores }], guard := none }) (v := ?_) rfl (by kernel_rfl) (by kernel_rfl) (by kernel_rfl) (fun _ _ _ h => h) (Or.inl ⟨by rfl, ?_⟩) (by assumption) ?_
      rotate_left
      · intro wS hSw; go_split_ands; go_simp; first | done | with_reducible rfl
      simp only [Act.put, List.setIfInBounds_toArray, List.set_cons_zero, List.set_cons_succ]
      refine wpAnyH_take (i := 17) (oi := { dst := some 52, op := Op.fieldAddr 45 (Operand.tmp 8) 0, type := 0, pos := "metre.go:94", after := #[{ on := 22, ground := Ground.gcOnly Departure.lateStores }], guard := none }) (v := ?_) rfl (by kernel_rfl) (by kernel_rfl) (by kernel_rfl) (fun _ _ _ h => h) (Or.inl ⟨by rfl, ?_⟩) (by assumption) ?_
      rotate_left
      · intro wS hSw; go_split_ands; go_simp; first | done | with_reducible rfl
      simp only [Act.put, List.setIfInBounds_toArray, List.set_cons_zero, List.set_cons_succ]
      refine wpAnyH_take (i := 18) (oi := { dst := some 53, op := Op.fieldAddr 38 (Operand.tmp 52) 2, type := 0, pos := "metre.go:94", after := #[{ on := 17, ground := Ground.data }, { on := 22, ground := Ground.gcOnly Departure.lateStores }], guard := none }) (v := ?_) rfl (by kernel_rfl) (by kernel_rfl) (by kernel_rfl) (fun _ _ _ h => h) (Or.inl ⟨by rfl, ?_⟩) (by assumption) ?_
      rotate_left
      · intro wS hSw; go_split_ands; go_simp; first | done | with_reducible rfl
      simp only [Act.put, List.setIfInBounds_toArray, List.set_cons_zero, List.set_cons_succ]
      refine wpAnyH_take (i := 19) (oi := { dst := some 54, op := Op.load 3 (Operand.tmp 53), type := 3, pos := "metre.go:94", after := #[{ on := 18, ground := Ground.data }, { on := 22, ground := Ground.gcOnly Departure.lateStores }], guard := none }) (v := ?_) rfl (by kernel_rfl) (by kernel_rfl) (by kernel_rfl) (fun _ _ _ h => h) (Or.inl ⟨by rfl, ?_⟩) (by assumption) ?_
      rotate_left
      · intro wS hSw; go_split_ands; go_simp; first | done | with_reducible rfl
      simp only [Act.put, List.setIfInBounds_toArray, List.set_cons_zero, List.set_cons_succ]
      refine wpAnyH_take (i := 20) (oi := { dst := some 55, op := Op.binOp BinOp.rem 3 (Operand.tmp 51) (Operand.tmp 54) 3, type := 3, pos := "metre.go:94", after := #[{ on := 16, ground := Ground.data }, { on := 19, ground := Ground.data }, { on := 22, ground := Ground.gcOnly Departure.lateStores }], guard := none }) (v := ?_) rfl (by kernel_rfl) (by kernel_rfl) (by kernel_rfl) (fun _ _ _ h => h) (Or.inl ⟨by rfl, ?_⟩) (by assumption) ?_
      rotate_left
      · intro wS hSw; go_split_ands; go_simp; first | done | with_reducible rfl
      simp only [Act.put, List.setIfInBounds_toArray, List.set_cons_zero, List.set_cons_succ]
      refine wpAnyH_ready (rs := [5]) (by kernel_rfl) (by simp) ?_
      refine AllReadyH.cons (o := { dst := some 40, op := Op.call { callee := Callee.value (Operand.func 26), args := #[Operand.tmp 39], argTypes := #[45] }, type := 3, pos := "metre.go:94", after := #[{ on := 4, ground := Ground.data }], guard := none }) rfl (fun K hK => ?_) AllReadyH.nil
      go_simp
      go_at_call 26; refine (long_t _ _ _ _ _ _ (by omega) (by omega)).mono ?_; rintro e w3 ⟨rfl, hw3⟩; obtain ⟨hc3, hf3⟩ := bcell hw3; have hz3 : w2.heap.size ≤ w3.heap.size := hw3.size
      refine hK.out _ _ ?_ (fun hHeld => ?_)
      · exact ⟨(hw3.cell (p := ⟨B, 0, none⟩) (by simp; omega)).trans (by go_keep), (hw3.cell (p := ⟨B, 1, none⟩) (by simp; omega)).trans (by go_keep), (hw3.cell (p := ⟨B, 2, none⟩) (by simp; omega)).trans (by go_keep), (hw3.cell (p := ⟨B, 3, none⟩) (by simp; omega)).trans (by go_keep), (hw3.cell (p := ⟨B, 4, none⟩) (by simp; omega)).trans (by go_keep), (hw3.cell (p := ⟨w.heap.size, 0, none⟩) (by simp; omega)).trans (by go_keep)⟩
      clear hK K
      try simp only [Act.put, List.setIfInBounds_toArray, List.set_cons_zero, List.set_cons_succ]
      refine wpAnyH_take (i := 6) (oi := { dst := some 41, op := Op.binOp BinOp.quo 3 (Operand.tmp 38) (Operand.tmp 40) 3, type := 3, pos := "metre.go:94", after := #[{ on := 3, ground := Ground.data }, { on := 5, ground := Ground.data }], guard := none }) (v := ?_) rfl (by kernel_rfl) (by kernel_rfl) (by kernel_rfl) (fun _ _ _ h => h) (Or.inl ⟨by rfl, ?_⟩) (by assumption) ?_
      rotate_left
      · intro wS hSw; go_split_ands; go_simp; first | done | with_reducible rfl
      simp only [Act.put, List.setIfInBounds_toArray, List.set_cons_zero, List.set_cons_succ]
      refine wpAnyH_take (i := 7) (oi := { dst := some 42, op := Op.binOp BinOp.add 3 (Operand.tmp 37) (Operand.tmp 41) 3, type := 3, pos := "metre.go:94", after := #[{ on := 2, ground := Ground.data }, { on := 6, ground := Ground.data }], guard := none }) (v := ?_) rfl (by kernel_rfl) (by kernel_rfl) (by kernel_rfl) (fun _ _ _ h => h) (Or.inl ⟨by rfl, ?_⟩) (by assumption) ?_
      rotate_left
      · intro wS hSw; go_split_ands; go_simp; first | done | with_reducible rfl
      simp only [Act.put, List.setIfInBounds_toArray, List.set_cons_zero, List.set_cons_succ]
      refine wpAnyH_ready (rs := [10]) (by kernel_rfl) (by simp) ?_
      refine AllReadyH.cons (o := { dst := some 45, op := Op.call { callee := Callee.value (Operand.func 26), args := #[Operand.tmp 44], argTypes := #[45] }, type := 3, pos := "metre.go:94", after := #[{ on := 9, ground := Ground.data }, { on := 5, ground := Ground.chain }], guard := none }) rfl (fun K hK => ?_) AllReadyH.nil
      go_simp
      go_at_call 26; refine (long_t _ _ _ _ _ _ (by omega) (by omega)).mono ?_; rintro e w4 ⟨rfl, hw4⟩; obtain ⟨hc4, hf4⟩ := bcell hw4; have hz4 : w3.heap.size ≤ w4.heap.size := hw4.size; have hb4 : Below w2.heap.size w2 w4 := Below.trans (Below.trans (Below.refl _ w2).drew hw3) (hw4.mono hz3); have v1 := n1.below hb4 n1.lt; have vc1 := v1.cell0; have vf1 := v1.frozen 0; have v2 := n2.below hb4 n2.lt; have vc2 := v2.cell0; have vf2 := v2.frozen 0; have v3 := n3.below hb4 n3.lt; have vc3 := v3.cell0; have vf3 := v3.frozen 0; have v4 := n4.below hb4 n4.lt; have vc4 := v4.cell0; have vf4 := v4.frozen 0
      refine hK.out _ _ ?_ (fun hHeld => ?_)
      · exact ⟨(hw4.cell (p := ⟨B, 0, none⟩) (by simp; omega)).trans (by go_keep), (hw4.cell (p := ⟨B, 1, none⟩) (by simp; omega)).trans (by go_keep), (hw4.cell (p := ⟨B, 2, none⟩) (by simp; omega)).trans (by go_keep), (hw4.cell (p := ⟨B, 3, none⟩) (by simp; omega)).trans (by go_keep), (hw4.cell (p := ⟨B, 4, none⟩) (by simp; omega)).trans (by go_keep), (hw4.cell (p := ⟨w.heap.size, 0, none⟩) (by simp; omega)).trans (by go_keep)⟩
      clear hK K
      try simp only [Act.put, List.setIfInBounds_toArray, List.set_cons_zero, List.set_cons_succ]
      refine wpAnyH_take (i := 11) (oi := { dst := some 46, op := Op.binOp BinOp.rem 3 (Operand.tmp 43) (Operand.tmp 45) 3, type := 3, pos := "metre.go:94", after := #[{ on := 8, ground := Ground.data }, { on := 10, ground := Ground.data }, { on := 21, ground := Ground.gcOnly Departure.lateStores }], guard := none }) (v := ?_) rfl (by kernel_rfl) (by kernel_rfl) (by kernel_rfl) (fun _ _ _ h => h) (Or.inl ⟨by rfl, ?_⟩) (by assumption) ?_
      rotate_left
      · intro wS hSw; go_split_ands; go_simp; first | done | with_reducible rfl
      simp only [Act.put, List.setIfInBounds_toArray, List.set_cons_zero, List.set_cons_succ]
      refine wpAnyH_take (i := 15) (oi := { dst := some 50, op := Op.binOp BinOp.quo 3 (Operand.tmp 46) (Operand.tmp 49) 3, type := 3, pos := "metre.go:94", after := #[{ on := 11, ground := Ground.data }, { on := 14, ground := Ground.data }, { on := 21, ground := Ground.gcOnly Departure.lateStores }], guard := none }) (v := ?_) rfl (by kernel_rfl) (by kernel_rfl) (by kernel_rfl) (fun _ _ _ h => h) (Or.inl ⟨by rfl, ?_⟩) (by assumption) ?_
      rotate_left
      · intro wS hSw; go_split_ands; go_simp; first | done | with_reducible rfl
      simp only [Act.put, List.setIfInBounds_toArray, List.set_cons_zero, List.set_cons_succ]
      refine wpAnyH_ready (rs := [21]) (by kernel_rfl) (by simp) ?_
      refine AllReadyH.cons (o := { dst := none, op := Op.store 3 (Operand.tmp 4) (Operand.tmp 42), type := 0, pos := "metre.go:94", after := #[{ on := 7, ground := Ground.data }, { on := 10, ground := Ground.chain }, { on := 0, ground := Ground.phase }, { on := 1, ground := Ground.phase }, { on := 2, ground := Ground.phase }, { on := 3, ground := Ground.phase }, { on := 4, ground := Ground.phase }, { on := 5, ground := Ground.phase }, { on := 6, ground := Ground.phase }, { on := 7, ground := Ground.phase }, { on := 8, ground := Ground.textOnly Departure.lateStores }, { on := 9, ground := Ground.textOnly Departure.lateStores }, { on := 10, ground := Ground.textOnly Departure.lateStoresUnsure }, { on := 11, ground := Ground.textOnly Departure.lateStores }, { on := 12, ground := Ground.textOnly Departure.lateStores }, { on := 13, ground := Ground.textOnly Departure.lateStores }, { on := 14, ground := Ground.textOnly Departure.lateStores }, { on := 15, ground := Ground.textOnly Departure.lateStores }, { on := 16, ground := Ground.textOnly Departure.lateStores }, { on := 17, ground := Ground.textOnly Departure.lateStores }, { on := 18, ground := Ground.textOnly Departure.lateStores }, { on := 19, ground := Ground.textOnly Departure.lateStores }, { on := 20, ground := Ground.textOnly Departure.lateStores }], guard := none }) rfl (fun K hK => ?_) AllReadyH.nil
      go_simp
      refine hK.out _ _ ?_ (fun hHeld => ?_)
      · ((try dsimp only at hHeld); go_split_ands; go_simp)
      clear hK K
      try simp only [Act.put, List.setIfInBounds_toArray, List.set_cons_zero, List.set_cons_succ]
      refine wpAnyH_ready (rs := [22]) (by kernel_rfl) (by simp) ?_
      refine AllReadyH.cons (o := { dst := none, op := Op.store 3 (Operand.tmp 5) (Operand.tmp 50), type := 0, pos := "metre.go:94", after := #[{ on := 15, ground := Ground.data }, { on := 21, ground := Ground.chain }, { on := 0, ground := Ground.phase }, { on := 1, ground := Ground.phase }, { on := 2, ground := Ground.phase }, { on := 3, ground := Ground.phase }, { on := 4, ground := Ground.phase }, { on := 5, ground := Ground.phase }, { on := 6, ground := Ground.phase }, { on := 7, ground := Ground.phase }, { on := 8, ground := Ground.phase }, { on := 9, ground := Ground.phase }, { on := 10, ground := Ground.phase }, { on := 11, ground := Ground.phase }, { on := 12, ground := Ground.phase }, { on := 13, ground := Ground.phase }, { on := 14, ground := Ground.phase }, { on := 15, ground := Ground.phase }, { on := 16, ground := Ground.textOnly Departure.lateStores }, { on := 17, ground := Ground.textOnly Departure.lateStores }, { on := 18, ground := Ground.textOnly Departure.lateStores }, { on := 19, ground := Ground.textOnly Departure.lateStores }, { on := 20, ground := Ground.textOnly Departure.lateStores }, { on := 21, ground := Ground.phase }], guard := none }) rfl (fun K hK => ?_) AllReadyH.nil
      go_simp
      refine hK.out _ _ ?_ (fun hHeld => ?_)
      · ((try dsimp only at hHeld); go_split_ands; go_simp)
      clear hK K
      try simp only [Act.put, List.setIfInBounds_toArray, List.set_cons_zero, List.set_cons_succ]
      refine wpAnyH_ready (rs := [23]) (by kernel_rfl) (by simp) ?_
      refine AllReadyH.cons (o := { dst := none, op := Op.store 3 (Operand.tmp 6) (Operand.tmp 55), type := 0, pos := "metre.go:94", after := #[{ on := 20, ground := Ground.data }, { on := 22, ground := Ground.chain }, { on := 0, ground := Ground.phase }, { on := 1, ground := Ground.phase }, { on := 2, ground := Ground.phase }, { on := 3, ground := Ground.phase }, { on := 4, ground := Ground.phase }, { on := 5, ground := Ground.phase }, { on := 6, ground := Ground.phase }, { on := 7, ground := Ground.phase }, { on := 8, ground := Ground.phase }, { on := 9, ground := Ground.phase }, { on := 10, ground := Ground.phase }, { on := 11, ground := Ground.phase }, { on := 12, ground := Ground.phase }, { on := 13, ground := Ground.phase }, { on := 14, ground := Ground.phase }, { on := 15, ground := Ground.phase }, { on := 16, ground := Ground.phase }, { on := 17, ground := Ground.phase }, { on := 18, ground := Ground.phase }, { on := 19, ground := Ground.phase }, { on := 20, ground := Ground.phase }, { on := 21, ground := Ground.phase }, { on := 22, ground := Ground.phase }], guard := none }) rfl (fun K hK => ?_) AllReadyH.nil
      go_simp
      refine hK.out _ _ ?_ (fun hHeld => ?_)
      · ((try dsimp only at hHeld); go_split_ands; go_simp)
      clear hK K
      try simp only [Act.put, List.setIfInBounds_toArray, List.set_cons_zero, List.set_cons_succ]
      refine wpAnyH_ready (rs := [24]) (by kernel_rfl) (by simp) ?_
      refine AllReadyH.cons (o := { dst := none, op := Op.store 24 (Operand.tmp 7) (Operand.const (Value.int IntKind.i64 0)), type := 0, pos := "metre.go:94", after := #[{ on := 23, ground := Ground.chain }, { on := 0, ground := Ground.phase }, { on := 1, ground := Ground.phase }, { on := 2, ground := Ground.phase }, { on := 3, ground := Ground.phase }, { on := 4, ground := Ground.phase }, { on := 5, ground := Ground.phase }, { on := 6, ground := Ground.phase }, { on := 7, ground := Ground.phase }, { on := 8, ground := Ground.phase }, { on := 9, ground := Ground.phase }, { on := 10, ground := Ground.phase }, { on := 11, ground := Ground.phase }, { on := 12, ground := Ground.phase }, { on := 13, ground := Ground.phase }, { on := 14, ground := Ground.phase }, { on := 15, ground := Ground.phase }, { on := 16, ground := Ground.phase }, { on := 17, ground := Ground.phase }, { on := 18, ground := Ground.phase }, { on := 19, ground := Ground.phase }, { on := 20, ground := Ground.phase }, { on := 21, ground := Ground.phase }, { on := 22, ground := Ground.phase }, { on := 23, ground := Ground.phase }], guard := none }) rfl (fun K hK => ?_) AllReadyH.nil
      go_simp
      refine hK.out _ _ ?_ (fun hHeld => ?_)
      · ((try dsimp only at hHeld); go_split_ands; go_simp)
      clear hK K
      try simp only [Act.put, List.setIfInBounds_toArray, List.set_cons_zero, List.set_cons_succ]
      refine wpAnyH_done (by kernel_rfl) ?_ _
      gi_wp2
      refine ⟨?_, ?_⟩
      · exact ((((Keep.of_same (hbb.trans (hb4.mono hbs)) _).setCell (fun _ => m1.1) _).setCell (fun _ => m2.1) _).setCell (fun _ => m3.1) _).setCell (fun _ => m4.1) _
      · unfold PlaceX
        rw [HR.out]
        refine ⟨rfl, ⟨m1.by _, (((v1.set0 _).other (by simp <;> omega) _).other (by simp <;> omega) _).other (by simp <;> omega) _⟩, ⟨m2.by _, (((v2.other (by simp <;> omega) _).set0 _).other (by simp <;> omega) _).other (by simp <;> omega) _⟩, ⟨m3.by _, (((v3.other (by simp <;> omega) _).other (by simp <;> omega) _).set0 _).other (by simp <;> omega) _⟩, ⟨m4.by _, (((v4.other (by simp <;> omega) _).other (by simp <;> omega) _).other (by simp <;> omega) _).set0 _⟩, hold.by _ ?_⟩
        exact (((((hbb.trans (hb4.mono hbs)).mono (show w.heap.size ≤ W.heap.size by have := b4.lt; omega)).setCell (by simp <;> omega) _).setCell (by simp <;> omega) _).setCell (by simp <;> omega) _).setCell (by simp <;> omega) _
  case done =>
    clear x0 x1 x2 x3 x4 hBn hmw hbl hw1
    rintro D cc xs W hD rfl ⟨⟨_, ⟨m1, b1⟩, ⟨m2, b2⟩, ⟨m3, b3⟩, ⟨m4, b4⟩⟩, hold, hpre⟩ hK
    have HR := Lib.hid (rPlace_none hv h0 h1 (fun k hk => hpre ⟨k, hk⟩ (upto_mem ms k hk)))
    have c1 := b1.cell0
    have f1 := b1.frozen 0
    have c2 := b2.cell0
    have f2 := b2.frozen 0
    have c3 := b3.cell0
    have f3 := b3.frozen 0
    have c4 := b4.cell0
    have f4 := b4.frozen 0
    go_wp2
    have k11 : (W.setCell ⟨w.heap.size + 1, 0, none⟩ (.int .i64 0)).drew.cell? ⟨w.heap.size + 1, 0, none⟩ = some (.int .i64 0) := (b1.set0 (.int .i64 0)).cell0
    have k12 : (W.setCell ⟨w.heap.size + 1, 0, none⟩ (.int .i64 0)).drew.cell? ⟨w.heap.size + 1 + 1, 0, none⟩ = some (.int .i64 0) := (b2.other (p := ⟨w.heap.size + 1, 0, none⟩) (by simp <;> omega) (.int .i64 0)).cell0
    have k13 : (W.setCell ⟨w.heap.size + 1, 0, none⟩ (.int .i64 0)).drew.cell? ⟨w.heap.size + 1 + 1 + 1, 0, none⟩ = some (.int .i64 0) := (b3.other (p := ⟨w.heap.size + 1, 0, none⟩) (by simp <;> omega) (.int .i64 0)).cell0
    have k14 : (W.setCell ⟨w.heap.size + 1, 0, none⟩ (.int .i64 0)).drew.cell? ⟨w.heap.size + 1 + 1 + 1 + 1, 0, none⟩ = some (.int .i64 70) := (b4.other (p := ⟨w.heap.size + 1, 0, none⟩) (by simp <;> omega) (.int .i64 0)).cell0
    have k21 : ((W.setCell ⟨w.heap.size + 1, 0, none⟩ (.int .i64 0)).setCell ⟨w.heap.size + 1 + 1, 0, none⟩ (.int .i64 0)).drew.cell? ⟨w.heap.size + 1, 0, none⟩ = some (.int .i64 0) := ((b1.set0 (.int .i64 0)).other (p := ⟨w.heap.size + 1 + 1, 0, none⟩) (by simp <;> omega) (.int .i64 0)).cell0
    have k22 : ((W.setCell ⟨w.heap.size + 1, 0, none⟩ (.int .i64 0)).setCell ⟨w.heap.size + 1 + 1, 0, none⟩ (.int .i64 0)).drew.cell? ⟨w.heap.size + 1 + 1, 0, none⟩ = some (.int .i64 0) := ((b2.other (p := ⟨w.heap.size + 1, 0, none⟩) (by simp <;> omega) (.int .i64 0)).set0 (.int .i64 0)).cell0
    have k23 : ((W.setCell ⟨w.heap.size + 1, 0, none⟩ (.int .i64 0)).setCell ⟨w.heap.size + 1 + 1, 0, none⟩ (.int .i64 0)).drew.cell? ⟨w.heap.size + 1 + 1 + 1, 0, none⟩ = some (.int .i64 0) := ((b3.other (p := ⟨w.heap.size + 1, 0, none⟩) (by simp <;> omega) (.int .i64 0)).other (p := ⟨w.heap.size + 1 + 1, 0, none⟩) (by simp <;> omega) (.int .i64 0)).cell0
    have k24 : ((W.setCell ⟨w.heap.size + 1, 0, none⟩ (.int .i64 0)).setCell ⟨w.heap.size + 1 + 1, 0, none⟩ (.int .i64 0)).drew.cell? ⟨w.heap.size + 1 + 1 + 1 + 1, 0, none⟩ = some (.int .i64 70) := ((b4.other (p := ⟨w.heap.size + 1, 0, none⟩) (by simp <;> omega) (.int .i64 0)).other (p := ⟨w.heap.size + 1 + 1, 0, none⟩) (by simp <;> omega) (.int .i64 0)).cell0
    have k31 : (((W.setCell ⟨w.heap.size + 1, 0, none⟩ (.int .i64 0)).setCell ⟨w.heap.size + 1 + 1, 0, none⟩ (.int .i64 0)).setCell ⟨w.heap.size + 1 + 1 + 1, 0, none⟩ (.int .i64 0)).drew.cell? ⟨w.heap.size + 1, 0, none⟩ = some (.int .i64 0) := (((b1.set0 (.int .i64 0)).other (p := ⟨w.heap.size + 1 + 1, 0, none⟩) (by simp <;> omega) (.int .i64 0)).other (p := ⟨w.heap.size + 1 + 1 + 1, 0, none⟩) (by simp <;> omega) (.int .i64 0)).cell0
    have k32 : (((W.setCell ⟨w.heap.size + 1, 0, none⟩ (.int .i64 0)).setCell ⟨w.heap.size + 1 + 1, 0, none⟩ (.int .i64 0)).setCell ⟨w.heap.size + 1 + 1 + 1, 0, none⟩ (.int .i64 0)).drew.cell? ⟨w.heap.size + 1 + 1, 0, none⟩ = some (.int .i64 0) := (((b2.other (p := ⟨w.heap.size + 1, 0, none⟩) (by simp <;> omega) (.int .i64 0)).set0 (.int .i64 0)).other (p := ⟨w.heap.size + 1 + 1 + 1, 0, none⟩) (by simp <;> omega) (.int .i64 0)).cell0
    have k33 : (((W.setCell ⟨w.heap.size + 1, 0, none⟩ (.int .i64 0)).setCell ⟨w.heap.size + 1 + 1, 0, none⟩ (.int .i64 0)).setCell ⟨w.heap.size + 1 + 1 + 1, 0, none⟩ (.int .i64 0)).drew.cell? ⟨w.heap.size + 1 + 1 + 1, 0, none⟩ = some (.int .i64 0) := (((b3.other (p := ⟨w.heap.size + 1, 0, none⟩) (by simp <;> omega) (.int .i64 0)).other (p := ⟨w.heap.size + 1 + 1, 0, none⟩) (by simp <;> omega) (.int .i64 0)).set0 (.int .i64 0)).cell0
    have k34 : (((W.setCell ⟨w.heap.size + 1, 0, none⟩ (.int .i64 0)).setCell ⟨w.heap.size + 1 + 1, 0, none⟩ (.int .i64 0)).setCell ⟨w.heap.size + 1 + 1 + 1, 0, none⟩ (.int .i64 0)).drew.cell? ⟨w.heap.size + 1 + 1 + 1 + 1, 0, none⟩ = some (.int .i64 70) := (((b4.other (p := ⟨w.heap.size + 1, 0, none⟩) (by simp <;> omega) (.int .i64 0)).other (p := ⟨w.heap.size + 1 + 1, 0, none⟩) (by simp <;> omega) (.int .i64 0)).other (p := ⟨w.heap.size + 1 + 1 + 1, 0, none⟩) (by simp <;> omega) (.int .i64 0)).cell0
    have k41 : ((((W.setCell ⟨w.heap.size + 1, 0, none⟩ (.int .i64 0)).setCell ⟨w.heap.size + 1 + 1, 0, none⟩ (.int .i64 0)).setCell ⟨w.heap.size + 1 + 1 + 1, 0, none⟩ (.int .i64 0)).setCell ⟨w.heap.size + 1 + 1 + 1 + 1, 0, none⟩ (.int .i64 70)).drew.cell? ⟨w.heap.size + 1, 0, none⟩ = some (.int .i64 0) := ((((b1.set0 (.int .i64 0)).other (p := ⟨w.heap.size + 1 + 1, 0, none⟩) (by simp <;> omega) (.int .i64 0)).other (p := ⟨w.heap.size + 1 + 1 + 1, 0, none⟩) (by simp <;> omega) (.int .i64 0)).other (p := ⟨w.heap.size + 1 + 1 + 1 + 1, 0, none⟩) (by simp <;> omega) (.int .i64 70)).cell0
    have k42 : ((((W.setCell ⟨w.heap.size + 1, 0, none⟩ (.int .i64 0)).setCell ⟨w.heap.size + 1 + 1, 0, none⟩ (.int .i64 0)).setCell ⟨w.heap.size + 1 + 1 + 1, 0, none⟩ (.int .i64 0)).setCell ⟨w.heap.size + 1 + 1 + 1 + 1, 0, none⟩ (.int .i64 70)).drew.cell? ⟨w.heap.size + 1 + 1, 0, none⟩ = some (.int .i64 0) := ((((b2.other (p := ⟨w.heap.size + 1, 0, none⟩) (by simp <;> omega) (.int .i64 0)).set0 (.int .i64 0)).other (p := ⟨w.heap.size + 1 + 1 + 1, 0, none⟩) (by simp <;> omega) (.int .i64 0)).other (p := ⟨w.heap.size + 1 + 1 + 1 + 1, 0, none⟩) (by simp <;> omega) (.int .i64 70)).cell0
    have k43 : ((((W.setCell ⟨w.heap.size + 1, 0, none⟩ (.int .i64 0)).setCell ⟨w.heap.size + 1 + 1, 0, none⟩ (.int .i64 0)).setCell ⟨w.heap.size + 1 + 1 + 1, 0, none⟩ (.int .i64 0)).setCell ⟨w.heap.size + 1 + 1 + 1 + 1, 0, none⟩ (.int .i64 70)).drew.cell? ⟨w.heap.size + 1 + 1 + 1, 0, none⟩ = some (.int .i64 0) := ((((b3.other (p := ⟨w.heap.size + 1, 0, none⟩) (by simp <;> omega) (.int .i64 0)).other (p := ⟨w.heap.size + 1 + 1, 0, none⟩) (by simp <;> omega) (.int .i64 0)).set0 (.int .i64 0)).other (p := ⟨w.heap.size + 1 + 1 + 1 + 1, 0, none⟩) (by simp <;> omega) (.int .i64 70)).cell0
    have k44 : ((((W.setCell ⟨w.heap.size + 1, 0, none⟩ (.int .i64 0)).setCell ⟨w.heap.size + 1 + 1, 0, none⟩ (.int .i64 0)).setCell ⟨w.heap.size + 1 + 1 + 1, 0, none⟩ (.int .i64 0)).setCell ⟨w.heap.size + 1 + 1 + 1 + 1, 0, none⟩ (.int .i64 70)).drew.cell? ⟨w.heap.size + 1 + 1 + 1 + 1, 0, none⟩ = some (.int .i64 70) := ((((b4.other (p := ⟨w.heap.size + 1, 0, none⟩) (by simp <;> omega) (.int .i64 0)).other (p := ⟨w.heap.size + 1 + 1, 0, none⟩) (by simp <;> omega) (.int .i64 0)).other (p := ⟨w.heap.size + 1 + 1 + 1, 0, none⟩) (by simp <;> omega) (.int .i64 0)).set0 (.int .i64 70)).cell0
    go_region_held3 (fun W' => W'.cell? ⟨w.heap.size + 1, 0, none⟩ = some (.int .i64 0) ∧ W'.cell? ⟨w.heap.size + 1 + 1, 0, none⟩ = some (.int .i64 0) ∧ W'.cell? ⟨w.heap.size + 1 + 1 + 1, 0, none⟩ = some (.int .i64 0) ∧ W'.cell? ⟨w.heap.size + 1 + 1 + 1 + 1, 0, none⟩ = some (.int .i64 70)) (first | go_keep | (go_split_ands; exact ⟨by assumption, by assumption, by assumption, by assumption⟩)) (fail)
    clear k11 k12 k13 k14 k21 k22 k23 k24 k31 k32 k33 k34 k41 k42 k43 k44 c1 c2 c3 c4 f1 f2 f3 f4
    go_wp2
    rw [Exit.noGoto_ret]
    have hk2 : ((((W.setCell ⟨w.heap.size + 1, 0, none⟩ (.int .i64 0)).setCell ⟨w.heap.size + 1 + 1, 0, none⟩ (.int .i64 0)).setCell ⟨w.heap.size + 1 + 1 + 1, 0, none⟩ (.int .i64 0)).setCell ⟨w.heap.size + 1 + 1 + 1 + 1, 0, none⟩ (.int .i64 70)).drew.heap[D]? = some (.deferred (some [])) := ((Below.heap_setCell _ ⟨w.heap.size + 1 + 1 + 1 + 1, 0, none⟩ (.int .i64 70) D (by simp <;> omega)).trans ((Below.heap_setCell _ ⟨w.heap.size + 1 + 1 + 1, 0, none⟩ (.int .i64 0) D (by simp <;> omega)).trans ((Below.heap_setCell _ ⟨w.heap.size + 1 + 1, 0, none⟩ (.int .i64 0) D (by simp <;> omega)).trans ((Below.heap_setCell _ ⟨w.heap.size + 1, 0, none⟩ (.int .i64 0) D (by simp <;> omega)).trans hK))))
    have e1 : (((((W.setCell ⟨w.heap.size + 1, 0, none⟩ (.int .i64 0)).setCell ⟨w.heap.size + 1 + 1, 0, none⟩ (.int .i64 0)).setCell ⟨w.heap.size + 1 + 1 + 1, 0, none⟩ (.int .i64 0)).setCell ⟨w.heap.size + 1 + 1 + 1 + 1, 0, none⟩ (.int .i64 70)).drew.putObj D (.deferred none)).cell? ⟨w.heap.size + 1, 0, none⟩ = some (.int .i64 0) := (Blk.putObj (W := ((((W.setCell ⟨w.heap.size + 1, 0, none⟩ (.int .i64 0)).setCell ⟨w.heap.size + 1 + 1, 0, none⟩ (.int .i64 0)).setCell ⟨w.heap.size + 1 + 1 + 1, 0, none⟩ (.int .i64 0)).setCell ⟨w.heap.size + 1 + 1 + 1 + 1, 0, none⟩ (.int .i64 70)).drew) ((((b1.set0 (.int .i64 0)).other (p := ⟨w.heap.size + 1 + 1, 0, none⟩) (by simp <;> omega) (.int .i64 0)).other (p := ⟨w.heap.size + 1 + 1 + 1, 0, none⟩) (by simp <;> omega) (.int .i64 0)).other (p := ⟨w.heap.size + 1 + 1 + 1 + 1, 0, none⟩) (by simp <;> omega) (.int .i64 70)) (by omega) (.deferred none)).cell0
    have e2 : (((((W.setCell ⟨w.heap.size + 1, 0, none⟩ (.int .i64 0)).setCell ⟨w.heap.size + 1 + 1, 0, none⟩ (.int .i64 0)).setCell ⟨w.heap.size + 1 + 1 + 1, 0, none⟩ (.int .i64 0)).setCell ⟨w.heap.size + 1 + 1 + 1 + 1, 0, none⟩ (.int .i64 70)).drew.putObj D (.deferred none)).cell? ⟨w.heap.size + 1 + 1, 0, none⟩ = some (.int .i64 0) := (Blk.putObj (W := ((((W.setCell ⟨w.heap.size + 1, 0, none⟩ (.int .i64 0)).setCell ⟨w.heap.size + 1 + 1, 0, none⟩ (.int .i64 0)).setCell ⟨w.heap.size + 1 + 1 + 1, 0, none⟩ (.int .i64 0)).setCell ⟨w.heap.size + 1 + 1 + 1 + 1, 0, none⟩ (.int .i64 70)).drew) ((((b2.other (p := ⟨w.heap.size + 1, 0, none⟩) (by simp <;> omega) (.int .i64 0)).set0 (.int .i64 0)).other (p := ⟨w.heap.size + 1 + 1 + 1, 0, none⟩) (by simp <;> omega) (.int .i64 0)).other (p := ⟨w.heap.size + 1 + 1 + 1 + 1, 0, none⟩) (by simp <;> omega) (.int .i64 70)) (by omega) (.deferred none)).cell0
    have e3 : (((((W.setCell ⟨w.heap.size + 1, 0, none⟩ (.int .i64 0)).setCell ⟨w.heap.size + 1 + 1, 0, none⟩ (.int .i64 0)).setCell ⟨w.heap.size + 1 + 1 + 1, 0, none⟩ (.int .i64 0)).setCell ⟨w.heap.size + 1 + 1 + 1 + 1, 0, none⟩ (.int .i64 70)).drew.putObj D (.deferred none)).cell? ⟨w.heap.size + 1 + 1 + 1, 0, none⟩ = some (.int .i64 0) := (Blk.putObj (W := ((((W.setCell ⟨w.heap.size + 1, 0, none⟩ (.int .i64 0)).setCell ⟨w.heap.size + 1 + 1, 0, none⟩ (.int .i64 0)).setCell ⟨w.heap.size + 1 + 1 + 1, 0, none⟩ (.int .i64 0)).setCell ⟨w.heap.size + 1 + 1 + 1 + 1, 0, none⟩ (.int .i64 70)).drew) ((((b3.other (p := ⟨w.heap.size + 1, 0, none⟩) (by simp <;> omega) (.int .i64 0)).other (p := ⟨w.heap.size + 1 + 1, 0, none⟩) (by simp <;> omega) (.int .i64 0)).set0 (.int .i64 0)).other (p := ⟨w.heap.size + 1 + 1 + 1 + 1, 0, none⟩) (by simp <;> omega) (.int .i64 70)) (by omega) (.deferred none)).cell0
    have e4 : (((((W.setCell ⟨w.heap.size + 1, 0, none⟩ (.int .i64 0)).setCell ⟨w.heap.size + 1 + 1, 0, none⟩ (.int .i64 0)).setCell ⟨w.heap.size + 1 + 1 + 1, 0, none⟩ (.int .i64 0)).setCell ⟨w.heap.size + 1 + 1 + 1 + 1, 0, none⟩ (.int .i64 70)).drew.putObj D (.deferred none)).cell? ⟨w.heap.size + 1 + 1 + 1 + 1, 0, none⟩ = some (.int .i64 70) := (Blk.putObj (W := ((((W.setCell ⟨w.heap.size + 1, 0, none⟩ (.int .i64 0)).setCell ⟨w.heap.size + 1 + 1, 0, none⟩ (.int .i64 0)).setCell ⟨w.heap.size + 1 + 1 + 1, 0, none⟩ (.int .i64 0)).setCell ⟨w.heap.size + 1 + 1 + 1 + 1, 0, none⟩ (.int .i64 70)).drew) ((((b4.other (p := ⟨w.heap.size + 1, 0, none⟩) (by simp <;> omega) (.int .i64 0)).other (p := ⟨w.heap.size + 1 + 1, 0, none⟩) (by simp <;> omega) (.int .i64 0)).other (p := ⟨w.heap.size + 1 + 1 + 1, 0, none⟩) (by simp <;> omega) (.int .i64 0)).set0 (.int .i64 70)) (by omega) (.deferred none)).cell0
    refine ⟨by simp, .inl ⟨_, _, rfl, run_takeDeferred hk2, ?_⟩⟩
    refine ⟨quad (rPlace ms tick), ?_, rfl, below_putObj ((((hold.2.setCell (p := ⟨w.heap.size + 1, 0, none⟩) (by simp <;> omega) (.int .i64 0)).setCell (p := ⟨w.heap.size + 1 + 1, 0, none⟩) (by simp <;> omega) (.int .i64 0)).setCell (p := ⟨w.heap.size + 1 + 1 + 1, 0, none⟩) (by simp <;> omega) (.int .i64 0)).setCell (p := ⟨w.heap.size + 1 + 1 + 1 + 1, 0, none⟩) (by simp <;> omega) (.int .i64 70)).drew (by omega) _⟩
    rw [HR.out]; simp [results, Try.results15, go_sem, e1, e2, e3, e4, quad]
  case stop =>
    clear x0 x1 x2 x3 x4 hBn hmw hbl hw1
    rintro D j cc pre W hD _ ⟨rfl, ⟨m1, b1⟩, ⟨m2, b2⟩, ⟨m3, b3⟩, ⟨m4, b4⟩, hold⟩ hK
    have c1 := b1.cell0
    have f1 := b1.frozen 0
    have c2 := b2.cell0
    have f2 := b2.frozen 0
    have c3 := b3.cell0
    have f3 := b3.frozen 0
    have c4 := b4.cell0
    have f4 := b4.frozen 0
    refine wpIn_wide.2 ?_
    go_wp2
    have k11 : (W.setCell ⟨w.heap.size + 1, 0, none⟩ (.int .i64 (rPlace ms tick).1)).drew.cell? ⟨w.heap.size + 1, 0, none⟩ = some (.int .i64 (rPlace ms tick).1) := (b1.set0 (.int .i64 (rPlace ms tick).1)).cell0
    have k12 : (W.setCell ⟨w.heap.size + 1, 0, none⟩ (.int .i64 (rPlace ms tick).1)).drew.cell? ⟨w.heap.size + 1 + 1, 0, none⟩ = some (.int .i64 (rPlace ms tick).2.1) := (b2.other (p := ⟨w.heap.size + 1, 0, none⟩) (by simp <;> omega) (.int .i64 (rPlace ms tick).1)).cell0
    have k13 : (W.setCell ⟨w.heap.size + 1, 0, none⟩ (.int .i64 (rPlace ms tick).1)).drew.cell? ⟨w.heap.size + 1 + 1 + 1, 0, none⟩ = some (.int .i64 (rPlace ms tick).2.2.1) := (b3.other (p := ⟨w.heap.size + 1, 0, none⟩) (by simp <;> omega) (.int .i64 (rPlace ms tick).1)).cell0
    have k14 : (W.setCell ⟨w.heap.size + 1, 0, none⟩ (.int .i64 (rPlace ms tick).1)).drew.cell? ⟨w.heap.size + 1 + 1 + 1 + 1, 0, none⟩ = some (.int .i64 (rPlace ms tick).2.2.2) := (b4.other (p := ⟨w.heap.size + 1, 0, none⟩) (by simp <;> omega) (.int .i64 (rPlace ms tick).1)).cell0
    have k21 : ((W.setCell ⟨w.heap.size + 1, 0, none⟩ (.int .i64 (rPlace ms tick).1)).setCell ⟨w.heap.size + 1 + 1, 0, none⟩ (.int .i64 (rPlace ms tick).2.1)).drew.cell? ⟨w.heap.size + 1, 0, none⟩ = some (.int .i64 (rPlace ms tick).1) := ((b1.set0 (.int .i64 (rPlace ms tick).1)).other (p := ⟨w.heap.size + 1 + 1, 0, none⟩) (by simp <;> omega) (.int .i64 (rPlace ms tick).2.1)).cell0
    have k22 : ((W.setCell ⟨w.heap.size + 1, 0, none⟩ (.int .i64 (rPlace ms tick).1)).setCell ⟨w.heap.size + 1 + 1, 0, none⟩ (.int .i64 (rPlace ms tick).2.1)).drew.cell? ⟨w.heap.size + 1 + 1, 0, none⟩ = some (.int .i64 (rPlace ms tick).2.1) := ((b2.other (p := ⟨w.heap.size + 1, 0, none⟩) (by simp <;> omega) (.int .i64 (rPlace ms tick).1)).set0 (.int .i64 (rPlace ms tick).2.1)).cell0
    have k23 : ((W.setCell ⟨w.heap.size + 1, 0, none⟩ (.int .i64 (rPlace ms tick).1)).setCell ⟨w.heap.size + 1 + 1, 0, none⟩ (.int .i64 (rPlace ms tick).2.1)).drew.cell? ⟨w.heap.size + 1 + 1 + 1, 0, none⟩ = some (.int .i64 (rPlace ms tick).2.2.1) := ((b3.other (p := ⟨w.heap.size + 1, 0, none⟩) (by simp <;> omega) (.int .i64 (rPlace ms tick).1)).other (p := ⟨w.heap.size + 1 + 1, 0, none⟩) (by simp <;> omega) (.int .i64 (rPlace ms tick).2.1)).cell0
    have k24 : ((W.setCell ⟨w.heap.size + 1, 0, none⟩ (.int .i64 (rPlace ms tick).1)).setCell ⟨w.heap.size + 1 + 1, 0, none⟩ (.int .i64 (rPlace ms tick).2.1)).drew.cell? ⟨w.heap.size + 1 + 1 + 1 + 1, 0, none⟩ = some (.int .i64 (rPlace ms tick).2.2.2) := ((b4.other (p := ⟨w.heap.size + 1, 0, none⟩) (by simp <;> omega) (.int .i64 (rPlace ms tick).1)).other (p := ⟨w.heap.size + 1 + 1, 0, none⟩) (by simp <;> omega) (.int .i64 (rPlace ms tick).2.1)).cell0
    have k31 : (((W.setCell ⟨w.heap.size + 1, 0, none⟩ (.int .i64 (rPlace ms tick).1)).setCell ⟨w.heap.size + 1 + 1, 0, none⟩ (.int .i64 (rPlace ms tick).2.1)).setCell ⟨w.heap.size + 1 + 1 + 1, 0, none⟩ (.int .i64 (rPlace ms tick).2.2.1)).drew.cell? ⟨w.heap.size + 1, 0, none⟩ = some (.int .i64 (rPlace ms tick).1) := (((b1.set0 (.int .i64 (rPlace ms tick).1)).other (p := ⟨w.heap.size + 1 + 1, 0, none⟩) (by simp <;> omega) (.int .i64 (rPlace ms tick).2.1)).other (p := ⟨w.heap.size + 1 + 1 + 1, 0, none⟩) (by simp <;> omega) (.int .i64 (rPlace ms tick).2.2.1)).cell0
    have k32 : (((W.setCell ⟨w.heap.size + 1, 0, none⟩ (.int .i64 (rPlace ms tick).1)).setCell ⟨w.heap.size + 1 + 1, 0, none⟩ (.int .i64 (rPlace ms tick).2.1)).setCell ⟨w.heap.size + 1 + 1 + 1, 0, none⟩ (.int .i64 (rPlace ms tick).2.2.1)).drew.cell? ⟨w.heap.size + 1 + 1, 0, none⟩ = some (.int .i64 (rPlace ms tick).2.1) := (((b2.other (p := ⟨w.heap.size + 1, 0, none⟩) (by simp <;> omega) (.int .i64 (rPlace ms tick).1)).set0 (.int .i64 (rPlace ms tick).2.1)).other (p := ⟨w.heap.size + 1 + 1 + 1, 0, none⟩) (by simp <;> omega) (.int .i64 (rPlace ms tick).2.2.1)).cell0
    have k33 : (((W.setCell ⟨w.heap.size + 1, 0, none⟩ (.int .i64 (rPlace ms tick).1)).setCell ⟨w.heap.size + 1 + 1, 0, none⟩ (.int .i64 (rPlace ms tick).2.1)).setCell ⟨w.heap.size + 1 + 1 + 1, 0, none⟩ (.int .i64 (rPlace ms tick).2.2.1)).drew.cell? ⟨w.heap.size + 1 + 1 + 1, 0, none⟩ = some (.int .i64 (rPlace ms tick).2.2.1) := (((b3.other (p := ⟨w.heap.size + 1, 0, none⟩) (by simp <;> omega) (.int .i64 (rPlace ms tick).1)).other (p := ⟨w.heap.size + 1 + 1, 0, none⟩) (by simp <;> omega) (.int .i64 (rPlace ms tick).2.1)).set0 (.int .i64 (rPlace ms tick).2.2.1)).cell0
    have k34 : (((W.setCell ⟨w.heap.size + 1, 0, none⟩ (.int .i64 (rPlace ms tick).1)).setCell ⟨w.heap.size + 1 + 1, 0, none⟩ (.int .i64 (rPlace ms tick).2.1)).setCell ⟨w.heap.size + 1 + 1 + 1, 0, none⟩ (.int .i64 (rPlace ms tick).2.2.1)).drew.cell? ⟨w.heap.size + 1 + 1 + 1 + 1, 0, none⟩ = some (.int .i64 (rPlace ms tick).2.2.2) := (((b4.other (p := ⟨w.heap.size + 1, 0, none⟩) (by simp <;> omega) (.int .i64 (rPlace ms tick).1)).other (p := ⟨w.heap.size + 1 + 1, 0, none⟩) (by simp <;> omega) (.int .i64 (rPlace ms tick).2.1)).other (p := ⟨w.heap.size + 1 + 1 + 1, 0, none⟩) (by simp <;> omega) (.int .i64 (rPlace ms tick).2.2.1)).cell0
    have k41 : ((((W.setCell ⟨w.heap.size + 1, 0, none⟩ (.int .i64 (rPlace ms tick).1)).setCell ⟨w.heap.size + 1 + 1, 0, none⟩ (.int .i64 (rPlace ms tick).2.1)).setCell ⟨w.heap.size + 1 + 1 + 1, 0, none⟩ (.int .i64 (rPlace ms tick).2.2.1)).setCell ⟨w.heap.size + 1 + 1 + 1 + 1, 0, none⟩ (.int .i64 (rPlace ms tick).2.2.2)).drew.cell? ⟨w.heap.size + 1, 0, none⟩ = some (.int .i64 (rPlace ms tick).1) := ((((b1.set0 (.int .i64 (rPlace ms tick).1)).other (p := ⟨w.heap.size + 1 + 1, 0, none⟩) (by simp <;> omega) (.int .i64 (rPlace ms tick).2.1)).other (p := ⟨w.heap.size + 1 + 1 + 1, 0, none⟩) (by simp <;> omega) (.int .i64 (rPlace ms tick).2.2.1)).other (p := ⟨w.heap.size + 1 + 1 + 1 + 1, 0, none⟩) (by simp <;> omega) (.int .i64 (rPlace ms tick).2.2.2)).cell0
    have k42 : ((((W.setCell ⟨w.heap.size + 1, 0, none⟩ (.int .i64 (rPlace ms tick).1)).setCell ⟨w.heap.size + 1 + 1, 0, none⟩ (.int .i64 (rPlace ms tick).2.1)).setCell ⟨w.heap.size + 1 + 1 + 1, 0, none⟩ (.int .i64 (rPlace ms tick).2.2.1)).setCell ⟨w.heap.size + 1 + 1 + 1 + 1, 0, none⟩ (.int .i64 (rPlace ms tick).2.2.2)).drew.cell? ⟨w.heap.size + 1 + 1, 0, none⟩ = some (.int .i64 (rPlace ms tick).2.1) := ((((b2.other (p := ⟨w.heap.size + 1, 0, none⟩) (by simp <;> omega) (.int .i64 (rPlace ms tick).1)).set0 (.int .i64 (rPlace ms tick).2.1)).other (p := ⟨w.heap.size + 1 + 1 + 1, 0, none⟩) (by simp <;> omega) (.int .i64 (rPlace ms tick).2.2.1)).other (p := ⟨w.heap.size + 1 + 1 + 1 + 1, 0, none⟩) (by simp <;> omega) (.int .i64 (rPlace ms tick).2.2.2)).cell0
    have k43 : ((((W.setCell ⟨w.heap.size + 1, 0, none⟩ (.int .i64 (rPlace ms tick).1)).setCell ⟨w.heap.size + 1 + 1, 0, none⟩ (.int .i64 (rPlace ms tick).2.1)).setCell ⟨w.heap.size + 1 + 1 + 1, 0, none⟩ (.int .i64 (rPlace ms tick).2.2.1)).setCell ⟨w.heap.size + 1 + 1 + 1 + 1, 0, none⟩ (.int .i64 (rPlace ms tick).2.2.2)).drew.cell? ⟨w.heap.size + 1 + 1 + 1, 0, none⟩ = some (.int .i64 (rPlace ms tick).2.2.1) := ((((b3.other (p := ⟨w.heap.size + 1, 0, none⟩) (by simp <;> omega) (.int .i64 (rPlace ms tick).1)).other (p := ⟨w.heap.size + 1 + 1, 0, none⟩) (by simp <;> omega) (.int .i64 (rPlace ms tick).2.1)).set0 (.int .i64 (rPlace ms tick).2.2.1)).other (p := ⟨w.heap.size + 1 + 1 + 1 + 1, 0, none⟩) (by simp <;> omega) (.int .i64 (rPlace ms tick).2.2.2)).cell0
    have k44 : ((((W.setCell ⟨w.heap.size + 1, 0, none⟩ (.int .i64 (rPlace ms tick).1)).setCell ⟨w.heap.size + 1 + 1, 0, none⟩ (.int .i64 (rPlace ms tick).2.1)).setCell ⟨w.heap.size + 1 + 1 + 1, 0, none⟩ (.int .i64 (rPlace ms tick).2.2.1)).setCell ⟨w.heap.size + 1 + 1 + 1 + 1, 0, none⟩ (.int .i64 (rPlace ms tick).2.2.2)).drew.cell? ⟨w.heap.size + 1 + 1 + 1 + 1, 0, none⟩ = some (.int .i64 (rPlace ms tick).2.2.2) := ((((b4.other (p := ⟨w.heap.size + 1, 0, none⟩) (by simp <;> omega) (.int .i64 (rPlace ms tick).1)).other (p := ⟨w.heap.size + 1 + 1, 0, none⟩) (by simp <;> omega) (.int .i64 (rPlace ms tick).2.1)).other (p := ⟨w.heap.size + 1 + 1 + 1, 0, none⟩) (by simp <;> omega) (.int .i64 (rPlace ms tick).2.2.1)).set0 (.int .i64 (rPlace ms tick).2.2.2)).cell0
    go_region_held3 (fun W' => W'.cell? ⟨w.heap.size + 1, 0, none⟩ = some (.int .i64 (rPlace ms tick).1) ∧ W'.cell? ⟨w.heap.size + 1 + 1, 0, none⟩ = some (.int .i64 (rPlace ms tick).2.1) ∧ W'.cell? ⟨w.heap.size + 1 + 1 + 1, 0, none⟩ = some (.int .i64 (rPlace ms tick).2.2.1) ∧ W'.cell? ⟨w.heap.size + 1 + 1 + 1 + 1, 0, none⟩ = some (.int .i64 (rPlace ms tick).2.2.2)) (first | go_keep | (go_split_ands; exact ⟨by assumption, by assumption, by assumption, by assumption⟩)) (fail)
    clear k11 k12 k13 k14 k21 k22 k23 k24 k31 k32 k33 k34 k41 k42 k43 k44 c1 c2 c3 c4 f1 f2 f3 f4
    go_wp2
    rw [Exit.noGoto_ret]
    have hk2 : ((((W.setCell ⟨w.heap.size + 1, 0, none⟩ (.int .i64 (rPlace ms tick).1)).setCell ⟨w.heap.size + 1 + 1, 0, none⟩ (.int .i64 (rPlace ms tick).2.1)).setCell ⟨w.heap.size + 1 + 1 + 1, 0, none⟩ (.int .i64 (rPlace ms tick).2.2.1)).setCell ⟨w.heap.size + 1 + 1 + 1 + 1, 0, none⟩ (.int .i64 (rPlace ms tick).2.2.2)).drew.heap[D]? = some (.deferred (some [])) := ((Below.heap_setCell _ ⟨w.heap.size + 1 + 1 + 1 + 1, 0, none⟩ (.int .i64 (rPlace ms tick).2.2.2) D (by simp <;> omega)).trans ((Below.heap_setCell _ ⟨w.heap.size + 1 + 1 + 1, 0, none⟩ (.int .i64 (rPlace ms tick).2.2.1) D (by simp <;> omega)).trans ((Below.heap_setCell _ ⟨w.heap.size + 1 + 1, 0, none⟩ (.int .i64 (rPlace ms tick).2.1) D (by simp <;> omega)).trans ((Below.heap_setCell _ ⟨w.heap.size + 1, 0, none⟩ (.int .i64 (rPlace ms tick).1) D (by simp <;> omega)).trans hK))))
    have e1 : (((((W.setCell ⟨w.heap.size + 1, 0, none⟩ (.int .i64 (rPlace ms tick).1)).setCell ⟨w.heap.size + 1 + 1, 0, none⟩ (.int .i64 (rPlace ms tick).2.1)).setCell ⟨w.heap.size + 1 + 1 + 1, 0, none⟩ (.int .i64 (rPlace ms tick).2.2.1)).setCell ⟨w.heap.size + 1 + 1 + 1 + 1, 0, none⟩ (.int .i64 (rPlace ms tick).2.2.2)).drew.putObj D (.deferred none)).cell? ⟨w.heap.size + 1, 0, none⟩ = some (.int .i64 (rPlace ms tick).1) := (Blk.putObj (W := ((((W.setCell ⟨w.heap.size + 1, 0, none⟩ (.int .i64 (rPlace ms tick).1)).setCell ⟨w.heap.size + 1 + 1, 0, none⟩ (.int .i64 (rPlace ms tick).2.1)).setCell ⟨w.heap.size + 1 + 1 + 1, 0, none⟩ (.int .i64 (rPlace ms tick).2.2.1)).setCell ⟨w.heap.size + 1 + 1 + 1 + 1, 0, none⟩ (.int .i64 (rPlace ms tick).2.2.2)).drew) ((((b1.set0 (.int .i64 (rPlace ms tick).1)).other (p := ⟨w.heap.size + 1 + 1, 0, none⟩) (by simp <;> omega) (.int .i64 (rPlace ms tick).2.1)).other (p := ⟨w.heap.size + 1 + 1 + 1, 0, none⟩) (by simp <;> omega) (.int .i64 (rPlace ms tick).2.2.1)).other (p := ⟨w.heap.size + 1 + 1 + 1 + 1, 0, none⟩) (by simp <;> omega) (.int .i64 (rPlace ms tick).2.2.2)) (by omega) (.deferred none)).cell0
    have e2 : (((((W.setCell ⟨w.heap.size + 1, 0, none⟩ (.int .i64 (rPlace ms tick).1)).setCell ⟨w.heap.size + 1 + 1, 0, none⟩ (.int .i64 (rPlace ms tick).2.1)).setCell ⟨w.heap.size + 1 + 1 + 1, 0, none⟩ (.int .i64 (rPlace ms tick).2.2.1)).setCell ⟨w.heap.size + 1 + 1 + 1 + 1, 0, none⟩ (.int .i64 (rPlace ms tick).2.2.2)).drew.putObj D (.deferred none)).cell? ⟨w.heap.size + 1 + 1, 0, none⟩ = some (.int .i64 (rPlace ms tick).2.1) := (Blk.putObj (W := ((((W.setCell ⟨w.heap.size + 1, 0, none⟩ (.int .i64 (rPlace ms tick).1)).setCell ⟨w.heap.size + 1 + 1, 0, none⟩ (.int .i64 (rPlace ms tick).2.1)).setCell ⟨w.heap.size + 1 + 1 + 1, 0, none⟩ (.int .i64 (rPlace ms tick).2.2.1)).setCell ⟨w.heap.size + 1 + 1 + 1 + 1, 0, none⟩ (.int .i64 (rPlace ms tick).2.2.2)).drew) ((((b2.other (p := ⟨w.heap.size + 1, 0, none⟩) (by simp <;> omega) (.int .i64 (rPlace ms tick).1)).set0 (.int .i64 (rPlace ms tick).2.1)).other (p := ⟨w.heap.size + 1 + 1 + 1, 0, none⟩) (by simp <;> omega) (.int .i64 (rPlace ms tick).2.2.1)).other (p := ⟨w.heap.size + 1 + 1 + 1 + 1, 0, none⟩) (by simp <;> omega) (.int .i64 (rPlace ms tick).2.2.2)) (by omega) (.deferred none)).cell0
    have e3 : (((((W.setCell ⟨w.heap.size + 1, 0, none⟩ (.int .i64 (rPlace ms tick).1)).setCell ⟨w.heap.size + 1 + 1, 0, none⟩ (.int .i64 (rPlace ms tick).2.1)).setCell ⟨w.heap.size + 1 + 1 + 1, 0, none⟩ (.int .i64 (rPlace ms tick).2.2.1)).setCell ⟨w.heap.size + 1 + 1 + 1 + 1, 0, none⟩ (.int .i64 (rPlace ms tick).2.2.2)).drew.putObj D (.deferred none)).cell? ⟨w.heap.size + 1 + 1 + 1, 0, none⟩ = some (.int .i64 (rPlace ms tick).2.2.1) := (Blk.putObj (W := ((((W.setCell ⟨w.heap.size + 1, 0, none⟩ (.int .i64 (rPlace ms tick).1)).setCell ⟨w.heap.size + 1 + 1, 0, none⟩ (.int .i64 (rPlace ms tick).2.1)).setCell ⟨w.heap.size + 1 + 1 + 1, 0, none⟩ (.int .i64 (rPlace ms tick).2.2.1)).setCell ⟨w.heap.size + 1 + 1 + 1 + 1, 0, none⟩ (.int .i64 (rPlace ms tick).2.2.2)).drew) ((((b3.other (p := ⟨w.heap.size + 1, 0, none⟩) (by simp <;> omega) (.int .i64 (rPlace ms tick).1)).other (p := ⟨w.heap.size + 1 + 1, 0, none⟩) (by simp <;> omega) (.int .i64 (rPlace ms tick).2.1)).set0 (.int .i64 (rPlace ms tick).2.2.1)).other (p := ⟨w.heap.size + 1 + 1 + 1 + 1, 0, none⟩) (by simp <;> omega) (.int .i64 (rPlace ms tick).2.2.2)) (by omega) (.deferred none)).cell0
    have e4 : (((((W.setCell ⟨w.heap.size + 1, 0, none⟩ (.int .i64 (rPlace ms tick).1)).setCell ⟨w.heap.size + 1 + 1, 0, none⟩ (.int .i64 (rPlace ms tick).2.1)).setCell ⟨w.heap.size + 1 + 1 + 1, 0, none⟩ (.int .i64 (rPlace ms tick).2.2.1)).setCell ⟨w.heap.size + 1 + 1 + 1 + 1, 0, none⟩ (.int .i64 (rPlace ms tick).2.2.2)).drew.putObj D (.deferred none)).cell? ⟨w.heap.size + 1 + 1 + 1 + 1, 0, none⟩ = some (.int .i64 (rPlace ms tick).2.2.2) := (Blk.putObj (W := ((((W.setCell ⟨w.heap.size + 1, 0, none⟩ (.int .i64 (rPlace ms tick).1)).setCell ⟨w.heap.size + 1 + 1, 0, none⟩ (.int .i64 (rPlace ms tick).2.1)).setCell ⟨w.heap.size + 1 + 1 + 1, 0, none⟩ (.int .i64 (rPlace ms tick).2.2.1)).setCell ⟨w.heap.size + 1 + 1 + 1 + 1, 0, none⟩ (.int .i64 (rPlace ms tick).2.2.2)).drew) ((((b4.other (p := ⟨w.heap.size + 1, 0, none⟩) (by simp <;> omega) (.int .i64 (rPlace ms tick).1)).other (p := ⟨w.heap.size + 1 + 1, 0, none⟩) (by simp <;> omega) (.int .i64 (rPlace ms tick).2.1)).other (p := ⟨w.heap.size + 1 + 1 + 1, 0, none⟩) (by simp <;> omega) (.int .i64 (rPlace ms tick).2.2.1)).set0 (.int .i64 (rPlace ms tick).2.2.2)) (by omega) (.deferred none)).cell0
    refine ⟨by simp, .inl ⟨_, _, rfl, run_takeDeferred hk2, ?_⟩⟩
    refine ⟨quad (rPlace ms tick), ?_, rfl, below_putObj ((((hold.2.setCell (p := ⟨w.heap.size + 1, 0, none⟩) (by simp <;> omega) (.int .i64 (rPlace ms tick).1)).setCell (p := ⟨w.heap.size + 1 + 1, 0, none⟩) (by simp <;> omega) (.int .i64 (rPlace ms tick).2.1)).setCell (p := ⟨w.heap.size + 1 + 1 + 1, 0, none⟩) (by simp <;> omega) (.int .i64 (rPlace ms tick).2.2.1)).setCell (p := ⟨w.heap.size + 1 + 1 + 1 + 1, 0, none⟩) (by simp <;> omega) (.int .i64 (rPlace ms tick).2.2.2)).drew (by omega) _⟩
    simp [results, Try.results15, go_sem, e1, e2, e3, e4, quad]
end Go.Proofs.Ytdphnlcppaaccaa
