/-
  The program's Tick answers what the reference's Tick says. Conditions: valid changes.
-/
import Derived.Test.YtdphnlcppaaccaaSum
import Derived.Test.YtdphnlcppaaccaaRefc
import Derived.Test.YtdphnlcppaaccaaHeld
import Derived.Shelf.Abstract
namespace Go.Proofs.Ytdphnlcppaaccaa
open Go.RowKit
attribute [local go_sem] Oper.semAt_some

theorem pcheck_yes (b o c : Nat) (ms : List Met) (w : World) (hv : Valid ms) (hm : MetAt w b o ms) :
    Calls Try.prog 13 #[.slice (some ⟨b, o, none⟩) ms.length c] w fun e w' => e = .returned (.int .i64 0) ∧ Below w.heap.size w w' :=
  (pcheck_t b o c ms w hv.pos (by have := hv.few; omega) hm).mono fun _ _ ⟨v, he, hc, hb⟩ => by
    rcases hc with ⟨rfl, _⟩ | ⟨_, hn⟩
    · exact ⟨he, hb⟩
    · exact absurd hv hn
theorem pcheck_no (b o c : Nat) (ms : List Met) (w : World) (hv : ¬ Valid ms) (hp : 0 < ms.length) (hn : ms.length ≤ 1000000000) (hm : MetAt w b o ms) :
    Calls Try.prog 13 #[.slice (some ⟨b, o, none⟩) ms.length c] w fun e w' => e = .returned (.int .i64 100) ∧ Below w.heap.size w w' :=
  (pcheck_t b o c ms w hp hn hm).mono fun _ _ ⟨v, he, hc, hb⟩ => by
    rcases hc with ⟨_, h⟩ | ⟨rfl, _⟩
    · exact absurd h hv
    · exact ⟨he, hb⟩

theorem parts_t (b o n c : Nat) (w : World) :
    Calls Try.prog 21 #[.slice (some ⟨b, o, none⟩) n c] w fun e w' => e = .returned (.func (.func 29) #[] #[.pointer (some ⟨w.heap.size, 0, none⟩)]) ∧ w' = w.alloc (.cells #[.slice (some ⟨b, o, none⟩) n c] 22) := by
  have hmf : ∀ (fn : Fn) (first cap : Array Value) (w : World), (Instr.makeFunc fn first cap).run Try.prog w = .ok (.func fn first cap) w := fun _ _ _ _ => rfl
  go_enter Try.func21, Try.ntmps21
  go_wp2
  go_ret
  exact ⟨rfl, rfl⟩

theorem upto_mem (ms : List Met) (k : Nat) (hk : k < ms.length) : (⟨k, hk⟩ : Ix ms) ∈ upto ms := by
  simp [upto, hk]

/-- Between two rounds of Tick's loop: its boxes; the parts that have come do not hold the bar. -/
def TickI (ms : List Met) (bar beat off : Int) (w : World) (cc : Col) (pre : List (Ix ms)) (W : World) : Prop :=
  ((Mine cc (w.heap.size) ∧ Blk W (w.heap.size) 3 #[.int .i64 bar]) ∧ (Mine cc (w.heap.size + 1) ∧ Blk W (w.heap.size + 1) 3 #[.int .i64 beat]) ∧ (Mine cc (w.heap.size + 1 + 1) ∧ Blk W (w.heap.size + 1 + 1) 3 #[.int .i64 off]) ∧ (∃ v, Mine cc (w.heap.size + 1 + 1 + 1) ∧ Blk W (w.heap.size + 1 + 1 + 1) 3 #[v]) ∧ (∃ v, Mine cc (w.heap.size + 1 + 1 + 1 + 1) ∧ Blk W (w.heap.size + 1 + 1 + 1 + 1) 24 #[v])) ∧ Old w.heap.size w cc W ∧ ∀ x ∈ pre, ¬ InPart ms x.1 bar
/-- A round of it has returned: the answer lies in the boxes of the results. -/
def TickX (ms : List Met) (bar beat off : Int) (w : World) (j : Code) (cc : Col) (_pre : List (Ix ms)) (W : World) : Prop :=
  j = .ret ∧ (Mine cc (w.heap.size + 1 + 1 + 1) ∧ Blk W (w.heap.size + 1 + 1 + 1) 3 #[.int .i64 (rTick ms bar beat off).1]) ∧ (Mine cc (w.heap.size + 1 + 1 + 1 + 1) ∧ Blk W (w.heap.size + 1 + 1 + 1 + 1) 24 #[.int .i64 (rTick ms bar beat off).2]) ∧ Old w.heap.size w cc W
theorem TickI.stable (ms : List Met) (bar beat off : Int) (w : World) : Stable (TickI ms bar beat off w) :=
  Stable.and (.and (Stable.blk _ _ _) (.and (Stable.blk _ _ _) (.and (Stable.blk _ _ _) (.and (Stable.ex fun _ => Stable.blk _ _ _) (Stable.ex fun _ => Stable.blk _ _ _))))) (.and (Stable.old (Nat.le_refl _)) (Stable.pure _))
theorem TickX.stable (ms : List Met) (bar beat off : Int) (w : World) (j : Code) : Stable (TickX ms bar beat off w j) :=
  Stable.and (Stable.pure _) (.and (Stable.blk _ _ _) (.and (Stable.blk _ _ _) (Stable.old (Nat.le_refl _))))

set_option maxHeartbeats 1000000 in
theorem ptick_t (b o c : Nat) (ms : List Met) (bar beat off : Int) (w : World) (hv : Valid ms) (hm : MetAt w b o ms) :
    Calls Try.prog 11 #[.slice (some ⟨b, o, none⟩) ms.length c, .int .i64 bar, .int .i64 beat, .int .i64 off] w fun e w' =>
      e = .returned (.tuple #[.int .i64 (rTick ms bar beat off).1, .int .i64 (rTick ms bar beat off).2]) ∧ Below w.heap.size w w' := by
  have hb := hm.lt
  refine (callsIn_wide (n := 5)).1 ?_
  refine callsIn_of_wp_marks Try.func11 rfl trivial ?_ rfl
  simp only [Try.ntmps11, List.size_toArray, List.length_cons, List.length_nil, Nat.reduceAdd, Nat.reduceSub, Array.replicate_succ, Array.replicate_zero, List.push_toArray, List.append_toArray, List.nil_append, List.cons_append]
  have hb0 := ((((((Below.refl w.heap.size w).alloc (Nat.le_refl _) (.cells #[.int .i64 bar] 3)).alloc (by simp) (.cells #[.int .i64 beat] 3)).alloc (by simp; omega) (.cells #[.int .i64 off] 3)).alloc (by simp; omega) (.cells #[.int .i64 0] 3)).alloc (by simp; omega) (.cells #[.int .i64 0] 24))
  gi_wp2_with (first
    | (gi_at_call 13; refine (callsIn_wide.2 (pcheck_yes _ _ _ _ _ hv (hm.below hb0))).mono ?_; rintro e w1 ⟨rfl, hw1⟩; obtain ⟨hc1, hf1⟩ := bcell hw1; have hz1 : w.heap.size + 1 + 1 + 1 + 1 < w1.heap.size := (by have := hw1.size; simp at this; omega))
    | (gi_at_call 21; refine (callsIn_wide.2 (parts_t _ _ _ _ _)).mono ?_; rintro e w2 ⟨rfl, rfl⟩))
  have hsz := hw1.size
  simp only [World.size_alloc] at hsz
  -- the boxes, behind Check and the storing of its answer
  have y0 : Blk w1 w.heap.size 3 #[.int .i64 bar] := (Blk.alloc (Blk.alloc (Blk.alloc (Blk.alloc (Blk.newAt (W := w) rfl 3 _) _) _) _) _).below hw1 (by simp; omega)
  have y1 : Blk w1 (w.heap.size + 1) 3 #[.int .i64 beat] := (Blk.alloc (Blk.alloc (Blk.alloc (Blk.newAt (W := w.alloc _) (by simp) 3 _) _) _) _).below hw1 (by simp)
  have y2 : Blk w1 (w.heap.size + 1 + 1) 3 #[.int .i64 off] := (Blk.alloc (Blk.alloc (Blk.newAt (W := (w.alloc _).alloc _) (by simp) 3 _) _) _).below hw1 (by simp)
  have y3 : Blk w1 (w.heap.size + 1 + 1 + 1) 3 #[.int .i64 0] := (Blk.alloc (Blk.newAt (W := ((w.alloc _).alloc _).alloc _) (by simp) 3 _) _).below hw1 (by simp)
  have y4 : Blk w1 (w.heap.size + 1 + 1 + 1 + 1) 24 #[.int .i64 0] := (Blk.newAt (W := (((w.alloc _).alloc _).alloc _).alloc _) (by simp) 24 _).below hw1 (by simp)
  have hbl : Below w.heap.size w w1 := hb0.trans (hw1.mono (by simp; omega))
  obtain ⟨Wl, hWl⟩ : ∃ Wl, (w1.setCell ⟨w.heap.size + 1 + 1 + 1 + 1, 0, none⟩ (.int .i64 0)).alloc (.cells #[.slice (some ⟨b, o, none⟩) ms.length c] 22) = Wl := ⟨_, rfl⟩
  have hbl : Below w.heap.size w Wl := by rw [← hWl]; exact (hbl.setCell (by simp; omega) _).alloc (by simp [World.setCell]; omega) _
  have hmw : MetAt Wl b o ms := hm.below hbl
  have hsl : Wl.heap.size = w1.heap.size + 1 := by rw [← hWl]; simp [World.setCell]
  have hBn : Wl.cell? ⟨w1.heap.size, 0, none⟩ = some (.slice (some ⟨b, o, none⟩) ms.length c) := by
    rw [← hWl]
    exact (Blk.newAt (B := w1.heap.size) (by simp [World.setCell]) 22 #[.slice (some ⟨b, o, none⟩) ms.length c]).cell0
  have x0 : Blk Wl w.heap.size 3 #[.int .i64 bar] := by rw [← hWl]; exact (y0.other (by simp; omega) _).alloc _
  have x1 : Blk Wl (w.heap.size + 1) 3 #[.int .i64 beat] := by rw [← hWl]; exact (y1.other (by simp) _).alloc _
  have x2 : Blk Wl (w.heap.size + 1 + 1) 3 #[.int .i64 off] := by rw [← hWl]; exact (y2.other (by simp) _).alloc _
  have x3 : Blk Wl (w.heap.size + 1 + 1 + 1) 3 #[.int .i64 0] := by rw [← hWl]; exact (y3.other (by simp) _).alloc _
  have x4 : Blk Wl (w.heap.size + 1 + 1 + 1 + 1) 24 #[.int .i64 0] := by rw [← hWl]; exact (y4.set0 _).alloc _
  rw [hWl]
  clear hWl y0 y1 y2 y3 y4 hc1 hf1
  refine wpIn_range (by omega) rfl (enters_of Try.func29 (by kernel_rfl) rfl) (parts_iter _ w1.heap.size b o c (by omega) ms Wl hv hBn (by omega) hmw) (fun _ => rfl)
    (TickI ms bar beat off w) (TickX ms bar beat off w)
    ?hI ?hIx ⟨fun _ => False, fun r => w.heap.size ≤ r ∧ r < w.heap.size + 5⟩ ?hc1 ?hc2 ?hc3 ?h0
    (fun a x B => (a.put (some 18) (partN ms x.1)).put (some 10) (.pointer (some ⟨B, 0, none⟩)))
    (fun x B W => Blk W B 45 #[.int .i64 (mb ms x.1), .int .i64 (mt ms x.1), .int .i64 (mu ms x.1), .int .i64 (lastN ms x.1), .int .i64 (tickN ms x.1)]) ?hAx ?assign ?body ?done ?stop
  case hI => exact TickI.stable _ _ _ _ _
  case hIx => exact TickX.stable _ _ _ _ _
  case hc1 => exact fun r h => h.elim
  case hc2 =>
    rintro r (h | rfl | rfl) ⟨h1, h2⟩
    · exact h
    · omega
    · omega
  case hc3 =>
    rintro r (h | rfl | rfl)
    · exact h.elim
    · exact hmw.lt
    · omega
  case h0 => exact ⟨⟨⟨⟨⟨by omega, by omega⟩, id⟩, x0⟩, ⟨⟨⟨by omega, by omega⟩, id⟩, x1⟩, ⟨⟨⟨by omega, by omega⟩, id⟩, x2⟩, ⟨_, ⟨⟨by omega, by omega⟩, id⟩, x3⟩, ⟨_, ⟨⟨by omega, by omega⟩, id⟩, x4⟩⟩, ⟨fun _ _ => id, hbl⟩, by simp⟩
  case hAx => exact fun x B W1 W2 h hk => h.keep hk (Nat.lt_irrefl _)
  case assign =>
    intro l x W K hK
    unfold partN
    gi_wp2
    exact hK _ ((Below.refl _ _).alloc (Nat.le_refl _) _) (Blk.new _ _ _)
  case body =>
    clear x0 x1 x2 x3 x4 hBn hmw hbl hw1
    rintro l cc pre x B W ⟨⟨⟨m0, b0⟩, ⟨m1, b1⟩, ⟨m2, b2⟩, ⟨v3, m3, b3⟩, ⟨v4, m4, b4⟩⟩, hold, hpre⟩ hA hBle hcol hlen
    have c0 := b0.cell0
    have c1 := b1.cell0
    have c2 := b2.cell0
    have c3 := b3.cell0
    have f3 := b3.frozen 0
    have c4 := b4.cell0
    have f4 := b4.frozen 0
    have a0 : W.cell? ⟨B, 0, none⟩ = some (.int .i64 (mb ms x.1)) := hA.cell 0
    have a1 : W.cell? ⟨B, 1, none⟩ = some (.int .i64 (mt ms x.1)) := hA.cell 1
    have a2 : W.cell? ⟨B, 2, none⟩ = some (.int .i64 (mu ms x.1)) := hA.cell 2
    have a3 : W.cell? ⟨B, 3, none⟩ = some (.int .i64 (lastN ms x.1)) := hA.cell 3
    have a4 : W.cell? ⟨B, 4, none⟩ = some (.int .i64 (tickN ms x.1)) := hA.cell 4
    obtain ⟨k, hk⟩ := x
    simp only [partN, Act.put, List.setIfInBounds_toArray, List.set_cons_zero, List.set_cons_succ] at *
    have hne := b3.ne hA (by decide)
    have bs3 := b3.lt
    have bs := hA.lt
    have skip : ¬ InPart ms k bar → Keep cc.cl W W ∧ TickI ms bar beat off w (cc.by W.heap.size) (pre ++ [⟨k, hk⟩]) W := fun hn =>
      ⟨Keep.refl _ _, ⟨⟨m0.by _, b0⟩, ⟨m1.by _, b1⟩, ⟨m2.by _, b2⟩, ⟨v3, m3.by _, b3⟩, ⟨v4, m4.by _, b4⟩⟩, hold.by _ (Below.refl _ _), fun y hy => by
        rcases List.mem_append.1 hy with h | h
        · exact hpre y h
        · rw [List.mem_singleton.1 h]; exact hn⟩
    by_cases hin : bar < mb ms k
    · have d1 : decide (bar < mb ms k) = true := decide_eq_true hin
      gi_wp2
      exact skip (fun h => by have := h.1; omega)
    have d1 : decide (bar < mb ms k) = false := decide_eq_false hin
    by_cases hin2 : lastN ms k < bar
    · have d2 : decide (lastN ms k < bar) = true := decide_eq_true hin2
      gi_wp2
      exact skip (fun h => by have := h.2; omega)
    have d2 : decide (lastN ms k < bar) = false := decide_eq_false hin2
    clear skip
    have hip : InPart ms k bar := ⟨by omega, by omega⟩
    have hbd := inPart_bd hv hk hip
    have hof := ofI_of_part hv hk hip ms.length hk (Nat.le_refl _)
    have hbg : bgn ms bar ms.length = _ := bg_part hv hk hip.1 (by omega)
    -- a store of the answer, and the return
    have ret : ∀ (t e : Int) (W' : World), rTick ms bar beat off = (t, e) → Keep cc.cl W W' → Below w.heap.size W W' → (∃ v, Blk W' (w.heap.size + 1 + 1 + 1) 3 #[v]) → (∃ v, Blk W' (w.heap.size + 1 + 1 + 1 + 1) 24 #[v]) → 
        Keep cc.cl W ((W'.setCell ⟨w.heap.size + 1 + 1 + 1, 0, none⟩ (.int .i64 t)).setCell ⟨w.heap.size + 1 + 1 + 1 + 1, 0, none⟩ (.int .i64 e)) ∧ TickX ms bar beat off w .ret (cc.by W.heap.size) (pre ++ [⟨k, hk⟩]) ((W'.setCell ⟨w.heap.size + 1 + 1 + 1, 0, none⟩ (.int .i64 t)).setCell ⟨w.heap.size + 1 + 1 + 1 + 1, 0, none⟩ (.int .i64 e)) := fun t e W' hr hk' hb' ⟨u3, q3⟩ ⟨u4, q4⟩ => by
      unfold TickX
      rw [hr]
      refine ⟨(hk'.setCell (fun _ => m3.1) _).setCell (fun _ => m4.1) _, rfl, ⟨m3.by _, (q3.set0 _).other (by simp) _⟩, ⟨m4.by _, (q4.other (by simp) _).set0 _⟩, hold.by _ ?_⟩
      exact (hb'.setCell (by simp; omega) _).setCell (by simp; omega) _
    by_cases c3' : beat < 0 ∨ mt ms k ≤ beat ∨ off < 0 ∨ mu ms k ≤ off
    · have hr : rTick ms bar beat off = (0, 1) := by unfold rTick; rw [if_neg (by omega), hof, if_pos c3']
      have R := Lib.hid (ret 0 1 W hr (Keep.refl _ _) (Below.refl _ _) ⟨_, b3⟩ ⟨_, b4⟩)
      clear ret hof hbg
      rcases c3' with h | h | h | h
      all_goals gi_wp2
      all_goals exact R.out
    have R := Lib.hid ret
    clear ret
    have hf := hv.fine k hk
    have HF := Lib.hid hf
    obtain ⟨e0, e1, e2, e3, e4, e5⟩ := hf
    have hlg := long_bd HF.out
    have htb := tickN_bd hv k hk
    have hfew := hv.few
    have q1 := mul_bd (a := bar - mb ms k) (A := 1048577) (by omega) (by omega) (by omega : 0 ≤ mt ms k * mu ms k) hlg.2
    have q2 := mul_bd (a := beat) (A := 32) (b := mu ms k) (B := 65536) (by omega) (by omega) (by omega) (by omega)
    have n1 : decide (beat < 0) = false := decide_eq_false (by omega)
    have n2 : decide (mt ms k ≤ beat) = false := decide_eq_false (by omega)
    have n3 : decide (off < 0) = false := decide_eq_false (by omega)
    have n4 : decide (mu ms k ≤ off) = false := decide_eq_false (by omega)
    have i1 : IntKind.i64.wrap (beat * mu ms k) = beat * mu ms k := IntWalk.i64_in _ (by omega)
    have i2 : IntKind.i64.wrap (tickN ms k + (bar - mb ms k) * (mt ms k * mu ms k) + beat * mu ms k) = tickN ms k + (bar - mb ms k) * (mt ms k * mu ms k) + beat * mu ms k := IntWalk.i64_in _ (by omega)
    have i3 : IntKind.i64.wrap (tickN ms k + (bar - mb ms k) * (mt ms k * mu ms k) + beat * mu ms k + off) = tickN ms k + (bar - mb ms k) * (mt ms k * mu ms k) + beat * mu ms k + off := IntWalk.i64_in _ (by omega)
    have HG := Lib.hid hbg
    have HO := Lib.hid hof
    clear hbg hof
    gi_wp2
    refine wpIn_region_heldR (fun W => W.cell? ⟨B, 0, none⟩ = some (.int .i64 (mb ms k)) ∧ W.cell? ⟨B, 1, none⟩ = some (.int .i64 (mt ms k)) ∧ W.cell? ⟨B, 2, none⟩ = some (.int .i64 (mu ms k)) ∧ W.cell? ⟨B, 3, none⟩ = some (.int .i64 (lastN ms k)) ∧ W.cell? ⟨B, 4, none⟩ = some (.int .i64 (tickN ms k)) ∧ W.cell? ⟨w.heap.size, 0, none⟩ = some (.int .i64 bar) ∧ W.cell? ⟨w.heap.size + 1, 0, none⟩ = some (.int .i64 beat) ∧ W.cell? ⟨w.heap.size + 1 + 1, 0, none⟩ = some (.int .i64 off)) (by kernel_rfl) (by kernel_rfl) ?_ ?_ (fun hHeld => ?_)
    · rintro ⟨a, w, h⟩; exact h
    · go_keep
    refine wpAnyH_take (i := 0) (oi := { dst := some 50, op := Op.load 45 (Operand.tmp 10), type := 45, pos := "metre.go:71", after := #[], guard := none }) (v := ?_) rfl (by kernel_rfl) (by kernel_rfl) (by kernel_rfl) (fun _ _ _ h => h) (Or.inl ⟨by rfl, ?_⟩) (by assumption) ?_
    rotate_left
    · intro wS hSw; go_split_ands; go_simp; first | done | with_reducible rfl
    simp only [Act.put, List.setIfInBounds_toArray, List.set_cons_zero, List.set_cons_succ]
    refine wpAnyH_take (i := 1) (oi := { dst := some 51, op := Op.load 3 (Operand.tmp 5), type := 3, pos := "metre.go:71", after := #[], guard := none }) (v := ?_) rfl (by kernel_rfl) (by kernel_rfl) (by kernel_rfl) (fun _ _ _ h => h) (Or.inl ⟨by rfl, ?_⟩) (by assumption) ?_
    rotate_left
    · intro wS hSw; go_split_ands; go_simp; first | done | with_reducible rfl
    simp only [Act.put, List.setIfInBounds_toArray, List.set_cons_zero, List.set_cons_succ]
    refine wpAnyH_take (i := 3) (oi := { dst := some 53, op := Op.load 3 (Operand.tmp 6), type := 3, pos := "metre.go:71", after := #[], guard := none }) (v := ?_) rfl (by kernel_rfl) (by kernel_rfl) (by kernel_rfl) (fun _ _ _ h => h) (Or.inl ⟨by rfl, ?_⟩) (by assumption) ?_
    rotate_left
    · intro wS hSw; go_split_ands; go_simp; first | done | with_reducible rfl
    simp only [Act.put, List.setIfInBounds_toArray, List.set_cons_zero, List.set_cons_succ]
    refine wpAnyH_take (i := 4) (oi := { dst := some 54, op := Op.fieldAddr 45 (Operand.tmp 10) 0, type := 0, pos := "metre.go:71", after := #[], guard := none }) (v := ?_) rfl (by kernel_rfl) (by kernel_rfl) (by kernel_rfl) (fun _ _ _ h => h) (Or.inl ⟨by rfl, ?_⟩) (by assumption) ?_
    rotate_left
    · intro wS hSw; go_split_ands; go_simp; first | done | with_reducible rfl
    simp only [Act.put, List.setIfInBounds_toArray, List.set_cons_zero, List.set_cons_succ]
    refine wpAnyH_take (i := 5) (oi := { dst := some 55, op := Op.fieldAddr 38 (Operand.tmp 54) 2, type := 0, pos := "metre.go:71", after := #[{ on := 4, ground := Ground.data }], guard := none }) (v := ?_) rfl (by kernel_rfl) (by kernel_rfl) (by kernel_rfl) (fun _ _ _ h => h) (Or.inl ⟨by rfl, ?_⟩) (by assumption) ?_
    rotate_left
    · intro wS hSw; go_split_ands; go_simp; first | done | with_reducible rfl
    simp only [Act.put, List.setIfInBounds_toArray, List.set_cons_zero, List.set_cons_succ]
    refine wpAnyH_take (i := 6) (oi := { dst := some 56, op := Op.load 3 (Operand.tmp 55), type := 3, pos := "metre.go:71", after := #[{ on := 5, ground := Ground.data }], guard := none }) (v := ?_) rfl (by kernel_rfl) (by kernel_rfl) (by kernel_rfl) (fun _ _ _ h => h) (Or.inl ⟨by rfl, ?_⟩) (by assumption) ?_
    rotate_left
    · intro wS hSw; go_split_ands; go_simp; first | done | with_reducible rfl
    simp only [Act.put, List.setIfInBounds_toArray, List.set_cons_zero, List.set_cons_succ]
    refine wpAnyH_take (i := 7) (oi := { dst := some 57, op := Op.binOp BinOp.mul 3 (Operand.tmp 53) (Operand.tmp 56) 3, type := 3, pos := "metre.go:71", after := #[{ on := 3, ground := Ground.data }, { on := 6, ground := Ground.data }], guard := none }) (v := ?_) rfl (by kernel_rfl) (by kernel_rfl) (by kernel_rfl) (fun _ _ _ h => h) (Or.inl ⟨by rfl, ?_⟩) (by assumption) ?_
    rotate_left
    · intro wS hSw; go_split_ands; go_simp; first | done | with_reducible rfl
    simp only [Act.put, List.setIfInBounds_toArray, List.set_cons_zero, List.set_cons_succ]
    refine wpAnyH_take (i := 9) (oi := { dst := some 59, op := Op.load 3 (Operand.tmp 7), type := 3, pos := "metre.go:71", after := #[], guard := none }) (v := ?_) rfl (by kernel_rfl) (by kernel_rfl) (by kernel_rfl) (fun _ _ _ h => h) (Or.inl ⟨by rfl, ?_⟩) (by assumption) ?_
    rotate_left
    · intro wS hSw; go_split_ands; go_simp; first | done | with_reducible rfl
    simp only [Act.put, List.setIfInBounds_toArray, List.set_cons_zero, List.set_cons_succ]
    refine wpAnyH_ready (rs := [2]) (by kernel_rfl) (by simp) ?_
    refine AllReadyH.cons (o := { dst := some 52, op := Op.call { callee := Callee.value (Operand.func 22), args := #[Operand.tmp 50, Operand.tmp 51], argTypes := #[45, 3] }, type := 3, pos := "metre.go:71", after := #[{ on := 0, ground := Ground.data }, { on := 1, ground := Ground.data }], guard := none }) rfl (fun K hK => ?_) AllReadyH.nil
    go_simp
    go_at_call 22; refine (pbegin_t _ _ _ _ _ _ _ (by omega) (by omega) (by omega) (by omega) (by omega) (by omega) (by omega) (by omega)).mono ?_; rintro e w2 ⟨rfl, hw2⟩; obtain ⟨hc2, hf2⟩ := bcell hw2; have hz2 := hw2.size; have k3 : w2.cell? ⟨w.heap.size + 1 + 1 + 1, 0, none⟩ = some v3 := (hw2.cell (p := ⟨w.heap.size + 1 + 1 + 1, 0, none⟩) (by simp; omega)).trans c3; have kf3 : w2.frozen? ⟨w.heap.size + 1 + 1 + 1, 0, none⟩ = false := (hw2.frozen (p := ⟨w.heap.size + 1 + 1 + 1, 0, none⟩) (by simp; omega)).trans f3
    refine hK.out _ _ ?_ (fun hHeld => ?_)
    · exact ⟨(hw2.cell (p := ⟨B, 0, none⟩) (by simp; omega)).trans (by go_keep), (hw2.cell (p := ⟨B, 1, none⟩) (by simp; omega)).trans (by go_keep), (hw2.cell (p := ⟨B, 2, none⟩) (by simp; omega)).trans (by go_keep), (hw2.cell (p := ⟨B, 3, none⟩) (by simp; omega)).trans (by go_keep), (hw2.cell (p := ⟨B, 4, none⟩) (by simp; omega)).trans (by go_keep), (hw2.cell (p := ⟨w.heap.size, 0, none⟩) (by simp; omega)).trans (by go_keep), (hw2.cell (p := ⟨w.heap.size + 1, 0, none⟩) (by simp; omega)).trans (by go_keep), (hw2.cell (p := ⟨w.heap.size + 1 + 1, 0, none⟩) (by simp; omega)).trans (by go_keep)⟩
    clear hK K
    try simp only [Act.put, List.setIfInBounds_toArray, List.set_cons_zero, List.set_cons_succ]
    refine wpAnyH_take (i := 8) (oi := { dst := some 58, op := Op.binOp BinOp.add 3 (Operand.tmp 52) (Operand.tmp 57) 3, type := 3, pos := "metre.go:71", after := #[{ on := 2, ground := Ground.data }, { on := 7, ground := Ground.data }], guard := none }) (v := ?_) rfl (by kernel_rfl) (by kernel_rfl) (by kernel_rfl) (fun _ _ _ h => h) (Or.inl ⟨by rfl, ?_⟩) (by assumption) ?_
    rotate_left
    · intro wS hSw; go_split_ands; go_simp; first | done | with_reducible rfl
    simp only [Act.put, List.setIfInBounds_toArray, List.set_cons_zero, List.set_cons_succ]
    refine wpAnyH_take (i := 10) (oi := { dst := some 60, op := Op.binOp BinOp.add 3 (Operand.tmp 58) (Operand.tmp 59) 3, type := 3, pos := "metre.go:71", after := #[{ on := 8, ground := Ground.data }, { on := 9, ground := Ground.data }], guard := none }) (v := ?_) rfl (by kernel_rfl) (by kernel_rfl) (by kernel_rfl) (fun _ _ _ h => h) (Or.inl ⟨by rfl, ?_⟩) (by assumption) ?_
    rotate_left
    · intro wS hSw; go_split_ands; go_simp; first | done | with_reducible rfl
    simp only [Act.put, List.setIfInBounds_toArray, List.set_cons_zero, List.set_cons_succ]
    refine wpAnyH_ready (rs := [11]) (by kernel_rfl) (by simp) ?_
    refine AllReadyH.cons (o := { dst := none, op := Op.store 3 (Operand.tmp 8) (Operand.tmp 60), type := 0, pos := "metre.go:71", after := #[{ on := 10, ground := Ground.data }, { on := 2, ground := Ground.chain }, { on := 0, ground := Ground.phase }, { on := 1, ground := Ground.phase }, { on := 2, ground := Ground.phase }, { on := 3, ground := Ground.phase }, { on := 4, ground := Ground.phase }, { on := 5, ground := Ground.phase }, { on := 6, ground := Ground.phase }, { on := 7, ground := Ground.phase }, { on := 8, ground := Ground.phase }, { on := 9, ground := Ground.phase }, { on := 10, ground := Ground.phase }], guard := none }) rfl (fun K hK => ?_) AllReadyH.nil
    go_simp
    refine hK.out _ _ ?_ (fun hHeld => ?_)
    · ((try dsimp only at hHeld); go_split_ands; have hne' := hne.symm; go_simp)
    clear hK K
    try simp only [Act.put, List.setIfInBounds_toArray, List.set_cons_zero, List.set_cons_succ]
    refine wpAnyH_done (by kernel_rfl) ?_ _

    have z3 : Blk w2 (w.heap.size + 1 + 1 + 1) 3 #[v3] := Blk.below (W := W.drew) b3 hw2 bs3
    have z4 : Blk w2 (w.heap.size + 1 + 1 + 1 + 1) 24 #[v4] := Blk.below (W := W.drew) b4 hw2 b4.lt
    obtain ⟨hc5, hf5⟩ := bcell hw2
    have zf4 := z4.frozen 0
    have zc4 := z4.cell0
    have hk2 : Keep cc.cl W (w2.setCell ⟨w.heap.size + 1 + 1 + 1, 0, none⟩ (.int .i64 (tickN ms k + (bar - mb ms k) * (mt ms k * mu ms k) + beat * mu ms k + off))) := (Keep.of_same (Below.trans (Below.refl _ W).drew hw2) _).setCell (fun _ => m3.1) _
    have hb2 : Below w.heap.size W (w2.setCell ⟨w.heap.size + 1 + 1 + 1, 0, none⟩ (.int .i64 (tickN ms k + (bar - mb ms k) * (mt ms k * mu ms k) + beat * mu ms k + off))) := ((Below.trans (Below.refl _ W).drew hw2).mono (show w.heap.size ≤ W.heap.size by omega)).setCell (by simp; omega) _
    by_cases c5 : 16777216 < tickN ms k + (bar - mb ms k) * (mt ms k * mu ms k) + beat * mu ms k + off
    · have hr : rTick ms bar beat off = (0, 70) := by unfold rTick; rw [if_neg (by omega), HO.out, if_neg c3', HG.out, if_pos c5]
      have RR := Lib.hid (R.out 0 70 _ hr hk2 hb2 ⟨_, z3.set0 _⟩ ⟨_, z4.other (by simp) _⟩)
      clear hr
      gi_wp2
      exact RR.out
    · have hr : rTick ms bar beat off = (tickN ms k + (bar - mb ms k) * (mt ms k * mu ms k) + beat * mu ms k + off, 0) := by unfold rTick; rw [if_neg (by omega), HO.out, if_neg c3', HG.out, if_neg c5]
      have RR := Lib.hid (R.out _ 0 _ hr hk2 hb2 ⟨_, z3.set0 _⟩ ⟨_, z4.other (by simp) _⟩)
      clear hr
      gi_wp2
      exact RR.out
  case done =>
    clear x0 x1 x2 x3 x4 hBn hmw hbl hw1
    rintro D cc xs W hD rfl ⟨⟨_, _, _, ⟨v3, m3, b3⟩, ⟨v4, m4, b4⟩⟩, hold, hpre⟩ hK
    have hr : rTick ms bar beat off = (0, 1) := by
      by_cases h : bar < 0 ∨ 1048576 < bar
      · unfold rTick; rw [if_pos h]
      · obtain ⟨k, hk, hp⟩ := part_of_bar hv (bar := bar) (by omega) (by omega)
        exact absurd hp (hpre ⟨k, hk⟩ (upto_mem ms k hk))
    have c3 := b3.cell0
    have f3 := b3.frozen 0
    have c4 := b4.cell0
    have f4 := b4.frozen 0
    have hk2 : ((W.setCell ⟨w.heap.size + 1 + 1 + 1, 0, none⟩ (.int .i64 0)).setCell ⟨w.heap.size + 1 + 1 + 1 + 1, 0, none⟩ (.int .i64 1)).heap[D]? = some (.deferred (some [])) :=
      (Below.heap_setCell _ _ _ _ (by simp; omega)).trans ((Below.heap_setCell _ _ _ _ (by simp; omega)).trans hK)
    have z3 := (b3.set0 (.int .i64 0)).other (p := ⟨w.heap.size + 1 + 1 + 1 + 1, 0, none⟩) (by simp) (.int .i64 1)
    have z4 := (b4.other (p := ⟨w.heap.size + 1 + 1 + 1, 0, none⟩) (by simp) (.int .i64 0)).set0 (.int .i64 1)
    have HR := Lib.hid hr
    clear hr
    gi_wp2
    refine ⟨by simp, .inl ⟨_, _, rfl, run_takeDeferred hk2, ?_⟩⟩
    have e3 := (z3.putObj (D := D) (by omega) (.deferred none)).cell0
    have e4 := (z4.putObj (D := D) (by omega) (.deferred none)).cell0
    refine ⟨.tuple #[.int .i64 0, .int .i64 1], ?_, by rw [HR.out], below_putObj ((hold.2.setCell (by simp; omega) _).setCell (by simp; omega) _) (by omega) _⟩
    simp [results, Try.results11, go_sem, e3, e4]
  case stop =>
    clear x0 x1 x2 x3 x4 hBn hmw hbl hw1
    rintro D j cc pre W hD _ ⟨rfl, ⟨m3, b3⟩, ⟨m4, b4⟩, hold⟩ hK
    gi_wp2
    refine ⟨by simp, .inl ⟨_, _, rfl, run_takeDeferred hK, ?_⟩⟩
    have e3 := (b3.putObj (D := D) (by omega) (.deferred none)).cell0
    have e4 := (b4.putObj (D := D) (by omega) (.deferred none)).cell0
    refine ⟨.tuple #[.int .i64 (rTick ms bar beat off).1, .int .i64 (rTick ms bar beat off).2], ?_, rfl, below_putObj hold.2 (by omega) _⟩
    simp [results, Try.results11, go_sem, e3, e4]
end Go.Proofs.Ytdphnlcppaaccaa
