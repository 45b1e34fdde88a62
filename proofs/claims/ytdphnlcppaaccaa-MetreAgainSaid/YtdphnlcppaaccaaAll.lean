/-
  The contracts of Check, Tick, Place and Bars, and of the reference's, for all slices of changes: valid, not valid, empty.
-/
import Derived.Test.YtdphnlcppaaccaaBars
import Derived.Test.YtdphnlcppaaccaaRefe
import Derived.Test.YtdphnlcppaaccaaRefb
import Derived.Test.YtdphnlcppaaccaaRefd
namespace Go.Proofs.Ytdphnlcppaaccaa
open Go.RowKit
attribute [local go_sem] Oper.semAt_some

/-- The changes that a slice holds. -/
def SlAt (w : World) (A : Option Addr) (ms : List Met) : Prop := 0 < ms.length → ∃ b o, A = some ⟨b, o, none⟩ ∧ MetAt w b o ms
theorem SlAt.below {w w' : World} {A : Option Addr} {ms : List Met} (h : SlAt w A ms) (hb : Below w.heap.size w w') : SlAt w' A ms := fun hp => by
  obtain ⟨b, o, e, hm⟩ := h hp
  exact ⟨b, o, e, hm.below hb⟩
theorem SlAt.of {w : World} {b o : Nat} {ms : List Met} (h : MetAt w b o ms) : SlAt w (some ⟨b, o, none⟩) ms := fun _ => ⟨b, o, rfl, h⟩
theorem SlAt.from {n₀ : Nat} {w w' : World} {A : Option Addr} {ms : List Met} (h : SlAt w A ms) (hb : Below n₀ w w') (hn : w.heap.size ≤ n₀) : SlAt w' A ms := h.below (hb.mono hn)

open Classical in
noncomputable def gCheck (ms : List Met) : Int := if Valid ms then 0 else 100
open Classical in
noncomputable def gTick (ms : List Met) (bar beat off : Int) : Int × Int := if Valid ms then rTick ms bar beat off else (0, 100)
open Classical in
noncomputable def gPlace (ms : List Met) (tick : Int) : Int × Int × Int × Int := if Valid ms then rPlace ms tick else (0, 0, 0, 100)
open Classical in
noncomputable def gBars (ms : List Met) (lo hi : Int) : List Int × Int := if Valid ms then rBars ms lo hi else ([], 100)

theorem pcheck_bad (A : Option Addr) (c : Nat) (ms : List Met) (w : World) (hv : ¬ Valid ms) (hn : ms.length ≤ 1000000000) (h : SlAt w A ms) :
    Calls Try.prog 13 #[.slice A ms.length c] w fun e w' => e = .returned (.int .i64 100) ∧ Below w.heap.size w w' := by
  rcases Nat.eq_zero_or_pos ms.length with h0 | h0
  · rw [h0]; exact pcheck_nil A c w
  · obtain ⟨b, o, rfl, hm⟩ := h h0
    exact pcheck_no b o c ms w hv h0 hn hm
theorem rcheck_bad (A : Option Addr) (c : Nat) (ms : List Met) (w : World) (hv : ¬ Valid ms) (hn : ms.length ≤ 1000000000) (h : SlAt w A ms) :
    Calls Try.prog 14 #[.slice A ms.length c] w fun e w' => e = .returned (.int .i64 100) ∧ Below w.heap.size w w' := by
  rcases Nat.eq_zero_or_pos ms.length with h0 | h0
  · rw [h0]; exact rcheck_nil A c w
  · obtain ⟨b, o, rfl, hm⟩ := h h0
    exact rcheck_no b o c ms w hv h0 hm hn
theorem pcheck_a (A : Option Addr) (c : Nat) (ms : List Met) (w : World) (hn : ms.length ≤ 1000000000) (h : SlAt w A ms) :
    Calls Try.prog 13 #[.slice A ms.length c] w fun e w' => e = .returned (.int .i64 (gCheck ms)) ∧ Below w.heap.size w w' := by
  unfold gCheck
  split
  · rename_i hv
    obtain ⟨b, o, rfl, hm⟩ := h hv.pos
    exact pcheck_yes b o c ms w hv hm
  · rename_i hv
    exact pcheck_bad A c ms w hv hn h
theorem rcheck_a (A : Option Addr) (c : Nat) (ms : List Met) (w : World) (hn : ms.length ≤ 1000000000) (h : SlAt w A ms) :
    Calls Try.prog 14 #[.slice A ms.length c] w fun e w' => e = .returned (.int .i64 (gCheck ms)) ∧ Below w.heap.size w w' := by
  unfold gCheck
  split
  · rename_i hv
    obtain ⟨b, o, rfl, hm⟩ := h hv.pos
    exact rcheck_yes b o c ms w hv hm
  · rename_i hv
    exact rcheck_bad A c ms w hv hn h

/-- The reference's bar of a tick does not begin behind it. -/
theorem at_back {ms : List Met} (hv : Valid ms) {tick : Int} (h0 : 0 ≤ tick) (h1 : atB ms tick ms.length ≤ 1048576) : bgn ms (atB ms tick ms.length) ms.length ≤ tick := by
  obtain ⟨k, hk, hk1, hk2⟩ := last_part hv h0
  have e := atB_part hv hk hk1 hk2 ms.length hk (Nat.le_refl _)
  have hl : 1 ≤ lg ms k := (long_bd (hv.fine k hk)).1
  have q0 : 0 ≤ (tick - tickN ms k) / lg ms k := Int.ediv_nonneg (by omega) (by omega)
  have hle : mb ms k + (tick - tickN ms k) / lg ms k ≤ lastN ms k := by
    by_cases hs : k + 1 < ms.length
    · exact (bar_in hv hk hk1 (by have := hk2 hs; have := endN_next hs; omega)).2
    · unfold lastN
      rw [if_neg hs]
      omega
  have hb := bg_part hv hk (bar := mb ms k + (tick - tickN ms k) / lg ms k) (by omega) (by omega)
  rw [e]
  unfold bg at hb
  rw [hb]
  have := Int.ediv_mul_le (tick - tickN ms k) (b := lg ms k) (by omega)
  have e2 : mb ms k + (tick - tickN ms k) / lg ms k - mb ms k = (tick - tickN ms k) / lg ms k := by omega
  rw [e2]
  unfold lg at this ⊢
  omega

set_option maxHeartbeats 1000000 in
theorem ptick_bad (A : Option Addr) (n c : Nat) (bar beat off : Int) (w : World) (H : ∀ w', Below w.heap.size w w' → Calls Try.prog 13 #[.slice A n c] w' fun e w'' => e = .returned (.int .i64 100) ∧ Below w'.heap.size w' w'') :
    Calls Try.prog 11 #[.slice A n c, .int .i64 bar, .int .i64 beat, .int .i64 off] w fun e w' => e = .returned (.tuple #[.int .i64 0, .int .i64 100]) ∧ Below w.heap.size w w' := by
  have hb0 := (((((Below.refl w.heap.size w).alloc (Nat.le_refl _) (.cells #[.int .i64 bar] 3)).alloc (by simp <;> omega) (.cells #[.int .i64 beat] 3)).alloc (by simp <;> omega) (.cells #[.int .i64 off] 3)).alloc (by simp <;> omega) (.cells #[.int .i64 0] 3)).alloc (by simp <;> omega) (.cells #[.int .i64 0] 24)
  refine (callsIn_wide (n := 5)).1 ?_
  refine callsIn_of_wp_marks Try.func11 rfl trivial (wpIn_wide.2 ?_) rfl
  simp only [Try.ntmps11, List.size_toArray, List.length_cons, List.length_nil, Nat.reduceAdd, Nat.reduceSub, Array.replicate_succ, Array.replicate_zero, List.push_toArray, List.append_toArray, List.nil_append, List.cons_append]
  go_wp2_with (go_at_call 13; refine (H _ hb0).mono ?_; rintro e w1 ⟨rfl, hw1⟩; obtain ⟨hc1, hf1⟩ := bcell hw1; have hz1 : w.heap.size + 1 + 1 + 1 + 1 < w1.heap.size := (by have := hw1.size; simp at this; omega))
  have y0 : Blk w1 (w.heap.size) 3 #[.int .i64 bar] := (Blk.alloc (Blk.alloc (Blk.alloc (Blk.alloc (Blk.newAt (W := w) rfl 3 _) _) _) _) _).below hw1 (by simp <;> omega)
  have y1 : Blk w1 (w.heap.size + 1) 3 #[.int .i64 beat] := (Blk.alloc (Blk.alloc (Blk.alloc (Blk.newAt (W := (w.alloc _)) (by simp) 3 _) _) _) _).below hw1 (by simp <;> omega)
  have y2 : Blk w1 (w.heap.size + 1 + 1) 3 #[.int .i64 off] := (Blk.alloc (Blk.alloc (Blk.newAt (W := ((w.alloc _).alloc _)) (by simp) 3 _) _) _).below hw1 (by simp <;> omega)
  have y3 : Blk w1 (w.heap.size + 1 + 1 + 1) 3 #[.int .i64 0] := (Blk.alloc (Blk.newAt (W := (((w.alloc _).alloc _).alloc _)) (by simp) 3 _) _).below hw1 (by simp <;> omega)
  have y4 : Blk w1 (w.heap.size + 1 + 1 + 1 + 1) 24 #[.int .i64 0] := (Blk.newAt (W := ((((w.alloc _).alloc _).alloc _).alloc _)) (by simp) 24 _).below hw1 (by simp <;> omega)
  have hbl : Below w.heap.size w w1 := hb0.trans (hw1.mono (by simp <;> omega))
  obtain ⟨W, hW⟩ : ∃ W, w1.setCell ⟨w.heap.size + 1 + 1 + 1 + 1, 0, none⟩ (.int .i64 100) = W := ⟨_, rfl⟩
  have b0 : Blk W (w.heap.size + 1 + 1 + 1) 3 #[.int .i64 0] := hW ▸ y3.other (by simp <;> omega) _
  have b1 : Blk W (w.heap.size + 1 + 1 + 1 + 1) 24 #[.int .i64 100] := hW ▸ y4.set0 _
  have hbW : Below w.heap.size w W := hW ▸ hbl.setCell (by simp <;> omega) _
  have hzW : w.heap.size + 1 + 1 + 1 + 1 < W.heap.size := by rw [← hW]; simpa [World.setCell] using hz1
  rw [hW]
  clear hW hc1 hf1 hz1 hw1 hb0 H y0 y1 y2 y3 y4
  have c0 := b0.cell0
  have f0 := b0.frozen 0
  have c1 := b1.cell0
  have f1 := b1.frozen 0
  have k10 : (W.setCell ⟨w.heap.size + 1 + 1 + 1, 0, none⟩ (.int .i64 0)).drew.cell? ⟨w.heap.size + 1 + 1 + 1, 0, none⟩ = some (.int .i64 0) := (b0.set0 (.int .i64 0)).cell0
  have k11 : (W.setCell ⟨w.heap.size + 1 + 1 + 1, 0, none⟩ (.int .i64 0)).drew.cell? ⟨w.heap.size + 1 + 1 + 1 + 1, 0, none⟩ = some (.int .i64 100) := (b1.other (p := ⟨w.heap.size + 1 + 1 + 1, 0, none⟩) (by simp <;> omega) (.int .i64 0)).cell0
  have k20 : ((W.setCell ⟨w.heap.size + 1 + 1 + 1, 0, none⟩ (.int .i64 0)).setCell ⟨w.heap.size + 1 + 1 + 1 + 1, 0, none⟩ (.int .i64 100)).drew.cell? ⟨w.heap.size + 1 + 1 + 1, 0, none⟩ = some (.int .i64 0) := ((b0.set0 (.int .i64 0)).other (p := ⟨w.heap.size + 1 + 1 + 1 + 1, 0, none⟩) (by simp <;> omega) (.int .i64 100)).cell0
  have k21 : ((W.setCell ⟨w.heap.size + 1 + 1 + 1, 0, none⟩ (.int .i64 0)).setCell ⟨w.heap.size + 1 + 1 + 1 + 1, 0, none⟩ (.int .i64 100)).drew.cell? ⟨w.heap.size + 1 + 1 + 1 + 1, 0, none⟩ = some (.int .i64 100) := ((b1.other (p := ⟨w.heap.size + 1 + 1 + 1, 0, none⟩) (by simp <;> omega) (.int .i64 0)).set0 (.int .i64 100)).cell0
  go_region_held3 (fun W' => W'.cell? ⟨w.heap.size + 1 + 1 + 1, 0, none⟩ = some (.int .i64 0) ∧ W'.cell? ⟨w.heap.size + 1 + 1 + 1 + 1, 0, none⟩ = some (.int .i64 100)) (first | go_keep | (go_split_ands; exact ⟨by assumption, by assumption⟩)) (fail)
  clear k10 k11 k20 k21 c0 f0 c1 f1
  go_wp2
  try rw [Exit.noGoto_ret]
  have e0 := ((b0.set0 (.int .i64 0)).other (p := ⟨w.heap.size + 1 + 1 + 1 + 1, 0, none⟩) (by simp <;> omega) (.int .i64 100)).cell0
  have e1 := ((b1.other (p := ⟨w.heap.size + 1 + 1 + 1, 0, none⟩) (by simp <;> omega) (.int .i64 0)).set0 (.int .i64 100)).cell0
  refine ⟨.tuple #[.int .i64 0, .int .i64 100], ?_, rfl, ((hbW.setCell (p := ⟨w.heap.size + 1 + 1 + 1, 0, none⟩) (by simp <;> omega) (.int .i64 0)).setCell (p := ⟨w.heap.size + 1 + 1 + 1 + 1, 0, none⟩) (by simp <;> omega) (.int .i64 100)).drew⟩
  simp [results, Try.results11, go_sem, e0, e1]

set_option maxHeartbeats 1000000 in
theorem pplace_bad (A : Option Addr) (n c : Nat) (tick : Int) (w : World) (H : ∀ w', Below w.heap.size w w' → Calls Try.prog 13 #[.slice A n c] w' fun e w'' => e = .returned (.int .i64 100) ∧ Below w'.heap.size w' w'') :
    Calls Try.prog 15 #[.slice A n c, .int .i64 tick] w fun e w' => e = .returned (quad (0, 0, 0, 100)) ∧ Below w.heap.size w w' := by
  have hb0 := (((((Below.refl w.heap.size w).alloc (Nat.le_refl _) (.cells #[.int .i64 tick] 3)).alloc (by simp <;> omega) (.cells #[.int .i64 0] 3)).alloc (by simp <;> omega) (.cells #[.int .i64 0] 3)).alloc (by simp <;> omega) (.cells #[.int .i64 0] 3)).alloc (by simp <;> omega) (.cells #[.int .i64 0] 24)
  refine (callsIn_wide (n := 5)).1 ?_
  refine callsIn_of_wp_marks Try.func15 rfl trivial (wpIn_wide.2 ?_) rfl
  simp only [Try.ntmps15, List.size_toArray, List.length_cons, List.length_nil, Nat.reduceAdd, Nat.reduceSub, Array.replicate_succ, Array.replicate_zero, List.push_toArray, List.append_toArray, List.nil_append, List.cons_append]
  go_wp2_with fail
  go_step3
  go_wp2_with (go_at_call 13; refine (H _ hb0).mono ?_; rintro e w1 ⟨rfl, hw1⟩; obtain ⟨hc1, hf1⟩ := bcell hw1; have hz1 : w.heap.size + 1 + 1 + 1 + 1 < w1.heap.size := (by have := hw1.size; simp at this; omega))
  have y0 : Blk w1 (w.heap.size) 3 #[.int .i64 tick] := (Blk.alloc (Blk.alloc (Blk.alloc (Blk.alloc (Blk.newAt (W := w) rfl 3 _) _) _) _) _).below hw1 (by simp <;> omega)
  have y1 : Blk w1 (w.heap.size + 1) 3 #[.int .i64 0] := (Blk.alloc (Blk.alloc (Blk.alloc (Blk.newAt (W := (w.alloc _)) (by simp) 3 _) _) _) _).below hw1 (by simp <;> omega)
  have y2 : Blk w1 (w.heap.size + 1 + 1) 3 #[.int .i64 0] := (Blk.alloc (Blk.alloc (Blk.newAt (W := ((w.alloc _).alloc _)) (by simp) 3 _) _) _).below hw1 (by simp <;> omega)
  have y3 : Blk w1 (w.heap.size + 1 + 1 + 1) 3 #[.int .i64 0] := (Blk.alloc (Blk.newAt (W := (((w.alloc _).alloc _).alloc _)) (by simp) 3 _) _).below hw1 (by simp <;> omega)
  have y4 : Blk w1 (w.heap.size + 1 + 1 + 1 + 1) 24 #[.int .i64 0] := (Blk.newAt (W := ((((w.alloc _).alloc _).alloc _).alloc _)) (by simp) 24 _).below hw1 (by simp <;> omega)
  have hbl : Below w.heap.size w w1 := hb0.trans (hw1.mono (by simp <;> omega))
  obtain ⟨W, hW⟩ : ∃ W, w1.setCell ⟨w.heap.size + 1 + 1 + 1 + 1, 0, none⟩ (.int .i64 100) = W := ⟨_, rfl⟩
  have b0 : Blk W (w.heap.size + 1) 3 #[.int .i64 0] := hW ▸ y1.other (by simp <;> omega) _
  have b1 : Blk W (w.heap.size + 1 + 1) 3 #[.int .i64 0] := hW ▸ y2.other (by simp <;> omega) _
  have b2 : Blk W (w.heap.size + 1 + 1 + 1) 3 #[.int .i64 0] := hW ▸ y3.other (by simp <;> omega) _
  have b3 : Blk W (w.heap.size + 1 + 1 + 1 + 1) 24 #[.int .i64 100] := hW ▸ y4.set0 _
  have hbW : Below w.heap.size w W := hW ▸ hbl.setCell (by simp <;> omega) _
  have hzW : w.heap.size + 1 + 1 + 1 + 1 < W.heap.size := by rw [← hW]; simpa [World.setCell] using hz1
  rw [hW]
  clear hW hc1 hf1 hz1 hw1 hb0 H y0 y1 y2 y3 y4
  have c0 := b0.cell0
  have f0 := b0.frozen 0
  have c1 := b1.cell0
  have f1 := b1.frozen 0
  have c2 := b2.cell0
  have f2 := b2.frozen 0
  have c3 := b3.cell0
  have f3 := b3.frozen 0
  have k10 : (W.setCell ⟨w.heap.size + 1, 0, none⟩ (.int .i64 0)).drew.cell? ⟨w.heap.size + 1, 0, none⟩ = some (.int .i64 0) := (b0.set0 (.int .i64 0)).cell0
  have k11 : (W.setCell ⟨w.heap.size + 1, 0, none⟩ (.int .i64 0)).drew.cell? ⟨w.heap.size + 1 + 1, 0, none⟩ = some (.int .i64 0) := (b1.other (p := ⟨w.heap.size + 1, 0, none⟩) (by simp <;> omega) (.int .i64 0)).cell0
  have k12 : (W.setCell ⟨w.heap.size + 1, 0, none⟩ (.int .i64 0)).drew.cell? ⟨w.heap.size + 1 + 1 + 1, 0, none⟩ = some (.int .i64 0) := (b2.other (p := ⟨w.heap.size + 1, 0, none⟩) (by simp <;> omega) (.int .i64 0)).cell0
  have k13 : (W.setCell ⟨w.heap.size + 1, 0, none⟩ (.int .i64 0)).drew.cell? ⟨w.heap.size + 1 + 1 + 1 + 1, 0, none⟩ = some (.int .i64 100) := (b3.other (p := ⟨w.heap.size + 1, 0, none⟩) (by simp <;> omega) (.int .i64 0)).cell0
  have k20 : ((W.setCell ⟨w.heap.size + 1, 0, none⟩ (.int .i64 0)).setCell ⟨w.heap.size + 1 + 1, 0, none⟩ (.int .i64 0)).drew.cell? ⟨w.heap.size + 1, 0, none⟩ = some (.int .i64 0) := ((b0.set0 (.int .i64 0)).other (p := ⟨w.heap.size + 1 + 1, 0, none⟩) (by simp <;> omega) (.int .i64 0)).cell0
  have k21 : ((W.setCell ⟨w.heap.size + 1, 0, none⟩ (.int .i64 0)).setCell ⟨w.heap.size + 1 + 1, 0, none⟩ (.int .i64 0)).drew.cell? ⟨w.heap.size + 1 + 1, 0, none⟩ = some (.int .i64 0) := ((b1.other (p := ⟨w.heap.size + 1, 0, none⟩) (by simp <;> omega) (.int .i64 0)).set0 (.int .i64 0)).cell0
  have k22 : ((W.setCell ⟨w.heap.size + 1, 0, none⟩ (.int .i64 0)).setCell ⟨w.heap.size + 1 + 1, 0, none⟩ (.int .i64 0)).drew.cell? ⟨w.heap.size + 1 + 1 + 1, 0, none⟩ = some (.int .i64 0) := ((b2.other (p := ⟨w.heap.size + 1, 0, none⟩) (by simp <;> omega) (.int .i64 0)).other (p := ⟨w.heap.size + 1 + 1, 0, none⟩) (by simp <;> omega) (.int .i64 0)).cell0
  have k23 : ((W.setCell ⟨w.heap.size + 1, 0, none⟩ (.int .i64 0)).setCell ⟨w.heap.size + 1 + 1, 0, none⟩ (.int .i64 0)).drew.cell? ⟨w.heap.size + 1 + 1 + 1 + 1, 0, none⟩ = some (.int .i64 100) := ((b3.other (p := ⟨w.heap.size + 1, 0, none⟩) (by simp <;> omega) (.int .i64 0)).other (p := ⟨w.heap.size + 1 + 1, 0, none⟩) (by simp <;> omega) (.int .i64 0)).cell0
  have k30 : (((W.setCell ⟨w.heap.size + 1, 0, none⟩ (.int .i64 0)).setCell ⟨w.heap.size + 1 + 1, 0, none⟩ (.int .i64 0)).setCell ⟨w.heap.size + 1 + 1 + 1, 0, none⟩ (.int .i64 0)).drew.cell? ⟨w.heap.size + 1, 0, none⟩ = some (.int .i64 0) := (((b0.set0 (.int .i64 0)).other (p := ⟨w.heap.size + 1 + 1, 0, none⟩) (by simp <;> omega) (.int .i64 0)).other (p := ⟨w.heap.size + 1 + 1 + 1, 0, none⟩) (by simp <;> omega) (.int .i64 0)).cell0
  have k31 : (((W.setCell ⟨w.heap.size + 1, 0, none⟩ (.int .i64 0)).setCell ⟨w.heap.size + 1 + 1, 0, none⟩ (.int .i64 0)).setCell ⟨w.heap.size + 1 + 1 + 1, 0, none⟩ (.int .i64 0)).drew.cell? ⟨w.heap.size + 1 + 1, 0, none⟩ = some (.int .i64 0) := (((b1.other (p := ⟨w.heap.size + 1, 0, none⟩) (by simp <;> omega) (.int .i64 0)).set0 (.int .i64 0)).other (p := ⟨w.heap.size + 1 + 1 + 1, 0, none⟩) (by simp <;> omega) (.int .i64 0)).cell0
  have k32 : (((W.setCell ⟨w.heap.size + 1, 0, none⟩ (.int .i64 0)).setCell ⟨w.heap.size + 1 + 1, 0, none⟩ (.int .i64 0)).setCell ⟨w.heap.size + 1 + 1 + 1, 0, none⟩ (.int .i64 0)).drew.cell? ⟨w.heap.size + 1 + 1 + 1, 0, none⟩ = some (.int .i64 0) := (((b2.other (p := ⟨w.heap.size + 1, 0, none⟩) (by simp <;> omega) (.int .i64 0)).other (p := ⟨w.heap.size + 1 + 1, 0, none⟩) (by simp <;> omega) (.int .i64 0)).set0 (.int .i64 0)).cell0
  have k33 : (((W.setCell ⟨w.heap.size + 1, 0, none⟩ (.int .i64 0)).setCell ⟨w.heap.size + 1 + 1, 0, none⟩ (.int .i64 0)).setCell ⟨w.heap.size + 1 + 1 + 1, 0, none⟩ (.int .i64 0)).drew.cell? ⟨w.heap.size + 1 + 1 + 1 + 1, 0, none⟩ = some (.int .i64 100) := (((b3.other (p := ⟨w.heap.size + 1, 0, none⟩) (by simp <;> omega) (.int .i64 0)).other (p := ⟨w.heap.size + 1 + 1, 0, none⟩) (by simp <;> omega) (.int .i64 0)).other (p := ⟨w.heap.size + 1 + 1 + 1, 0, none⟩) (by simp <;> omega) (.int .i64 0)).cell0
  have k40 : ((((W.setCell ⟨w.heap.size + 1, 0, none⟩ (.int .i64 0)).setCell ⟨w.heap.size + 1 + 1, 0, none⟩ (.int .i64 0)).setCell ⟨w.heap.size + 1 + 1 + 1, 0, none⟩ (.int .i64 0)).setCell ⟨w.heap.size + 1 + 1 + 1 + 1, 0, none⟩ (.int .i64 100)).drew.cell? ⟨w.heap.size + 1, 0, none⟩ = some (.int .i64 0) := ((((b0.set0 (.int .i64 0)).other (p := ⟨w.heap.size + 1 + 1, 0, none⟩) (by simp <;> omega) (.int .i64 0)).other (p := ⟨w.heap.size + 1 + 1 + 1, 0, none⟩) (by simp <;> omega) (.int .i64 0)).other (p := ⟨w.heap.size + 1 + 1 + 1 + 1, 0, none⟩) (by simp <;> omega) (.int .i64 100)).cell0
  have k41 : ((((W.setCell ⟨w.heap.size + 1, 0, none⟩ (.int .i64 0)).setCell ⟨w.heap.size + 1 + 1, 0, none⟩ (.int .i64 0)).setCell ⟨w.heap.size + 1 + 1 + 1, 0, none⟩ (.int .i64 0)).setCell ⟨w.heap.size + 1 + 1 + 1 + 1, 0, none⟩ (.int .i64 100)).drew.cell? ⟨w.heap.size + 1 + 1, 0, none⟩ = some (.int .i64 0) := ((((b1.other (p := ⟨w.heap.size + 1, 0, none⟩) (by simp <;> omega) (.int .i64 0)).set0 (.int .i64 0)).other (p := ⟨w.heap.size + 1 + 1 + 1, 0, none⟩) (by simp <;> omega) (.int .i64 0)).other (p := ⟨w.heap.size + 1 + 1 + 1 + 1, 0, none⟩) (by simp <;> omega) (.int .i64 100)).cell0
  have k42 : ((((W.setCell ⟨w.heap.size + 1, 0, none⟩ (.int .i64 0)).setCell ⟨w.heap.size + 1 + 1, 0, none⟩ (.int .i64 0)).setCell ⟨w.heap.size + 1 + 1 + 1, 0, none⟩ (.int .i64 0)).setCell ⟨w.heap.size + 1 + 1 + 1 + 1, 0, none⟩ (.int .i64 100)).drew.cell? ⟨w.heap.size + 1 + 1 + 1, 0, none⟩ = some (.int .i64 0) := ((((b2.other (p := ⟨w.heap.size + 1, 0, none⟩) (by simp <;> omega) (.int .i64 0)).other (p := ⟨w.heap.size + 1 + 1, 0, none⟩) (by simp <;> omega) (.int .i64 0)).set0 (.int .i64 0)).other (p := ⟨w.heap.size + 1 + 1 + 1 + 1, 0, none⟩) (by simp <;> omega) (.int .i64 100)).cell0
  have k43 : ((((W.setCell ⟨w.heap.size + 1, 0, none⟩ (.int .i64 0)).setCell ⟨w.heap.size + 1 + 1, 0, none⟩ (.int .i64 0)).setCell ⟨w.heap.size + 1 + 1 + 1, 0, none⟩ (.int .i64 0)).setCell ⟨w.heap.size + 1 + 1 + 1 + 1, 0, none⟩ (.int .i64 100)).drew.cell? ⟨w.heap.size + 1 + 1 + 1 + 1, 0, none⟩ = some (.int .i64 100) := ((((b3.other (p := ⟨w.heap.size + 1, 0, none⟩) (by simp <;> omega) (.int .i64 0)).other (p := ⟨w.heap.size + 1 + 1, 0, none⟩) (by simp <;> omega) (.int .i64 0)).other (p := ⟨w.heap.size + 1 + 1 + 1, 0, none⟩) (by simp <;> omega) (.int .i64 0)).set0 (.int .i64 100)).cell0
  go_region_held3 (fun W' => W'.cell? ⟨w.heap.size + 1, 0, none⟩ = some (.int .i64 0) ∧ W'.cell? ⟨w.heap.size + 1 + 1, 0, none⟩ = some (.int .i64 0) ∧ W'.cell? ⟨w.heap.size + 1 + 1 + 1, 0, none⟩ = some (.int .i64 0) ∧ W'.cell? ⟨w.heap.size + 1 + 1 + 1 + 1, 0, none⟩ = some (.int .i64 100)) (first | go_keep | (go_split_ands; exact ⟨by assumption, by assumption, by assumption, by assumption⟩)) (fail)
  clear k10 k11 k12 k13 k20 k21 k22 k23 k30 k31 k32 k33 k40 k41 k42 k43 c0 f0 c1 f1 c2 f2 c3 f3
  go_wp2
  try rw [Exit.noGoto_ret]
  have e0 := ((((b0.set0 (.int .i64 0)).other (p := ⟨w.heap.size + 1 + 1, 0, none⟩) (by simp <;> omega) (.int .i64 0)).other (p := ⟨w.heap.size + 1 + 1 + 1, 0, none⟩) (by simp <;> omega) (.int .i64 0)).other (p := ⟨w.heap.size + 1 + 1 + 1 + 1, 0, none⟩) (by simp <;> omega) (.int .i64 100)).cell0
  have e1 := ((((b1.other (p := ⟨w.heap.size + 1, 0, none⟩) (by simp <;> omega) (.int .i64 0)).set0 (.int .i64 0)).other (p := ⟨w.heap.size + 1 + 1 + 1, 0, none⟩) (by simp <;> omega) (.int .i64 0)).other (p := ⟨w.heap.size + 1 + 1 + 1 + 1, 0, none⟩) (by simp <;> omega) (.int .i64 100)).cell0
  have e2 := ((((b2.other (p := ⟨w.heap.size + 1, 0, none⟩) (by simp <;> omega) (.int .i64 0)).other (p := ⟨w.heap.size + 1 + 1, 0, none⟩) (by simp <;> omega) (.int .i64 0)).set0 (.int .i64 0)).other (p := ⟨w.heap.size + 1 + 1 + 1 + 1, 0, none⟩) (by simp <;> omega) (.int .i64 100)).cell0
  have e3 := ((((b3.other (p := ⟨w.heap.size + 1, 0, none⟩) (by simp <;> omega) (.int .i64 0)).other (p := ⟨w.heap.size + 1 + 1, 0, none⟩) (by simp <;> omega) (.int .i64 0)).other (p := ⟨w.heap.size + 1 + 1 + 1, 0, none⟩) (by simp <;> omega) (.int .i64 0)).set0 (.int .i64 100)).cell0
  refine ⟨quad (0, 0, 0, 100), ?_, rfl, ((((hbW.setCell (p := ⟨w.heap.size + 1, 0, none⟩) (by simp <;> omega) (.int .i64 0)).setCell (p := ⟨w.heap.size + 1 + 1, 0, none⟩) (by simp <;> omega) (.int .i64 0)).setCell (p := ⟨w.heap.size + 1 + 1 + 1, 0, none⟩) (by simp <;> omega) (.int .i64 0)).setCell (p := ⟨w.heap.size + 1 + 1 + 1 + 1, 0, none⟩) (by simp <;> omega) (.int .i64 100)).drew⟩
  simp [results, Try.results15, go_sem, e0, e1, e2, e3, quad]

set_option maxHeartbeats 1000000 in
theorem pbars_bad (A : Option Addr) (n c : Nat) (lo hi : Int) (w : World) (H : ∀ w', Below w.heap.size w w' → Calls Try.prog 13 #[.slice A n c] w' fun e w'' => e = .returned (.int .i64 100) ∧ Below w'.heap.size w' w'') :
    Calls Try.prog 17 #[.slice A n c, .int .i64 lo, .int .i64 hi] w (IntsErr w ([], 100)) := by
  have hb0 := ((Below.refl w.heap.size w).alloc (Nat.le_refl _) (.cells #[.int .i64 lo] 3)).alloc (by simp) (.cells #[.int .i64 hi] 3) |>.alloc (by simp; omega) (.cells #[.slice none 0 0] 31)
  refine (callsIn_wide (n := 5)).1 ?_
  refine callsIn_of_wp_marks Try.func17 rfl trivial (wpIn_wide.2 ?_) rfl
  simp only [Try.ntmps17, List.size_toArray, List.length_cons, List.length_nil, Nat.reduceAdd, Nat.reduceSub, Array.replicate_succ, Array.replicate_zero, List.push_toArray, List.append_toArray, List.nil_append, List.cons_append]
  go_wp2_with (go_at_call 13; refine (H _ hb0).mono ?_; rintro e w1 ⟨rfl, hw1⟩; obtain ⟨hc1, hf1⟩ := bcell hw1; have hz1 : w.heap.size + 1 + 1 < w1.heap.size := (by have := hw1.size; simp at this; omega))
  have y2 : Blk w1 (w.heap.size + 1 + 1) 31 #[.slice none 0 0] := (Blk.newAt (W := (w.alloc _).alloc _) (by simp) 31 _).below hw1 (by simp)
  have e2 := (y2.set0 (.slice none 0 0)).cell0
  clear hc1 hf1
  refine ⟨.tuple #[.slice none 0 0, .int .i64 100], ?_, ?_⟩
  · simp [results, Try.results17, go_sem, e2]
  · exact ⟨none, 0, rfl, IntsAt.nil _ _ _, (hb0.trans (hw1.mono (by simp <;> omega))).setCell (by simp <;> omega) _⟩

theorem rtick_bad (A : Option Addr) (n c : Nat) (bar beat off : Int) (w : World) (H : ∀ w', Below w.heap.size w w' → Calls Try.prog 14 #[.slice A n c] w' fun e w'' => e = .returned (.int .i64 100) ∧ Below w'.heap.size w' w'') :
    Calls Try.prog 12 #[.slice A n c, .int .i64 bar, .int .i64 beat, .int .i64 off] w fun e w' => e = .returned (.tuple #[.int .i64 0, .int .i64 100]) ∧ Below w.heap.size w w' := by
  go_enter Try.func12, Try.ntmps12
  go_wp2_with (go_at_call 14; refine (H _ (Below.refl _ _)).mono ?_; rintro e w1 ⟨rfl, hw1⟩)
  refine bodyPost_ret (results_tmp2 rfl _ _ _) rfl ?_
  exact ⟨rfl, hw1⟩

theorem rplace_bad (A : Option Addr) (n c : Nat) (tick : Int) (w : World) (H : ∀ w', Below w.heap.size w w' → Calls Try.prog 14 #[.slice A n c] w' fun e w'' => e = .returned (.int .i64 100) ∧ Below w'.heap.size w' w'') :
    Calls Try.prog 16 #[.slice A n c, .int .i64 tick] w fun e w' => e = .returned (quad (0, 0, 0, 100)) ∧ Below w.heap.size w w' := by
  go_enter Try.func16, Try.ntmps16
  go_wp2_with (go_at_call 14; refine (H _ (Below.refl _ _)).mono ?_; rintro e w1 ⟨rfl, hw1⟩)
  refine bodyPost_ret (results_tmp4 rfl _ _ _) rfl ?_
  exact ⟨rfl, hw1⟩

theorem rbars_bad (A : Option Addr) (n c : Nat) (lo hi : Int) (w : World) (H : ∀ w', Below w.heap.size w w' → Calls Try.prog 14 #[.slice A n c] w' fun e w'' => e = .returned (.int .i64 100) ∧ Below w'.heap.size w' w'') :
    Calls Try.prog 18 #[.slice A n c, .int .i64 lo, .int .i64 hi] w (IntsErr w ([], 100)) := by
  go_enter Try.func18, Try.ntmps18
  go_wp2_with (go_at_call 14; refine (H _ (Below.refl _ _)).mono ?_; rintro e w1 ⟨rfl, hw1⟩)
  refine bodyPost_ret (results_tmp2 rfl _ _ _) rfl ?_
  exact ⟨none, 0, rfl, IntsAt.nil _ _ _, hw1⟩

theorem ptick_a (A : Option Addr) (c : Nat) (ms : List Met) (bar beat off : Int) (w : World) (hn : ms.length ≤ 1000000000) (h : SlAt w A ms) :
    Calls Try.prog 11 #[.slice A ms.length c, .int .i64 bar, .int .i64 beat, .int .i64 off] w fun e w' => e = .returned (.tuple #[.int .i64 (gTick ms bar beat off).1, .int .i64 (gTick ms bar beat off).2]) ∧ Below w.heap.size w w' := by
  unfold gTick
  split
  · rename_i hv
    obtain ⟨b, o, rfl, hm⟩ := h hv.pos
    exact ptick_t b o c ms bar beat off w hv hm
  · rename_i hv
    exact ptick_bad A ms.length c bar beat off w fun w' hb => pcheck_bad A c ms w' hv hn (h.below hb)
theorem rtick_a (A : Option Addr) (c : Nat) (ms : List Met) (bar beat off : Int) (w : World) (hn : ms.length ≤ 1000000000) (h : SlAt w A ms) :
    Calls Try.prog 12 #[.slice A ms.length c, .int .i64 bar, .int .i64 beat, .int .i64 off] w fun e w' => e = .returned (.tuple #[.int .i64 (gTick ms bar beat off).1, .int .i64 (gTick ms bar beat off).2]) ∧ Below w.heap.size w w' := by
  unfold gTick
  split
  · rename_i hv
    obtain ⟨b, o, rfl, hm⟩ := h hv.pos
    exact rtick_t b o c ms bar beat off w hv hm
  · rename_i hv
    exact rtick_bad A ms.length c bar beat off w fun w' hb => rcheck_bad A c ms w' hv hn (h.below hb)
theorem pplace_a (A : Option Addr) (c : Nat) (ms : List Met) (tick : Int) (w : World) (hn : ms.length ≤ 1000000000) (h : SlAt w A ms) :
    Calls Try.prog 15 #[.slice A ms.length c, .int .i64 tick] w fun e w' => e = .returned (quad (gPlace ms tick)) ∧ Below w.heap.size w w' := by
  unfold gPlace
  split
  · rename_i hv
    obtain ⟨b, o, rfl, hm⟩ := h hv.pos
    exact pplace_t b o c ms tick w hv hm
  · rename_i hv
    exact pplace_bad A ms.length c tick w fun w' hb => pcheck_bad A c ms w' hv hn (h.below hb)
theorem rplace_a (A : Option Addr) (c : Nat) (ms : List Met) (tick : Int) (w : World) (hn : ms.length ≤ 1000000000) (h : SlAt w A ms) :
    Calls Try.prog 16 #[.slice A ms.length c, .int .i64 tick] w fun e w' => e = .returned (quad (gPlace ms tick)) ∧ Below w.heap.size w w' := by
  unfold gPlace
  split
  · rename_i hv
    obtain ⟨b, o, rfl, hm⟩ := h hv.pos
    exact rplace_t b o c ms tick w hv hm (fun h0 _ h1 => at_back hv h0 h1)
  · rename_i hv
    exact rplace_bad A ms.length c tick w fun w' hb => rcheck_bad A c ms w' hv hn (h.below hb)
theorem pbars_a (A : Option Addr) (c : Nat) (ms : List Met) (lo hi : Int) (w : World) (hn : ms.length ≤ 1000000000) (h : SlAt w A ms) :
    Calls Try.prog 17 #[.slice A ms.length c, .int .i64 lo, .int .i64 hi] w (IntsErr w (gBars ms lo hi)) := by
  unfold gBars
  split
  · rename_i hv
    obtain ⟨b, o, rfl, hm⟩ := h hv.pos
    exact pbars_t b o c ms lo hi w hv hm
  · rename_i hv
    exact pbars_bad A ms.length c lo hi w fun w' hb => pcheck_bad A c ms w' hv hn (h.below hb)
theorem rbars_a (A : Option Addr) (c : Nat) (ms : List Met) (lo hi : Int) (w : World) (hn : ms.length ≤ 1000000000) (h : SlAt w A ms) :
    Calls Try.prog 18 #[.slice A ms.length c, .int .i64 lo, .int .i64 hi] w (IntsErr w (gBars ms lo hi)) := by
  unfold gBars
  split
  · rename_i hv
    obtain ⟨b, o, rfl, hm⟩ := h hv.pos
    exact rbars_t b o c ms lo hi w hv hm
  · rename_i hv
    exact rbars_bad A ms.length c lo hi w fun w' hb => rcheck_bad A c ms w' hv hn (h.below hb)
end Go.Proofs.Ytdphnlcppaaccaa
