/-
  The law's own trial of the disk (sane). Conditions: none.
-/
import Derived.Test.YtckeopidedoohaaDbx
import Derived.Deep.DeepCutAuto
import Derived.Deep.RegionWith
namespace Go.Proofs.Ytckeopidedoohaa
open Go.RowKit
variable {n₀ : Nat}
attribute [local go_sem] Oper.semAt_some

def zb129 : Bs := List.replicate 129 0
def zc129 : List Value := List.replicate 129 (.int .u8 0)
theorem zc129_b : zc129 = bcells zb129 := by simp [zc129, zb129, bcells, u8v]
theorem make129 (w : World) : (Instr.makeSlice 35 (.int .i64 129) (.int .i64 129)).run Try.prog w = .ok (.slice (some ⟨w.heap.size, 0, none⟩) 129 129) (w.alloc (.cells zc129.toArray 5)) := by
  obtain ⟨i0, hi0, hz0, hz1, hz2⟩ := info_parts info5
  have hr := run_make (P := Try.prog) w 35 5 i0 (.int .u8 0) Try.underlying35 hi0 hz0 .i64 .i64 129 129 (by omega) (Int.le_refl _) (by rw [hz2]; omega) (by omega)
  have e : madeCells (Value.int .u8 0).cells (129 * i0.size) = zc129.toArray := by
    rw [hz1]
    apply Array.ext'
    show (madeCells #[.int .u8 0] (129 * 1)).toList = _
    rw [toList_madeCells_one]
    rfl
  simpa [e] using hr
theorem blk_zb129 {w : World} {g : Nat} (h : Blk w g 5 zc129.toArray) : BsAt n₀ w (some ⟨g, 0, none⟩) zb129 := by
  rw [zc129_b] at h
  exact blk_bs h
theorem sane_write129 (S2 P2 : Option Addr) (s2 p2 g : Nat) (W : World) (hs : dA.secs.length ≤ s2) (h1 : RowsAt n₀ W S2 dA.secs) (h2 : WrsAt n₀ W P2 dA.pend) (h : Blk W g 5 zc129.toArray) : Calls Try.prog 32 #[.agg #[.slice S2 dA.secs.length s2, .slice P2 dA.pend.length p2, .int .i64 dA.left, .bool dA.stop], .int .i64 0, .slice (some ⟨g, 0, none⟩) 129 129] W (DkIs n₀ W (dk0, 1)) := by
  have K := write_t S2 P2 (some ⟨g, 0, none⟩) s2 p2 129 dA 0 zb129 W (by decide) (by decide) (by simp [zb129]) hs h1 h2 (blk_zb129 h)
  rw [sane_long zb129 (by simp [zb129]), show zb129.length = 129 by simp [zb129]] at K
  exact K

theorem sane_put0 (S2 P2 : Option Addr) (s2 p2 g : Nat) (W0 W : World) (hs : dC.secs.length ≤ s2) (h1 : RowsAt n₀ W0 S2 dC.secs) (h2 : WrsAt n₀ W0 P2 dC.pend) (hb : Below W0.heap.size W0 W) (h : Blk W g 5 (bcells (dblB 8)).toArray) : Calls Try.prog 32 #[.agg #[.slice S2 dC.secs.length s2, .slice P2 dC.pend.length p2, .int .i64 dC.left, .bool dC.stop], .int .i64 0, .slice (some ⟨g, 0, none⟩) 128 128] W (DkIs n₀ W (dD, 0)) := by
  have K := write_t S2 P2 (some ⟨g, 0, none⟩) s2 p2 128 dC 0 (dblB 8) W (by decide) (by decide) (by rw [dblB_len]; decide) hs (h1.below hb) (h2.below hb) (blk_bs h)
  rw [sane_write0, dblB_len] at K
  exact K

set_option maxRecDepth 20000 in
set_option maxHeartbeats 4000000 in
theorem sane_t (w : World) : Calls Try.prog 23 #[] w fun e w' => e = .returned (.bool true) ∧ Below w.heap.size w w' := by
  have KN := fun (s : Int) (W : World) => new_t (n₀ := w.heap.size) s W
  go_enter Try.func23, Try.ntmps23
  go_wp2_with (fail)
  go_at_call 25
  refine (KN 0 _).mono ?_
  rw [sane_new0]
  rintro e w1 ⟨v1, rfl, ⟨S1, s1, P1, p1, rfl, hs1, hp1, -, -⟩, hb1⟩
  simp only [dk0, List.length_nil]
  go_wp2_with (fail)
  go_at_call 25
  refine (KN 2 _).mono ?_
  rw [sane_new2]
  rintro e w2 ⟨v2, rfl, ⟨S2, s2, P2, p2, rfl, hs2, hp2, hr2, hq2⟩, hb2⟩
  clear KN
  have hw2 : Below w.heap.size w w2 := (hb1.alloc hb1.size _).trans (hb2.mono (by rw [World.size_alloc]; have := hb1.size; omega))
  clear hb1 hb2
  go_wp2_with (fail)
  obtain ⟨W3, hW3⟩ : ∃ W, W = (w2.alloc (.cells #[.slice S2 dA.secs.length s2, .slice P2 dA.pend.length p2, .int .i64 dA.left, .bool dA.stop] 25)).alloc (.cells #[.int .u8 7] 5) := ⟨_, rfl⟩
  rw [← hW3]
  have hb3 : Below w2.heap.size w2 W3 := by rw [hW3]; exact ((Below.refl _ _).alloc (Nat.le_refl _) _).alloc (by simp) _
  have x3 : Blk W3 w2.heap.size 25 #[.slice S2 dA.secs.length s2, .slice P2 dA.pend.length p2, .int .i64 dA.left, .bool dA.stop] := by rw [hW3]; exact (Blk.new w2 25 _).alloc _
  have z3 : Blk W3 (w2.heap.size + 1) 5 (bcells [7]).toArray := by rw [hW3]; exact Blk.newAt (by simp) 5 _
  clear hW3
  have KW : Calls Try.prog 32 #[.agg #[.slice S2 dA.secs.length s2, .slice P2 dA.pend.length p2, .int .i64 dA.left, .bool dA.stop], .int .i64 1, .slice (some ⟨w2.heap.size + 1, 0, none⟩) 1 1] W3 (DkIs w.heap.size W3 (gWrite dA 1 [7])) := write_t S2 P2 (some ⟨w2.heap.size + 1, 0, none⟩) s2 p2 1 dA 1 [7] W3 (by decide) (by decide) (by decide) hs2 (hr2.below hb3) (hq2.below hb3) (blk_bs z3)
  rw [sane_write1] at KW
  go_at_call 32
  refine KW.mono ?_
  rintro e w4 ⟨v4, rfl, ⟨S4, s4, P4, p4, rfl, hs4, hp4, hr4, hq4⟩, hb4⟩
  clear KW z3
  have hw4 := (hw2.trans (hb3.mono hw2.size)).trans (hb4.mono (Nat.le_trans hw2.size hb3.size))
  have x4 := x3.below hb4 x3.lt
  have hr2 := (hr2.below hb3).below hb4
  have hq2 := (hq2.below hb3).below hb4
  clear hb3 hb4 x3 hw2
  have a0 := x4.cell 0
  have a1 := x4.cell 1
  have a2 := x4.cell 2
  have a3 := x4.cell 3
  simp only [List.getElem?_toArray, List.getElem?_cons_zero, List.getElem?_cons_succ] at a0 a1 a2 a3
  have la := x4.lt
  go_wp2_with (fail)
  obtain ⟨W5, hW5⟩ : ∃ W, W = w4.alloc (.cells #[.slice S4 dB.secs.length s4, .slice P4 dB.pend.length p4, .int .i64 dB.left, .bool dB.stop] 25) := ⟨_, rfl⟩
  rw [← hW5]
  have hb5 : Below w4.heap.size w4 W5 := by rw [hW5]; exact (Below.refl _ _).alloc (Nat.le_refl _) _
  have x5 : Blk W5 w2.heap.size 25 #[.slice S2 dA.secs.length s2, .slice P2 dA.pend.length p2, .int .i64 dA.left, .bool dA.stop] := by rw [hW5]; exact x4.alloc _
  have y5 : Blk W5 w4.heap.size 25 #[.slice S4 dB.secs.length s4, .slice P4 dB.pend.length p4, .int .i64 dB.left, .bool dB.stop] := by rw [hW5]; exact Blk.new w4 25 _
  clear hW5 a0 a1 a2 a3
  have KR : Calls Try.prog 34 #[.agg #[.slice S4 dB.secs.length s4, .slice P4 dB.pend.length p4, .int .i64 dB.left, .bool dB.stop], .int .i64 1] W5 (RdIs w.heap.size W5 (gRead dB 1)) := read_t S4 P4 s4 p4 dB 1 W5 (by decide) (by decide) (hr4.below hb5) (hq4.below hb5)
  rw [sane_read1] at KR
  go_at_call 34
  refine KR.mono ?_
  intro e w6 h6
  obtain ⟨A6, c6, rfl, hc6, hB6, hb6⟩ := rd128 h6 pad7_len
  have hw6 := (hw4.trans (hb5.mono hw4.size)).trans (hb6.mono (Nat.le_trans hw4.size hb5.size))
  have x6 := x5.below hb6 x5.lt
  have y6 := y5.below hb6 y5.lt
  have hr2 := (hr2.below hb5).below hb6
  have hq2 := (hq2.below hb5).below hb6
  have hr4 := (hr4.below hb5).below hb6
  have hq4 := (hq4.below hb5).below hb6
  clear KR hb5 hb6 x5 y5 hw4 x4
  have a0 := x6.cell 0
  have a1 := x6.cell 1
  have a2 := x6.cell 2
  have a3 := x6.cell 3
  simp only [List.getElem?_toArray, List.getElem?_cons_zero, List.getElem?_cons_succ] at a0 a1 a2 a3
  have la := x6.lt
  have c0 := y6.cell 0
  have c1 := y6.cell 1
  have c2 := y6.cell 2
  have c3 := y6.cell 3
  simp only [List.getElem?_toArray, List.getElem?_cons_zero, List.getElem?_cons_succ] at c0 c1 c2 c3
  have lc := y6.lt
  go_wp2_with (fail)
  have KR : Calls Try.prog 34 #[.agg #[.slice S2 dA.secs.length s2, .slice P2 dA.pend.length p2, .int .i64 dA.left, .bool dA.stop], .int .i64 2] w6 (RdIs w.heap.size w6 (gRead dA 2)) := read_t S2 P2 s2 p2 dA 2 w6 (by decide) (by decide) hr2 hq2
  rw [sane_read2] at KR
  go_at_call 34
  refine KR.mono ?_
  rintro e w7 ⟨A7, c7, rfl, hc7, -, hb7⟩
  have hw7 := hw6.trans (hb7.mono hw6.size)
  have x7 := x6.below hb7 la
  have y7 := y6.below hb7 lc
  have hB7 := hB6.below hb7
  have hr2 := hr2.below hb7
  have hq2 := hq2.below hb7
  have hr4 := hr4.below hb7
  have hq4 := hq4.below hb7
  clear KR hb7 x6 y6 hw6 hB6 a0 a1 a2 a3 la c0 c1 c2 c3 lc
  have a0 := x7.cell 0
  have a1 := x7.cell 1
  have a2 := x7.cell 2
  have a3 := x7.cell 3
  simp only [List.getElem?_toArray, List.getElem?_cons_zero, List.getElem?_cons_succ] at a0 a1 a2 a3
  have la := x7.lt
  have c0 := y7.cell 0
  have c1 := y7.cell 1
  have c2 := y7.cell 2
  have c3 := y7.cell 3
  simp only [List.getElem?_toArray, List.getElem?_cons_zero, List.getElem?_cons_succ] at c0 c1 c2 c3
  have lc := y7.lt
  go_upto_region 6 with (fail)
  go_cut [12] (fun s12 wx => s12 = .int .i64 1 ∧ Below w7.heap.size w7 wx)
  case first =>
    have hmk := make129
    go_region_with (go_at_call 32; refine (sane_write129 S2 P2 s2 p2 _ _ hs2 (hr2.below (by repeat (first | exact Below.refl _ _ | refine Below.drew ?_ | refine Below.alloc ?_ (by simp) _))) (hq2.below (by repeat (first | exact Below.refl _ _ | refine Below.drew ?_ | refine Below.alloc ?_ (by simp) _))) (by first | exact Blk.new w7 5 _ | exact (Blk.new w7 5 _).alloc _ | exact Blk.newAt (by simp) 5 _)).mono ?_; rintro e w8 ⟨v8, rfl, ⟨S8, s8, P8, p8, rfl, -, -, -, -⟩, hb8⟩; obtain ⟨hc8, hf8⟩ := bcell hb8)
    all_goals
      have h78 : Below w7.heap.size w7 w8 := Below.trans (by repeat (first | exact Below.refl _ _ | refine Below.drew ?_ | refine Below.alloc ?_ (by simp) _)) (hb8.mono (by simp <;> omega))
      clear hc8 hf8 hb8
      go_wp2_with (fail)
      go_meet
      exact ⟨rfl, by repeat (first | exact h78 | refine Below.setCell ?_ (by simp <;> omega) _ | refine Below.alloc ?_ (by have := h78.size; simp <;> omega) _)⟩
  case rest =>
    obtain ⟨rfl, hb8⟩ := hcut
    have hw8 := hw7.trans (hb8.mono hw7.size)
    have x8 := x7.below hb8 la
    have y8 := y7.below hb8 lc
    have hB8 := hB7.below hb8
    have hr4 := hr4.below hb8
    have hq4 := hq4.below hb8
    clear hb8 x7 y7 hw7 hB7 a0 a1 a2 a3 la c0 c1 c2 c3 lc hr2 hq2
    have c0 := y8.cell 0
    have c1 := y8.cell 1
    have c2 := y8.cell 2
    have c3 := y8.cell 3
    simp only [List.getElem?_toArray, List.getElem?_cons_zero, List.getElem?_cons_succ] at c0 c1 c2 c3
    have lc := y8.lt
    go_wp2_with (fail)
    have KS : Calls Try.prog 38 #[.agg #[.slice S4 dB.secs.length s4, .slice P4 dB.pend.length p4, .int .i64 dB.left, .bool dB.stop], .int .i64 1] wc (DkIs w.heap.size wc (gStop dB 1)) := stop_t S4 P4 s4 p4 dB 1 wc (by decide) (by decide) hs4 hp4 hr4 hq4
    rw [sane_stop] at KS
    go_at_call 38
    refine KS.mono ?_
    rintro e w9 ⟨v9, rfl, ⟨S9, s9, P9, p9, rfl, hs9, hp9, hr9, hq9⟩, hb9⟩
    have hw9 := hw8.trans (hb9.mono hw8.size)
    have y9 := y8.below hb9 lc
    have hB9 := hB8.below hb9
    have hr4 := hr4.below hb9
    have hq4 := hq4.below hb9
    clear KS hb9 x8 y8 hw8 hB8 c0 c1 c2 c3 lc
    go_upto_region 8 with (fail)
    obtain ⟨W10, hW10⟩ : ∃ W, W = w9.alloc (.cells #[.slice S9 dC.secs.length s9, .slice P9 dC.pend.length p9, .int .i64 dC.left, .bool dC.stop] 25) := ⟨_, rfl⟩
    rw [← hW10]
    have hb10 : Below w9.heap.size w9 W10 := by rw [hW10]; exact (Below.refl _ _).alloc (Nat.le_refl _) _
    have x10 : Blk W10 w9.heap.size 25 #[.slice S9 dC.secs.length s9, .slice P9 dC.pend.length p9, .int .i64 dC.left, .bool dC.stop] := by rw [hW10]; exact Blk.new w9 25 _
    clear hW10
    have l9 := hw9.size
    have hr9 := hr9.below hb10
    have hq9 := hq9.below hb10
    have HY9 := Lib.hid y9
    clear y9
    have e0 := x10.cell 0
    have e1 := x10.cell 1
    have e2 := x10.cell 2
    have e3 := x10.cell 3
    have ef0 := x10.frozen 0
    have ef1 := x10.frozen 1
    have ef2 := x10.frozen 2
    have ef3 := x10.frozen 3
    simp only [List.getElem?_toArray, List.getElem?_cons_zero, List.getElem?_cons_succ] at e0 e1 e2 e3
    have le := x10.lt
    go_cut [15] (fun s15 wx => s15 = .int .i64 0 ∧ DkB w.heap.size wx w9.heap.size dD ∧ Below w9.heap.size W10 wx)
    case first =>
      have KD : ∀ W, Calls Try.prog 40 #[.int .u8 8] W (OwnB W (dblB 8)) := fun W => double_t 8 W
      go_region_with (first
        | (go_at_call 40; refine (KD _).mono ?_; rintro e w11 ⟨g11, rfl, hg11, hl11, hb11⟩; have x11 := Blk.below (W := W10.drew) x10 hb11 le; have h11 := Below.trans (Below.drew (Below.refl W10.heap.size W10)) hb11; have n0 := x11.cell 0; have m0 := x11.frozen 0; have n1 := x11.cell 1; have m1 := x11.frozen 1; have n2 := x11.cell 2; have m2 := x11.frozen 2; have n3 := x11.cell 3; have m3 := x11.frozen 3; simp only [List.getElem?_toArray, List.getElem?_cons_zero, List.getElem?_cons_succ] at n0 n1 n2 n3)
        | (go_at_call 32; refine (sane_put0 S9 P9 s9 p9 g11 W10 _ hs9 hr9 hq9 h11 hg11).mono ?_; rintro e w12 ⟨v12, rfl, ⟨S12, s12, P12, p12, rfl, hs12, hp12, hr12, hq12⟩, hb12⟩; have x12 := x11.below hb12 x11.lt; have o0 := x12.cell 0; have q0 := x12.frozen 0; have o1 := x12.cell 1; have q1 := x12.frozen 1; have o2 := x12.cell 2; have q2 := x12.frozen 2; have o3 := x12.cell 3; have q3 := x12.frozen 3; simp only [List.getElem?_toArray, List.getElem?_cons_zero, List.getElem?_cons_succ] at o0 o1 o2 o3))
      all_goals
        have h12 := h11.trans (hb12.mono h11.size)
        clear n0 n1 n2 n3 m0 m1 m2 m3 hl11 hb11 hb12 KD
        have HR12 := Lib.hid hr12
        have HQ12 := Lib.hid hq12
        clear hr12 hq12
        go_wp2_with (fail)
        go_meet
        have ln9 : w.heap.size ≤ w9.heap.size := by omega
        refine ⟨rfl, box_put x12 ln9 hs12 hp12 HR12.out HQ12.out, ?_⟩
        have h12b := h12.mono hb10.size
        repeat (first | exact h12b | refine Below.setCell ?_ (by simp) _)
    case rest =>
      obtain ⟨rfl, ⟨S13, s13, P13, p13, x13, hs13, hp13, hr13, hq13⟩, hb13⟩ := hcut
      have h9c := hb10.trans hb13
      have hw13 := hw9.trans (h9c.mono l9)
      have y13 := HY9.out.below h9c HY9.out.lt
      have hB13 := hB9.below h9c
      have hr4 := hr4.below h9c
      have hq4 := hq4.below h9c
      clear h9c hb10 hb13 hB9 hw9 x10 e0 e1 e2 e3 ef0 ef1 ef2 ef3 hr9 hq9 l9 le
      have e0 := x13.cell 0
      have e1 := x13.cell 1
      have e2 := x13.cell 2
      have e3 := x13.cell 3
      simp only [List.getElem?_toArray, List.getElem?_cons_zero, List.getElem?_cons_succ] at e0 e1 e2 e3
      have le := x13.lt
      go_wp2_with (fail)
      have KY : Calls Try.prog 36 #[.agg #[.slice S13 dD.secs.length s13, .slice P13 dD.pend.length p13, .int .i64 dD.left, .bool dD.stop]] wc (DkIs w.heap.size wc (gSync dD)) := sync_t S13 P13 s13 p13 dD wc (by decide) (by decide) hp13 hr13 hq13
      rw [sane_sync] at KY
      go_at_call 36
      refine KY.mono ?_
      rintro e w14 ⟨v14, rfl, ⟨S14, s14, P14, p14, rfl, hs14, hp14, hr14, hq14⟩, hb14⟩
      have hw14 := hw13.trans (hb14.mono hw13.size)
      have y14 := y13.below hb14 y13.lt
      have hB14 := hB13.below hb14
      have hr4 := hr4.below hb14
      have hq4 := hq4.below hb14
      clear KY hb14 x13 y13 hw13 hB13 e0 e1 e2 e3 le hr13 hq13
      go_upto_region 10 with (fail)
      obtain ⟨W15, hW15⟩ : ∃ W, W = w14.alloc (.cells #[.slice S14 dE.secs.length s14, .slice P14 dE.pend.length p14, .int .i64 dE.left, .bool dE.stop] 25) := ⟨_, rfl⟩
      rw [← hW15]
      have hb15 : Below w14.heap.size w14 W15 := by rw [hW15]; exact (Below.refl _ _).alloc (Nat.le_refl _) _
      have x15 : Blk W15 w14.heap.size 25 #[.slice S14 2 s14, .slice P14 0 p14, .int .i64 0, .bool true] := by rw [hW15]; exact Blk.new w14 25 _
      clear hW15
      have hr14 := hr14.below hb15
      have hw15 := hw14.trans (hb15.mono hw14.size)
      have y15 := y14.below hb15 y14.lt
      have hB15 := hB14.below hb15
      have hr4 := hr4.below hb15
      have hq4 := hq4.below hb15
      have l14 := hw14.size
      have ly14 := y14.lt
      clear hb15 y14 hB14 hw14 hq14
      have e0 := x15.cell 0
      have e1 := x15.cell 1
      have e2 := x15.cell 2
      have e3 := x15.cell 3
      have ef0 := x15.frozen 0
      have ef1 := x15.frozen 1
      have ef2 := x15.frozen 2
      have ef3 := x15.frozen 3
      simp only [List.getElem?_toArray, List.getElem?_cons_zero, List.getElem?_cons_succ] at e0 e1 e2 e3
      have le := x15.lt
      go_wp2_with (fail)
      have KZ : Calls Try.prog 30 #[.agg #[.slice S14 2 s14, .slice P14 0 p14, .int .i64 0, .bool true]] W15 fun e w' => e = .returned (.agg #[.slice S14 2 s14, .slice none 0 0, .int .i64 (-1), .bool false]) ∧ Below W15.heap.size W15 w' := restart_t S14 P14 s14 p14 dE W15
      go_at_call 30
      refine KZ.mono ?_
      rintro e w16 ⟨rfl, hb16⟩
      have x16 := x15.below hb16 x15.lt
      have hr14 := hr14.below hb16
      have hw16 := hw15.trans (hb16.mono hw15.size)
      have HY16 := Lib.hid (y15.below hb16 y15.lt)
      have HB16 := Lib.hid (hB15.below hb16)
      have HR4 := Lib.hid (hr4.below hb16)
      have HQ4 := Lib.hid (hq4.below hb16)
      clear KZ hb16 x15 y15 hB15 hw15 hr4 hq4 e0 e1 e2 e3 ef0 ef1 ef2 ef3 le
      have e0 := x16.cell 0
      have e1 := x16.cell 1
      have e2 := x16.cell 2
      have e3 := x16.cell 3
      have ef0 := x16.frozen 0
      have ef1 := x16.frozen 1
      have ef2 := x16.frozen 2
      have ef3 := x16.frozen 3
      simp only [List.getElem?_toArray, List.getElem?_cons_zero, List.getElem?_cons_succ] at e0 e1 e2 e3
      have le := x16.lt
      go_upto_region 13 with (fail)
      obtain ⟨W17, hW17⟩ : ∃ W, W = (((w16.setCell ⟨w14.heap.size, 0, none⟩ (.slice S14 2 s14)).setCell ⟨w14.heap.size, 1, none⟩ (.slice none 0 0)).setCell ⟨w14.heap.size, 2, none⟩ (.int .i64 (-1))).setCell ⟨w14.heap.size, 3, none⟩ (.bool false) := ⟨_, rfl⟩
      rw [← hW17]
      have k17 : Keep (fun r => r = w14.heap.size) w16 W17 := by rw [hW17]; exact keep4 _ _ _ _ _ _
      have x17 : Blk W17 w14.heap.size 25 #[.slice S14 2 s14, .slice none 0 0, .int .i64 (-1), .bool false] := by rw [hW17]; exact (((x16.set 0 _).set 1 _).set 2 _).set 3 _
      have m17 := Boxes.one (n₀ := w.heap.size) x16 rfl l14
      have hr14 := hr14.keep k17 m17
      have y17 := HY16.out.keep k17 (fun h => by omega)
      have hB17 := HB16.out.keep k17 m17
      have hr4 := HR4.out.keep k17 m17
      have hq4 := HQ4.out.keep k17 m17
      have hw17 := hw16.trans (k17.below hw16.size (fun r hr h => by omega))
      clear hW17 k17 m17 x16 HY16 HB16 HR4 HQ4 hw16 e0 e1 e2 e3 ef0 ef1 ef2 ef3 le
      have e0 := x17.cell 0
      have e1 := x17.cell 1
      have e2 := x17.cell 2
      have e3 := x17.cell 3
      simp only [List.getElem?_toArray, List.getElem?_cons_zero, List.getElem?_cons_succ] at e0 e1 e2 e3
      have le := x17.lt
      go_wp2_with (fail)
      have KR : Calls Try.prog 34 #[.agg #[.slice S14 2 s14, .slice none 0 0, .int .i64 (-1), .bool false], .int .i64 1] W17 (RdIs w.heap.size W17 (gRead dF 1)) := read_t S14 none s14 0 dF 1 W17 (by decide) (by decide) hr14 (WrsAt.nil _ _)
      rw [sane_read3] at KR
      go_at_call 34
      refine KR.mono ?_
      intro e w18 h18
      obtain ⟨A18, c18, rfl, hc18, hB18, hb18⟩ := rd128 h18 pad7_len
      have x18 := x17.below hb18 x17.lt
      have y18 := y17.below hb18 y17.lt
      have hB1 := hB17.below hb18
      have hr14 := hr14.below hb18
      have hr4 := hr4.below hb18
      have hq4 := hq4.below hb18
      have hw18 := hw17.trans (hb18.mono hw17.size)
      clear KR h18 hb18 x17 y17 hB17 hw17 e0 e1 e2 e3 le
      have e0 := x18.cell 0
      have e1 := x18.cell 1
      have e2 := x18.cell 2
      have e3 := x18.cell 3
      simp only [List.getElem?_toArray, List.getElem?_cons_zero, List.getElem?_cons_succ] at e0 e1 e2 e3
      have le := x18.lt
      go_wp2_with (fail)
      have KR : Calls Try.prog 34 #[.agg #[.slice S14 2 s14, .slice none 0 0, .int .i64 (-1), .bool false], .int .i64 0] w18 (RdIs w.heap.size w18 (gRead dF 0)) := read_t S14 none s14 0 dF 0 w18 (by decide) (by decide) hr14 (WrsAt.nil _ _)
      rw [sane_read4] at KR
      go_at_call 34
      refine KR.mono ?_
      intro e w19 h19
      obtain ⟨A19, c19, rfl, hc19, hB19, hb19⟩ := rd128 h19 torn8_len
      have y19 := y18.below hb19 y18.lt
      have hB1 := hB1.below hb19
      have hB18 := hB18.below hb19
      have hr4 := hr4.below hb19
      have hq4 := hq4.below hb19
      have hw19 := hw18.trans (hb19.mono hw18.size)
      clear KR h19 hb19 x18 y18 hw18 e0 e1 e2 e3 le hr14
      have e0 := y19.cell 0
      have e1 := y19.cell 1
      have e2 := y19.cell 2
      have e3 := y19.cell 3
      simp only [List.getElem?_toArray, List.getElem?_cons_zero, List.getElem?_cons_succ] at e0 e1 e2 e3
      have le := y19.lt
      go_wp2_with (fail)
      have KZ : Calls Try.prog 30 #[.agg #[.slice S4 dB.secs.length s4, .slice P4 dB.pend.length p4, .int .i64 dB.left, .bool dB.stop]] w19 fun e w' => e = .returned (.agg #[.slice S4 dB.secs.length s4, .slice none 0 0, .int .i64 (-1), .bool false]) ∧ Below w19.heap.size w19 w' := restart_t S4 P4 s4 p4 dB w19
      go_at_call 30
      refine KZ.mono ?_
      rintro e w20 ⟨rfl, hb20⟩
      have hB1 := hB1.below hb20
      have hB18 := hB18.below hb20
      have hB19 := hB19.below hb20
      have hr4 := hr4.below hb20
      have hw20 := hw19.trans (hb20.mono hw19.size)
      clear KZ hb20 y19 hw19 e0 e1 e2 e3 le hq4
      go_wp2_with (fail)
      have KR : Calls Try.prog 34 #[.agg #[.slice S4 dB.secs.length s4, .slice none 0 0, .int .i64 (-1), .bool false], .int .i64 1] w20 (RdIs w.heap.size w20 (gRead (gRestart dB) 1)) := read_t S4 none s4 0 (gRestart dB) 1 w20 (by decide) (by decide) hr4 (WrsAt.nil _ _)
      rw [sane_read5] at KR
      go_at_call 34
      refine KR.mono ?_
      intro e w21 h21
      obtain ⟨A21, c21, rfl, hc21, hB21, hb21⟩ := rd128 h21 zs_len
      have hB1 := hB1.below hb21
      have hB18 := hB18.below hb21
      have hB19 := hB19.below hb21
      have hw21 := hw20.trans (hb21.mono hw20.size)
      clear KR h21 hb21 hw20 hr4
      obtain ⟨a1, o1, rfl, la1, q1, -, -, -⟩ := bs_looks hB1 pad7_len
      obtain ⟨a2, o2, rfl, la2, q2, -, -, -⟩ := bs_looks hB18 pad7_len
      obtain ⟨a3, o3, rfl, la3, q3, -, q4, -⟩ := bs_looks hB19 torn8_len
      obtain ⟨a4, o4, rfl, la4, q5, -, -, -⟩ := bs_looks hB21 zs_len
      replace q1 : w21.cell? ⟨a1, o1, none⟩ = some (.int .u8 7) := q1
      replace q2 : w21.cell? ⟨a2, o2, none⟩ = some (.int .u8 7) := q2
      replace q3 : w21.cell? ⟨a3, o3, none⟩ = some (.int .u8 8) := q3
      replace q4 : w21.cell? ⟨a3, o3 + 64, none⟩ = some (.int .u8 0) := q4
      replace q5 : w21.cell? ⟨a4, o4, none⟩ = some (.int .u8 0) := q5
      clear hB1 hB18 hB19 hB21
      have KC : ∀ W, Calls Try.prog 28 #[.agg #[.slice none 0 0, .slice none 0 0, .int .i64 0, .bool false]] W fun e w' => e = .returned (.int .i64 40) ∧ Below W.heap.size W w' := fun W => by
        have := check_t (n₀ := w.heap.size) none none 0 0 dk0 W (by decide) (by decide) (RowsAt.nil _ _) (WrsAt.nil _ _)
        rw [chk_no (d := dk0) (fun h => by have := h.1; revert this; decide)] at this
        exact this
      have KE : ∀ W, Calls Try.prog 30 #[.agg #[.slice none 0 0, .slice none 0 0, .int .i64 0, .bool false]] W fun e w' => e = .returned (.agg #[.slice none 0 0, .slice none 0 0, .int .i64 (-1), .bool false]) ∧ Below W.heap.size W w' := fun W => restart_t none none 0 0 dk0 W
      have hfl : ∀ W : World, (Instr.field 25 (.agg #[.slice none 0 0, .slice none 0 0, .int .i64 (-1), .bool false]) 2).run Try.prog W = .ok (.int .i64 (-1)) W := fun _ => by kernel_rfl
      have HKC := Lib.hid KC
      have HKE := Lib.hid KE
      clear KC KE
      go_wp2_with (first
        | (go_at_call 28; refine (HKC.out _).mono ?_; rintro e w22 ⟨rfl, hb22⟩)
        | (go_at_call 30; refine (HKE.out _).mono ?_; rintro e w23 ⟨rfl, hb23⟩))
      go_ret
      exact ⟨rfl, hw21.trans ((hb22.trans (hb23.mono hb22.size)).mono hw21.size)⟩
end Go.Proofs.Ytckeopidedoohaa
