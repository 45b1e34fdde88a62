/-
  DiskStopped walked: it answers true.
-/
import Derived.Test.YtckeopidedoohaaDsa
import Derived.Test.YtckeopidedoohaaDop
import Derived.Deep.QuietTactic
namespace Go.Proofs.Ytckeopidedoohaa
open Go.RowKit
variable {n₀ : Nat}
attribute [local go_sem] Oper.semAt_some

def Yes (w : World) (e : Ending) (w' : World) : Prop := e = .returned (.bool true) ∧ Below w.heap.size w w'
theorem reach_le {d : Dk} (h : Reach d) : d.secs.length ≤ 140737488355328 ∧ d.pend.length ≤ 140737488355328 := ⟨h.1, h.2.1⟩

set_option maxRecDepth 20000 in
set_option maxHeartbeats 4000000 in
theorem stopped_t (SA PA A : Option Addr) (sc pc c : Nat) (d : Dk) (at_ left : Int) (b : Bs) (w : World) (hn : n₀ ≤ w.heap.size) (hre : Reach d) (hcs : d.secs.length ≤ sc) (hcp : d.pend.length ≤ pc) (r0 : RowsAt n₀ w SA d.secs) (q0 : WrsAt n₀ w PA d.pend) (b0 : BsAt n₀ w A b) (hbl : b.length ≤ reachBytes) :
    Calls Try.prog 9 #[.agg #[.slice SA d.secs.length sc, .slice PA d.pend.length pc, .int .i64 d.left, .bool d.stop], .int .i64 at_, .int .i64 left, .slice A b.length c] w (Yes w) := by
  have hbl2 : b.length ≤ 140737488355328 := Nat.le_trans hbl (by decide)
  obtain ⟨hl1, hl2⟩ := reach_le hre
  have HRE := Lib.hid hre
  clear hre hbl
  go_enter Try.func9, Try.ntmps9
  go_wp2_with (fail)
  obtain ⟨W1, hW1⟩ : ∃ W, W = w.alloc (.cells #[.slice SA d.secs.length sc, .slice PA d.pend.length pc, .int .i64 d.left, .bool d.stop] 25) := ⟨_, rfl⟩
  rw [← hW1]
  have hb : Below w.heap.size w W1 := by rw [hW1]; exact (Below.refl _ _).alloc (Nat.le_refl _) _
  have x4 : Blk W1 w.heap.size 25 #[.slice SA d.secs.length sc, .slice PA d.pend.length pc, .int .i64 d.left, .bool d.stop] := by rw [hW1]; exact Blk.new w 25 _
  clear hW1
  replace r0 := r0.below hb
  replace q0 := q0.below hb
  replace b0 := b0.below hb
  have hw := hb
  clear hb
  have K : Calls Try.prog 23 #[] W1 (fun e w' => e = .returned (.bool true) ∧ Below W1.heap.size W1 w') := sane_t W1
  go_at_call 23
  refine K.mono ?_
  rintro e w2 ⟨rfl, hb⟩
  clear K
  replace r0 := r0.below hb
  replace q0 := q0.below hb
  replace b0 := b0.below hb
  replace x4 := x4.below hb x4.lt
  replace hw := hw.trans (hb.mono hw.size)
  clear hb
  have x4c0 := x4.cell 0
  have x4c1 := x4.cell 1
  have x4c2 := x4.cell 2
  have x4c3 := x4.cell 3
  simp only [List.getElem?_toArray, List.getElem?_cons_zero, List.getElem?_cons_succ] at x4c0 x4c1 x4c2 x4c3
  have x4l := x4.lt
  go_wp2_with (fail)
  have K : Calls Try.prog 24 #[.agg #[.slice SA d.secs.length sc, .slice PA d.pend.length pc, .int .i64 d.left, .bool d.stop]] w2 (FewIs w2 d) := few_t SA PA sc pc d w2 HRE.out r0 q0
  go_at_call 24
  refine K.mono ?_
  rintro e w3 ⟨y, rfl, hy, hb⟩
  clear K
  replace r0 := r0.below hb
  replace q0 := q0.below hb
  replace b0 := b0.below hb
  replace x4 := x4.below hb x4.lt
  replace hw := hw.trans (hb.mono hw.size)
  clear x4c0 x4c1 x4c2 x4c3 x4l
  clear hb
  cases y
  case false =>
    go_wp2
    go_ret
    exact ⟨rfl, hw⟩
  obtain ⟨hy1, hy2⟩ := hy rfl
  clear hy
  by_cases hb1 : 1000 < b.length
  case pos =>
    have db : decide (1000 < (b.length : Int)) = true := decide_eq_true (by omega)
    go_wp2
    go_ret
    exact ⟨rfl, hw⟩
  have db : decide (1000 < (b.length : Int)) = false := decide_eq_false (by omega)
  have hb2 : b.length ≤ 1000 := by omega
  clear hb1
  have x4c0 := x4.cell 0
  have x4c1 := x4.cell 1
  have x4c2 := x4.cell 2
  have x4c3 := x4.cell 3
  simp only [List.getElem?_toArray, List.getElem?_cons_zero, List.getElem?_cons_succ] at x4c0 x4c1 x4c2 x4c3
  have x4l := x4.lt
  go_wp2_with (fail)
  have K : Calls Try.prog 30 #[.agg #[.slice SA d.secs.length sc, .slice PA d.pend.length pc, .int .i64 d.left, .bool d.stop]] w3 (fun e w' => e = .returned (.agg #[.slice SA d.secs.length sc, .slice none 0 0, .int .i64 (-1), .bool false]) ∧ Below w3.heap.size w3 w') := restart_t SA PA sc pc d w3
  go_at_call 30
  refine K.mono ?_
  rintro e w4 ⟨rfl, hb⟩
  clear K
  replace r0 := r0.below hb
  replace q0 := q0.below hb
  replace b0 := b0.below hb
  replace x4 := x4.below hb x4.lt
  replace hw := hw.trans (hb.mono hw.size)
  clear x4c0 x4c1 x4c2 x4c3 x4l
  clear hb
  clear db
  have x4c0 := x4.cell 0
  have x4c1 := x4.cell 1
  have x4c2 := x4.cell 2
  have x4c3 := x4.cell 3
  simp only [List.getElem?_toArray, List.getElem?_cons_zero, List.getElem?_cons_succ] at x4c0 x4c1 x4c2 x4c3
  have x4l := x4.lt
  go_upto_region 6 with (fail)
  clear x4c0 x4c1 x4c2 x4c3 x4l
  obtain ⟨W5, hW5⟩ : ∃ W, W = w4.alloc (.cells #[.slice SA d.secs.length sc, .slice none 0 0, .int .i64 (-1), .bool false] 25) := ⟨_, rfl⟩
  rw [← hW5]
  have hb : Below w4.heap.size w4 W5 := by rw [hW5]; exact (Below.refl _ _).alloc (Nat.le_refl _) _
  have x9 : Blk W5 w4.heap.size 25 #[.slice SA d.secs.length sc, .slice none 0 0, .int .i64 (-1), .bool false] := by rw [hW5]; exact Blk.new w4 25 _
  clear hW5
  replace r0 := r0.below hb
  replace q0 := q0.below hb
  replace b0 := b0.below hb
  replace x4 := x4.below hb x4.lt
  replace hw := hw.trans (hb.mono hw.size)
  clear hb
  have x9c0 := x9.cell 0
  have x9c1 := x9.cell 1
  have x9c2 := x9.cell 2
  have x9c3 := x9.cell 3
  simp only [List.getElem?_toArray, List.getElem?_cons_zero, List.getElem?_cons_succ] at x9c0 x9c1 x9c2 x9c3
  have x9l := x9.lt
  go_wp2_with (fail)
  have K : Calls Try.prog 30 #[.agg #[.slice SA d.secs.length sc, .slice none 0 0, .int .i64 (-1), .bool false]] W5 (fun e w' => e = .returned (.agg #[.slice SA d.secs.length sc, .slice none 0 0, .int .i64 (-1), .bool false]) ∧ Below W5.heap.size W5 w') := restart_t SA none sc 0 (gRestart d) W5
  go_at_call 30
  refine K.mono ?_
  rintro e w6 ⟨rfl, hb⟩
  clear K
  replace r0 := r0.below hb
  replace q0 := q0.below hb
  replace b0 := b0.below hb
  replace x4 := x4.below hb x4.lt
  replace x9 := x9.below hb x9.lt
  replace hw := hw.trans (hb.mono hw.size)
  clear x9c0 x9c1 x9c2 x9c3 x9l
  clear hb
  go_upto_region 7 with (fail)
  obtain ⟨W7, hW7⟩ : ∃ W, W = w6.alloc (.cells #[.slice SA d.secs.length sc, .slice none 0 0, .int .i64 (-1), .bool false] 25) := ⟨_, rfl⟩
  rw [← hW7]
  have hb : Below w6.heap.size w6 W7 := by rw [hW7]; exact (Below.refl _ _).alloc (Nat.le_refl _) _
  have x10 : Blk W7 w6.heap.size 25 #[.slice SA d.secs.length sc, .slice none 0 0, .int .i64 (-1), .bool false] := by rw [hW7]; exact Blk.new w6 25 _
  clear hW7
  replace r0 := r0.below hb
  replace q0 := q0.below hb
  replace b0 := b0.below hb
  replace x4 := x4.below hb x4.lt
  replace x9 := x9.below hb x9.lt
  replace hw := hw.trans (hb.mono hw.size)
  clear hb
  have x4c0 := x4.cell 0
  have x4c1 := x4.cell 1
  have x4c2 := x4.cell 2
  have x4c3 := x4.cell 3
  simp only [List.getElem?_toArray, List.getElem?_cons_zero, List.getElem?_cons_succ] at x4c0 x4c1 x4c2 x4c3
  have x4l := x4.lt
  have x9c0 := x9.cell 0
  have x9c1 := x9.cell 1
  have x9c2 := x9.cell 2
  have x9c3 := x9.cell 3
  simp only [List.getElem?_toArray, List.getElem?_cons_zero, List.getElem?_cons_succ] at x9c0 x9c1 x9c2 x9c3
  have x9l := x9.lt
  have x10c0 := x10.cell 0
  have x10c1 := x10.cell 1
  have x10c2 := x10.cell 2
  have x10c3 := x10.cell 3
  simp only [List.getElem?_toArray, List.getElem?_cons_zero, List.getElem?_cons_succ] at x10c0 x10c1 x10c2 x10c3
  have x10l := x10.lt
  go_wp2_with (fail)
  have K : Calls Try.prog 27 #[.agg #[.slice SA d.secs.length sc, .slice none 0 0, .int .i64 (-1), .bool false], .agg #[.slice SA d.secs.length sc, .slice none 0 0, .int .i64 (-1), .bool false]] W7 (fun e w' => e = .returned (.bool (sameD (gRestart d) (gRestart d))) ∧ Below W7.heap.size W7 w') := same_t SA none SA none sc 0 sc 0 d.secs.length 0 d.secs.length 0 (gRestart d) (gRestart d) W7 rfl rfl rfl rfl hl1 (by decide) hl1 (by decide) r0 (WrsAt.nil _ _) r0 (WrsAt.nil _ _)
  go_at_call 27
  refine K.mono ?_
  rintro e w8 ⟨rfl, hb⟩
  rw [same_yes rfl]
  clear K
  replace r0 := r0.below hb
  replace q0 := q0.below hb
  replace b0 := b0.below hb
  replace x4 := x4.below hb x4.lt
  replace x9 := x9.below hb x9.lt
  replace x10 := x10.below hb x10.lt
  replace hw := hw.trans (hb.mono hw.size)
  clear x4c0 x4c1 x4c2 x4c3 x4l x9c0 x9c1 x9c2 x9c3 x9l x10c0 x10c1 x10c2 x10c3 x10l
  clear hb
  have x4c0 := x4.cell 0
  have x4c1 := x4.cell 1
  have x4c2 := x4.cell 2
  have x4c3 := x4.cell 3
  simp only [List.getElem?_toArray, List.getElem?_cons_zero, List.getElem?_cons_succ] at x4c0 x4c1 x4c2 x4c3
  have x4l := x4.lt
  have x9c0 := x9.cell 0
  have x9c1 := x9.cell 1
  have x9c2 := x9.cell 2
  have x9c3 := x9.cell 3
  simp only [List.getElem?_toArray, List.getElem?_cons_zero, List.getElem?_cons_succ] at x9c0 x9c1 x9c2 x9c3
  have x9l := x9.lt
  go_wp2_with (fail)
  go_loopw [11] (fun v wr => ∃ k : Nat, k ≤ d.secs.length ∧ v = .int .i64 k ∧ Below w8.heap.size w8 wr) (fun v _ => d.secs.length - (intOf v).toNat)
  case atStart => exact ⟨0, by omega, rfl, Below.refl _ _⟩
  case round =>
    obtain ⟨k, hk, rfl, hwr⟩ := hrel
    have hwr0 := hwr
    replace r0 := r0.below hwr
    replace q0 := q0.below hwr
    replace b0 := b0.below hwr
    replace x4 := x4.below hwr x4.lt
    replace x9 := x9.below hwr x9.lt
    replace x10 := x10.below hwr x10.lt
    replace hw := hw.trans (hwr.mono hw.size)
    clear x4c0 x4c1 x4c2 x4c3 x4l x9c0 x9c1 x9c2 x9c3 x9l
    clear hwr
    have x4c0 := x4.cell 0
    have x4c1 := x4.cell 1
    have x4c2 := x4.cell 2
    have x4c3 := x4.cell 3
    simp only [List.getElem?_toArray, List.getElem?_cons_zero, List.getElem?_cons_succ] at x4c0 x4c1 x4c2 x4c3
    have x4l := x4.lt
    have x9c0 := x9.cell 0
    have x9c1 := x9.cell 1
    have x9c2 := x9.cell 2
    have x9c3 := x9.cell 3
    simp only [List.getElem?_toArray, List.getElem?_cons_zero, List.getElem?_cons_succ] at x9c0 x9c1 x9c2 x9c3
    have x9l := x9.lt
    by_cases hlt : k < d.secs.length
    case pos =>
      obtain ⟨bb, oo, rfl, hbb, hcc⟩ := r0.get (by omega)
      obtain ⟨A1, c1, g1, hc1, hbs⟩ := hcc k hlt
      obtain ⟨row, hrow⟩ : ∃ r, r = d.secs.getD k [] := ⟨_, rfl⟩
      rw [← hrow] at g1 hbs
      have cv : ∀ n, (convert 35 9 (.slice A1 row.length c1)).run Try.prog (wr.drewN n) = .ok (.string ⟨row.toArray⟩) (wr.drewN n) := fun n => conv_bs (hbs.below (below_drewN (Below.refl _ _) n)) c1
      obtain ⟨rn, hrn⟩ : ∃ n, n = row.length := ⟨_, rfl⟩
      rw [← hrn] at g1 cv
      clear hrow hrn hc1
      have k0 : (0 : Int) ≤ k := by omega
      have kn : (k : Int) < d.secs.length := by omega
      clear hcc hbs
      go_wp2_with (fail)
      go_quiet (fail)
      go_wp2
      go_roundw
      case rel => exact ⟨k + 1, by omega, by go_num, below_drewN hwr0 _⟩
      case measure => simp [intOf]; omega
    case neg =>
      obtain rfl : k = d.secs.length := by omega
      clear hlt hwr0
      clear x4c0 x4c1 x4c2 x4c3 x4l x9c0 x9c1 x9c2 x9c3 x9l
      clear x9 x10
      have x4c0 := x4.cell 0
      have x4f0 := x4.frozen 0
      have x4c1 := x4.cell 1
      have x4f1 := x4.frozen 1
      have x4c2 := x4.cell 2
      have x4f2 := x4.frozen 2
      have x4c3 := x4.cell 3
      have x4f3 := x4.frozen 3
      simp only [List.getElem?_toArray, List.getElem?_cons_zero, List.getElem?_cons_succ] at x4c0 x4c1 x4c2 x4c3
      have x4l := x4.lt
      go_upto_region 15 with (fail)
      obtain ⟨W9, hW9⟩ : ∃ W, W = (wr.setCell ⟨w.heap.size, 3, none⟩ (.bool true)) := ⟨_, rfl⟩
      rw [← hW9]
      have hk : Keep (fun r => r = w.heap.size) wr W9 := by rw [hW9]; repeat (first | with_reducible exact Keep.refl _ _ | refine Keep.setCell ?_ (fun _ => by simp) _)
      have hm := Boxes.one (n₀ := n₀) x4 rfl hn
      replace r0 := r0.keep hk hm
      replace q0 := q0.keep hk hm
      replace b0 := b0.keep hk hm
      replace x4 : Blk W9 w.heap.size 25 #[.slice SA d.secs.length sc, .slice PA d.pend.length pc, .int .i64 d.left, .bool true] := by rw [hW9]; exact (x4.set 3 (.bool true))
      replace hw := hw.trans (hk.below hw.size (fun r hr h => by omega))
      clear x4f0 x4f1 x4f2 x4f3 x4c0 x4c1 x4c2 x4c3 x4l
      clear hW9 hk hm
      have x4c0 := x4.cell 0
      have x4c1 := x4.cell 1
      have x4c2 := x4.cell 2
      have x4c3 := x4.cell 3
      simp only [List.getElem?_toArray, List.getElem?_cons_zero, List.getElem?_cons_succ] at x4c0 x4c1 x4c2 x4c3
      have x4l := x4.lt
      go_wp2_with (fail)
      have K : Calls Try.prog 34 #[.agg #[.slice SA d.secs.length sc, .slice PA d.pend.length pc, .int .i64 d.left, .bool true], .int .i64 at_] W9 (RdIs n₀ W9 (gRead (⟨d.secs, d.pend, d.left, true⟩ : Dk) at_)) := read_t SA PA sc pc (⟨d.secs, d.pend, d.left, true⟩ : Dk) at_ W9 hl1 hl2 r0 q0
      rw [gRead_no (fun h => runs_no2 (d := (⟨d.secs, d.pend, d.left, true⟩ : Dk)) rfl h.1)] at K
      go_at_call 34
      refine K.mono ?_
      rintro e w10 ⟨A11, c11, rfl, hc11, b11, hb⟩
      clear K
      replace r0 := r0.below hb
      replace q0 := q0.below hb
      replace b0 := b0.below hb
      replace x4 := x4.below hb x4.lt
      replace hw := hw.trans (hb.mono hw.size)
      clear x4c0 x4c1 x4c2 x4c3 x4l
      clear hb
      have x4c0 := x4.cell 0
      have x4c1 := x4.cell 1
      have x4c2 := x4.cell 2
      have x4c3 := x4.cell 3
      simp only [List.getElem?_toArray, List.getElem?_cons_zero, List.getElem?_cons_succ] at x4c0 x4c1 x4c2 x4c3
      have x4l := x4.lt
      go_wp2_with (fail)
      have K : Calls Try.prog 32 #[.agg #[.slice SA d.secs.length sc, .slice PA d.pend.length pc, .int .i64 d.left, .bool true], .int .i64 at_, .slice A b.length c] w10 (DkIs n₀ w10 (gWrite (⟨d.secs, d.pend, d.left, true⟩ : Dk) at_ b)) := write_t SA PA A sc pc c (⟨d.secs, d.pend, d.left, true⟩ : Dk) at_ b w10 hl1 hl2 hbl2 hcs r0 q0 b0
      rw [gWrite_no (fun h => runs_no2 (d := (⟨d.secs, d.pend, d.left, true⟩ : Dk)) rfl h.1)] at K
      go_at_call 32
      refine K.mono ?_
      rintro e w11 ⟨v12, rfl, ⟨S12, s12, P12, p12, rfl, hs12, hp12, r12, q12⟩, hb⟩
      clear K
      replace r0 := r0.below hb
      replace q0 := q0.below hb
      replace b0 := b0.below hb
      replace b11 := b11.below hb
      replace x4 := x4.below hb x4.lt
      replace hw := hw.trans (hb.mono hw.size)
      clear x4c0 x4c1 x4c2 x4c3 x4l
      clear hb
      have x4c0 := x4.cell 0
      have x4c1 := x4.cell 1
      have x4c2 := x4.cell 2
      have x4c3 := x4.cell 3
      simp only [List.getElem?_toArray, List.getElem?_cons_zero, List.getElem?_cons_succ] at x4c0 x4c1 x4c2 x4c3
      have x4l := x4.lt
      go_upto_region 17 with (fail)
      clear x4c0 x4c1 x4c2 x4c3 x4l
      obtain ⟨W12, hW12⟩ : ∃ W, W = w11.alloc (.cells #[.slice S12 dk0.secs.length s12, .slice P12 dk0.pend.length p12, .int .i64 dk0.left, .bool dk0.stop] 25) := ⟨_, rfl⟩
      rw [← hW12]
      have hb : Below w11.heap.size w11 W12 := by rw [hW12]; exact (Below.refl _ _).alloc (Nat.le_refl _) _
      have x14 : Blk W12 w11.heap.size 25 #[.slice S12 dk0.secs.length s12, .slice P12 dk0.pend.length p12, .int .i64 dk0.left, .bool dk0.stop] := by rw [hW12]; exact Blk.new w11 25 _
      clear hW12
      replace r0 := r0.below hb
      replace q0 := q0.below hb
      replace b0 := b0.below hb
      replace b11 := b11.below hb
      replace r12 := r12.below hb
      replace q12 := q12.below hb
      replace x4 := x4.below hb x4.lt
      replace hw := hw.trans (hb.mono hw.size)
      clear hb
      have x4c0 := x4.cell 0
      have x4c1 := x4.cell 1
      have x4c2 := x4.cell 2
      have x4c3 := x4.cell 3
      simp only [List.getElem?_toArray, List.getElem?_cons_zero, List.getElem?_cons_succ] at x4c0 x4c1 x4c2 x4c3
      have x4l := x4.lt
      go_wp2_with (fail)
      have K : Calls Try.prog 36 #[.agg #[.slice SA d.secs.length sc, .slice PA d.pend.length pc, .int .i64 d.left, .bool true]] W12 (DkIs n₀ W12 (gSync (⟨d.secs, d.pend, d.left, true⟩ : Dk))) := sync_t SA PA sc pc (⟨d.secs, d.pend, d.left, true⟩ : Dk) W12 hl1 hl2 hcp r0 q0
      rw [gSync_no (runs_no2 (d := (⟨d.secs, d.pend, d.left, true⟩ : Dk)) rfl)] at K
      go_at_call 36
      refine K.mono ?_
      rintro e w13 ⟨v13, rfl, ⟨S13, s13, P13, p13, rfl, hs13, hp13, r13, q13⟩, hb⟩
      clear K
      replace r0 := r0.below hb
      replace q0 := q0.below hb
      replace b0 := b0.below hb
      replace b11 := b11.below hb
      replace r12 := r12.below hb
      replace q12 := q12.below hb
      replace x4 := x4.below hb x4.lt
      replace x14 := x14.below hb x14.lt
      replace hw := hw.trans (hb.mono hw.size)
      clear x4c0 x4c1 x4c2 x4c3 x4l
      clear hb
      have x4c0 := x4.cell 0
      have x4c1 := x4.cell 1
      have x4c2 := x4.cell 2
      have x4c3 := x4.cell 3
      simp only [List.getElem?_toArray, List.getElem?_cons_zero, List.getElem?_cons_succ] at x4c0 x4c1 x4c2 x4c3
      have x4l := x4.lt
      go_upto_region 18 with (fail)
      clear x4c0 x4c1 x4c2 x4c3 x4l
      obtain ⟨W14, hW14⟩ : ∃ W, W = w13.alloc (.cells #[.slice S13 dk0.secs.length s13, .slice P13 dk0.pend.length p13, .int .i64 dk0.left, .bool dk0.stop] 25) := ⟨_, rfl⟩
      rw [← hW14]
      have hb : Below w13.heap.size w13 W14 := by rw [hW14]; exact (Below.refl _ _).alloc (Nat.le_refl _) _
      have x16 : Blk W14 w13.heap.size 25 #[.slice S13 dk0.secs.length s13, .slice P13 dk0.pend.length p13, .int .i64 dk0.left, .bool dk0.stop] := by rw [hW14]; exact Blk.new w13 25 _
      clear hW14
      replace r0 := r0.below hb
      replace q0 := q0.below hb
      replace b0 := b0.below hb
      replace b11 := b11.below hb
      replace r12 := r12.below hb
      replace q12 := q12.below hb
      replace r13 := r13.below hb
      replace q13 := q13.below hb
      replace x4 := x4.below hb x4.lt
      replace x14 := x14.below hb x14.lt
      replace hw := hw.trans (hb.mono hw.size)
      clear hb
      have x4c0 := x4.cell 0
      have x4c1 := x4.cell 1
      have x4c2 := x4.cell 2
      have x4c3 := x4.cell 3
      simp only [List.getElem?_toArray, List.getElem?_cons_zero, List.getElem?_cons_succ] at x4c0 x4c1 x4c2 x4c3
      have x4l := x4.lt
      go_wp2_with (fail)
      have K : Calls Try.prog 38 #[.agg #[.slice SA d.secs.length sc, .slice PA d.pend.length pc, .int .i64 d.left, .bool true], .int .i64 left] W14 (DkIs n₀ W14 (gStop (⟨d.secs, d.pend, d.left, true⟩ : Dk) left)) := stop_t SA PA sc pc (⟨d.secs, d.pend, d.left, true⟩ : Dk) left W14 hl1 hl2 hcs hcp r0 q0
      rw [gStop_no (runs_no2 (d := (⟨d.secs, d.pend, d.left, true⟩ : Dk)) rfl)] at K
      go_at_call 38
      refine K.mono ?_
      rintro e w15 ⟨v14, rfl, ⟨S14, s14, P14, p14, rfl, hs14, hp14, r14, q14⟩, hb⟩
      clear K
      replace r0 := r0.below hb
      replace q0 := q0.below hb
      replace b0 := b0.below hb
      replace b11 := b11.below hb
      replace r12 := r12.below hb
      replace q12 := q12.below hb
      replace r13 := r13.below hb
      replace q13 := q13.below hb
      replace x4 := x4.below hb x4.lt
      replace x14 := x14.below hb x14.lt
      replace x16 := x16.below hb x16.lt
      replace hw := hw.trans (hb.mono hw.size)
      clear x4c0 x4c1 x4c2 x4c3 x4l
      clear hb
      go_upto_region 19 with (fail)
      obtain ⟨W16, hW16⟩ : ∃ W, W = w15.alloc (.cells #[.slice S14 dk0.secs.length s14, .slice P14 dk0.pend.length p14, .int .i64 dk0.left, .bool dk0.stop] 25) := ⟨_, rfl⟩
      rw [← hW16]
      have hb : Below w15.heap.size w15 W16 := by rw [hW16]; exact (Below.refl _ _).alloc (Nat.le_refl _) _
      have x18 : Blk W16 w15.heap.size 25 #[.slice S14 dk0.secs.length s14, .slice P14 dk0.pend.length p14, .int .i64 dk0.left, .bool dk0.stop] := by rw [hW16]; exact Blk.new w15 25 _
      clear hW16
      replace r0 := r0.below hb
      replace q0 := q0.below hb
      replace b0 := b0.below hb
      replace b11 := b11.below hb
      replace r12 := r12.below hb
      replace q12 := q12.below hb
      replace r13 := r13.below hb
      replace q13 := q13.below hb
      replace r14 := r14.below hb
      replace q14 := q14.below hb
      replace x4 := x4.below hb x4.lt
      replace x14 := x14.below hb x14.lt
      replace x16 := x16.below hb x16.lt
      replace hw := hw.trans (hb.mono hw.size)
      clear hb
      go_wp2
      go_ret
      exact ⟨rfl, hw⟩
end Go.Proofs.Ytckeopidedoohaa
