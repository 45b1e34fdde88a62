/-
  DiskHistory walked: it answers true.
-/
import Derived.Test.YtckeopidedoohaaDhi
import Derived.BigRegion
import Derived.Deep.RegionHeld3
import Derived.Deep.DeepCutAuto
import Derived.Deep.CutBlock
namespace Go.Proofs.Ytckeopidedoohaa
open Go.RowKit
variable {n₀ : Nat}
attribute [local go_sem] Oper.semAt_some

theorem info46 : (Try.prog.info? 46).map (fun i => (i.zero, i.size, i.bytes)) = some (some (.agg #[.bool false, .int .u8 0, .int .u8 0]), 3, 3) := by kernel_rfl
/-- What the law holds when the loop begins. -/
def HisS (n₀ : Nat) (w : World) (d : Dk) (m : Nat) (s5 s8 s9 s10 s11 s12 : Value) (wx : World) : Prop := ∃ B5 B8 B9 B10 base : Nat, s5 = .pointer (some ⟨B5, 0, none⟩) ∧ s8 = .pointer (some ⟨B8, 0, none⟩) ∧ s9 = .pointer (some ⟨B9, 0, none⟩) ∧ s10 = .pointer (some ⟨B10, 0, none⟩) ∧ s12 = .int .i64 m ∧
  w.heap.size ≤ B5 ∧ B5 < B8 ∧ B8 < B9 ∧ B9 < B10 ∧ B10 < base ∧ DkB n₀ wx B5 d ∧ Blk wx B8 44 (bcells [0, 0, 0, 0]).toArray ∧ Blk wx B9 44 (bcells [0, 0, 0, 0]).toArray ∧ Blk wx B10 44 (bcells [0, 0, 0, 0]).toArray ∧ wx.ownsRow base 46 3 s11 0 [] ∧ base ≤ wx.heap.size ∧ Below w.heap.size w wx
/-- What the loop holds. -/
def HisI (n₀ : Nat) (w : World) (B5 B8 B9 B10 base : Nat) (l : List Ac) (v11 v12 v13 : Value) (wr : World) : Prop := ∃ (i room : Nat) (secs : List Bs) (ws : List Ac) (f s la : Bs), i ≤ l.length ∧ v13 = .int .i64 i ∧ v12 = .int .i64 room ∧ room ≤ 255 ∧ ws.length ≤ i ∧ Hid (Hv secs f s ∧ Ls (hisD secs ws room) la) ∧
  wr.ownsRow base 46 3 v11 ws.length (acs ws) ∧ DkB n₀ wr B5 (hisD secs ws room) ∧ Blk wr B8 44 (bcells la).toArray ∧ Blk wr B9 44 (bcells f).toArray ∧ Blk wr B10 44 (bcells s).toArray ∧ base ≤ wr.heap.size ∧ Below w.heap.size w wr

set_option maxRecDepth 20000 in
set_option maxHeartbeats 8000000 in
theorem history_t (A : Option Addr) (c : Nat) (l : List Ac) (left : Int) (w : World) (hn : n₀ ≤ w.heap.size) (a0 : ActsAt w A l) (hal : l.length ≤ reachBytes) (hu : 0 ≤ left ∧ left ≤ 255) :
    Calls Try.prog 6 #[.slice A l.length c, .int .u8 left] w (Yes w) := by
  have HA0 := Lib.hid a0
  clear a0
  have hal2 : l.length ≤ 140737488355328 := Nat.le_trans hal (by decide)
  obtain ⟨m, rfl⟩ : ∃ m : Nat, left = m := ⟨left.toNat, by omega⟩
  have hm : m ≤ 255 := by omega
  clear hal hu
  go_enter Try.func6, Try.ntmps6
  go_wp2_with (fail)
  have K : Calls Try.prog 23 #[] w (fun e w' => e = .returned (.bool true) ∧ Below w.heap.size w w') := sane_t w
  go_at_call 23
  refine K.mono ?_
  rintro e w1 ⟨rfl, hb⟩
  clear K
  have hw := hb
  clear hb
  by_cases k1 : 40 < l.length
  case pos =>
    have dk1 : decide (40 < (l.length : Int)) = true := decide_eq_true (by omega)
    go_wp2
    go_ret
    exact ⟨rfl, hw⟩
  have dk1 : decide (40 < (l.length : Int)) = false := decide_eq_false (by omega)
  have hll : l.length ≤ 40 := by omega
  clear k1
  go_wp2_with (fail)
  obtain ⟨d0, hd0⟩ : ∃ d, d = (⟨List.replicate 4 zs, [], -1, false⟩ : Dk) := ⟨_, rfl⟩
  obtain ⟨d1, hd1⟩ : ∃ d, d = hisD (List.replicate 4 zs) [] m := ⟨_, rfl⟩
  have hnw : gNew 4 = (d0, 0) := by rw [hd0]; rfl
  have hst : gStop d0 (m : Int) = (d1, 0) := by rw [hd0, hd1]; exact his_new m (by omega)
  have h0l : d0.secs.length = 4 ∧ d0.pend.length = 0 := by rw [hd0]; exact ⟨rfl, rfl⟩
  obtain ⟨h0s, h0p⟩ := h0l
  have HNW := Lib.hid hnw
  have HST := Lib.hid hst
  have HD1 := Lib.hid hd1
  have H0S := Lib.hid h0s
  have H0P := Lib.hid h0p
  clear hd0 hd1 hnw hst h0s h0p dk1
  have K : Calls Try.prog 25 #[.int .i64 4] w1 (DkIs n₀ w1 ((d0, 0))) := by have h1 := new_t (n₀ := n₀) 4 w1; rw [HNW.out] at h1; exact h1
  go_at_call 25
  refine K.mono ?_
  rintro e w2 ⟨v25, rfl, ⟨S25, s25, P25, p25, rfl, hs25, hp25, r25, q25⟩, hb⟩
  clear K
  replace hw := hw.trans (hb.mono hw.size)
  clear hb
  go_upto_region 6 with (fail)
  have hn5 : n₀ ≤ w2.heap.size := Nat.le_trans hn hw.size
  have hw5 : w.heap.size ≤ w2.heap.size := hw.size
  obtain ⟨B5, hB5⟩ : ∃ B, B = w2.heap.size := ⟨_, rfl⟩
  obtain ⟨W3, hW3⟩ : ∃ W, W = w2.alloc (.cells #[.slice S25 d0.secs.length s25, .slice P25 d0.pend.length p25, .int .i64 d0.left, .bool d0.stop] 25) := ⟨_, rfl⟩
  rw [← hW3]
  have hb : Below w2.heap.size w2 W3 := by rw [hW3]; exact (Below.refl _ _).alloc (Nat.le_refl _) _
  have x5 : Blk W3 w2.heap.size 25 #[.slice S25 d0.secs.length s25, .slice P25 d0.pend.length p25, .int .i64 d0.left, .bool d0.stop] := by rw [hW3]; exact Blk.new w2 25 _
  clear hW3
  replace r25 := r25.below hb
  replace q25 := q25.below hb
  replace hw := hw.trans (hb.mono hw.size)
  clear hb
  rw [← hB5] at x5 hn5 hw5
  rw [← hB5]
  clear hB5
  have x5c0 := x5.cell 0
  have x5f0 := x5.frozen 0
  have x5c1 := x5.cell 1
  have x5f1 := x5.frozen 1
  have x5c2 := x5.cell 2
  have x5f2 := x5.frozen 2
  have x5c3 := x5.cell 3
  have x5f3 := x5.frozen 3
  simp only [List.getElem?_toArray, List.getElem?_cons_zero, List.getElem?_cons_succ] at x5c0 x5c1 x5c2 x5c3
  have x5l := x5.lt
  go_wp2_with (fail)
  have K : Calls Try.prog 38 #[.agg #[.slice S25 d0.secs.length s25, .slice P25 d0.pend.length p25, .int .i64 d0.left, .bool d0.stop], .int .i64 m] W3 (DkIs n₀ W3 ((d1, 0))) := by have h1 := stop_t (n₀ := n₀) S25 P25 s25 p25 d0 m W3 (by rw [H0S.out]; decide) (by rw [H0P.out]; decide) hs25 hp25 r25 q25; rw [HST.out] at h1; exact h1
  go_at_call 38
  refine K.mono ?_
  rintro e w4 ⟨v38, rfl, ⟨S38, s38, P38, p38, rfl, hs38, hp38, r38, q38⟩, hb⟩
  clear K
  replace r25 := r25.below hb
  replace q25 := q25.below hb
  replace x5 := x5.below hb x5.lt
  replace hw := hw.trans (hb.mono hw.size)
  clear x5f0 x5f1 x5f2 x5f3 x5c0 x5c1 x5c2 x5c3 x5l
  clear hb
  have x5c0 := x5.cell 0
  have x5f0 := x5.frozen 0
  have x5c1 := x5.cell 1
  have x5f1 := x5.frozen 1
  have x5c2 := x5.cell 2
  have x5f2 := x5.frozen 2
  have x5c3 := x5.cell 3
  have x5f3 := x5.frozen 3
  simp only [List.getElem?_toArray, List.getElem?_cons_zero, List.getElem?_cons_succ] at x5c0 x5c1 x5c2 x5c3
  have x5l := x5.lt
  go_upto_region 7 with (fail)
  obtain ⟨W5, hW5⟩ : ∃ W, W = ((((w4.setCell ⟨B5, 0, none⟩ (.slice S38 d1.secs.length s38)).setCell ⟨B5, 1, none⟩ (.slice P38 d1.pend.length p38)).setCell ⟨B5, 2, none⟩ (.int .i64 d1.left)).setCell ⟨B5, 3, none⟩ (.bool d1.stop)) := ⟨_, rfl⟩
  rw [← hW5]
  have hk : Keep (fun r => r = B5) w4 W5 := by rw [hW5]; repeat (first | with_reducible exact Keep.refl _ _ | refine Keep.setCell ?_ (fun _ => by simp) _)
  have hm := Boxes.one (n₀ := n₀) x5 rfl hn5
  replace r25 := r25.keep hk hm
  replace q25 := q25.keep hk hm
  replace r38 := r38.keep hk hm
  replace q38 := q38.keep hk hm
  replace x5 : Blk W5 B5 25 #[.slice S38 d1.secs.length s38, .slice P38 d1.pend.length p38, .int .i64 d1.left, .bool d1.stop] := by rw [hW5]; exact ((((x5.set 0 (.slice S38 d1.secs.length s38)).set 1 (.slice P38 d1.pend.length p38)).set 2 (.int .i64 d1.left)).set 3 (.bool d1.stop))
  replace hw := hw.trans (hk.below hw.size (fun r hr h => by omega))
  clear x5f0 x5f1 x5f2 x5f3 x5c0 x5c1 x5c2 x5c3 x5l
  clear hW5 hk hm
  have x5c0 := x5.cell 0
  have x5c1 := x5.cell 1
  have x5c2 := x5.cell 2
  have x5c3 := x5.cell 3
  simp only [List.getElem?_toArray, List.getElem?_cons_zero, List.getElem?_cons_succ] at x5c0 x5c1 x5c2 x5c3
  have x5l := x5.lt
  have HX5 : DkB n₀ W5 B5 d1 := ⟨S38, s38, P38, p38, x5, hs38, hp38, r38, q38⟩
  clear r25 q25 r38 q38
  go_upto_region 11 with (fail)
  go_cut [5, 8, 9, 10, 11, 12] (fun s5 s8 s9 s10 s11 s12 wx => HisS n₀ w d1 m s5 s8 s9 s10 s11 s12 wx)
  case first =>
    go_wp2_with (fail)
    go_meet
    obtain ⟨t1, t2, t3, t4, t5⟩ := his_new4 W5 #[.int .u8 0, .int .u8 0, .int .u8 0, .int .u8 0]
    exact ⟨B5, W5.heap.size, W5.heap.size + 1, W5.heap.size + 1 + 1, W5.heap.size + 1 + 1 + 1, rfl, rfl, rfl, rfl, rfl, hw5, x5l, by omega, by omega, by omega, HX5.below t1, t2, t3, t4, t5, by simp, hw.trans (t1.mono hw.size)⟩
  case rest =>
    clear HX5 x5c0 x5c1 x5c2 x5c3 x5l x5 hw
    obtain ⟨C5, B8, B9, B10, base, rfl, rfl, rfl, rfl, rfl, o5, o8, o9, o10, ob, hB5, x8, x9, x10, hown, hbs, hw⟩ := hcut
    have HS0 : Hid (Hv (List.replicate 4 zs) [0, 0, 0, 0] [0, 0, 0, 0] ∧ Ls (hisD (List.replicate 4 zs) [] m) [0, 0, 0, 0]) := Lib.hid ⟨hv_zero, rfl, hv_zero.2.2.2⟩
    rw [HD1.out] at hB5
    have hnC : n₀ ≤ C5 := Nat.le_trans hn o5
    have hnb : n₀ ≤ base := by omega
    clear HNW HST HD1 H0S H0P
    go_wp2_with (fail)
    go_loopw [11, 12, 13] (fun v11 v12 v13 wr => HisI n₀ w C5 B8 B9 B10 base l v11 v12 v13 wr) (fun _ _ v13 _ => l.length - (intOf v13).toNat)
    case atStart => exact ⟨0, m, List.replicate 4 zs, [], [0, 0, 0, 0], [0, 0, 0, 0], [0, 0, 0, 0], by omega, rfl, rfl, hm, by simp, HS0, hown, hB5, x8, x9, x10, hbs, hw⟩
    case round =>
      clear hown hB5 x8 x9 x10 hbs hw HS0
      obtain ⟨i, room, secs, ws, f, s, la, hi, rfl, rfl, hro, hwi, HHV, hown, hB5, x8, x9, x10, hbs, hw⟩ := hrel
      obtain ⟨S5, s5, P5, p5, x5, hs5, hp5, r5, q5⟩ := hB5
      obtain ⟨od, hod⟩ : ∃ o, o = hisD secs ws room := ⟨_, rfl⟩
      rw [← hod] at x5 hs5 hp5 r5 q5
      have HOD := Lib.hid hod
      have hrod : Runs od := by rw [hod]; exact his_runs (ws := ws) HHV.out.1 (by omega) (by omega)
      have HRU := Lib.hid hrod
      have hosl : od.secs.length = 4 := by rw [hod]; exact HHV.out.1.1
      have hopl : od.pend.length = ws.length := by rw [hod]; simp [hisD]
      have HOS := Lib.hid hosl
      have HOP := Lib.hid hopl
      clear hod hrod hosl hopl
      have hbr := hbs
      by_cases hlt : i < l.length
      case neg =>
        obtain rfl : i = l.length := by omega
        have hv : Hv od.secs f s := by rw [HOD.out]; exact HHV.out.1
        go_upto_region 40 with (fail)
        obtain ⟨f0, f1, f2, f3, hf4⟩ := four HHV.out.1.2.1
        obtain ⟨e0, e1, e2, e3, he4⟩ := four HHV.out.1.2.2.1
        have y9 : Blk wr B9 44 #[.int .u8 (f0.toNat : Int), .int .u8 (f1.toNat : Int), .int .u8 (f2.toNat : Int), .int .u8 (f3.toNat : Int)] := by have h := x9; rw [hf4] at h; exact h
        have y10 : Blk wr B10 44 #[.int .u8 (e0.toNat : Int), .int .u8 (e1.toNat : Int), .int .u8 (e2.toNat : Int), .int .u8 (e3.toNat : Int)] := by have h := x10; rw [he4] at h; exact h
        have hbk : ∀ W' : World, Below wr.heap.size wr W' → Calls Try.prog 41 #[.agg #[.slice S5 od.secs.length s5, .slice none 0 0, .int .i64 (-1), .bool false], .agg #[.int .u8 (f0.toNat : Int), .int .u8 (f1.toNat : Int), .int .u8 (f2.toNat : Int), .int .u8 (f3.toNat : Int)], .agg #[.int .u8 (e0.toNat : Int), .int .u8 (e1.toNat : Int), .int .u8 (e2.toNat : Int), .int .u8 (e3.toNat : Int)]] W' (fun e w' => e = .returned (.bool true) ∧ Below W'.heap.size W' w') := fun W' hb => by
          have h := back_holds (s0 := s5) wr W' hv r5 hb
          rw [hf4, he4] at h
          exact h
        have x5c0 := x5.cell 0
        have x5c1 := x5.cell 1
        have x5c2 := x5.cell 2
        have x5c3 := x5.cell 3
        simp only [List.getElem?_toArray, List.getElem?_cons_zero, List.getElem?_cons_succ] at x5c0 x5c1 x5c2 x5c3
        have x5l := x5.lt
        have y9c0 := y9.cell 0
        have y9c1 := y9.cell 1
        have y9c2 := y9.cell 2
        have y9c3 := y9.cell 3
        simp only [List.getElem?_toArray, List.getElem?_cons_zero, List.getElem?_cons_succ] at y9c0 y9c1 y9c2 y9c3
        have y9l := y9.lt
        have y10c0 := y10.cell 0
        have y10c1 := y10.cell 1
        have y10c2 := y10.cell 2
        have y10c3 := y10.cell 3
        simp only [List.getElem?_toArray, List.getElem?_cons_zero, List.getElem?_cons_succ] at y10c0 y10c1 y10c2 y10c3
        have y10l := y10.lt
        have hrk : ∀ W' : World, Calls Try.prog 30 #[.agg #[.slice S5 od.secs.length s5, .slice P5 od.pend.length p5, .int .i64 od.left, .bool od.stop]] W' (fun e w' => e = .returned (.agg #[.slice S5 od.secs.length s5, .slice none 0 0, .int .i64 (-1), .bool false]) ∧ Below W'.heap.size W' w') := fun W' => by
          have h := restart_t S5 P5 s5 p5 od W'
          exact h
        have HRK := Lib.hid hrk
        clear hrk
        have hks : ∀ W : World, Below wr.heap.size wr W → W.cell? ⟨C5, 0, none⟩ = some (.slice S5 od.secs.length s5) ∧ W.cell? ⟨C5, 1, none⟩ = some (.slice P5 od.pend.length p5) ∧ W.cell? ⟨C5, 2, none⟩ = some (.int .i64 od.left) ∧ W.cell? ⟨C5, 3, none⟩ = some (.bool od.stop) ∧ W.cell? ⟨B9, 0, none⟩ = some (.int .u8 (f0.toNat : Int)) ∧ W.cell? ⟨B9, 1, none⟩ = some (.int .u8 (f1.toNat : Int)) ∧ W.cell? ⟨B9, 2, none⟩ = some (.int .u8 (f2.toNat : Int)) ∧ W.cell? ⟨B9, 3, none⟩ = some (.int .u8 (f3.toNat : Int)) ∧ W.cell? ⟨B10, 0, none⟩ = some (.int .u8 (e0.toNat : Int)) ∧ W.cell? ⟨B10, 1, none⟩ = some (.int .u8 (e1.toNat : Int)) ∧ W.cell? ⟨B10, 2, none⟩ = some (.int .u8 (e2.toNat : Int)) ∧ W.cell? ⟨B10, 3, none⟩ = some (.int .u8 (e3.toNat : Int)) := fun W hb => ⟨(x5.below hb x5l).cell 0, (x5.below hb x5l).cell 1, (x5.below hb x5l).cell 2, (x5.below hb x5l).cell 3, (y9.below hb y9l).cell 0, (y9.below hb y9l).cell 1, (y9.below hb y9l).cell 2, (y9.below hb y9l).cell 3, (y10.below hb y10l).cell 0, (y10.below hb y10l).cell 1, (y10.below hb y10l).cell 2, (y10.below hb y10l).cell 3⟩
        have HKS := Lib.hid hks
        have HBK := Lib.hid hbk
        have HX := Lib.hid x5
        have HY := Lib.hid (And.intro y9 (And.intro y10 (And.intro x9 x10)))
        clear hks hbk x5 y9 y10 x9 x10 hown
        clear x5c0 x5c1 x5c2 x5c3 x5l y9c0 y9c1 y9c2 y9c3 y9l y10c0 y10c1 y10c2 y10c3 y10l
        go_region_held3 (fun W => W.cell? ⟨C5, 0, none⟩ = some (.slice S5 od.secs.length s5) ∧ W.cell? ⟨C5, 1, none⟩ = some (.slice P5 od.pend.length p5) ∧ W.cell? ⟨C5, 2, none⟩ = some (.int .i64 od.left) ∧ W.cell? ⟨C5, 3, none⟩ = some (.bool od.stop) ∧ W.cell? ⟨B9, 0, none⟩ = some (.int .u8 (f0.toNat : Int)) ∧ W.cell? ⟨B9, 1, none⟩ = some (.int .u8 (f1.toNat : Int)) ∧ W.cell? ⟨B9, 2, none⟩ = some (.int .u8 (f2.toNat : Int)) ∧ W.cell? ⟨B9, 3, none⟩ = some (.int .u8 (f3.toNat : Int)) ∧ W.cell? ⟨B10, 0, none⟩ = some (.int .u8 (e0.toNat : Int)) ∧ W.cell? ⟨B10, 1, none⟩ = some (.int .u8 (e1.toNat : Int)) ∧ W.cell? ⟨B10, 2, none⟩ = some (.int .u8 (e2.toNat : Int)) ∧ W.cell? ⟨B10, 3, none⟩ = some (.int .u8 (e3.toNat : Int))) ((refine HKS.out _ ?_; repeat (first | with_reducible exact h12 | with_reducible exact h40 | with_reducible exact Below.refl _ _ | refine Below.drew ?_)))
          (first | (go_at_call 30; refine (HRK.out _).mono ?_; rintro e wd ⟨rfl, hbd⟩; have h40 : Below wr.heap.size wr wd := Below.trans (by repeat (first | with_reducible exact Below.refl _ _ | refine Below.drew ?_)) (Below.mono hbd (Nat.le_refl _))) | (go_at_call 41; refine (HBK.out _ (by repeat (first | with_reducible exact h40 | refine Below.drew ?_))).mono ?_; rintro e w12 ⟨rfl, hb12⟩; have h12 : Below wr.heap.size wr w12 := Below.trans (by repeat (first | with_reducible exact h40 | refine Below.drew ?_)) (Below.mono hb12 h40.size)))
        all_goals
         go_wp2
         go_ret
         exact ⟨rfl, hw.trans (h12.mono hw.size)⟩
      obtain ⟨ab, ao, hA, la9, hcc⟩ := (HA0.out.below hw) (by omega)
      obtain ⟨g0, g1, g2⟩ := hcc i hlt
      obtain ⟨a, ha⟩ : ∃ a, a = l.getD i ac0 := ⟨_, rfl⟩
      rw [← ha] at g0 g1 g2
      obtain ⟨sy, av, bv⟩ := a
      unfold u8v at g1 g2
      dsimp only at g0 g1 g2
      subst hA
      clear hcc ha
      have k0 : (0 : Int) ≤ (i : Int) := by omega
      have k1 : (i : Int) < (l.length : Int) := by omega
      have k2 : (av.toNat : Int) ≤ 255 := by have := av.toNat_lt; omega
      cases sy
      case false =>
        go_upto_region 17 with (fail)
        obtain ⟨W6, hW6⟩ : ∃ W, W = wr.alloc (.cells #[.bool false, .int .u8 (av.toNat : Int), .int .u8 (bv.toNat : Int)] 46) := ⟨_, rfl⟩
        rw [← hW6]
        have hb : Below wr.heap.size wr W6 := by rw [hW6]; exact (Below.refl _ _).alloc (Nat.le_refl _) _
        have x14 : Blk W6 wr.heap.size 46 #[.bool false, .int .u8 (av.toNat : Int), .int .u8 (bv.toNat : Int)] := by rw [hW6]; exact Blk.new wr 46 _
        clear hW6
        replace r5 := r5.below hb
        replace q5 := q5.below hb
        replace x5 := x5.below hb x5.lt
        replace x8 := x8.below hb x8.lt
        replace x9 := x9.below hb x9.lt
        replace x10 := x10.below hb x10.lt
        replace hown := ow_below hown hb
        replace hbs := Nat.le_trans hbs hb.size
        replace hw := hw.trans (hb.mono hw.size)
        clear hb
        have l14 := x14.lt
        have hwr := his_write (room := room) (ws := ws) HHV.out.1 (by omega) (by omega) (⟨false, av, bv⟩ : Ac)
        rw [← HOD.out] at hwr
        obtain ⟨ox, hox⟩ : ∃ o, o = hisD secs (ws ++ [⟨false, av, bv⟩]) room := ⟨_, rfl⟩
        rw [← hox] at hwr
        have ewr : IntKind.i64.wrap (((av.toNat : Nat) : Int).tmod 4) = ((⟨false, av, bv⟩ : Ac).pos : Int) := by
         show IntKind.i64.wrap ((av.toNat % 4 : Nat) : Int) = ((av.toNat % 4 : Nat) : Int)
         exact IntWalk.i64_in _ (by omega)
        rw [← ewr] at hwr
        have HOX := Lib.hid hox
        have HWR := Lib.hid hwr
        clear hox hwr ewr
        have e5 : od.secs.length ≤ 9000 := by rw [HOS.out]; omega
        have e6 : od.pend.length ≤ 9000 := by rw [HOP.out]; omega
        have x5c0 := x5.cell 0
        have x5c1 := x5.cell 1
        have x5c2 := x5.cell 2
        have x5c3 := x5.cell 3
        simp only [List.getElem?_toArray, List.getElem?_cons_zero, List.getElem?_cons_succ] at x5c0 x5c1 x5c2 x5c3
        have x5l := x5.lt
        have c141 := x14.cell 1
        have c142 := x14.cell 2
        simp only [List.getElem?_toArray, List.getElem?_cons_zero, List.getElem?_cons_succ] at c141 c142
        go_cut [15, 16] (fun s15 s16 wx => s16 = .int .i64 0 ∧ ∃ B15, s15 = .pointer (some ⟨B15, 0, none⟩) ∧ DkB n₀ wx B15 ox ∧ Below W6.heap.size W6 wx ∧ W6.heap.size ≤ B15)
        case first =>
          have hks : ∀ W : World, Below W6.heap.size W6 W → W.cell? ⟨C5, 0, none⟩ = some (.slice S5 od.secs.length s5) ∧ W.cell? ⟨C5, 1, none⟩ = some (.slice P5 od.pend.length p5) ∧ W.cell? ⟨C5, 2, none⟩ = some (.int .i64 od.left) ∧ W.cell? ⟨C5, 3, none⟩ = some (.bool od.stop) ∧ W.cell? ⟨wr.heap.size, 1, none⟩ = some (.int .u8 (av.toNat : Int)) ∧ W.cell? ⟨wr.heap.size, 2, none⟩ = some (.int .u8 (bv.toNat : Int)) := fun W hb => ⟨(x5.below hb x5l).cell 0, (x5.below hb x5l).cell 1, (x5.below hb x5l).cell 2, (x5.below hb x5l).cell 3, (x14.below hb l14).cell 1, (x14.below hb l14).cell 2⟩
          have HKS := Lib.hid hks
          have HX5 := Lib.hid x5
          have HX14 := Lib.hid x14
          clear hks x5 x14 hown x8 x9 x10
          go_region_held3 (fun W => W.cell? ⟨C5, 0, none⟩ = some (.slice S5 od.secs.length s5) ∧ W.cell? ⟨C5, 1, none⟩ = some (.slice P5 od.pend.length p5) ∧ W.cell? ⟨C5, 2, none⟩ = some (.int .i64 od.left) ∧ W.cell? ⟨C5, 3, none⟩ = some (.bool od.stop) ∧ W.cell? ⟨wr.heap.size, 1, none⟩ = some (.int .u8 (av.toNat : Int)) ∧ W.cell? ⟨wr.heap.size, 2, none⟩ = some (.int .u8 (bv.toNat : Int))) ((refine HKS.out _ ?_; repeat (first | with_reducible exact h12 | with_reducible exact h40 | with_reducible exact Below.refl _ _ | refine Below.drew ?_ | refine Below.alloc ?_ (by first | (simp <;> omega) | (have := h12.size; simp <;> omega) | (have := h40.size; simp <;> omega)) _ | refine Below.setCell ?_ (by first | (simp <;> omega) | (have := h12.size; simp <;> omega) | (have := h40.size; simp <;> omega)) _)))
            (first | (go_at_call 40; refine (double_t bv _).mono ?_; rintro e wd ⟨gd, rfl, xd, hgd, hbd⟩; have h40 : Below W6.heap.size W6 wd := Below.trans (by repeat (first | with_reducible exact Below.refl _ _ | refine Below.drew ?_ | refine Below.alloc ?_ (by first | (simp <;> omega) | (have := h12.size; simp <;> omega) | (have := h40.size; simp <;> omega)) _)) (Below.mono hbd (by simp <;> omega)); first | (have td : Blk wd W6.heap.size 25 #[.slice none 0 0, .slice none 0 0, .int .i64 0, .bool false] := Blk.below (W := (W6.alloc (.cells #[.slice none 0 0, .slice none 0 0, .int .i64 0, .bool false] 25)).drew) (Blk.new W6 25 _) (by with_reducible exact hbd) (by simp)) | skip) | (go_at_call 32; refine (th_write W6 _ (dblB_len bv) e5 e6 hs5 r5 q5 (by repeat (first | with_reducible exact h40 | with_reducible exact Below.refl _ _ | refine Below.drew ?_ | refine Below.alloc ?_ (by first | (simp <;> omega) | (have := h12.size; simp <;> omega) | (have := h40.size; simp <;> omega)) _)) (by first | with_reducible exact xd | with_reducible exact xd.alloc _) HWR.out).mono ?_; rintro e w12 ⟨v12, rfl, ⟨S12, s12, P12, p12, rfl, hs12, hp12, r12, q12⟩, hb12⟩; have h12 : Below W6.heap.size W6 w12 := Below.trans (by repeat (first | with_reducible exact h40 | with_reducible exact Below.refl _ _ | refine Below.drew ?_ | refine Below.alloc ?_ (by first | (simp <;> omega) | (have := h12.size; simp <;> omega) | (have := h40.size; simp <;> omega)) _)) (Below.mono hb12 (by have := h40.size; simp <;> omega)); have HR12 := Lib.hid r12; have HQ12 := Lib.hid q12; clear r12 q12; first | (have t12 : Blk w12 W6.heap.size 25 #[.slice none 0 0, .slice none 0 0, .int .i64 0, .bool false] := Blk.below td (by with_reducible exact hb12) td.lt; have t0 := t12.cell 0; have f0 := t12.frozen 0; have t1 := t12.cell 1; have f1 := t12.frozen 1; have t2 := t12.cell 2; have f2 := t12.frozen 2; have t3 := t12.cell 3; have f3 := t12.frozen 3; simp only [List.getElem?_toArray, List.getElem?_cons_zero, List.getElem?_cons_succ] at t0 t1 t2 t3) | (have t12 : Blk w12 wd.heap.size 25 #[.slice none 0 0, .slice none 0 0, .int .i64 0, .bool false] := Blk.below (W := wd.alloc (.cells #[.slice none 0 0, .slice none 0 0, .int .i64 0, .bool false] 25)) (Blk.new wd 25 _) (by with_reducible exact hb12) (by simp); have t0 := t12.cell 0; have f0 := t12.frozen 0; have t1 := t12.cell 1; have f1 := t12.frozen 1; have t2 := t12.cell 2; have f2 := t12.frozen 2; have t3 := t12.cell 3; have f3 := t12.frozen 3; simp only [List.getElem?_toArray, List.getElem?_cons_zero, List.getElem?_cons_succ] at t0 t1 t2 t3) | skip))
          all_goals
           go_wp2_with (fail)
           go_meet
           have hs12 : ox.secs.length ≤ s12 := hs12
           have hp12 : ox.pend.length ≤ p12 := hp12
           have h40s := h40.size
           have h12s := h12.size
           refine ⟨rfl, _, rfl, ?_, ?_, ?_⟩
           · first | with_reducible exact box_new hs12 hp12 HR12.out HQ12.out | exact box_put t12 (by omega) hs12 hp12 HR12.out HQ12.out
           · repeat (first | exact h12 | refine Below.setCell ?_ (by simp <;> omega) _ | refine Below.alloc ?_ (by omega) _)
           · (first | omega | (simp <;> omega))
        case rest =>
          obtain ⟨rfl, B15, rfl, ⟨S15, s15, P15, p15, x15, hs15, hp15, r15, q15⟩, hb, lB15⟩ := hcut
          clear c141 c142
          have l15 : C5 < B15 := Nat.lt_of_lt_of_le x5l lB15
          replace r5 := r5.below hb
          replace q5 := q5.below hb
          replace x5 := x5.below hb x5.lt
          replace x8 := x8.below hb x8.lt
          replace x9 := x9.below hb x9.lt
          replace x10 := x10.below hb x10.lt
          replace x14 := x14.below hb x14.lt
          replace hown := ow_below hown hb
          replace hbs := Nat.le_trans hbs hb.size
          replace hw := hw.trans (hb.mono hw.size)
          clear x5c0 x5c1 x5c2 x5c3 x5l
          clear hb
          have x15c0 := x15.cell 0
          have x15c1 := x15.cell 1
          have x15c2 := x15.cell 2
          have x15c3 := x15.cell 3
          simp only [List.getElem?_toArray, List.getElem?_cons_zero, List.getElem?_cons_succ] at x15c0 x15c1 x15c2 x15c3
          have x15l := x15.lt
          have x5c0 := x5.cell 0
          have x5f0 := x5.frozen 0
          have x5c1 := x5.cell 1
          have x5f1 := x5.frozen 1
          have x5c2 := x5.cell 2
          have x5f2 := x5.frozen 2
          have x5c3 := x5.cell 3
          have x5f3 := x5.frozen 3
          simp only [List.getElem?_toArray, List.getElem?_cons_zero, List.getElem?_cons_succ] at x5c0 x5c1 x5c2 x5c3
          have x5l := x5.lt
          go_upto_region 21 with (fail)
          obtain ⟨W7, hW7⟩ : ∃ W, W = ((((wc.setCell ⟨C5, 0, none⟩ (.slice S15 ox.secs.length s15)).setCell ⟨C5, 1, none⟩ (.slice P15 ox.pend.length p15)).setCell ⟨C5, 2, none⟩ (.int .i64 ox.left)).setCell ⟨C5, 3, none⟩ (.bool ox.stop)) := ⟨_, rfl⟩
          rw [← hW7]
          have hk : Keep (fun r => r = C5) wc W7 := by rw [hW7]; repeat (first | with_reducible exact Keep.refl _ _ | refine Keep.setCell ?_ (fun _ => by simp) _)
          have hm := Boxes.one (n₀ := n₀) x5 rfl hnC
          replace r15 := r15.keep hk hm
          replace q15 := q15.keep hk hm
          replace x8 := x8.keep hk (fun h => by omega)
          replace x9 := x9.keep hk (fun h => by omega)
          replace x10 := x10.keep hk (fun h => by omega)
          replace x14 := x14.keep hk (fun h => by omega)
          replace x15 := x15.keep hk (fun h => by omega)
          replace hown := own_keep hown hk (fun r hr h => by omega)
          replace hbs := Nat.le_trans hbs hk.size
          replace x5 : Blk W7 C5 25 #[.slice S15 ox.secs.length s15, .slice P15 ox.pend.length p15, .int .i64 ox.left, .bool ox.stop] := by rw [hW7]; exact ((((x5.set 0 (.slice S15 ox.secs.length s15)).set 1 (.slice P15 ox.pend.length p15)).set 2 (.int .i64 ox.left)).set 3 (.bool ox.stop))
          replace hw := hw.trans (hk.below hw.size (fun r hr h => by omega))
          clear x15c0 x15c1 x15c2 x15c3 x15l x5f0 x5f1 x5f2 x5f3 x5c0 x5c1 x5c2 x5c3 x5l
          clear hW7 hk hm
          clear x15 l15 lB15
          have c141 := x14.cell 1
          have c142 := x14.cell 2
          simp only [List.getElem?_toArray, List.getElem?_cons_zero, List.getElem?_cons_succ] at c141 c142
          obtain ⟨av4, hav4⟩ : ∃ n, n = av.toNat % 4 := ⟨_, rfl⟩
          have h8l := HHV.out.2.1
          obtain ⟨cv8, hcv8⟩ : ∃ v, W7.cell? ⟨B8, av.toNat % 4, none⟩ = some v := by
            rw [x8.cell, List.getElem?_toArray]
            refine ⟨_, List.getElem?_eq_getElem ?_⟩
            have := Nat.mod_lt av.toNat (show 0 < 4 by decide)
            rw [bcells_len]
            omega
          have hf8 := x8.frozen (av.toNat % 4)
          go_upto_region 22 with (fail)
          obtain ⟨W8, hW8⟩ : ∃ W, W = W7.setCell ⟨B8, av.toNat % 4, none⟩ (.int .u8 (bv.toNat : Int)) := ⟨_, rfl⟩
          rw [← hW8]
          have hk : Keep (fun r => r = B8) W7 W8 := by rw [hW8]; exact (Keep.refl (fun r => r = B8) _).setCell (fun _ => rfl) _
          have hm := Boxes.one (n₀ := n₀) x8 rfl (Nat.le_trans hnC (by omega))
          replace r15 := r15.keep hk hm
          replace q15 := q15.keep hk hm
          replace x5 := x5.keep hk (fun h => by omega)
          replace x9 := x9.keep hk (fun h => by omega)
          replace x10 := x10.keep hk (fun h => by omega)
          replace x14 := x14.keep hk (fun h => by omega)
          replace hown := own_keep hown hk (fun r hr h => by omega)
          replace x8 : Blk W8 B8 44 (bcells ((la).set (av.toNat % 4) bv)).toArray := by rw [hW8, ← bcells_set]; exact x8.set _ _
          replace hw := hw.trans (hk.below hw.size (fun r hr h => by omega))
          replace hbs := Nat.le_trans hbs hk.size
          clear hW8 hk hm
          have h8n : (la.set (av.toNat % 4) bv).length = 4 := by rw [List.length_set]; exact h8l
          clear hcv8 hf8 c141 c142
          obtain ⟨i0, hi0, hz0, hz1, hz2⟩ := info_parts info46
          have c140 := x14.cell 0
          have c141 := x14.cell 1
          have c142 := x14.cell 2
          simp only [List.getElem?_toArray, List.getElem?_cons_zero, List.getElem?_cons_succ] at c140 c141 c142
          go_upto_region 38 with (at_builtin; refine wpList_append_own _ rfl (.tmp 80) (.tmp 82) 43 rfl base 46 i0 (.agg #[.bool false, .int .u8 0, .int .u8 0]) 3 3 Try.underlying43 hi0 hz0 hz1 hz2 rfl (by decide) _ ws.length (acs ws) rfl (hown.alloc _) ⟨W8.heap.size, 0, none⟩ 1 1 (acV ⟨false, av, bv⟩) rfl rfl (cell_new_ac ⟨false, av, bv⟩ rfl) (acv_one _) (by simp [maxLen]; omega) (by omega) (by simp <;> omega) ?_; intro v9 w9 hown9 hgrow9 _)
          have hk9 : Keep (fun r => u11.ownBlock = some r) W8 w9 := ((Keep.refl (fun r => u11.ownBlock = some r) _).alloc _).grown hgrow9 (fun k hk _ => hk)
          have hm9 := own_boxes hown hnb
          replace r15 := r15.keep hk9 hm9
          replace q15 := q15.keep hk9 hm9
          clear x14 c140 c141 c142
          replace x5 := x5.keep hk9 (own_bound hown (by omega))
          replace x8 := x8.keep hk9 (own_bound hown (by omega))
          replace x9 := x9.keep hk9 (own_bound hown (by omega))
          replace x10 := x10.keep hk9 (own_bound hown (by omega))
          replace hw := hw.trans (hk9.below hw.size (fun r hr => own_bound hown (by omega)))
          replace hbs := Nat.le_trans hbs hk9.size
          clear hown hk9 hm9 hgrow9
          have hown := hown9
          clear hown9
          have hown2 : w9.ownsRow base 46 3 v9 (ws ++ [(⟨false, av, bv⟩ : Ac)]).length (acs (ws ++ [(⟨false, av, bv⟩ : Ac)])) := by rw [acs_append]; simpa [acs] using hown
          clear hown
          have hown := hown2
          clear hown2
          have hrx : Runs ox := by rw [HOX.out]; exact his_runs (room := room) (ws := ws ++ [⟨false, av, bv⟩]) HHV.out.1 (by rw [List.length_append, List.length_singleton]; omega) (by omega)
          have hlx : Ls ox (la.set (av.toNat % 4) bv) := by rw [HOX.out]; exact HHV.out.2.write ⟨false, av, bv⟩
          have hsx : ox.secs.length = 4 := by rw [HOX.out]; exact HHV.out.1.1
          have HRX := Lib.hid hrx
          have HLX := Lib.hid hlx
          have HSX := Lib.hid hsx
          clear hrx hlx hsx
          obtain ⟨lb, hlb⟩ : ∃ x, x = la.set (av.toNat % 4) bv := ⟨_, rfl⟩
          rw [← hlb] at x8 h8n HLX
          obtain ⟨y0, y1, y2, y3, hy4⟩ := four h8n
          have y8 : Blk w9 B8 44 #[.int .u8 (y0.toNat : Int), .int .u8 (y1.toNat : Int), .int .u8 (y2.toNat : Int), .int .u8 (y3.toNat : Int)] := by have h := x8; rw [hy4] at h; exact h
          have y8c0 := y8.cell 0
          have y8c1 := y8.cell 1
          have y8c2 := y8.cell 2
          have y8c3 := y8.cell 3
          simp only [List.getElem?_toArray, List.getElem?_cons_zero, List.getElem?_cons_succ] at y8c0 y8c1 y8c2 y8c3
          have y8l := y8.lt
          have x5c0 := x5.cell 0
          have x5c1 := x5.cell 1
          have x5c2 := x5.cell 2
          have x5c3 := x5.cell 3
          simp only [List.getElem?_toArray, List.getElem?_cons_zero, List.getElem?_cons_succ] at x5c0 x5c1 x5c2 x5c3
          have x5l := x5.lt
          clear hlb
          go_wp2_with (fail)
          have K : Calls Try.prog 41 #[.agg #[.slice S15 ox.secs.length s15, .slice P15 ox.pend.length p15, .int .i64 ox.left, .bool ox.stop], .agg #[.int .u8 (y0.toNat : Int), .int .u8 (y1.toNat : Int), .int .u8 (y2.toNat : Int), .int .u8 (y3.toNat : Int)], .agg #[.int .u8 (y0.toNat : Int), .int .u8 (y1.toNat : Int), .int .u8 (y2.toNat : Int), .int .u8 (y3.toNat : Int)]] w9 (fun e w' => e = .returned (.bool true) ∧ Below w9.heap.size w9 w') := by have h := his_holds (s0 := s15) (p0 := p15) w9 HRX.out HSX.out HLX.out r15 q15; rw [hy4] at h; exact h
          go_at_call 41
          refine K.mono ?_
          rintro e w9 ⟨rfl, hb⟩
          clear K
          replace r15 := r15.below hb
          replace q15 := q15.below hb
          replace x5 := x5.below hb x5.lt
          replace x8 := x8.below hb x8.lt
          replace x9 := x9.below hb x9.lt
          replace x10 := x10.below hb x10.lt
          replace y8 := y8.below hb y8.lt
          replace hown := ow_below hown hb
          replace hbs := Nat.le_trans hbs hb.size
          replace hw := hw.trans (hb.mono hw.size)
          clear y8c0 y8c1 y8c2 y8c3 y8l x5c0 x5c1 x5c2 x5c3 x5l
          clear hb
          go_wp2_with (fail)
          go_roundw
          case rel =>
            exact ⟨i + 1, room, secs, ws ++ [⟨false, av, bv⟩], f, s, lb, by omega, by go_num, by go_num, by omega, by simp; omega, Lib.hid ⟨HHV.out.1, by have h := HLX.out; rw [HOX.out] at h; exact h⟩, hown, by have h : DkB n₀ w9 C5 ox := ⟨S15, s15, P15, p15, x5, hs15, hp15, r15, q15⟩; rw [HOX.out] at h; exact h, x8, x9, x10, hbs, hw⟩
          case measure => simp [intOf]; omega
      case true =>
        go_upto_region 23 with (fail)
        obtain ⟨W6, hW6⟩ : ∃ W, W = wr.alloc (.cells #[.bool true, .int .u8 (av.toNat : Int), .int .u8 (bv.toNat : Int)] 46) := ⟨_, rfl⟩
        rw [← hW6]
        have hb : Below wr.heap.size wr W6 := by rw [hW6]; exact (Below.refl _ _).alloc (Nat.le_refl _) _
        have x14 : Blk W6 wr.heap.size 46 #[.bool true, .int .u8 (av.toNat : Int), .int .u8 (bv.toNat : Int)] := by rw [hW6]; exact Blk.new wr 46 _
        clear hW6
        replace r5 := r5.below hb
        replace q5 := q5.below hb
        replace x5 := x5.below hb x5.lt
        replace x8 := x8.below hb x8.lt
        replace x9 := x9.below hb x9.lt
        replace x10 := x10.below hb x10.lt
        replace hown := ow_below hown hb
        replace hbs := Nat.le_trans hbs hb.size
        replace hw := hw.trans (hb.mono hw.size)
        clear hb
        clear x14
        clear g0 g1 g2
        by_cases hst : room < ws.length
        case pos =>
          have hsy := his_sync_torn (secs := secs) (ws := ws) (room := room) HHV.out.1 (by omega) (by omega) hst
          rw [← HOD.out] at hsy
          obtain ⟨zd, hzd⟩ : ∃ z, z = (⟨tornL secs (ws.map wrOf) room, [], 0, true⟩ : Dk) := ⟨_, rfl⟩
          rw [← hzd] at hsy
          have hzv : Hv zd.secs (upd f (ws.take (room + 1))) (upd s (ws.take room)) := by rw [hzd]; exact HHV.out.1.tornL ws room hst
          have hzs : zd.stop = true := by rw [hzd]
          have HSY := Lib.hid hsy
          have HZV := Lib.hid hzv
          have HZS := Lib.hid hzs
          clear hzd hsy hzv hzs
          have x5c0 := x5.cell 0
          have x5c1 := x5.cell 1
          have x5c2 := x5.cell 2
          have x5c3 := x5.cell 3
          simp only [List.getElem?_toArray, List.getElem?_cons_zero, List.getElem?_cons_succ] at x5c0 x5c1 x5c2 x5c3
          have x5l := x5.lt
          go_wp2_with (fail)
          have K : Calls Try.prog 36 #[.agg #[.slice S5 od.secs.length s5, .slice P5 od.pend.length p5, .int .i64 od.left, .bool od.stop]] W6 (DkIs n₀ W6 ((zd, 40))) := by rw [← HSY.out]; exact sync_t S5 P5 s5 p5 od W6 (by rw [HOS.out]; omega) (by rw [HOP.out]; omega) hp5 r5 q5
          go_at_call 36
          refine K.mono ?_
          rintro e w7 ⟨v36, rfl, ⟨S36, s36, P36, p36, rfl, hs36, hp36, r36, q36⟩, hb⟩
          clear K
          replace r5 := r5.below hb
          replace q5 := q5.below hb
          replace x5 := x5.below hb x5.lt
          replace x8 := x8.below hb x8.lt
          replace x9 := x9.below hb x9.lt
          replace x10 := x10.below hb x10.lt
          replace hown := ow_below hown hb
          replace hbs := Nat.le_trans hbs hb.size
          replace hw := hw.trans (hb.mono hw.size)
          clear x5c0 x5c1 x5c2 x5c3 x5l
          clear hb
          go_upto_region 24 with (fail)
          have l17 : base ≤ w7.heap.size := hbs
          obtain ⟨B17, hB17⟩ : ∃ B, B = w7.heap.size := ⟨_, rfl⟩
          obtain ⟨W8, hW8⟩ : ∃ W, W = w7.alloc (.cells #[.slice S36 zd.secs.length s36, .slice P36 zd.pend.length p36, .int .i64 zd.left, .bool zd.stop] 25) := ⟨_, rfl⟩
          rw [← hW8]
          have hb : Below w7.heap.size w7 W8 := by rw [hW8]; exact (Below.refl _ _).alloc (Nat.le_refl _) _
          have x17 : Blk W8 w7.heap.size 25 #[.slice S36 zd.secs.length s36, .slice P36 zd.pend.length p36, .int .i64 zd.left, .bool zd.stop] := by rw [hW8]; exact Blk.new w7 25 _
          clear hW8
          replace r5 := r5.below hb
          replace q5 := q5.below hb
          replace r36 := r36.below hb
          replace q36 := q36.below hb
          replace x5 := x5.below hb x5.lt
          replace x8 := x8.below hb x8.lt
          replace x9 := x9.below hb x9.lt
          replace x10 := x10.below hb x10.lt
          replace hown := ow_below hown hb
          replace hbs := Nat.le_trans hbs hb.size
          replace hw := hw.trans (hb.mono hw.size)
          clear hb
          rw [← hB17] at x17 l17
          rw [← hB17]
          clear hB17
          obtain ⟨A11, c11, rfl, hc11⟩ := own_slice hown
          have dgt : decide ((room : Int) < (ws.length : Int)) = true := decide_eq_true (by omega)
          go_upto_block 2 with (fail)
          go_cut [] (fun wx => Blk wx B9 44 (bcells (upd f (ws.take (room + 1)))).toArray ∧ Blk wx B10 44 (bcells (upd s (ws.take room))).toArray ∧ Keep (fun r => r = B9 ∨ r = B10) W8 wx)
          case first =>
            go_wp2_with (fail)
            go_loopw [20] (fun v20 wr2 => ∃ k : Nat, k ≤ room + 1 ∧ v20 = .int .i64 k ∧ Blk wr2 B9 44 (bcells (upd f (ws.take k))).toArray ∧ Blk wr2 B10 44 (bcells (upd s (ws.take (min k room)))).toArray ∧ Keep (fun r => r = B9 ∨ r = B10) W8 wr2) (fun v20 _ => room + 1 - (intOf v20).toNat)
            case atStart => exact ⟨0, by omega, rfl, x9, by rw [show (min 0 room : Nat) = 0 by omega]; exact x10, Keep.refl _ _⟩
            case round =>
              clear x9 x10
              obtain ⟨k, hk, rfl, x9, x10, hkp⟩ := hrel
              by_cases hlk : k < room + 1
              case neg =>
                have hke : k = room + 1 := by omega
                rw [hke] at x9 x10
                rw [Nat.min_eq_right (show room ≤ room + 1 by omega)] at x10
                have HE := Lib.hid (And.intro x9 (And.intro x10 hkp))
                have hk0 : (0 : Int) ≤ (k : Int) := by omega
                have hkr : ¬ (k : Int) ≤ (room : Int) := by omega
                clear x9 x10 hkp hke hk hlk
                by_cases hk2 : (k : Int) < (ws.length : Int)
                all_goals
                 go_wp2_with (fail)
                 go_meet
                 exact HE.out
              have hkl : k < ws.length := by omega
              have hown3 := own_keep hown hkp (fun r hr h => by rcases h with h | h <;> omega)
              obtain ⟨g11, rfl, hg11, hg12⟩ := own_some hown3 (by omega)
              have z1 := hown3.cellAt (k * 3 + 1) (by omega)
              have z2 := hown3.cellAt (k * 3 + 2) (by omega)
              rw [(acs_get ws k hkl).1] at z1
              rw [(acs_get ws k hkl).2] at z2
              have eup : upd f (ws.take (k + 1)) = (upd f (ws.take k)).set (ws.getD k ac0).pos (ws.getD k ac0).byte := by rw [take_snocA ws k hkl, upd_snoc]
              have euq : upd s (ws.take (k + 1)) = (upd s (ws.take k)).set (ws.getD k ac0).pos (ws.getD k ac0).byte := by rw [take_snocA ws k hkl, upd_snoc]
              obtain ⟨wt, hwt⟩ : ∃ a, a = ws.getD k ac0 := ⟨_, rfl⟩
              rw [← hwt] at z1 z2 eup euq
              obtain ⟨wsy, wa, wb⟩ := wt
              unfold u8v at z1 z2
              dsimp only at z1 z2
              clear hwt
              have eup2 : upd f (ws.take (k + 1)) = (upd f (ws.take k)).set (wa.toNat % 4) wb := eup
              have euq2 : upd s (ws.take (k + 1)) = (upd s (ws.take k)).set (wa.toNat % 4) wb := euq
              have EUP := Lib.hid eup2
              have EUQ := Lib.hid euq2
              clear eup euq eup2 euq2
              have kw : (wa.toNat : Int) ≤ 255 := by have := wa.toNat_lt; omega
              have kk0 : (0 : Int) ≤ (k : Int) := by omega
              have kk1 : (k : Int) < (ws.length : Int) := by omega
              have hf4 : (upd f (ws.take k)).length = 4 := by rw [upd_len]; exact HHV.out.1.2.1
              have hs4 : (upd s (ws.take (min k room))).length = 4 := by rw [upd_len]; exact HHV.out.1.2.2.1
              go_upto_region 28 with (fail)
              obtain ⟨cv, hcv⟩ : ∃ v, wr.cell? ⟨B9, wa.toNat % 4, none⟩ = some v := by
                rw [x9.cell, List.getElem?_toArray]
                refine ⟨_, List.getElem?_eq_getElem ?_⟩
                have := Nat.mod_lt wa.toNat (show 0 < 4 by decide)
                rw [bcells_len, hf4]
                omega
              have hfc := x9.frozen (wa.toNat % 4)
              go_cut [] (fun wx => Blk wx B9 44 (bcells (upd f (ws.take (k + 1)))).toArray ∧ Keep (fun r => r = B9) wr wx)
              case first =>
                have hbx : Blk (wr.setCell ⟨B9, wa.toNat % 4, none⟩ (.int .u8 (wb.toNat : Int))) B9 44 (bcells (upd f (ws.take (k + 1)))).toArray := by
                  have h := x9.set (wa.toNat % 4) (.int .u8 (wb.toNat : Int))
                  rw [EUP.out, ← bcells_set]
                  exact h
                have hkx : Keep (fun r => r = B9) wr (wr.setCell ⟨B9, wa.toNat % 4, none⟩ (.int .u8 (wb.toNat : Int))) := (Keep.refl (fun r => r = B9) _).setCell (fun _ => rfl) _
                have HBX := Lib.hid hbx
                have HKX := Lib.hid hkx
                clear hbx hkx
                go_region
                all_goals
                  (try go_wp2_with (fail))
                  go_meet
                  exact ⟨HBX.out, HKX.out.drew⟩
              case rest =>
                obtain ⟨x9n, hk9⟩ := hcut
                have z1n := (hk9.cell (p := ⟨g11, _, none⟩) hg12 (show ¬ g11 = B9 by omega)).trans z1
                have z2n := (hk9.cell (p := ⟨g11, _, none⟩) hg12 (show ¬ g11 = B9 by omega)).trans z2
                have hg13 := Nat.lt_of_lt_of_le hg12 hk9.size
                have x10n := x10.keep hk9 (fun h => by omega)
                replace hkp := hkp.then hk9 (fun r _ h => .inl h)
                clear hcv hfc x9 x10 z1 z2 hk9 hown3
                by_cases hk3 : k < room
                case pos =>
                  have x10m := x10n
                  clear x10n
                  rw [Nat.min_eq_left (show k ≤ room by omega)] at x10m hs4
                  go_upto_region 30 with (fail)
                  obtain ⟨cv, hcv⟩ : ∃ v, wc.cell? ⟨B10, wa.toNat % 4, none⟩ = some v := by
                    rw [x10m.cell, List.getElem?_toArray]
                    refine ⟨_, List.getElem?_eq_getElem ?_⟩
                    have := Nat.mod_lt wa.toNat (show 0 < 4 by decide)
                    rw [bcells_len, hs4]
                    omega
                  have hfc := x10m.frozen (wa.toNat % 4)
                  have hq : Blk (wc.setCell ⟨B10, wa.toNat % 4, none⟩ (.int .u8 (wb.toNat : Int))) B9 44 (bcells (upd f (ws.take (k + 1)))).toArray ∧ Blk (wc.setCell ⟨B10, wa.toNat % 4, none⟩ (.int .u8 (wb.toNat : Int))) B10 44 (bcells (upd s (ws.take (min (k + 1) room)))).toArray ∧ Keep (fun r => r = B9 ∨ r = B10) W8 (wc.setCell ⟨B10, wa.toNat % 4, none⟩ (.int .u8 (wb.toNat : Int))).drew := by
                    have hkx : Keep (fun r => r = B10) wc (wc.setCell ⟨B10, wa.toNat % 4, none⟩ (.int .u8 (wb.toNat : Int))) := (Keep.refl (fun r => r = B10) _).setCell (fun _ => rfl) _
                    refine ⟨x9n.keep hkx (fun h => by omega), ?_, (hkp.then hkx (fun r _ h => .inr h)).drew⟩
                    rw [Nat.min_eq_left (show k + 1 ≤ room by omega)]
                    rw [EUQ.out, ← bcells_set]
                    exact x10m.set _ _
                  have HQ := Lib.hid hq
                  clear hq x9n x10m hkp
                  go_region
                  all_goals
                    (try go_wp2_with (fail))
                    go_roundw
                    case rel =>
                      obtain ⟨x9q, x10q, hkq⟩ := HQ.out
                      exact ⟨k + 1, by omega, by go_num, x9q, x10q, hkq⟩
                    case measure => simp [intOf]; omega
                case neg =>
                  obtain rfl : k = room := by omega
                  have HQ := Lib.hid (And.intro x9n (And.intro x10n hkp))
                  clear x9n x10n hkp
                  go_wp2_with (fail)
                  go_roundw
                  case rel =>
                    obtain ⟨x9q, x10q, hkq⟩ := HQ.out
                    refine ⟨k + 1, by omega, by go_num, x9q, ?_, hkq⟩
                    rw [Nat.min_eq_right (show k ≤ k + 1 by omega)]
                    rw [Nat.min_self] at x10q
                    exact x10q
                  case measure => simp [intOf] <;> omega
          case rest =>
            obtain ⟨x9n, x10n, hkp⟩ := hcut
            have hm := Boxes.two (n₀ := n₀) x9 rfl (show n₀ ≤ B9 by omega) x10 rfl (show n₀ ≤ B10 by omega)
            replace r5 := r5.keep hkp hm
            replace q5 := q5.keep hkp hm
            replace r36 := r36.keep hkp hm
            replace q36 := q36.keep hkp hm
            replace x5 := x5.keep hkp (fun h => by omega)
            replace x8 := x8.keep hkp (fun h => by omega)
            replace x17 := x17.keep hkp (fun h => by omega)
            replace hown := own_keep hown hkp (fun r hr h => by rcases h with h | h <;> omega)
            replace hbs := Nat.le_trans hbs hkp.size
            replace hw := hw.trans (hkp.below hw.size (fun r hr h => by rcases h with h | h <;> omega))
            clear x9 x10 hkp hm
            have x9 := x9n
            have x10 := x10n
            clear x9n x10n
            rw [HZS.out] at x17
            have h9l : (upd f (ws.take (room + 1))).length = 4 := by rw [upd_len]; exact HHV.out.1.2.1
            have h10l : (upd s (ws.take room)).length = 4 := by rw [upd_len]; exact HHV.out.1.2.2.1
            have x17c0 := x17.cell 0
            have x17c1 := x17.cell 1
            have x17c2 := x17.cell 2
            have x17c3 := x17.cell 3
            simp only [List.getElem?_toArray, List.getElem?_cons_zero, List.getElem?_cons_succ] at x17c0 x17c1 x17c2 x17c3
            have x17l := x17.lt
            go_upto_region 32 with (fail)
            clear x17c0 x17c1 x17c2 x17c3 x17l
            obtain ⟨f0, f1, f2, f3, hf4⟩ := four h9l
            obtain ⟨e0, e1, e2, e3, he4⟩ := four h10l
            have y9 : Blk wc B9 44 #[.int .u8 (f0.toNat : Int), .int .u8 (f1.toNat : Int), .int .u8 (f2.toNat : Int), .int .u8 (f3.toNat : Int)] := by have h := x9; rw [hf4] at h; exact h
            have y10 : Blk wc B10 44 #[.int .u8 (e0.toNat : Int), .int .u8 (e1.toNat : Int), .int .u8 (e2.toNat : Int), .int .u8 (e3.toNat : Int)] := by have h := x10; rw [he4] at h; exact h
            have hbk : ∀ W' : World, Below wc.heap.size wc W' → Calls Try.prog 41 #[.agg #[.slice S36 zd.secs.length s36, .slice none 0 0, .int .i64 (-1), .bool false], .agg #[.int .u8 (f0.toNat : Int), .int .u8 (f1.toNat : Int), .int .u8 (f2.toNat : Int), .int .u8 (f3.toNat : Int)], .agg #[.int .u8 (e0.toNat : Int), .int .u8 (e1.toNat : Int), .int .u8 (e2.toNat : Int), .int .u8 (e3.toNat : Int)]] W' (fun e w' => e = .returned (.bool true) ∧ Below W'.heap.size W' w') := fun W' hb => by
              have h := back_holds (s0 := s36) wc W' HZV.out r36 hb
              rw [hf4, he4] at h
              exact h
            have x17c0 := x17.cell 0
            have x17c1 := x17.cell 1
            have x17c2 := x17.cell 2
            have x17c3 := x17.cell 3
            simp only [List.getElem?_toArray, List.getElem?_cons_zero, List.getElem?_cons_succ] at x17c0 x17c1 x17c2 x17c3
            have x17l := x17.lt
            have y9c0 := y9.cell 0
            have y9c1 := y9.cell 1
            have y9c2 := y9.cell 2
            have y9c3 := y9.cell 3
            simp only [List.getElem?_toArray, List.getElem?_cons_zero, List.getElem?_cons_succ] at y9c0 y9c1 y9c2 y9c3
            have y9l := y9.lt
            have y10c0 := y10.cell 0
            have y10c1 := y10.cell 1
            have y10c2 := y10.cell 2
            have y10c3 := y10.cell 3
            simp only [List.getElem?_toArray, List.getElem?_cons_zero, List.getElem?_cons_succ] at y10c0 y10c1 y10c2 y10c3
            have y10l := y10.lt
            have hrk : ∀ W' : World, Calls Try.prog 30 #[.agg #[.slice S36 zd.secs.length s36, .slice P36 zd.pend.length p36, .int .i64 zd.left, .bool true]] W' (fun e w' => e = .returned (.agg #[.slice S36 zd.secs.length s36, .slice none 0 0, .int .i64 (-1), .bool false]) ∧ Below W'.heap.size W' w') := fun W' => by
              have h := restart_t S36 P36 s36 p36 zd W'
              rw [HZS.out] at h
              exact h
            have HRK := Lib.hid hrk
            clear hrk
            have hks : ∀ W : World, Below wc.heap.size wc W → W.cell? ⟨B17, 0, none⟩ = some (.slice S36 zd.secs.length s36) ∧ W.cell? ⟨B17, 1, none⟩ = some (.slice P36 zd.pend.length p36) ∧ W.cell? ⟨B17, 2, none⟩ = some (.int .i64 zd.left) ∧ W.cell? ⟨B17, 3, none⟩ = some (.bool true) ∧ W.cell? ⟨B9, 0, none⟩ = some (.int .u8 (f0.toNat : Int)) ∧ W.cell? ⟨B9, 1, none⟩ = some (.int .u8 (f1.toNat : Int)) ∧ W.cell? ⟨B9, 2, none⟩ = some (.int .u8 (f2.toNat : Int)) ∧ W.cell? ⟨B9, 3, none⟩ = some (.int .u8 (f3.toNat : Int)) ∧ W.cell? ⟨B10, 0, none⟩ = some (.int .u8 (e0.toNat : Int)) ∧ W.cell? ⟨B10, 1, none⟩ = some (.int .u8 (e1.toNat : Int)) ∧ W.cell? ⟨B10, 2, none⟩ = some (.int .u8 (e2.toNat : Int)) ∧ W.cell? ⟨B10, 3, none⟩ = some (.int .u8 (e3.toNat : Int)) := fun W hb => ⟨(x17.below hb x17l).cell 0, (x17.below hb x17l).cell 1, (x17.below hb x17l).cell 2, (x17.below hb x17l).cell 3, (y9.below hb y9l).cell 0, (y9.below hb y9l).cell 1, (y9.below hb y9l).cell 2, (y9.below hb y9l).cell 3, (y10.below hb y10l).cell 0, (y10.below hb y10l).cell 1, (y10.below hb y10l).cell 2, (y10.below hb y10l).cell 3⟩
            have HKS := Lib.hid hks
            have HBK := Lib.hid hbk
            have HX := Lib.hid x17
            have HY := Lib.hid (And.intro y9 (And.intro y10 (And.intro x9 x10)))
            clear hks hbk x17 y9 y10 x9 x10 hown
            clear x17c0 x17c1 x17c2 x17c3 x17l y9c0 y9c1 y9c2 y9c3 y9l y10c0 y10c1 y10c2 y10c3 y10l
            go_region_held3 (fun W => W.cell? ⟨B17, 0, none⟩ = some (.slice S36 zd.secs.length s36) ∧ W.cell? ⟨B17, 1, none⟩ = some (.slice P36 zd.pend.length p36) ∧ W.cell? ⟨B17, 2, none⟩ = some (.int .i64 zd.left) ∧ W.cell? ⟨B17, 3, none⟩ = some (.bool true) ∧ W.cell? ⟨B9, 0, none⟩ = some (.int .u8 (f0.toNat : Int)) ∧ W.cell? ⟨B9, 1, none⟩ = some (.int .u8 (f1.toNat : Int)) ∧ W.cell? ⟨B9, 2, none⟩ = some (.int .u8 (f2.toNat : Int)) ∧ W.cell? ⟨B9, 3, none⟩ = some (.int .u8 (f3.toNat : Int)) ∧ W.cell? ⟨B10, 0, none⟩ = some (.int .u8 (e0.toNat : Int)) ∧ W.cell? ⟨B10, 1, none⟩ = some (.int .u8 (e1.toNat : Int)) ∧ W.cell? ⟨B10, 2, none⟩ = some (.int .u8 (e2.toNat : Int)) ∧ W.cell? ⟨B10, 3, none⟩ = some (.int .u8 (e3.toNat : Int))) ((refine HKS.out _ ?_; repeat (first | with_reducible exact h12 | with_reducible exact h40 | with_reducible exact Below.refl _ _ | refine Below.drew ?_)))
              (first | (go_at_call 30; refine (HRK.out _).mono ?_; rintro e wd ⟨rfl, hbd⟩; have h40 : Below wc.heap.size wc wd := Below.trans (by repeat (first | with_reducible exact Below.refl _ _ | refine Below.drew ?_)) (Below.mono hbd (Nat.le_refl _))) | (go_at_call 41; refine (HBK.out _ (by repeat (first | with_reducible exact h40 | refine Below.drew ?_))).mono ?_; rintro e w12 ⟨rfl, hb12⟩; have h12 : Below wc.heap.size wc w12 := Below.trans (by repeat (first | with_reducible exact h40 | refine Below.drew ?_)) (Below.mono hb12 h40.size)))
            all_goals
             go_wp2
             go_ret
             exact ⟨rfl, hw.trans (h12.mono hw.size)⟩
        case neg =>
          have hsy := his_sync_ok (secs := secs) (ws := ws) (room := room) HHV.out.1 (by omega) (by omega) (by omega)
          rw [← HOD.out] at hsy
          have hzv := HHV.out.1.perf ws
          obtain ⟨zs2, hzs2⟩ : ∃ z, z = perfL secs (ws.map wrOf) := ⟨_, rfl⟩
          rw [← hzs2] at hsy hzv
          obtain ⟨rm, hrm⟩ : ∃ n, n = room - ws.length := ⟨_, rfl⟩
          rw [← hrm] at hsy
          obtain ⟨zd, hzd⟩ : ∃ z, z = hisD zs2 [] rm := ⟨_, rfl⟩
          rw [← hzd] at hsy
          have hzl : Ls zd la := by rw [hzd, hzs2]; exact HHV.out.2.sync HHV.out.1
          have hzr : Runs zd := by rw [hzd]; exact his_runs (room := rm) (ws := []) hzv (by simp) (by omega)
          have hzc : zd.secs.length = 4 := by rw [hzd]; exact hzv.1
          have hrl : rm ≤ 255 := by omega
          have hsub : IntKind.i64.wrap ((room : Int) - (ws.length : Int)) = (rm : Int) := by
           have e : (room : Int) - (ws.length : Int) = (rm : Int) := by omega
           rw [e]
           exact IntWalk.i64_in _ (by omega)
          have HSY := Lib.hid hsy
          have HZV := Lib.hid hzv
          have HZL := Lib.hid hzl
          have HZR := Lib.hid hzr
          have HZC := Lib.hid hzc
          have HZD := Lib.hid hzd
          have HSUB := Lib.hid hsub
          clear hzd hsy hzv hzl hzr hzc hzs2 hrm hsub
          have x5c0 := x5.cell 0
          have x5c1 := x5.cell 1
          have x5c2 := x5.cell 2
          have x5c3 := x5.cell 3
          simp only [List.getElem?_toArray, List.getElem?_cons_zero, List.getElem?_cons_succ] at x5c0 x5c1 x5c2 x5c3
          have x5l := x5.lt
          go_wp2_with (fail)
          have K : Calls Try.prog 36 #[.agg #[.slice S5 od.secs.length s5, .slice P5 od.pend.length p5, .int .i64 od.left, .bool od.stop]] W6 (DkIs n₀ W6 ((zd, 0))) := by rw [← HSY.out]; exact sync_t S5 P5 s5 p5 od W6 (by rw [HOS.out]; omega) (by rw [HOP.out]; omega) hp5 r5 q5
          go_at_call 36
          refine K.mono ?_
          rintro e w7 ⟨v36, rfl, ⟨S36, s36, P36, p36, rfl, hs36, hp36, r36, q36⟩, hb⟩
          clear K
          replace r5 := r5.below hb
          replace q5 := q5.below hb
          replace x5 := x5.below hb x5.lt
          replace x8 := x8.below hb x8.lt
          replace x9 := x9.below hb x9.lt
          replace x10 := x10.below hb x10.lt
          replace hown := ow_below hown hb
          replace hbs := Nat.le_trans hbs hb.size
          replace hw := hw.trans (hb.mono hw.size)
          clear x5c0 x5c1 x5c2 x5c3 x5l
          clear hb
          go_upto_region 24 with (fail)
          have l17 : base ≤ w7.heap.size := hbs
          obtain ⟨B17, hB17⟩ : ∃ B, B = w7.heap.size := ⟨_, rfl⟩
          obtain ⟨W8, hW8⟩ : ∃ W, W = w7.alloc (.cells #[.slice S36 zd.secs.length s36, .slice P36 zd.pend.length p36, .int .i64 zd.left, .bool zd.stop] 25) := ⟨_, rfl⟩
          rw [← hW8]
          have hb : Below w7.heap.size w7 W8 := by rw [hW8]; exact (Below.refl _ _).alloc (Nat.le_refl _) _
          have x17 : Blk W8 w7.heap.size 25 #[.slice S36 zd.secs.length s36, .slice P36 zd.pend.length p36, .int .i64 zd.left, .bool zd.stop] := by rw [hW8]; exact Blk.new w7 25 _
          clear hW8
          replace r5 := r5.below hb
          replace q5 := q5.below hb
          replace r36 := r36.below hb
          replace q36 := q36.below hb
          replace x5 := x5.below hb x5.lt
          replace x8 := x8.below hb x8.lt
          replace x9 := x9.below hb x9.lt
          replace x10 := x10.below hb x10.lt
          replace hown := ow_below hown hb
          replace hbs := Nat.le_trans hbs hb.size
          replace hw := hw.trans (hb.mono hw.size)
          clear hb
          rw [← hB17] at x17 l17
          rw [← hB17]
          clear hB17
          obtain ⟨A11, c11, rfl, hc11⟩ := own_slice hown
          have dgt : decide ((room : Int) < (ws.length : Int)) = false := decide_eq_false (by omega)
          go_upto_block 2 with (fail)
          go_cut [] (fun wx => Blk wx B9 44 (bcells (upd f ws)).toArray ∧ Blk wx B10 44 (bcells (upd s ws)).toArray ∧ Keep (fun r => r = B9 ∨ r = B10) W8 wx)
          case first =>
            go_wp2_with (fail)
            go_loopw [20] (fun v20 wr2 => ∃ k : Nat, k ≤ ws.length ∧ v20 = .int .i64 k ∧ Blk wr2 B9 44 (bcells (upd f (ws.take k))).toArray ∧ Blk wr2 B10 44 (bcells (upd s (ws.take (k)))).toArray ∧ Keep (fun r => r = B9 ∨ r = B10) W8 wr2) (fun v20 _ => ws.length - (intOf v20).toNat)
            case atStart => exact ⟨0, by omega, rfl, x9, by rw [show (0 : Nat) = 0 by omega]; exact x10, Keep.refl _ _⟩
            case round =>
              clear x9 x10
              obtain ⟨k, hk, rfl, x9, x10, hkp⟩ := hrel
              by_cases hlk : k < ws.length
              case neg =>
                have hke : k = ws.length := by omega
                rw [hke, List.take_length] at x9 x10
                have HE := Lib.hid (And.intro x9 (And.intro x10 hkp))
                have hk0 : (0 : Int) ≤ (k : Int) := by omega
                have hk2 : ¬ (k : Int) < (ws.length : Int) := by omega
                clear x9 x10 hkp hke hk hlk
                go_wp2_with (fail)
                go_meet
                exact HE.out
              have hkl : k < ws.length := by omega
              have hown3 := own_keep hown hkp (fun r hr h => by rcases h with h | h <;> omega)
              obtain ⟨g11, rfl, hg11, hg12⟩ := own_some hown3 (by omega)
              have z1 := hown3.cellAt (k * 3 + 1) (by omega)
              have z2 := hown3.cellAt (k * 3 + 2) (by omega)
              rw [(acs_get ws k hkl).1] at z1
              rw [(acs_get ws k hkl).2] at z2
              have eup : upd f (ws.take (k + 1)) = (upd f (ws.take k)).set (ws.getD k ac0).pos (ws.getD k ac0).byte := by rw [take_snocA ws k hkl, upd_snoc]
              have euq : upd s (ws.take (k + 1)) = (upd s (ws.take k)).set (ws.getD k ac0).pos (ws.getD k ac0).byte := by rw [take_snocA ws k hkl, upd_snoc]
              obtain ⟨wt, hwt⟩ : ∃ a, a = ws.getD k ac0 := ⟨_, rfl⟩
              rw [← hwt] at z1 z2 eup euq
              obtain ⟨wsy, wa, wb⟩ := wt
              unfold u8v at z1 z2
              dsimp only at z1 z2
              clear hwt
              have eup2 : upd f (ws.take (k + 1)) = (upd f (ws.take k)).set (wa.toNat % 4) wb := eup
              have euq2 : upd s (ws.take (k + 1)) = (upd s (ws.take k)).set (wa.toNat % 4) wb := euq
              have EUP := Lib.hid eup2
              have EUQ := Lib.hid euq2
              clear eup euq eup2 euq2
              have kw : (wa.toNat : Int) ≤ 255 := by have := wa.toNat_lt; omega
              have kk0 : (0 : Int) ≤ (k : Int) := by omega
              have kk1 : (k : Int) < (ws.length : Int) := by omega
              have hf4 : (upd f (ws.take k)).length = 4 := by rw [upd_len]; exact HHV.out.1.2.1
              have hs4 : (upd s (ws.take (k))).length = 4 := by rw [upd_len]; exact HHV.out.1.2.2.1
              go_upto_region 28 with (fail)
              obtain ⟨cv, hcv⟩ : ∃ v, wr.cell? ⟨B9, wa.toNat % 4, none⟩ = some v := by
                rw [x9.cell, List.getElem?_toArray]
                refine ⟨_, List.getElem?_eq_getElem ?_⟩
                have := Nat.mod_lt wa.toNat (show 0 < 4 by decide)
                rw [bcells_len, hf4]
                omega
              have hfc := x9.frozen (wa.toNat % 4)
              go_cut [] (fun wx => Blk wx B9 44 (bcells (upd f (ws.take (k + 1)))).toArray ∧ Keep (fun r => r = B9) wr wx)
              case first =>
                have hbx : Blk (wr.setCell ⟨B9, wa.toNat % 4, none⟩ (.int .u8 (wb.toNat : Int))) B9 44 (bcells (upd f (ws.take (k + 1)))).toArray := by
                  have h := x9.set (wa.toNat % 4) (.int .u8 (wb.toNat : Int))
                  rw [EUP.out, ← bcells_set]
                  exact h
                have hkx : Keep (fun r => r = B9) wr (wr.setCell ⟨B9, wa.toNat % 4, none⟩ (.int .u8 (wb.toNat : Int))) := (Keep.refl (fun r => r = B9) _).setCell (fun _ => rfl) _
                have HBX := Lib.hid hbx
                have HKX := Lib.hid hkx
                clear hbx hkx
                go_region
                all_goals
                  (try go_wp2_with (fail))
                  go_meet
                  exact ⟨HBX.out, HKX.out.drew⟩
              case rest =>
                obtain ⟨x9n, hk9⟩ := hcut
                have z1n := (hk9.cell (p := ⟨g11, _, none⟩) hg12 (show ¬ g11 = B9 by omega)).trans z1
                have z2n := (hk9.cell (p := ⟨g11, _, none⟩) hg12 (show ¬ g11 = B9 by omega)).trans z2
                have hg13 := Nat.lt_of_lt_of_le hg12 hk9.size
                have x10n := x10.keep hk9 (fun h => by omega)
                replace hkp := hkp.then hk9 (fun r _ h => .inl h)
                clear hcv hfc x9 x10 z1 z2 hk9 hown3
                have x10m := x10n
                clear x10n
                go_upto_region 30 with (fail)
                obtain ⟨cv, hcv⟩ : ∃ v, wc.cell? ⟨B10, wa.toNat % 4, none⟩ = some v := by
                  rw [x10m.cell, List.getElem?_toArray]
                  refine ⟨_, List.getElem?_eq_getElem ?_⟩
                  have := Nat.mod_lt wa.toNat (show 0 < 4 by decide)
                  rw [bcells_len, hs4]
                  omega
                have hfc := x10m.frozen (wa.toNat % 4)
                have hq : Blk (wc.setCell ⟨B10, wa.toNat % 4, none⟩ (.int .u8 (wb.toNat : Int))) B9 44 (bcells (upd f (ws.take (k + 1)))).toArray ∧ Blk (wc.setCell ⟨B10, wa.toNat % 4, none⟩ (.int .u8 (wb.toNat : Int))) B10 44 (bcells (upd s (ws.take (k + 1)))).toArray ∧ Keep (fun r => r = B9 ∨ r = B10) W8 (wc.setCell ⟨B10, wa.toNat % 4, none⟩ (.int .u8 (wb.toNat : Int))).drew := by
                  have hkx : Keep (fun r => r = B10) wc (wc.setCell ⟨B10, wa.toNat % 4, none⟩ (.int .u8 (wb.toNat : Int))) := (Keep.refl (fun r => r = B10) _).setCell (fun _ => rfl) _
                  refine ⟨x9n.keep hkx (fun h => by omega), ?_, (hkp.then hkx (fun r _ h => .inr h)).drew⟩
                  rw [EUQ.out, ← bcells_set]
                  exact x10m.set _ _
                have HQ := Lib.hid hq
                clear hq x9n x10m hkp
                go_region
                all_goals
                  (try go_wp2_with (fail))
                  go_roundw
                  case rel =>
                    obtain ⟨x9q, x10q, hkq⟩ := HQ.out
                    exact ⟨k + 1, by omega, by go_num, x9q, x10q, hkq⟩
                  case measure => simp [intOf]; omega
          case rest =>
            obtain ⟨x9n, x10n, hkp⟩ := hcut
            have hm := Boxes.two (n₀ := n₀) x9 rfl (show n₀ ≤ B9 by omega) x10 rfl (show n₀ ≤ B10 by omega)
            replace r5 := r5.keep hkp hm
            replace q5 := q5.keep hkp hm
            replace r36 := r36.keep hkp hm
            replace q36 := q36.keep hkp hm
            replace x5 := x5.keep hkp (fun h => by omega)
            replace x8 := x8.keep hkp (fun h => by omega)
            replace x17 := x17.keep hkp (fun h => by omega)
            replace hown := own_keep hown hkp (fun r hr h => by rcases h with h | h <;> omega)
            replace hbs := Nat.le_trans hbs hkp.size
            replace hw := hw.trans (hkp.below hw.size (fun r hr h => by rcases h with h | h <;> omega))
            clear x9 x10 hkp hm
            have x9 := x9n
            have x10 := x10n
            clear x9n x10n
            have hsub := HSUB.out
            go_upto_region 37 with (fail)
            obtain ⟨W9, hW9⟩ : ∃ W, W = wc.alloc (.cells #[] 46) := ⟨_, rfl⟩
            rw [← hW9]
            have hb : Below wc.heap.size wc W9 := by rw [hW9]; exact (Below.refl _ _).alloc (Nat.le_refl _) _
            have hown2 : W9.ownsRow base 46 3 (.slice (some ⟨wc.heap.size, 0, none⟩) 0 0) ([] : List Ac).length (acs []) := by
              have h := World.ownsRow_lit (base := base) (e := 46) (size := 3) wc #[] 0 hbs (by simp [maxLen]) rfl
              rw [hW9]
              exact h
            clear hW9 hown
            have hown := hown2
            clear hown2 hsub
            replace r5 := r5.below hb
            replace q5 := q5.below hb
            replace r36 := r36.below hb
            replace q36 := q36.below hb
            replace x5 := x5.below hb x5.lt
            replace x8 := x8.below hb x8.lt
            replace x9 := x9.below hb x9.lt
            replace x10 := x10.below hb x10.lt
            replace x17 := x17.below hb x17.lt
            replace hbs := Nat.le_trans hbs hb.size
            replace hw := hw.trans (hb.mono hw.size)
            clear hb
            have x17c0 := x17.cell 0
            have x17c1 := x17.cell 1
            have x17c2 := x17.cell 2
            have x17c3 := x17.cell 3
            simp only [List.getElem?_toArray, List.getElem?_cons_zero, List.getElem?_cons_succ] at x17c0 x17c1 x17c2 x17c3
            have x17l := x17.lt
            have x5c0 := x5.cell 0
            have x5f0 := x5.frozen 0
            have x5c1 := x5.cell 1
            have x5f1 := x5.frozen 1
            have x5c2 := x5.cell 2
            have x5f2 := x5.frozen 2
            have x5c3 := x5.cell 3
            have x5f3 := x5.frozen 3
            simp only [List.getElem?_toArray, List.getElem?_cons_zero, List.getElem?_cons_succ] at x5c0 x5c1 x5c2 x5c3
            have x5l := x5.lt
            go_upto_region 38 with (fail)
            obtain ⟨W10, hW10⟩ : ∃ W, W = ((((W9.setCell ⟨C5, 0, none⟩ (.slice S36 zd.secs.length s36)).setCell ⟨C5, 1, none⟩ (.slice P36 zd.pend.length p36)).setCell ⟨C5, 2, none⟩ (.int .i64 zd.left)).setCell ⟨C5, 3, none⟩ (.bool zd.stop)) := ⟨_, rfl⟩
            rw [← hW10]
            have hk : Keep (fun r => r = C5) W9 W10 := by rw [hW10]; repeat (first | with_reducible exact Keep.refl _ _ | refine Keep.setCell ?_ (fun _ => by simp) _)
            have hm := Boxes.one (n₀ := n₀) x5 rfl hnC
            replace r5 := r5.keep hk hm
            replace q5 := q5.keep hk hm
            replace r36 := r36.keep hk hm
            replace q36 := q36.keep hk hm
            replace x8 := x8.keep hk (fun h => by omega)
            replace x9 := x9.keep hk (fun h => by omega)
            replace x10 := x10.keep hk (fun h => by omega)
            replace x17 := x17.keep hk (fun h => by omega)
            replace hown := own_keep hown hk (fun r hr h => by omega)
            replace hbs := Nat.le_trans hbs hk.size
            replace x5 : Blk W10 C5 25 #[.slice S36 zd.secs.length s36, .slice P36 zd.pend.length p36, .int .i64 zd.left, .bool zd.stop] := by rw [hW10]; exact ((((x5.set 0 (.slice S36 zd.secs.length s36)).set 1 (.slice P36 zd.pend.length p36)).set 2 (.int .i64 zd.left)).set 3 (.bool zd.stop))
            replace hw := hw.trans (hk.below hw.size (fun r hr h => by omega))
            clear x17c0 x17c1 x17c2 x17c3 x17l x5f0 x5f1 x5f2 x5f3 x5c0 x5c1 x5c2 x5c3 x5l
            clear hW10 hk hm
            clear x17
            have h8l := HHV.out.2.1
            obtain ⟨lb, hlb⟩ : ∃ x, x = la := ⟨_, rfl⟩
            rw [← hlb] at x8 h8l HZL
            obtain ⟨y0, y1, y2, y3, hy4⟩ := four h8l
            have y8 : Blk W10 B8 44 #[.int .u8 (y0.toNat : Int), .int .u8 (y1.toNat : Int), .int .u8 (y2.toNat : Int), .int .u8 (y3.toNat : Int)] := by have h := x8; rw [hy4] at h; exact h
            have y8c0 := y8.cell 0
            have y8c1 := y8.cell 1
            have y8c2 := y8.cell 2
            have y8c3 := y8.cell 3
            simp only [List.getElem?_toArray, List.getElem?_cons_zero, List.getElem?_cons_succ] at y8c0 y8c1 y8c2 y8c3
            have y8l := y8.lt
            have x5c0 := x5.cell 0
            have x5c1 := x5.cell 1
            have x5c2 := x5.cell 2
            have x5c3 := x5.cell 3
            simp only [List.getElem?_toArray, List.getElem?_cons_zero, List.getElem?_cons_succ] at x5c0 x5c1 x5c2 x5c3
            have x5l := x5.lt
            clear hlb
            go_wp2_with (fail)
            have K : Calls Try.prog 41 #[.agg #[.slice S36 zd.secs.length s36, .slice P36 zd.pend.length p36, .int .i64 zd.left, .bool zd.stop], .agg #[.int .u8 (y0.toNat : Int), .int .u8 (y1.toNat : Int), .int .u8 (y2.toNat : Int), .int .u8 (y3.toNat : Int)], .agg #[.int .u8 (y0.toNat : Int), .int .u8 (y1.toNat : Int), .int .u8 (y2.toNat : Int), .int .u8 (y3.toNat : Int)]] W10 (fun e w' => e = .returned (.bool true) ∧ Below W10.heap.size W10 w') := by have h := his_holds (s0 := s36) (p0 := p36) W10 HZR.out HZC.out HZL.out r36 q36; rw [hy4] at h; exact h
            go_at_call 41
            refine K.mono ?_
            rintro e w11 ⟨rfl, hb⟩
            clear K
            replace r5 := r5.below hb
            replace q5 := q5.below hb
            replace r36 := r36.below hb
            replace q36 := q36.below hb
            replace x5 := x5.below hb x5.lt
            replace x8 := x8.below hb x8.lt
            replace x9 := x9.below hb x9.lt
            replace x10 := x10.below hb x10.lt
            replace y8 := y8.below hb y8.lt
            replace hown := ow_below hown hb
            replace hbs := Nat.le_trans hbs hb.size
            replace hw := hw.trans (hb.mono hw.size)
            clear y8c0 y8c1 y8c2 y8c3 y8l x5c0 x5c1 x5c2 x5c3 x5l
            clear hb
            go_wp2_with (fail)
            go_roundw
            case rel =>
              exact ⟨i + 1, rm, zs2, [], upd f ws, upd s ws, lb, by omega, by go_num, by go_num, by omega, by simp, Lib.hid ⟨HZV.out, by have h := HZL.out; rw [HZD.out] at h; exact h⟩, hown, by have h : DkB n₀ w11 C5 zd := ⟨S36, s36, P36, p36, x5, hs36, hp36, r36, q36⟩; rw [HZD.out] at h; exact h, x8, x9, x10, hbs, hw⟩
            case measure => simp [intOf]; omega
end Go.Proofs.Ytckeopidedoohaa
