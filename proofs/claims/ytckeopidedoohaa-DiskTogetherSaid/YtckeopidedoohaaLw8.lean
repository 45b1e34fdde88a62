/-
  DiskTogether walked: it answers true.
-/
import Derived.Test.YtckeopidedoohaaDac
import Derived.BigRegion
import Derived.Deep.RegionHeld3
import Derived.Deep.DeepCutAuto
import Derived.Deep.CutBlock
namespace Go.Proofs.Ytckeopidedoohaa
open Go.RowKit
variable {n₀ : Nat}
attribute [local go_sem] Oper.semAt_some

theorem gSync_small (d : Dk) : (gSync d).1.secs.length ≤ d.secs.length ∧ (gSync d).1.pend.length = 0 := by
  unfold gSync
  split
  · exact ⟨Nat.zero_le _, rfl⟩
  · split
    · exact ⟨by simp [tornL, perfL_len], rfl⟩
    · exact ⟨by simp [perfL_len], rfl⟩
/-- The writes of a script. -/
def toW (n : Nat) (a : Ac) : Wr := ⟨((a.at_.toNat % n : Nat) : Int), pad [a.byte]⟩
def scrW (n : Nat) (l : List Ac) : List Wr := l.map (toW n)
theorem scr_plain {n : Nat} (h : 0 < n) (l : List Ac) : Plainw n (scrW n l) := fun x hx => by
  obtain ⟨a, _, rfl⟩ := List.mem_map.1 hx
  have := Nat.mod_lt a.at_.toNat h
  simp only [toW]
  exact ⟨by omega, by omega, pad1_len _⟩
theorem scr_get (n : Nat) (l : List Ac) (i : Nat) (h : i < l.length) : (scrW n l).getD i wr0 = toW n (l.getD i ac0) := by simp [scrW, List.getD, h]
/-- The disk behind some writes, none of them synced. -/
def manyD (secs : List Bs) (ws : List Wr) (left : Int) (i : Nat) : Dk := ⟨secs, ws.take i, left, false⟩
theorem many_runs {secs : List Bs} {ws : List Wr} {left : Int} (h : Runs ⟨secs, [], left, false⟩) (hw : Plainw secs.length ws) (hl : ws.length ≤ 20) (i : Nat) : Runs (manyD secs ws left i) := by
  obtain ⟨⟨v1, v2, v3, v4, v5, v6, v7⟩, hs⟩ := h
  exact ⟨⟨v1, v2, by simp only [manyD, List.length_take]; omega, v4, v5, fun x hx => hw x (List.mem_of_mem_take hx), v7⟩, rfl⟩
theorem many_write {secs : List Bs} {l : List Ac} {left : Int} (h : Runs ⟨secs, [], left, false⟩) (hn : 0 < secs.length) (hl : l.length ≤ 20) (i : Nat) (hi : i < l.length) : gWrite (manyD secs (scrW secs.length l) left i) ((l.getD i ac0).at_.toNat % secs.length : Nat) [(l.getD i ac0).byte] = (manyD secs (scrW secs.length l) left (i + 1), 0) := by
  have hr := many_runs h (scr_plain hn l) (by simpa [scrW] using hl) i
  have hm := Nat.mod_lt (l.getD i ac0).at_.toNat hn
  rw [gWrite_ok ⟨hr, by omega, by simp only [manyD]; omega⟩ (by simp) (by simp only [manyD, List.length_take, scrW, List.length_map]; omega)]
  simp only [manyD]
  rw [take_snocW _ i (by simpa [scrW] using hi), scr_get _ _ _ hi]
  rfl
theorem one_write {secs : List Bs} {l : List Ac} {left : Int} (hn : 0 < secs.length) (i : Nat) (hi : i < l.length) (hr : Runs (oneD secs (scrW secs.length l) left i)) : gWrite (oneD secs (scrW secs.length l) left i) ((l.getD i ac0).at_.toNat % secs.length : Nat) [(l.getD i ac0).byte] = ({ oneD secs (scrW secs.length l) left i with pend := [(scrW secs.length l).getD i wr0] }, 0) := by
  have hm := Nat.mod_lt (l.getD i ac0).at_.toNat hn
  rw [gWrite_ok ⟨hr, by omega, by simp only [oneD, perfL_len]; omega⟩ (by simp) (by simp [oneD]), scr_get _ _ _ hi]
  simp only [oneD, List.nil_append]
  rfl
/-- What the first loop holds. -/
def OneI (n₀ : Nat) (secs : List Bs) (l : List Ac) (left : Int) (B : Nat) (v : Value) (i : Nat) (w : World) : Prop :=
  (v = .int .i64 0 ∧ (0 ≤ left → (i : Int) ≤ left) ∧ DkB n₀ w B (oneD secs (scrW secs.length l) left i)) ∨
  (v = .int .i64 40 ∧ ∃ m : Nat, left = m ∧ m < l.length ∧ DkB n₀ w B ⟨tornL secs (scrW secs.length l) m, [], 0, true⟩)

theorem two_new {w : World} {d : Dk} {S P : Option Addr} {s p : Nat} (hs : d.secs.length ≤ s) (hp : d.pend.length ≤ p) (hr : RowsAt n₀ w S d.secs) (hq : WrsAt n₀ w P d.pend) :
    DkB n₀ ((w.alloc (.cells #[.slice S d.secs.length s, .slice P d.pend.length p, .int .i64 d.left, .bool d.stop] 25)).alloc (.cells #[.slice S d.secs.length s, .slice P d.pend.length p, .int .i64 d.left, .bool d.stop] 25)).drew w.heap.size d ∧
    DkB n₀ ((w.alloc (.cells #[.slice S d.secs.length s, .slice P d.pend.length p, .int .i64 d.left, .bool d.stop] 25)).alloc (.cells #[.slice S d.secs.length s, .slice P d.pend.length p, .int .i64 d.left, .bool d.stop] 25)).drew (w.heap.size + 1) d ∧
    Below w.heap.size w ((w.alloc (.cells #[.slice S d.secs.length s, .slice P d.pend.length p, .int .i64 d.left, .bool d.stop] 25)).alloc (.cells #[.slice S d.secs.length s, .slice P d.pend.length p, .int .i64 d.left, .bool d.stop] 25)).drew := by
  have hb : Below w.heap.size w ((w.alloc (.cells #[.slice S d.secs.length s, .slice P d.pend.length p, .int .i64 d.left, .bool d.stop] 25)).alloc (.cells #[.slice S d.secs.length s, .slice P d.pend.length p, .int .i64 d.left, .bool d.stop] 25)).drew := (((Below.refl _ w).alloc (Nat.le_refl _) _).alloc (by simp) _).drew
  exact ⟨⟨S, s, P, p, (Blk.new w 25 _).alloc _, hs, hp, hr.below hb, hq.below hb⟩, ⟨S, s, P, p, Blk.newAt (by simp) 25 _, hs, hp, hr.below hb, hq.below hb⟩, hb⟩

theorem tg_write {S P : Option Addr} {s p g : Nat} {od ox : Dk} {at_ : Int} {bv : UInt8} (W0 W : World) (hl1 : od.secs.length ≤ 9000) (hl2 : od.pend.length ≤ 9000) (hs : od.secs.length ≤ s) (hr : RowsAt n₀ W0 S od.secs) (hq : WrsAt n₀ W0 P od.pend) (hb : Below W0.heap.size W0 W) (h : Blk W g 5 #[.int .u8 (bv.toNat : Int)]) (hgw : gWrite od at_ [bv] = (ox, 0)) :
    Calls Try.prog 32 #[.agg #[.slice S od.secs.length s, .slice P od.pend.length p, .int .i64 od.left, .bool od.stop], .int .i64 at_, .slice (some ⟨g, 0, none⟩) 1 1] W (DkIs n₀ W (ox, 0)) := by
  have K := write_t S P (some ⟨g, 0, none⟩) s p 1 od at_ [bv] W (by omega) (by omega) (by simp) hs (hr.below hb) (hq.below hb) (blk_bs (bs := [bv]) h)
  rw [hgw] at K
  exact K
/-- What the first loop's round holds. -/
def TgI (n₀ : Nat) (w : World) (d : Dk) (l : List Ac) (B C : Nat) (DC : Array Value) (v7 v8 : Value) (wr : World) : Prop := ∃ i : Nat, i ≤ l.length ∧ v8 = .int .i64 i ∧ OneI n₀ d.secs l d.left B v7 i wr ∧ DkB n₀ wr C d ∧ Blk wr w.heap.size 25 DC ∧ Below w.heap.size w wr
/-- What both loops leave. -/
def TgE (n₀ : Nat) (w : World) (d : Dk) (l : List Ac) (B C : Nat) (DC : Array Value) (v7 : Value) (wr : World) : Prop := ∃ (fin : Dk) (ef : Int), gSync ⟨d.secs, scrW d.secs.length l, d.left, false⟩ = (fin, ef) ∧ v7 = .int .i64 ef ∧ DkB n₀ wr B fin ∧ DkB n₀ wr C d ∧ Blk wr w.heap.size 25 DC ∧ Below w.heap.size w wr

set_option maxRecDepth 20000 in
set_option maxHeartbeats 8000000 in
theorem together_t (SA PA A : Option Addr) (sc pc c : Nat) (d : Dk) (l : List Ac) (w : World) (hn : n₀ ≤ w.heap.size) (hre : Reach d) (hcs : d.secs.length ≤ sc) (hcp : d.pend.length ≤ pc) (r0 : RowsAt n₀ w SA d.secs) (q0 : WrsAt n₀ w PA d.pend) (a0 : ActsAt w A l) (hal : l.length ≤ reachBytes) :
    Calls Try.prog 8 #[.agg #[.slice SA d.secs.length sc, .slice PA d.pend.length pc, .int .i64 d.left, .bool d.stop], .slice A l.length c] w (Yes w) := by
  have HA0 := Lib.hid a0
  clear a0
  have hal2 : l.length ≤ 140737488355328 := Nat.le_trans hal (by decide)
  obtain ⟨hl1, hl2⟩ := reach_le hre
  have HRE := Lib.hid hre
  clear hre hal
  obtain ⟨gc, hgc⟩ : ∃ r, r = gChk d := ⟨_, rfl⟩
  have HGC := Lib.hid hgc
  clear hgc
  go_enter Try.func8, Try.ntmps8
  go_wp2_with (fail)
  obtain ⟨W1, hW1⟩ : ∃ W, W = w.alloc (.cells #[.slice SA d.secs.length sc, .slice PA d.pend.length pc, .int .i64 d.left, .bool d.stop] 25) := ⟨_, rfl⟩
  rw [← hW1]
  have hb : Below w.heap.size w W1 := by rw [hW1]; exact (Below.refl _ _).alloc (Nat.le_refl _) _
  have x2 : Blk W1 w.heap.size 25 #[.slice SA d.secs.length sc, .slice PA d.pend.length pc, .int .i64 d.left, .bool d.stop] := by rw [hW1]; exact Blk.new w 25 _
  clear hW1
  replace r0 := r0.below hb
  replace q0 := q0.below hb
  have hw := hb
  clear hb
  have K : Calls Try.prog 23 #[] W1 (fun e w' => e = .returned (.bool true) ∧ Below W1.heap.size W1 w') := sane_t W1
  go_at_call 23
  refine K.mono ?_
  rintro e w2 ⟨rfl, hb⟩
  clear K
  replace r0 := r0.below hb
  replace q0 := q0.below hb
  replace x2 := x2.below hb x2.lt
  replace hw := hw.trans (hb.mono hw.size)
  clear hb
  have x2c0 := x2.cell 0
  have x2c1 := x2.cell 1
  have x2c2 := x2.cell 2
  have x2c3 := x2.cell 3
  simp only [List.getElem?_toArray, List.getElem?_cons_zero, List.getElem?_cons_succ] at x2c0 x2c1 x2c2 x2c3
  have x2l := x2.lt
  go_wp2_with (fail)
  have K : Calls Try.prog 24 #[.agg #[.slice SA d.secs.length sc, .slice PA d.pend.length pc, .int .i64 d.left, .bool d.stop]] w2 (FewIs w2 d) := few_t SA PA sc pc d w2 HRE.out r0 q0
  go_at_call 24
  refine K.mono ?_
  rintro e1 w3 ⟨y, rfl, hy, hb⟩
  clear K
  replace r0 := r0.below hb
  replace q0 := q0.below hb
  replace x2 := x2.below hb x2.lt
  replace hw := hw.trans (hb.mono hw.size)
  clear x2c0 x2c1 x2c2 x2c3 x2l
  clear hb
  have x2c0 := x2.cell 0
  have x2c1 := x2.cell 1
  have x2c2 := x2.cell 2
  have x2c3 := x2.cell 3
  simp only [List.getElem?_toArray, List.getElem?_cons_zero, List.getElem?_cons_succ] at x2c0 x2c1 x2c2 x2c3
  have x2l := x2.lt
  cases y
  case false =>
    go_wp2
    go_ret
    exact ⟨rfl, hw⟩
  obtain ⟨hy1, hy2⟩ := hy rfl
  clear hy
  by_cases k1 : 20 < l.length
  case pos =>
    have dk1 : decide (20 < (l.length : Int)) = true := decide_eq_true (by omega)
    go_wp2
    go_ret
    exact ⟨rfl, hw⟩
  have dk1 : decide (20 < (l.length : Int)) = false := decide_eq_false (by omega)
  by_cases k2 : 0 < d.pend.length
  case pos =>
    have dk2 : decide (0 < (d.pend.length : Int)) = true := decide_eq_true (by omega)
    go_wp2
    go_ret
    exact ⟨rfl, hw⟩
  have dk2 : decide (0 < (d.pend.length : Int)) = false := decide_eq_false (by omega)
  by_cases k3 : d.secs.length = 0
  case pos =>
    have dk3 : ((d.secs.length : Int) == 0) = true := beq_iff_eq.2 (by omega)
    go_wp2
    go_ret
    exact ⟨rfl, hw⟩
  have dk3 : ((d.secs.length : Int) == 0) = false := beq_eq_false_iff_ne.2 (by omega)
  go_wp2_with (fail)
  have K : Calls Try.prog 28 #[.agg #[.slice SA d.secs.length sc, .slice PA d.pend.length pc, .int .i64 d.left, .bool d.stop]] w3 (fun e w' => e = .returned (.int .i64 gc) ∧ Below w3.heap.size w3 w') := by rw [HGC.out]; exact check_t SA PA sc pc d w3 hl1 hl2 r0 q0
  go_at_call 28
  refine K.mono ?_
  rintro e1 w4 ⟨rfl, hb⟩
  clear K
  replace r0 := r0.below hb
  replace q0 := q0.below hb
  replace x2 := x2.below hb x2.lt
  replace hw := hw.trans (hb.mono hw.size)
  clear x2c0 x2c1 x2c2 x2c3 x2l
  clear hb
  have x2c0 := x2.cell 0
  have x2c1 := x2.cell 1
  have x2c2 := x2.cell 2
  have x2c3 := x2.cell 3
  simp only [List.getElem?_toArray, List.getElem?_cons_zero, List.getElem?_cons_succ] at x2c0 x2c1 x2c2 x2c3
  have x2l := x2.lt
  by_cases k4 : gc = 0
  case neg =>
    have dk4 : (gc != 0) = true := bne_iff_ne.2 k4
    go_wp2
    go_ret
    exact ⟨rfl, hw⟩
  subst k4
  have hk2 : d.pend.length = 0 := by omega
  have hk1 : l.length ≤ 20 := by omega
  have hk3 : 0 < d.secs.length := by omega
  clear k1 k2 k3 dk1 dk2 dk3
  by_cases k5 : d.stop = true
  case pos =>
    rw [k5] at x2c3
    go_wp2
    go_ret
    exact ⟨rfl, hw⟩
  have k6 : d.stop = false := by simpa using k5
  rw [k6] at x2c3
  clear k5
  go_upto_region 5 with (fail)
  rw [← k6] at x2c3
  have HK2 := Lib.hid hk2
  have HK6 := Lib.hid k6
  clear hk2 k6
  go_cut [5, 6] (fun s5 s6 wx => ∃ B C, s5 = .pointer (some ⟨B, 0, none⟩) ∧ s6 = .pointer (some ⟨C, 0, none⟩) ∧ DkB n₀ wx B d ∧ DkB n₀ wx C d ∧ B ≠ C ∧ w4.heap.size ≤ B ∧ w4.heap.size ≤ C ∧ Below w4.heap.size w4 wx)
  case first =>
    have hnW : n₀ ≤ w4.heap.size := Nat.le_trans hn hw.size
    have HR := Lib.hid r0
    have HQ := Lib.hid q0
    clear r0 q0
    go_region
    all_goals
      go_wp2_with (fail)
      go_meet
      obtain ⟨t1, t2, t3⟩ := two_new hcs hcp HR.out HQ.out
      first | exact ⟨_, _, rfl, rfl, t1, t2, by omega, by omega, by omega, t3⟩ | exact ⟨_, _, rfl, rfl, t2, t1, by omega, by omega, by omega, t3⟩
  case rest =>
    obtain ⟨B, C, rfl, rfl, hB, hC, hBC, lB, lC, hb⟩ := hcut
    have lw := hw.size
    have hnB : n₀ ≤ B := by omega
    have hnC : n₀ ≤ C := by omega
    have lwB : w.heap.size < B := by have := x2l; omega
    have lwC : w.heap.size < C := by have := x2l; omega
    replace r0 := r0.below hb
    replace q0 := q0.below hb
    replace x2 := x2.below hb x2.lt
    replace hw := hw.trans (hb.mono hw.size)
    clear x2c0 x2c1 x2c2 x2c3 x2l
    clear hb
    clear r0 q0
    clear lw lB lC
    have hd0 : (⟨d.secs, [], d.left, false⟩ : Dk) = d := by
     have h1 : d.pend = [] := List.eq_nil_of_length_eq_zero HK2.out
     obtain ⟨a, b, c, e⟩ := d
     simp only at h1
     have h2 := HK6.out
     simp only at h2
     rw [h1, h2]
    have hru : Runs (⟨d.secs, [], d.left, false⟩ : Dk) := by rw [hd0]; exact runs_yes HGC.out.symm HK6.out
    have HD0 := Lib.hid hd0
    have HRU := Lib.hid hru
    clear hd0 hru
    obtain ⟨n, hnn⟩ : ∃ n, n = d.secs.length := ⟨_, rfl⟩
    have HNN := Lib.hid hnn
    have hC2 := hC
    have hw2 := hw
    go_upto_block 0 with (fail)
    go_cut [7] (fun s7 wx => TgE n₀ w d l B C #[.slice SA d.secs.length sc, .slice PA d.pend.length pc, .int .i64 d.left, .bool d.stop] s7 wx)
    case first =>
      go_wp2_with (fail)
      go_loopw [7, 8] (fun v7 v8 wr => TgI n₀ w d l B C #[.slice SA d.secs.length sc, .slice PA d.pend.length pc, .int .i64 d.left, .bool d.stop] v7 v8 wr) (fun _ v8 _ => l.length - (intOf v8).toNat)
      case atStart =>
       refine ⟨0, by omega, rfl, .inl ⟨rfl, fun h => by omega, ?_⟩, hC2, x2, hw2⟩
       have e : oneD d.secs (scrW d.secs.length l) d.left 0 = d := by
        rw [← HD0.out]
        unfold oneD stepL perfL
        simp
       rw [e]
       exact hB
      case round =>
        clear hB hC hC2 x2 hw2 hw
        obtain ⟨i, hi, rfl, hone, hC, x2, hw⟩ := hrel
        rcases hone with ⟨rfl, hle, hB⟩ | ⟨rfl, m, hm, hml, hB⟩
        case inr =>
          have ha : TgE n₀ w d l B C #[.slice SA d.secs.length sc, .slice PA d.pend.length pc, .int .i64 d.left, .bool d.stop] (.int .i64 40) wr := ⟨_, 40, all_stop (many_runs (i := l.length) HRU.out (scr_plain (by omega) l) (by simpa [scrW] using hk1) |> fun h => by simpa [manyD, List.take_of_length_le, scrW] using h) m (by simpa [scrW] using hml) hm, rfl, hB, hC, x2, hw⟩
          have HA := Lib.hid ha
          clear ha hB hC x2 hw hm
          by_cases hlt : i < l.length
          all_goals
           go_wp2_with (fail)
           go_meet
           exact HA.out
        by_cases hlt : i < l.length
        case neg =>
          obtain rfl : i = l.length := by omega
          have ha : TgE n₀ w d l B C #[.slice SA d.secs.length sc, .slice PA d.pend.length pc, .int .i64 d.left, .bool d.stop] (.int .i64 0) wr := ⟨_, 0, all_ok (many_runs (i := l.length) HRU.out (scr_plain (by omega) l) (by simpa [scrW] using hk1) |> fun h => by simpa [manyD, List.take_of_length_le, scrW] using h) (by simpa [scrW] using hle), rfl, by simpa [scrW] using hB, hC, x2, hw⟩
          have HA := Lib.hid ha
          clear ha hB hC x2 hw hle hlt
          go_wp2_with (fail)
          go_meet
          exact HA.out
        obtain ⟨S1, s1, P1, p1, x5, hs1, hp1, r5, q5⟩ := hB
        obtain ⟨av, hav⟩ : ∃ v, v = (l.getD i ac0).at_.toNat := ⟨_, rfl⟩
        obtain ⟨bv, hbv⟩ : ∃ v, v = (l.getD i ac0).byte := ⟨_, rfl⟩
        have hru : Runs (oneD d.secs (scrW d.secs.length l) d.left i) := one_runs HRU.out.1.1 HRU.out.1.2.1 HRU.out.1.2.2.2.2.2.2 HRU.out.1.2.2.2.1 HRU.out.1.2.2.2.2.1 (scr_plain (by omega) l) i hle
        have hgw := one_write (left := d.left) (by omega) i hlt hru
        rw [← hav, ← hbv] at hgw
        have HGW := Lib.hid hgw
        have HRO := Lib.hid hru
        have HLE := Lib.hid hle
        obtain ⟨ab, ao, hA, la, hcc⟩ := (HA0.out.below hw) (by omega)
        obtain ⟨-, g1, g2⟩ := hcc i hlt
        rw [← hbv] at g2
        unfold u8v at g1 g2
        rw [← hav] at g1
        have hav2 : av ≤ 255 := by rw [hav]; have := (l.getD i ac0).at_.toNat_lt; omega
        have HAV := Lib.hid hav
        have HBV := Lib.hid hbv
        clear hcc hav hbv hgw hru hle
        obtain ⟨od, hod⟩ : ∃ o, o = oneD d.secs (scrW d.secs.length l) d.left i := ⟨_, rfl⟩
        rw [← hod] at x5 hs1 hp1 r5 q5
        have HOD := Lib.hid hod
        obtain ⟨ox, hox⟩ : ∃ o, o = ({ od with pend := [(scrW d.secs.length l).getD i wr0] } : Dk) := ⟨_, rfl⟩
        obtain ⟨at1, hat1⟩ : ∃ z : Int, z = ((av % d.secs.length : Nat) : Int) := ⟨_, rfl⟩
        have hgo : gWrite od at1 [bv] = (ox, 0) := by rw [hod, hat1, HGW.out, hox, hod]
        have HAT := Lib.hid hat1
        clear hat1
        have HGO := Lib.hid hgo
        have HOX := Lib.hid hox
        clear hgo hox
        have hosl : od.secs.length ≤ 9000 := by rw [hod]; simp only [oneD, perfL_len]; omega
        have hopl : od.pend.length ≤ 9000 := by rw [hod]; simp [oneD]
        clear hod
        subst hA
        have x2c0 := x2.cell 0
        have x2c1 := x2.cell 1
        have x2c2 := x2.cell 2
        have x2c3 := x2.cell 3
        simp only [List.getElem?_toArray, List.getElem?_cons_zero, List.getElem?_cons_succ] at x2c0 x2c1 x2c2 x2c3
        have x2l := x2.lt
        have k0 : (0 : Int) ≤ (i : Int) := by omega
        have k1 : (i : Int) < (l.length : Int) := by omega
        have k2 : (0 : Int) ≤ (av : Int) := by omega
        have k3 : (0 : Int) < (d.secs.length : Int) := by omega
        have k4 : (d.secs.length : Int) ≤ 9000 := by omega
        go_upto_region 10 with (fail)
        go_cut [9] (fun s9 wx => s9 = .int .i64 at1 ∧ Below wr.heap.size wr wx)
        case first =>
          go_quiet (fail)
          (try go_wp2_with (fail))
          go_meet
          exact ⟨by rw [HAT.out]; rfl, below_drewN (Below.refl _ _) _⟩
        case rest =>
          obtain ⟨rfl, hb⟩ := hcut
          replace g1 := (hb.cell (p := ⟨ab, _, none⟩) la).trans g1
          replace g2 := (hb.cell (p := ⟨ab, _, none⟩) la).trans g2
          replace la := Nat.lt_of_lt_of_le la hb.size
          clear k2 k3 k4
          replace r5 := r5.below hb
          replace q5 := q5.below hb
          replace hC := hC.below hb
          replace x2 := x2.below hb x2.lt
          replace x5 := x5.below hb x5.lt
          replace hw := hw.trans (hb.mono hw.size)
          clear x2c0 x2c1 x2c2 x2c3 x2l
          clear hb
          have x5c0 := x5.cell 0
          have x5c1 := x5.cell 1
          have x5c2 := x5.cell 2
          have x5c3 := x5.cell 3
          simp only [List.getElem?_toArray, List.getElem?_cons_zero, List.getElem?_cons_succ] at x5c0 x5c1 x5c2 x5c3
          have x5l := x5.lt
          go_upto_region 11 with (fail)
          go_cut [10, 11] (fun s10 s11 wx => s11 = .int .i64 0 ∧ ∃ B2, s10 = .pointer (some ⟨B2, 0, none⟩) ∧ DkB n₀ wx B2 ox ∧ Below wc.heap.size wc wx ∧ wc.heap.size ≤ B2)
          case first =>
            have lww := hw.size
            have hks : ∀ W : World, Below wc.heap.size wc W → W.cell? ⟨B, 0, none⟩ = some (.slice S1 od.secs.length s1) ∧ W.cell? ⟨B, 1, none⟩ = some (.slice P1 od.pend.length p1) ∧ W.cell? ⟨B, 2, none⟩ = some (.int .i64 od.left) ∧ W.cell? ⟨B, 3, none⟩ = some (.bool od.stop) ∧ W.cell? ⟨ab, ao + i * 3 + 2, none⟩ = some (.int .u8 (bv.toNat : Int)) := fun W hb => ⟨(x5.below hb x5l).cell 0, (x5.below hb x5l).cell 1, (x5.below hb x5l).cell 2, (x5.below hb x5l).cell 3, (hb.cell (p := ⟨ab, _, none⟩) la).trans g2⟩
            have HKS := Lib.hid hks
            have HX5 := Lib.hid x5
            clear hks x5
            go_region_held3 (fun W => W.cell? ⟨B, 0, none⟩ = some (.slice S1 od.secs.length s1) ∧ W.cell? ⟨B, 1, none⟩ = some (.slice P1 od.pend.length p1) ∧ W.cell? ⟨B, 2, none⟩ = some (.int .i64 od.left) ∧ W.cell? ⟨B, 3, none⟩ = some (.bool od.stop) ∧ W.cell? ⟨ab, ao + i * 3 + 2, none⟩ = some (.int .u8 (bv.toNat : Int))) ((refine HKS.out _ ?_; repeat (first | exact h12 | exact Below.refl _ _ | refine Below.drew ?_ | refine Below.alloc ?_ (by first | (simp <;> omega) | (have := h12.size; simp <;> omega)) _ | refine Below.setCell ?_ (by first | (simp <;> omega) | (have := h12.size; simp <;> omega)) _)))
              ((go_at_call 32; refine (tg_write wc _ hosl hopl hs1 r5 q5 (by repeat (first | exact Below.refl _ _ | refine Below.drew ?_ | refine Below.alloc ?_ (by simp <;> omega) _)) (by first | exact Blk.new _ 5 _ | exact (Blk.new _ 5 _).alloc _ | exact Blk.newAt (World.size_alloc _ _) 5 _) HGO.out).mono ?_; rintro e w12 ⟨v12, rfl, ⟨S12, s12, P12, p12, rfl, hs12, hp12, r12, q12⟩, hb12⟩; have h12 : Below wc.heap.size wc w12 := Below.trans (by repeat (first | exact Below.refl _ _ | refine Below.drew ?_ | refine Below.alloc ?_ (by simp <;> omega) _)) (Below.mono hb12 (by simp <;> omega)); have HR12 := Lib.hid r12; have HQ12 := Lib.hid q12; clear r12 q12; first | (have t12 : Blk w12 (wc.heap.size + 1) 25 #[.slice none 0 0, .slice none 0 0, .int .i64 0, .bool false] := Blk.below (W := ((wc.alloc (.cells #[.int .u8 (bv.toNat : Int)] 5)).alloc (.cells #[.slice none 0 0, .slice none 0 0, .int .i64 0, .bool false] 25)).drew) (Blk.newAt (W := wc.alloc (.cells #[.int .u8 (bv.toNat : Int)] 5)) (World.size_alloc _ _) 25 _) hb12 (by simp <;> omega); have t0 := t12.cell 0; have f0 := t12.frozen 0; have t1 := t12.cell 1; have f1 := t12.frozen 1; have t2 := t12.cell 2; have f2 := t12.frozen 2; have t3 := t12.cell 3; have f3 := t12.frozen 3; simp only [List.getElem?_toArray, List.getElem?_cons_zero, List.getElem?_cons_succ] at t0 t1 t2 t3) | (have t12 : Blk w12 wc.heap.size 25 #[.slice none 0 0, .slice none 0 0, .int .i64 0, .bool false] := Blk.below (W := ((wc.alloc (.cells #[.slice none 0 0, .slice none 0 0, .int .i64 0, .bool false] 25)).alloc (.cells #[.int .u8 (bv.toNat : Int)] 5)).drew) ((Blk.new wc 25 _).alloc _) hb12 (by simp <;> omega); have t0 := t12.cell 0; have f0 := t12.frozen 0; have t1 := t12.cell 1; have f1 := t12.frozen 1; have t2 := t12.cell 2; have f2 := t12.frozen 2; have t3 := t12.cell 3; have f3 := t12.frozen 3; simp only [List.getElem?_toArray, List.getElem?_cons_zero, List.getElem?_cons_succ] at t0 t1 t2 t3) | skip))
            all_goals
             go_wp2_with (fail)
             go_meet
             have hs12 : ox.secs.length ≤ s12 := hs12
             have hp12 : ox.pend.length ≤ p12 := hp12
             refine ⟨rfl, _, rfl, ?_, ?_, ?_⟩
             · first | with_reducible exact box_new hs12 hp12 HR12.out HQ12.out | exact box_put t12 (by omega) hs12 hp12 HR12.out HQ12.out
             · repeat (first | exact h12 | refine Below.setCell ?_ (by simp <;> omega) _ | refine Below.alloc ?_ (by have := h12.size; omega) _)
             · have := h12.size
               (first | omega | (simp <;> omega))
          case rest =>
            obtain ⟨rfl, B2, rfl, ⟨S2, s2, P2, p2, x10, hs2, hp2, r10, q10⟩, hb, lB2⟩ := hcut
            replace la := Nat.lt_of_lt_of_le la hb.size
            have l5 : B < B2 := Nat.lt_of_lt_of_le x5l lB2
            clear g1 g2
            replace r5 := r5.below hb
            replace q5 := q5.below hb
            replace hC := hC.below hb
            replace x2 := x2.below hb x2.lt
            replace x5 := x5.below hb x5.lt
            replace hw := hw.trans (hb.mono hw.size)
            clear x5c0 x5c1 x5c2 x5c3 x5l
            clear hb
            have hrs : Runs ox ∧ ox.secs.length ≤ 9000 ∧ ox.pend.length ≤ 9000 := by
             have h1 := one_pend (left := d.left) (scr_plain (by omega) l) i (by simpa [scrW] using hlt) HRO.out
             rw [HOX.out, HOD.out]
             exact ⟨h1, by simp only [oneD, perfL_len]; omega, by simp⟩
            obtain ⟨-, hxs1, hxp1⟩ := hrs
            obtain ⟨⟨z, ez⟩, hgz⟩ : ∃ r, r = gSync ox := ⟨_, rfl⟩
            have HGZ := Lib.hid hgz
            clear hgz
            have x10c0 := x10.cell 0
            have x10c1 := x10.cell 1
            have x10c2 := x10.cell 2
            have x10c3 := x10.cell 3
            simp only [List.getElem?_toArray, List.getElem?_cons_zero, List.getElem?_cons_succ] at x10c0 x10c1 x10c2 x10c3
            have x10l := x10.lt
            go_wp2_with (fail)
            have K : Calls Try.prog 36 #[.agg #[.slice S2 ox.secs.length s2, .slice P2 ox.pend.length p2, .int .i64 ox.left, .bool ox.stop]] wc (DkIs n₀ wc ((z, ez))) := by rw [HGZ.out]; exact sync_t S2 P2 s2 p2 ox wc (by omega) (by omega) hp2 r10 q10
            go_at_call 36
            refine K.mono ?_
            rintro e w5 ⟨v20, rfl, ⟨S20, s20, P20, p20, rfl, hs20, hp20, r20, q20⟩, hb⟩
            clear K
            replace r5 := r5.below hb
            replace q5 := q5.below hb
            replace hC := hC.below hb
            replace r10 := r10.below hb
            replace q10 := q10.below hb
            replace x2 := x2.below hb x2.lt
            replace x5 := x5.below hb x5.lt
            replace x10 := x10.below hb x10.lt
            replace hw := hw.trans (hb.mono hw.size)
            clear x10c0 x10c1 x10c2 x10c3 x10l
            clear hb
            have x5c0 := x5.cell 0
            have x5f0 := x5.frozen 0
            have x5c1 := x5.cell 1
            have x5f1 := x5.frozen 1
            have x5c2 := x5.cell 2
            have x5f2 := x5.frozen 2
            have x5c3 := x5.cell 3
            have x5f3 := x5.frozen 3
            simp only [List.getElem?_toArray, List.getElem?_cons_zero, List.getElem?_cons_succ] at x5c0 x5c1 x5c2 x5c3
            have x5l := x5.lt
            go_upto_region 9 with (fail)
            obtain ⟨W6, hW6⟩ : ∃ W, W = ((((w5.setCell ⟨B, 0, none⟩ (.slice S20 z.secs.length s20)).setCell ⟨B, 1, none⟩ (.slice P20 z.pend.length p20)).setCell ⟨B, 2, none⟩ (.int .i64 z.left)).setCell ⟨B, 3, none⟩ (.bool z.stop)) := ⟨_, rfl⟩
            rw [← hW6]
            have hk : Keep (fun r => r = B) w5 W6 := by rw [hW6]; repeat (first | with_reducible exact Keep.refl _ _ | refine Keep.setCell ?_ (fun _ => by simp) _)
            have hm := Boxes.one (n₀ := n₀) x5 rfl hnB
            replace r5 := r5.keep hk hm
            replace q5 := q5.keep hk hm
            replace hC := hC.keep hk hm
            replace r10 := r10.keep hk hm
            replace q10 := q10.keep hk hm
            replace r20 := r20.keep hk hm
            replace q20 := q20.keep hk hm
            replace x2 := x2.keep hk (fun h => by omega)
            replace x10 := x10.keep hk (fun h => by omega)
            replace x5 : Blk W6 B 25 #[.slice S20 z.secs.length s20, .slice P20 z.pend.length p20, .int .i64 z.left, .bool z.stop] := by rw [hW6]; exact ((((x5.set 0 (.slice S20 z.secs.length s20)).set 1 (.slice P20 z.pend.length p20)).set 2 (.int .i64 z.left)).set 3 (.bool z.stop))
            replace hw := hw.trans (hk.below hw.size (fun r hr h => by omega))
            clear x5f0 x5f1 x5f2 x5f3 x5c0 x5c1 x5c2 x5c3 x5l
            clear hW6 hk hm
            replace hC := hC (fun h => hBC h.symm)
            have hst : OneI n₀ d.secs l d.left B (.int .i64 ez) (i + 1) W6 := by
             have hDk : DkB n₀ W6 B z := ⟨S20, s20, P20, p20, x5, hs20, hp20, r20, q20⟩
             have h1 := HGZ.out
             rw [HOX.out, HOD.out] at h1
             by_cases hst : d.left = i
             · rw [one_stop (scr_plain (by omega) l) i (by simpa [scrW] using hlt) HRO.out hst] at h1
               have e1 : z = _ := congrArg Prod.fst h1
               have e2 : ez = _ := congrArg Prod.snd h1
               rw [e2]
               rw [e1] at hDk
               exact .inr ⟨rfl, i, hst, hlt, hDk⟩
             · rw [one_step (scr_plain (by omega) l) i (by simpa [scrW] using hlt) HRO.out (fun h => by have := HLE.out h; omega)] at h1
               have e1 : z = _ := congrArg Prod.fst h1
               have e2 : ez = _ := congrArg Prod.snd h1
               rw [e2]
               rw [e1] at hDk
               exact .inl ⟨rfl, fun h => by have := HLE.out h; omega, hDk⟩
            have HST := Lib.hid hst
            clear hst
            go_wp2_with (fail)
            go_roundw
            case rel => exact ⟨i + 1, by omega, by go_num, HST.out, hC, x2, hw⟩
            case measure => simp [intOf]; omega
    case rest =>
      obtain ⟨fin, ef, hfe, rfl, hBf, hCd, x2f, hwf⟩ := hcut
      have HFE := Lib.hid hfe
      clear hB hC hC2 x2 hw2 hw hfe
      have hsl0 : (scrW d.secs.length l).length = l.length := by simp [scrW]
      have hm0 : manyD d.secs (scrW d.secs.length l) d.left 0 = d := by rw [← HD0.out]; rfl
      have hml : manyD d.secs (scrW d.secs.length l) d.left l.length = ⟨d.secs, scrW d.secs.length l, d.left, false⟩ := by unfold manyD; rw [List.take_of_length_le (by omega)]
      have hCm : DkB n₀ wc C (manyD d.secs (scrW d.secs.length l) d.left 0) := by rw [hm0]; exact hCd
      have HML := Lib.hid hml
      clear hCd hm0 hml hsl0
      go_wp2_with (fail)
      go_loopw [12] (fun v12 wr => ∃ i : Nat, i ≤ l.length ∧ v12 = .int .i64 i ∧ DkB n₀ wr C (manyD d.secs (scrW d.secs.length l) d.left i) ∧ DkB n₀ wr B fin ∧ Blk wr w.heap.size 25 #[.slice SA d.secs.length sc, .slice PA d.pend.length pc, .int .i64 d.left, .bool d.stop] ∧ Below w.heap.size w wr) (fun v12 _ => l.length - (intOf v12).toNat)
      case atStart => exact ⟨0, by omega, rfl, hCm, hBf, x2f, hwf⟩
      case round =>
        clear hCm hBf x2f hwf
        obtain ⟨i, hi, rfl, hC, hB, x2, hw⟩ := hrel
        by_cases hlt : i < l.length
        case neg =>
          obtain rfl : i = l.length := by omega
          rw [HML.out] at hC
          clear hlt
          obtain ⟨S5, s5, P5, p5, x5, hs5, hp5, r5, q5⟩ := hB
          obtain ⟨S6, s6, P6, p6, x6, hs6, hp6, r6, q6⟩ := hC
          obtain ⟨od, hod⟩ : ∃ o, o = (⟨d.secs, scrW d.secs.length l, d.left, false⟩ : Dk) := ⟨_, rfl⟩
          rw [← hod] at x6 hs6 hp6 r6 q6
          have HOD := Lib.hid hod
          have hosl : od.secs.length ≤ 9000 := by rw [hod]; exact Nat.le_of_lt_succ (by simp only; omega)
          have hopl : od.pend.length ≤ 9000 := by rw [hod]; simp only [scrW, List.length_map]; omega
          have hfl : fin.secs.length ≤ 9000 ∧ fin.pend.length ≤ 9000 := by
            have h1 := gSync_small od
            rw [hod, HFE.out] at h1
            exact ⟨Nat.le_trans h1.1 (by simp only; omega), by have := h1.2; simp only at this; omega⟩
          obtain ⟨hfl1, hfl2⟩ := hfl
          clear hod
          have x6c0 := x6.cell 0
          have x6f0 := x6.frozen 0
          have x6c1 := x6.cell 1
          have x6f1 := x6.frozen 1
          have x6c2 := x6.cell 2
          have x6f2 := x6.frozen 2
          have x6c3 := x6.cell 3
          have x6f3 := x6.frozen 3
          simp only [List.getElem?_toArray, List.getElem?_cons_zero, List.getElem?_cons_succ] at x6c0 x6c1 x6c2 x6c3
          have x6l := x6.lt
          go_wp2_with (fail)
          have K : Calls Try.prog 36 #[.agg #[.slice S6 od.secs.length s6, .slice P6 od.pend.length p6, .int .i64 od.left, .bool od.stop]] wr (DkIs n₀ wr ((fin, ef))) := by rw [← HFE.out, ← HOD.out]; exact sync_t S6 P6 s6 p6 od wr (by omega) (by omega) hp6 r6 q6
          go_at_call 36
          refine K.mono ?_
          rintro e w7 ⟨v22, rfl, ⟨S22, s22, P22, p22, rfl, hs22, hp22, r22, q22⟩, hb⟩
          clear K
          replace r5 := r5.below hb
          replace q5 := q5.below hb
          replace r6 := r6.below hb
          replace q6 := q6.below hb
          replace x2 := x2.below hb x2.lt
          replace x5 := x5.below hb x5.lt
          replace x6 := x6.below hb x6.lt
          replace hw := hw.trans (hb.mono hw.size)
          clear x6f0 x6f1 x6f2 x6f3 x6c0 x6c1 x6c2 x6c3 x6l
          clear hb
          have x6c0 := x6.cell 0
          have x6f0 := x6.frozen 0
          have x6c1 := x6.cell 1
          have x6f1 := x6.frozen 1
          have x6c2 := x6.cell 2
          have x6f2 := x6.frozen 2
          have x6c3 := x6.cell 3
          have x6f3 := x6.frozen 3
          simp only [List.getElem?_toArray, List.getElem?_cons_zero, List.getElem?_cons_succ] at x6c0 x6c1 x6c2 x6c3
          have x6l := x6.lt
          go_upto_region 23 with (fail)
          obtain ⟨W8, hW8⟩ : ∃ W, W = ((((w7.setCell ⟨C, 0, none⟩ (.slice S22 fin.secs.length s22)).setCell ⟨C, 1, none⟩ (.slice P22 fin.pend.length p22)).setCell ⟨C, 2, none⟩ (.int .i64 fin.left)).setCell ⟨C, 3, none⟩ (.bool fin.stop)) := ⟨_, rfl⟩
          rw [← hW8]
          have hk : Keep (fun r => r = C) w7 W8 := by rw [hW8]; repeat (first | with_reducible exact Keep.refl _ _ | refine Keep.setCell ?_ (fun _ => by simp) _)
          have hm := Boxes.one (n₀ := n₀) x6 rfl hnC
          replace r5 := r5.keep hk hm
          replace q5 := q5.keep hk hm
          replace r6 := r6.keep hk hm
          replace q6 := q6.keep hk hm
          replace r22 := r22.keep hk hm
          replace q22 := q22.keep hk hm
          replace x2 := x2.keep hk (fun h => by omega)
          replace x5 := x5.keep hk (fun h => hBC h)
          replace x6 : Blk W8 C 25 #[.slice S22 fin.secs.length s22, .slice P22 fin.pend.length p22, .int .i64 fin.left, .bool fin.stop] := by rw [hW8]; exact ((((x6.set 0 (.slice S22 fin.secs.length s22)).set 1 (.slice P22 fin.pend.length p22)).set 2 (.int .i64 fin.left)).set 3 (.bool fin.stop))
          replace hw := hw.trans (hk.below hw.size (fun r hr h => by omega))
          clear x6f0 x6f1 x6f2 x6f3 x6c0 x6c1 x6c2 x6c3 x6l
          clear hW8 hk hm
          have x5c0 := x5.cell 0
          have x5c1 := x5.cell 1
          have x5c2 := x5.cell 2
          have x5c3 := x5.cell 3
          simp only [List.getElem?_toArray, List.getElem?_cons_zero, List.getElem?_cons_succ] at x5c0 x5c1 x5c2 x5c3
          have x5l := x5.lt
          have x6c0 := x6.cell 0
          have x6c1 := x6.cell 1
          have x6c2 := x6.cell 2
          have x6c3 := x6.cell 3
          simp only [List.getElem?_toArray, List.getElem?_cons_zero, List.getElem?_cons_succ] at x6c0 x6c1 x6c2 x6c3
          have x6l := x6.lt
          have e22 : (ef == ef) = true := beq_self_eq_true _
          go_wp2_with (fail)
          have K : Calls Try.prog 27 #[.agg #[.slice S5 fin.secs.length s5, .slice P5 fin.pend.length p5, .int .i64 fin.left, .bool fin.stop], .agg #[.slice S22 fin.secs.length s22, .slice P22 fin.pend.length p22, .int .i64 fin.left, .bool fin.stop]] W8 (fun e w' => e = .returned (.bool (sameD fin fin)) ∧ Below W8.heap.size W8 w') := same_t S5 P5 S22 P22 s5 p5 s22 p22 fin.secs.length fin.pend.length fin.secs.length fin.pend.length fin fin W8 rfl rfl rfl rfl (by omega) (by omega) (by omega) (by omega) r5 q5 r22 q22
          go_at_call 27
          refine K.mono ?_
          rintro e w9 ⟨rfl, hb⟩
          rw [same_yes rfl]
          clear K
          replace r5 := r5.below hb
          replace q5 := q5.below hb
          replace r6 := r6.below hb
          replace q6 := q6.below hb
          replace r22 := r22.below hb
          replace q22 := q22.below hb
          replace x2 := x2.below hb x2.lt
          replace x5 := x5.below hb x5.lt
          replace x6 := x6.below hb x6.lt
          replace hw := hw.trans (hb.mono hw.size)
          clear x5c0 x5c1 x5c2 x5c3 x5l x6c0 x6c1 x6c2 x6c3 x6l
          clear hb
          go_wp2
          go_ret
          exact ⟨rfl, hw⟩
        obtain ⟨S6, s6, P6, p6, x6, hs6, hp6, r6, q6⟩ := hC
        obtain ⟨av, hav⟩ : ∃ v, v = (l.getD i ac0).at_.toNat := ⟨_, rfl⟩
        obtain ⟨bv, hbv⟩ : ∃ v, v = (l.getD i ac0).byte := ⟨_, rfl⟩
        have hgw := many_write (left := d.left) HRU.out (by omega) (by omega) i hlt
        rw [← hav, ← hbv] at hgw
        obtain ⟨ab, ao, hA, la, hcc⟩ := (HA0.out.below hw) (by omega)
        obtain ⟨-, g1, g2⟩ := hcc i hlt
        rw [← hbv] at g2
        unfold u8v at g1 g2
        rw [← hav] at g1
        have hav2 : av ≤ 255 := by rw [hav]; have := (l.getD i ac0).at_.toNat_lt; omega
        have HAV := Lib.hid hav
        have HBV := Lib.hid hbv
        clear hcc hav hbv
        obtain ⟨od, hod⟩ : ∃ o, o = manyD d.secs (scrW d.secs.length l) d.left i := ⟨_, rfl⟩
        rw [← hod] at x6 hs6 hp6 r6 q6 hgw
        have HOD := Lib.hid hod
        obtain ⟨ox, hox⟩ : ∃ o, o = manyD d.secs (scrW d.secs.length l) d.left (i + 1) := ⟨_, rfl⟩
        rw [← hox] at hgw
        have HOX := Lib.hid hox
        have ewr : (IntKind.i64.wrap (av : Int)).tmod (d.secs.length : Int) = ((av % d.secs.length : Nat) : Int) := by
         have e1 : IntKind.i64.wrap (av : Int) = av := by simp [IntKind.wrap, IntKind.bits, IntKind.signed]; omega
         rw [e1]
         rfl
        rw [← ewr] at hgw
        have HGO := Lib.hid hgw
        clear ewr
        have hosl : od.secs.length ≤ 9000 := by rw [hod]; simp only [manyD]; omega
        have hopl : od.pend.length ≤ 9000 := by rw [hod]; simp only [manyD, List.length_take, scrW, List.length_map]; omega
        clear hod hox hgw
        subst hA
        have k0 : (0 : Int) ≤ (i : Int) := by omega
        have k1 : (i : Int) < (l.length : Int) := by omega
        have k2 : (0 : Int) ≤ (av : Int) := by omega
        have k3 : (0 : Int) < (d.secs.length : Int) := by omega
        have k4 : (d.secs.length : Int) ≤ 9000 := by omega
        have k5 : ((d.secs.length : Int) == 0) = false := beq_eq_false_iff_ne.2 (by omega)
        have k6 : ¬ (d.secs.length : Int) = 0 := by omega
        have k7 : (av : Int) ≤ 255 := by omega
        have k8 : ¬ d.secs.length = 0 := by omega
        have k9 : ¬ d.secs = [] := fun h => by rw [h] at k8; exact k8 rfl
        have x2c0 := x2.cell 0
        have x2c1 := x2.cell 1
        have x2c2 := x2.cell 2
        have x2c3 := x2.cell 3
        simp only [List.getElem?_toArray, List.getElem?_cons_zero, List.getElem?_cons_succ] at x2c0 x2c1 x2c2 x2c3
        have x2l := x2.lt
        have x6c0 := x6.cell 0
        have x6c1 := x6.cell 1
        have x6c2 := x6.cell 2
        have x6c3 := x6.cell 3
        simp only [List.getElem?_toArray, List.getElem?_cons_zero, List.getElem?_cons_succ] at x6c0 x6c1 x6c2 x6c3
        have x6l := x6.lt
        go_upto_region 18 with (fail)
        go_cut [13, 14] (fun s13 s14 wx => s14 = .int .i64 0 ∧ ∃ B2, s13 = .pointer (some ⟨B2, 0, none⟩) ∧ DkB n₀ wx B2 ox ∧ Below wr.heap.size wr wx ∧ wr.heap.size ≤ B2)
        case first =>
          have lww := hw.size
          have hks : ∀ W : World, Below wr.heap.size wr W → W.cell? ⟨C, 0, none⟩ = some (.slice S6 od.secs.length s6) ∧ W.cell? ⟨C, 1, none⟩ = some (.slice P6 od.pend.length p6) ∧ W.cell? ⟨C, 2, none⟩ = some (.int .i64 od.left) ∧ W.cell? ⟨C, 3, none⟩ = some (.bool od.stop) ∧ W.cell? ⟨ab, ao + i * 3 + 1, none⟩ = some (.int .u8 (av : Int)) ∧ W.cell? ⟨ab, ao + i * 3 + 2, none⟩ = some (.int .u8 (bv.toNat : Int)) ∧ W.cell? ⟨w.heap.size, 0, none⟩ = some (.slice SA d.secs.length sc) := fun W hb => ⟨(x6.below hb x6l).cell 0, (x6.below hb x6l).cell 1, (x6.below hb x6l).cell 2, (x6.below hb x6l).cell 3, (hb.cell (p := ⟨ab, _, none⟩) la).trans g1, (hb.cell (p := ⟨ab, _, none⟩) la).trans g2, (x2.below hb x2l).cell 0⟩
          have HKS := Lib.hid hks
          have HX6 := Lib.hid x6
          have HX2 := Lib.hid x2
          clear hks x6 x2
          go_region_held3 (fun W => W.cell? ⟨C, 0, none⟩ = some (.slice S6 od.secs.length s6) ∧ W.cell? ⟨C, 1, none⟩ = some (.slice P6 od.pend.length p6) ∧ W.cell? ⟨C, 2, none⟩ = some (.int .i64 od.left) ∧ W.cell? ⟨C, 3, none⟩ = some (.bool od.stop) ∧ W.cell? ⟨ab, ao + i * 3 + 1, none⟩ = some (.int .u8 (av : Int)) ∧ W.cell? ⟨ab, ao + i * 3 + 2, none⟩ = some (.int .u8 (bv.toNat : Int)) ∧ W.cell? ⟨w.heap.size, 0, none⟩ = some (.slice SA d.secs.length sc)) ((refine HKS.out _ ?_; repeat (first | exact h12 | exact Below.refl _ _ | refine Below.drew ?_ | refine Below.alloc ?_ (by first | (simp <;> omega) | (have := h12.size; simp <;> omega)) _ | refine Below.setCell ?_ (by first | (simp <;> omega) | (have := h12.size; simp <;> omega)) _)))
            ((go_at_call 32; refine (tg_write wr _ hosl hopl hs6 r6 q6 (by repeat (first | exact Below.refl _ _ | refine Below.drew ?_ | refine Below.alloc ?_ (by simp <;> omega) _)) (by first | exact Blk.new _ 5 _ | exact (Blk.new _ 5 _).alloc _ | exact Blk.newAt (World.size_alloc _ _) 5 _) HGO.out).mono ?_; rintro e w12 ⟨v12, rfl, ⟨S12, s12, P12, p12, rfl, hs12, hp12, r12, q12⟩, hb12⟩; have h12 : Below wr.heap.size wr w12 := Below.trans (by repeat (first | exact Below.refl _ _ | refine Below.drew ?_ | refine Below.alloc ?_ (by simp <;> omega) _)) (Below.mono hb12 (by simp <;> omega)); have HR12 := Lib.hid r12; have HQ12 := Lib.hid q12; clear r12 q12; first | (have t12 : Blk w12 (wr.heap.size + 1) 25 #[.slice none 0 0, .slice none 0 0, .int .i64 0, .bool false] := Blk.below (W := ((wr.alloc (.cells #[.int .u8 (bv.toNat : Int)] 5)).alloc (.cells #[.slice none 0 0, .slice none 0 0, .int .i64 0, .bool false] 25)).drew) (Blk.newAt (W := wr.alloc (.cells #[.int .u8 (bv.toNat : Int)] 5)) (World.size_alloc _ _) 25 _) hb12 (by simp <;> omega); have t0 := t12.cell 0; have f0 := t12.frozen 0; have t1 := t12.cell 1; have f1 := t12.frozen 1; have t2 := t12.cell 2; have f2 := t12.frozen 2; have t3 := t12.cell 3; have f3 := t12.frozen 3; simp only [List.getElem?_toArray, List.getElem?_cons_zero, List.getElem?_cons_succ] at t0 t1 t2 t3) | (have t12 : Blk w12 wr.heap.size 25 #[.slice none 0 0, .slice none 0 0, .int .i64 0, .bool false] := Blk.below (W := ((wr.alloc (.cells #[.slice none 0 0, .slice none 0 0, .int .i64 0, .bool false] 25)).alloc (.cells #[.int .u8 (bv.toNat : Int)] 5)).drew) ((Blk.new wr 25 _).alloc _) hb12 (by simp <;> omega); have t0 := t12.cell 0; have f0 := t12.frozen 0; have t1 := t12.cell 1; have f1 := t12.frozen 1; have t2 := t12.cell 2; have f2 := t12.frozen 2; have t3 := t12.cell 3; have f3 := t12.frozen 3; simp only [List.getElem?_toArray, List.getElem?_cons_zero, List.getElem?_cons_succ] at t0 t1 t2 t3) | skip))
          all_goals
           go_wp2_with (fail)
           go_meet
           have hs12 : ox.secs.length ≤ s12 := hs12
           have hp12 : ox.pend.length ≤ p12 := hp12
           refine ⟨rfl, _, rfl, ?_, ?_, ?_⟩
           · first | with_reducible exact box_new hs12 hp12 HR12.out HQ12.out | exact box_put t12 (by omega) hs12 hp12 HR12.out HQ12.out
           · repeat (first | exact h12 | refine Below.setCell ?_ (by simp <;> omega) _ | refine Below.alloc ?_ (by have := h12.size; omega) _)
           · have := h12.size
             (first | omega | (simp <;> omega))
        case rest =>
          obtain ⟨rfl, B2, rfl, ⟨S2, s2, P2, p2, x13, hs2, hp2, r13, q13⟩, hb, lB2⟩ := hcut
          have l6 : C < B2 := Nat.lt_of_lt_of_le x6l lB2
          clear g1 g2 k2 k3 k4
          replace r6 := r6.below hb
          replace q6 := q6.below hb
          replace hB := hB.below hb
          replace x2 := x2.below hb x2.lt
          replace x6 := x6.below hb x6.lt
          replace hw := hw.trans (hb.mono hw.size)
          clear x2c0 x2c1 x2c2 x2c3 x2l x6c0 x6c1 x6c2 x6c3 x6l
          clear hb
          have x13c0 := x13.cell 0
          have x13c1 := x13.cell 1
          have x13c2 := x13.cell 2
          have x13c3 := x13.cell 3
          simp only [List.getElem?_toArray, List.getElem?_cons_zero, List.getElem?_cons_succ] at x13c0 x13c1 x13c2 x13c3
          have x13l := x13.lt
          have x6c0 := x6.cell 0
          have x6f0 := x6.frozen 0
          have x6c1 := x6.cell 1
          have x6f1 := x6.frozen 1
          have x6c2 := x6.cell 2
          have x6f2 := x6.frozen 2
          have x6c3 := x6.cell 3
          have x6f3 := x6.frozen 3
          simp only [List.getElem?_toArray, List.getElem?_cons_zero, List.getElem?_cons_succ] at x6c0 x6c1 x6c2 x6c3
          have x6l := x6.lt
          go_upto_region 17 with (fail)
          obtain ⟨W21, hW21⟩ : ∃ W, W = ((((wc.setCell ⟨C, 0, none⟩ (.slice S2 ox.secs.length s2)).setCell ⟨C, 1, none⟩ (.slice P2 ox.pend.length p2)).setCell ⟨C, 2, none⟩ (.int .i64 ox.left)).setCell ⟨C, 3, none⟩ (.bool ox.stop)) := ⟨_, rfl⟩
          rw [← hW21]
          have hk : Keep (fun r => r = C) wc W21 := by rw [hW21]; repeat (first | with_reducible exact Keep.refl _ _ | refine Keep.setCell ?_ (fun _ => by simp) _)
          have hm := Boxes.one (n₀ := n₀) x6 rfl hnC
          replace r13 := r13.keep hk hm
          replace q13 := q13.keep hk hm
          replace hB := hB.keep hk hm
          replace x2 := x2.keep hk (fun h => by omega)
          replace x13 := x13.keep hk (fun h => by omega)
          replace x6 : Blk W21 C 25 #[.slice S2 ox.secs.length s2, .slice P2 ox.pend.length p2, .int .i64 ox.left, .bool ox.stop] := by rw [hW21]; exact ((((x6.set 0 (.slice S2 ox.secs.length s2)).set 1 (.slice P2 ox.pend.length p2)).set 2 (.int .i64 ox.left)).set 3 (.bool ox.stop))
          replace hw := hw.trans (hk.below hw.size (fun r hr h => by omega))
          clear x13c0 x13c1 x13c2 x13c3 x13l x6f0 x6f1 x6f2 x6f3 x6c0 x6c1 x6c2 x6c3 x6l
          clear hW21 hk hm
          replace hB := hB (fun h => hBC h)
          have hDk : DkB n₀ W21 C (manyD d.secs (scrW d.secs.length l) d.left (i + 1)) := by rw [← HOX.out]; exact ⟨S2, s2, P2, p2, x6, hs2, hp2, r13, q13⟩
          have HDK := Lib.hid hDk
          clear hDk
          go_wp2_with (fail)
          go_roundw
          case rel => exact ⟨i + 1, by omega, by go_num, HDK.out, hB, x2, hw⟩
          case measure => simp [intOf]; omega
end Go.Proofs.Ytckeopidedoohaa
