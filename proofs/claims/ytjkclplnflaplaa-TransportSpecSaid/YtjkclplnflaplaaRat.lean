/-
  The reference's At: the state that an engine sample shows. Conditions: orders that are fine.
-/
import Derived.Test.YtjkclplnflaplaaRst
import Derived.Test.YtjkclplnflaplaaLat
import Derived.Deep.RegionWith
namespace Go.Proofs.Ytjkclplnflaplaa
open Go.RowKit
attribute [local go_sem] Oper.semAt_some

def AtIs (w : World) (l : List Ord) (t : Int) (e : Ending) (w' : World) : Prop := ∃ r, Sim r (atS l t) ∧ e = .returned (rsv r) ∧ Below w.heap.size w w'

/-- At the head of a round: everything up to the sample before has acted. -/
def RatO (w : World) (l : List Ord) (t : Int) (kv mv : Value) (wr : World) : Prop :=
  ∃ (k : Nat) (m : Int) (r : RS), kv = .int .i64 k ∧ mv = .int .i64 m ∧ 0 ≤ m ∧ m ≤ t + 1 ∧ k = cutK l (m - 1) ∧ Sim r (atS l (m - 1)) ∧ Blk wr w.heap.size 53 (rsc r0) ∧ Blk wr (w.heap.size + 1) 53 (rsc r) ∧ Below w.heap.size w wr
def RatI (w : World) (l : List Ord) (m : Int) (kv : Value) (wr : World) : Prop :=
  ∃ (k : Nat) (r : RS), kv = .int .i64 k ∧ k ≤ l.length ∧ Hid (∀ j, j < k → oT l j ≤ m) ∧ cutK l (m - 1) ≤ k ∧ Hid (Sim r (advS (runS l k) (m - nowK l k))) ∧ Blk wr w.heap.size 53 (rsc r0) ∧ Blk wr (w.heap.size + 1) 53 (rsc r) ∧ Below w.heap.size w wr

theorem cut_neg {l : List Ord} (hg : GoodTo l l.length) : cutK l (-1) = 0 := (cut_uniq (Nat.zero_le _) (fun i hi => by omega) (fun h => by have := (hg.1 0 h).1; have e : oT l 0 = (l.getD 0 o0).at_ := rfl; omega)).symm
theorem at_neg {l : List Ord} (hg : GoodTo l l.length) : atS l (-1) = s0 := by
  unfold atS
  rw [cut_neg hg]
  exact adv_s0 _
theorem blk_rs {W : World} {B : Nat} {r : RS} (h : Blk W B 53 (rsc r)) (p0 : Int) (p1 : Bool) (p2 p3 p4 p5 p6 p7 p8 p9 : Int) :
    Blk ((((((((((W.setCell ⟨B, 0, none⟩ (.int .i64 p0)).setCell ⟨B, 1, none⟩ (.bool p1)).setCell ⟨B, 2, none⟩ (.int .i64 p2)).setCell ⟨B, 3, none⟩ (.int .i64 p3)).setCell ⟨B, 4, none⟩ (.int .i64 p4)).setCell ⟨B, 5, none⟩ (.int .i64 p5)).setCell ⟨B, 6, none⟩ (.int .i64 p6)).setCell ⟨B, 7, none⟩ (.int .i64 p7)).setCell ⟨B, 8, none⟩ (.int .i64 p8)).setCell ⟨B, 9, none⟩ (.int .i64 p9)) B 53 (rsc ⟨p0, p1, p2, p3, p4, p5, p6, p7, p8, p9⟩) :=
  by
  have := ((((((((((h.set 0 (.int .i64 p0)).set 1 (.bool p1)).set 2 (.int .i64 p2)).set 3 (.int .i64 p3)).set 4 (.int .i64 p4)).set 5 (.int .i64 p5)).set 6 (.int .i64 p6)).set 7 (.int .i64 p7)).set 8 (.int .i64 p8)).set 9 (.int .i64 p9))
  simpa only [rsc, List.setIfInBounds_toArray, List.set_cons_zero, List.set_cons_succ] using this

theorem below_rs {n : Nat} {w W : World} {B : Nat} (h : Below n w W) (hB : n ≤ B) (p0 : Int) (p1 : Bool) (p2 p3 p4 p5 p6 p7 p8 p9 : Int) :
    Below n w ((((((((((W.setCell ⟨B, 0, none⟩ (.int .i64 p0)).setCell ⟨B, 1, none⟩ (.bool p1)).setCell ⟨B, 2, none⟩ (.int .i64 p2)).setCell ⟨B, 3, none⟩ (.int .i64 p3)).setCell ⟨B, 4, none⟩ (.int .i64 p4)).setCell ⟨B, 5, none⟩ (.int .i64 p5)).setCell ⟨B, 6, none⟩ (.int .i64 p6)).setCell ⟨B, 7, none⟩ (.int .i64 p7)).setCell ⟨B, 8, none⟩ (.int .i64 p8)).setCell ⟨B, 9, none⟩ (.int .i64 p9)) :=
  (((((((((h.setCell (p := ⟨B, 0, none⟩) hB _).setCell (p := ⟨B, 1, none⟩) hB _).setCell (p := ⟨B, 2, none⟩) hB _).setCell (p := ⟨B, 3, none⟩) hB _).setCell (p := ⟨B, 4, none⟩) hB _).setCell (p := ⟨B, 5, none⟩) hB _).setCell (p := ⟨B, 6, none⟩) hB _).setCell (p := ⟨B, 7, none⟩) hB _).setCell (p := ⟨B, 8, none⟩) hB _).setCell (p := ⟨B, 9, none⟩) hB _
theorem blk_other {W : World} {B D : Nat} {t : TypeId} {cs : Array Value} (h : Blk W D t cs) (hB : D ≠ B) (p0 : Int) (p1 : Bool) (p2 p3 p4 p5 p6 p7 p8 p9 : Int) :
    Blk ((((((((((W.setCell ⟨B, 0, none⟩ (.int .i64 p0)).setCell ⟨B, 1, none⟩ (.bool p1)).setCell ⟨B, 2, none⟩ (.int .i64 p2)).setCell ⟨B, 3, none⟩ (.int .i64 p3)).setCell ⟨B, 4, none⟩ (.int .i64 p4)).setCell ⟨B, 5, none⟩ (.int .i64 p5)).setCell ⟨B, 6, none⟩ (.int .i64 p6)).setCell ⟨B, 7, none⟩ (.int .i64 p7)).setCell ⟨B, 8, none⟩ (.int .i64 p8)).setCell ⟨B, 9, none⟩ (.int .i64 p9)) D t cs :=
  (((((((((h.other (p := ⟨B, 0, none⟩) hB _).other (p := ⟨B, 1, none⟩) hB _).other (p := ⟨B, 2, none⟩) hB _).other (p := ⟨B, 3, none⟩) hB _).other (p := ⟨B, 4, none⟩) hB _).other (p := ⟨B, 5, none⟩) hB _).other (p := ⟨B, 6, none⟩) hB _).other (p := ⟨B, 7, none⟩) hB _).other (p := ⟨B, 8, none⟩) hB _).other (p := ⟨B, 9, none⟩) hB _

set_option maxRecDepth 20000 in
set_option maxHeartbeats 4000000 in
theorem at_t (A : Option Addr) (c : Nat) (l : List Ord) (t : Int) (w : World) (hn : l.length ≤ 256) (hg : GoodTo l l.length) (h : SlAt w A l) (t0 : 0 ≤ t) (t1 : t ≤ 1099511627776) :
    Calls Try.prog 24 #[.slice A l.length c, .int .i64 t] w (AtIs w l t) := by
  have HG := Lib.hid hg
  have hal : Below w.heap.size w ((w.alloc (.cells (rsc r0) 53)).alloc (.cells (rsc r0) 53)) := ((Below.refl _ w).alloc (Nat.le_refl _) _).alloc (by simp) _
  have b0 : Blk ((w.alloc (.cells (rsc r0) 53)).alloc (.cells (rsc r0) 53)) w.heap.size 53 (rsc r0) := (Blk.new w 53 _).alloc _
  have b1 : Blk ((w.alloc (.cells (rsc r0) 53)).alloc (.cells (rsc r0) 53)) (w.heap.size + 1) 53 (rsc r0) := Blk.newAt (by simp) 53 _
  have hs0 := Lib.hid (show Sim r0 (atS l (0 - 1)) by rw [show (0 : Int) - 1 = -1 by omega, at_neg hg]; exact sim0)
  have hc0 := Lib.hid (show 0 = cutK l (0 - 1) by rw [show (0 : Int) - 1 = -1 by omega, cut_neg hg])
  clear hg
  go_enter Try.func24, Try.ntmps24
  go_wp2
  go_loopw [6, 7] (fun kv mv wr => RatO w l t kv mv wr) (fun _ mv _ => (t + 1 - intOf mv).toNat)
  case atStart => exact ⟨0, 0, r0, rfl, rfl, by omega, by omega, hc0.out, hs0.out, b0, b1, hal⟩
  case round =>
    clear hal b0 b1 hs0 hc0
    obtain ⟨k, m, r, rfl, rfl, m0, m1, hk, hs, b0, b1, hw⟩ := hrel
    obtain ⟨e0, e1, e2, e3, e4, e5, e6, e7, e8, e9, ef⟩ := rsc_cells b1
    have l1 := b1.lt
    by_cases hm : m ≤ t
    case neg =>
      obtain rfl : m = t + 1 := by omega
      rw [show t + 1 - 1 = t by omega] at hs
      have HS := Lib.hid hs
      have HK := Lib.hid hk
      obtain ⟨g0, g1, g2, g3, g4, g5, g6, g7, g8, g9, gf⟩ := rsc_cells b0
      clear hs hk
      go_wp2
      refine bodyPost_ret (v := rsv r) (by simp [results, Try.results24, go_sem, rsv, rsc, g0, g1, g2, g3, g4, g5, g6, g7, g8, g9, gf]) rfl ?_
      exact ⟨r, HS.out, rfl, below_rs hw (Nat.le_refl _) _ _ _ _ _ _ _ _ _ _⟩
    obtain ⟨W0, hW0⟩ : ∃ W, W = wr := ⟨_, rfl⟩
    subst hW0
    have hcl := cut_len l (m - 1)
    have hin : True := trivial
    by_cases hm0 : 0 < m
    · have hok := at_ok HG.out (l := l) (m := m - 1) (by omega)
      have hp0 := hok.1.p0
      have hp1 := hok.1.p1
      have hnx := hs.next (hok.1.ok (by omega))
      have hat : advS (atS l (m - 1)) 1 = advS (runS l (cutK l (m - 1))) (m - nowK l (cutK l (m - 1))) := by
        have hb := now_bd HG.out hcl
        have hnc : nowK l (cutK l (m - 1)) ≤ m - 1 := now_cut (by omega)
        show advS (advS _ _) 1 = _
        rw [advS_add ((run_ok HG.out _ hcl).ok (by omega)) (by omega) (by omega)]
        congr 1
        omega
      rw [hat] at hnx
      have KN := fun W => next_t r W (by rw [hs.pos]; omega) (by rw [hs.pos]; omega)
      obtain ⟨⟨p0, p1, p2, p3, p4, p5, p6, p7, p8, p9⟩, hr2⟩ : ∃ x, x = nextR r := ⟨_, rfl⟩
      rw [← hr2] at KN hnx
      unfold rsv rsc at KN
      dsimp only at KN
      have HN := Lib.hid hnx
      have HK := Lib.hid hk
      have dm : decide (m ≤ t) = true := decide_eq_true hm
      have hTk : Hid (∀ j, j < k → oT l j ≤ m) := Lib.hid (fun j hj => by
        rw [hk] at hj
        have := cut_le (m - 1) hj
        omega)
      clear hs hk hnx hat hr2 hok hp0 hp1
      go_wp2_with (fail)
      go_at_call 36
      refine (KN _).mono ?_
      rintro e w5 ⟨rfl, hb5⟩
      have c1 := b1.below hb5 l1
      have c0 := b0.below hb5 b0.lt
      have hw5 := hw.trans (hb5.mono hw.size)
      clear e0 e1 e2 e3 e4 e5 e6 e7 e8 e9 ef
      obtain ⟨e0, e1, e2, e3, e4, e5, e6, e7, e8, e9, ef⟩ := rsc_cells c1
      have l5 := c1.lt
      have d1 := blk_rs c1 p0 p1 p2 p3 p4 p5 p6 p7 p8 p9
      clear hb5 b0 b1 hw KN
      go_wp2_with (fail)
      go_loopw [6] (fun kv wx => RatI w l (m) kv wx) (fun kv _ => l.length - (intOf kv).toNat)
      case atStart => exact ⟨k, ⟨p0, p1, p2, p3, p4, p5, p6, p7, p8, p9⟩, rfl, by rw [HK.out]; exact hcl, hTk, by rw [HK.out]; exact Nat.le_refl _, by rw [HK.out]; exact HN, blk_other c0 (by omega) _ _ _ _ _ _ _ _ _ _, d1, below_rs hw5 (by omega) _ _ _ _ _ _ _ _ _ _⟩
      case round =>
        try clear d1
        try clear c0 c1 e0 e1 e2 e3 e4 e5 e6 e7 e8 e9 ef hw5
        try clear b0 b1 hw e0 e1 e2 e3 e4 e5 e6 e7 e8 e9 ef
        clear HN hTk
        obtain ⟨k, r, rfl, hk, hT, hck, HS, c0, c1, hwx⟩ := hrel
        obtain ⟨e0, e1, e2, e3, e4, e5, e6, e7, e8, e9, ef⟩ := rsc_cells c1
        have lx := c1.lt
        by_cases hlt : k < l.length ∧ oT l k = m
        case pos =>
          obtain ⟨hlt, hqt⟩ := hlt
          obtain ⟨b, o, rfl, hm0⟩ := h (by omega)
          have hm := hm0.below hwx
          have hb := hm0.lt
          have g0 := hm.c0 k hlt
          have g1 := hm.c1 k hlt
          have g2 := hm.c2 k hlt
          have g3 := hm.c3 k hlt
          have hR := HG.out.1 k hlt
          obtain ⟨kd, hkd⟩ : ∃ x, x = oK l k := ⟨_, rfl⟩
          obtain ⟨xa, hxa⟩ : ∃ x, x = oA l k := ⟨_, rfl⟩
          obtain ⟨xb, hxb⟩ : ∃ x, x = oB l k := ⟨_, rfl⟩
          have hx : l.getD k o0 = ⟨m, kd, xa, xb⟩ := by rw [← hqt, hkd, hxa, hxb]; rfl
          rw [hqt] at g0
          rw [← hkd] at g1
          rw [← hxa] at g2
          rw [← hxb] at g3
          rw [hx] at hR
          have KO := fun W => ordered_t r ⟨m, kd, xa, xb⟩ hR W
          have hso := HS.out.ord hR
          have hrun : ordS (advS (runS l k) (m - nowK l k)) ⟨m, kd, xa, xb⟩ = advS (runS l (k + 1)) (m - nowK l (k + 1)) := by
            have e1 : m - nowK l (k + 1) = 0 := by show m - oT l k = 0; omega
            rw [e1, advS_zero]
            show _ = ordS (advS (runS l k) (oT l k - nowK l k)) (l.getD k o0)
            rw [hx, hqt]
          rw [hrun] at hso
          obtain ⟨⟨p0, p1, p2, p3, p4, p5, p6, p7, p8, p9⟩, hr2⟩ : ∃ x, x = ordR r ⟨m, kd, xa, xb⟩ := ⟨_, rfl⟩
          rw [← hr2] at KO hso
          unfold rsv rsc at KO
          dsimp only at KO
          have HSO := Lib.hid hso
          have HQT := Lib.hid hqt
          clear hso hrun hr2 hx hkd hxa hxb hqt hR hm hm0 HS
          go_wp2_with (fail)
          go_region_with ((refine (KO _).mono ?_; rintro e w7 ⟨rfl, hb7⟩; have c17 := Blk.below (W := wr.drew) c1 hb7 lx; obtain ⟨u0, u1, u2, u3, u4, u5, u6, u7, u8, u9, uf⟩ := rsc_cells c17; have l7 := c17.lt))
          go_wp2_with (fail)
          all_goals
            go_roundw
            case rel => exact ⟨k + 1, ⟨p0, p1, p2, p3, p4, p5, p6, p7, p8, p9⟩, by go_num, by omega, Lib.hid (fun j hj => by
              rcases Nat.lt_or_ge j k with h' | h'
              · exact hT.out j h'
              · obtain rfl : j = k := by omega
                rw [HQT.out]
                exact Int.le_refl _), by omega, HSO, blk_other (Blk.below (W := wr.drew) c0 hb7 c0.lt) (by omega) _ _ _ _ _ _ _ _ _ _, blk_rs c17 _ _ _ _ _ _ _ _ _ _, below_rs (hwx.drew.trans (hb7.mono hwx.size)) (by omega) _ _ _ _ _ _ _ _ _ _⟩
            case measure => simp [intOf]; omega
        case neg =>
          have hkc : k = cutK l m := cut_uniq hk hT.out (fun hh => by
            have h1 := cut_gt HG.out hck hh
            have h2 : ¬ oT l k = m := fun hx => hlt ⟨hh, hx⟩
            omega)
          have HKC := Lib.hid (show k = cutK l (m + 1 - 1) by rw [show (m : Int) + 1 - 1 = m by omega]; exact hkc)
          have HSA := Lib.hid (show Sim r (atS l (m + 1 - 1)) by
            rw [show (m : Int) + 1 - 1 = m by omega]
            unfold atS
            rw [← hkc]
            exact HS.out)
          clear hkc HS hT hck
          by_cases hll : k < l.length
          · obtain ⟨b, o, rfl, hm0⟩ := h (by omega)
            have hm := hm0.below hwx
            have hb := hm0.lt
            have g0 := hm.c0 k hll
            have h2 : (oT l k == m) = false := beq_eq_false_iff_ne.2 (fun hx => hlt ⟨hll, hx⟩)
            obtain ⟨xt, hxt⟩ : ∃ x, x = oT l k := ⟨_, rfl⟩
            rw [← hxt] at g0 h2
            clear hm hm0 hlt hxt
            go_wp2_with (fail)
            go_roundw
            case rel => exact ⟨k, m + 1, r, rfl, by go_num, by omega, by omega, HKC.out, HSA.out, c0, c1, hwx⟩
            case measure => simp [intOf]; omega
          · obtain rfl : k = l.length := by omega
            clear hlt hll
            go_wp2_with (fail)
            go_roundw
            case rel => exact ⟨l.length, m + 1, r, rfl, by go_num, by omega, by omega, HKC.out, HSA.out, c0, c1, hwx⟩
            case measure => simp [intOf]; omega
    · obtain rfl : m = 0 := by omega
      have hk2 : k = 0 := by rw [hk, show (0 : Int) - 1 = -1 by omega, cut_neg HG.out]
      subst hk2
      rw [show (0 : Int) - 1 = -1 by omega, at_neg HG.out] at hs
      have HN := Lib.hid (show Sim r (advS (runS l 0) (0 - nowK l 0)) by
        show Sim r (advS s0 _)
        rw [adv_s0]
        exact hs)
      have HK := Lib.hid hk
      have hTk : Hid (∀ j, j < 0 → oT l j ≤ 0) := Lib.hid (fun j hj => by omega)
      clear hs hk
      go_wp2_with (fail)
      go_loopw [6] (fun kv wx => RatI w l (0) kv wx) (fun kv _ => l.length - (intOf kv).toNat)
      case atStart => exact ⟨0, r, rfl, by omega, hTk, by rw [← HK.out]; exact Nat.le_refl _, HN, b0, b1, hw⟩
      case round =>
        try clear d1
        try clear c0 c1 e0 e1 e2 e3 e4 e5 e6 e7 e8 e9 ef hw5
        try clear b0 b1 hw e0 e1 e2 e3 e4 e5 e6 e7 e8 e9 ef
        clear HN hTk
        obtain ⟨k, r, rfl, hk, hT, hck, HS, c0, c1, hwx⟩ := hrel
        obtain ⟨e0, e1, e2, e3, e4, e5, e6, e7, e8, e9, ef⟩ := rsc_cells c1
        have lx := c1.lt
        by_cases hlt : k < l.length ∧ oT l k = 0
        case pos =>
          obtain ⟨hlt, hqt⟩ := hlt
          obtain ⟨b, o, rfl, hm0⟩ := h (by omega)
          have hm := hm0.below hwx
          have hb := hm0.lt
          have g0 := hm.c0 k hlt
          have g1 := hm.c1 k hlt
          have g2 := hm.c2 k hlt
          have g3 := hm.c3 k hlt
          have hR := HG.out.1 k hlt
          obtain ⟨kd, hkd⟩ : ∃ x, x = oK l k := ⟨_, rfl⟩
          obtain ⟨xa, hxa⟩ : ∃ x, x = oA l k := ⟨_, rfl⟩
          obtain ⟨xb, hxb⟩ : ∃ x, x = oB l k := ⟨_, rfl⟩
          have hx : l.getD k o0 = ⟨0, kd, xa, xb⟩ := by rw [← hqt, hkd, hxa, hxb]; rfl
          rw [hqt] at g0
          rw [← hkd] at g1
          rw [← hxa] at g2
          rw [← hxb] at g3
          rw [hx] at hR
          have KO := fun W => ordered_t r ⟨0, kd, xa, xb⟩ hR W
          have hso := HS.out.ord hR
          have hrun : ordS (advS (runS l k) (0 - nowK l k)) ⟨0, kd, xa, xb⟩ = advS (runS l (k + 1)) (0 - nowK l (k + 1)) := by
            have e1 : 0 - nowK l (k + 1) = 0 := by show 0 - oT l k = 0; omega
            rw [e1, advS_zero]
            show _ = ordS (advS (runS l k) (oT l k - nowK l k)) (l.getD k o0)
            rw [hx, hqt]
          rw [hrun] at hso
          obtain ⟨⟨p0, p1, p2, p3, p4, p5, p6, p7, p8, p9⟩, hr2⟩ : ∃ x, x = ordR r ⟨0, kd, xa, xb⟩ := ⟨_, rfl⟩
          rw [← hr2] at KO hso
          unfold rsv rsc at KO
          dsimp only at KO
          have HSO := Lib.hid hso
          have HQT := Lib.hid hqt
          clear hso hrun hr2 hx hkd hxa hxb hqt hR hm hm0 HS
          go_wp2_with (fail)
          go_region_with ((refine (KO _).mono ?_; rintro e w7 ⟨rfl, hb7⟩; have c17 := Blk.below (W := wr.drew) c1 hb7 lx; obtain ⟨u0, u1, u2, u3, u4, u5, u6, u7, u8, u9, uf⟩ := rsc_cells c17; have l7 := c17.lt))
          go_wp2_with (fail)
          all_goals
            go_roundw
            case rel => exact ⟨k + 1, ⟨p0, p1, p2, p3, p4, p5, p6, p7, p8, p9⟩, by go_num, by omega, Lib.hid (fun j hj => by
              rcases Nat.lt_or_ge j k with h' | h'
              · exact hT.out j h'
              · obtain rfl : j = k := by omega
                rw [HQT.out]
                exact Int.le_refl _), by omega, HSO, blk_other (Blk.below (W := wr.drew) c0 hb7 c0.lt) (by omega) _ _ _ _ _ _ _ _ _ _, blk_rs c17 _ _ _ _ _ _ _ _ _ _, below_rs (hwx.drew.trans (hb7.mono hwx.size)) (by omega) _ _ _ _ _ _ _ _ _ _⟩
            case measure => simp [intOf]; omega
        case neg =>
          have hkc : k = cutK l 0 := cut_uniq hk hT.out (fun hh => by
            have h1 := cut_gt HG.out hck hh
            have h2 : ¬ oT l k = 0 := fun hx => hlt ⟨hh, hx⟩
            omega)
          have HKC := Lib.hid (show k = cutK l (0 + 1 - 1) by rw [show (0 : Int) + 1 - 1 = 0 by omega]; exact hkc)
          have HSA := Lib.hid (show Sim r (atS l (0 + 1 - 1)) by
            rw [show (0 : Int) + 1 - 1 = 0 by omega]
            unfold atS
            rw [← hkc]
            exact HS.out)
          clear hkc HS hT hck
          by_cases hll : k < l.length
          · obtain ⟨b, o, rfl, hm0⟩ := h (by omega)
            have hm := hm0.below hwx
            have hb := hm0.lt
            have g0 := hm.c0 k hll
            have h2 : (oT l k == 0) = false := beq_eq_false_iff_ne.2 (fun hx => hlt ⟨hll, hx⟩)
            obtain ⟨xt, hxt⟩ : ∃ x, x = oT l k := ⟨_, rfl⟩
            rw [← hxt] at g0 h2
            clear hm hm0 hlt hxt
            go_wp2_with (fail)
            go_roundw
            case rel => exact ⟨k, 0 + 1, r, rfl, by go_num, by omega, by omega, HKC.out, HSA.out, c0, c1, hwx⟩
            case measure => simp [intOf]; omega
          · obtain rfl : k = l.length := by omega
            clear hlt hll
            go_wp2_with (fail)
            go_roundw
            case rel => exact ⟨l.length, 0 + 1, r, rfl, by go_num, by omega, by omega, HKC.out, HSA.out, c0, c1, hwx⟩
            case measure => simp [intOf]; omega
end Go.Proofs.Ytjkclplnflaplaa
