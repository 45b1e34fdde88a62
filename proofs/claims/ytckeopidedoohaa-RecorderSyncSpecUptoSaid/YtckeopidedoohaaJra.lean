/-
  The reference's checksum, number. Conditions: bytes lie as plain data. | The reference's Sectors, Used, Check, Room of a journal. Conditions: the journal lies as plain data.
-/
import Derived.Test.YtckeopidedoohaaJck
import Derived.Test.YtckeopidedoohaaJap
namespace Go.Proofs.Ytckeopidedoohaa
open Go.RowKit
variable {n₀ : Nat}
attribute [local go_sem] Oper.semAt_some

set_option maxRecDepth 20000 in
set_option maxHeartbeats 2000000 in
theorem rsum_t (A : Option Addr) (c : Nat) (bs : Bs) (w : World) (hl : bs.length ≤ 140737488355328) (h : BsAt n₀ w A bs) : Calls Try.prog 111 #[.slice A bs.length c] w fun e w' => e = .returned (.int .u32 (gSum bs : Nat)) ∧ w' = w := by
  have HB := Lib.hid h
  clear h
  go_enter Try.func111, Try.ntmps111
  go_wp2_with (fail)
  go_loopw [3, 4] (fun v3 v8 wr => ∃ i : Nat, i ≤ bs.length ∧ v8 = .int .i64 i ∧ v3 = .int .u32 (crcL 4294967295 (bs.take i) : Nat) ∧ wr = w) (fun _ v8 _ => bs.length - (intOf v8).toNat)
  case atStart => exact ⟨0, by omega, rfl, rfl, rfl⟩
  case round =>
    obtain ⟨i, hi, rfl, rfl, hwr⟩ := hrel
    have hwr := hwr.symm
    subst hwr
    by_cases hlt : i < bs.length
    case neg =>
      obtain rfl : i = bs.length := by omega
      rw [List.take_length]
      go_wp2
      go_ret
      exact ⟨congrArg (fun z => Ending.returned (.int .u32 z)) ((u32_xor_nat _ 4294967295 (crcL_lt (by decide) _) (by decide)).trans (by unfold gSum; rw [Nat.xor_comm])), rfl⟩
    case pos =>
      obtain ⟨b, o, rfl, hb, hc⟩ := HB.out (by omega)
      have z0 := hc i hlt
      unfold u8v at z0
      have hst := take_snocB bs i hlt
      obtain ⟨cb, hcb⟩ : ∃ x, x = bs.getD i 0 := ⟨_, rfl⟩
      rw [← hcb] at z0 hst
      obtain ⟨n, hn⟩ : ∃ n, n = crcL 4294967295 (bs.take i) := ⟨_, rfl⟩
      have hn2 : n < 4294967296 := by rw [hn]; exact crcL_lt (by decide) _
      rw [← hn]
      have HN := Lib.hid hn
      have HST := Lib.hid hst
      clear hn hst hc hcb
      have hcb2 : (cb.toNat : Int) ≤ 255 := by have := cb.toNat_lt; omega
      go_wp2_with (fail)
      go_loopw [3, 5] (fun v3 v16 w2 => ∃ k : Nat, k ≤ 8 ∧ v16 = .int .i64 k ∧ v3 = .int .u32 (crcN k (n ^^^ cb.toNat) : Nat) ∧ w2 = w) (fun _ v16 _ => 8 - (intOf v16).toNat)
      case atStart =>
        exact ⟨0, by omega, rfl, congrArg (fun z => Value.int .u32 z) (u32_xor_nat n cb.toNat hn2 (by omega)), rfl⟩
      case round =>
        obtain ⟨k, hk, rfl, rfl, hwr⟩ := hrel
        have hwr := hwr.symm
        subst hwr
        obtain ⟨x, hx⟩ : ∃ x, x = crcN k (n ^^^ cb.toNat) := ⟨_, rfl⟩
        have hx2 : x < 4294967296 := by rw [hx]; exact crcN_lt _ (xor_u8_lt hn2 _)
        rw [← hx]
        have HX := Lib.hid hx
        clear hx
        by_cases hk8 : k < 8
        case pos =>
          have hs1 : crcN (k + 1) (n ^^^ cb.toNat) = crc1 x := by rw [HX.out]; rfl
          have HS1 := Lib.hid hs1
          clear hs1
          by_cases hodd : x % 2 = 1
          case pos =>
            have d1 : (((x : Int).tmod 2) == 1) = true := by
              rw [show (x : Int).tmod 2 = ((x % 2 : Nat) : Int) from rfl]
              exact beq_iff_eq.2 (by omega)
            have d2 : ((((x : Int) % 2)) == 1) = true := beq_iff_eq.2 (by omega)
            have d3 : (x : Int) % 2 = 1 := by omega
            go_wp2_with (fail)
            go_roundw
            case rel =>
              refine ⟨k + 1, by omega, by go_num, ?_, by trivial⟩
              rw [HS1.out]
              unfold crc1
              rw [hodd, show (x : Int) / 2 = ((x / 2 : Nat) : Int) by omega]
              exact congrArg (fun z => Value.int .u32 z) (u32_xor_nat (x / 2) 3988292384 (by omega) (by decide))
            case measure => simp [intOf]; omega
          case neg =>
            have d1 : (((x : Int).tmod 2) == 1) = false := by
              rw [show (x : Int).tmod 2 = ((x % 2 : Nat) : Int) from rfl]
              exact beq_eq_false_iff_ne.2 (by omega)
            have d2 : ((((x : Int) % 2)) == 1) = false := beq_eq_false_iff_ne.2 (by omega)
            have d3 : ¬ (x : Int) % 2 = 1 := by omega
            go_wp2_with (fail)
            go_roundw
            case rel =>
              refine ⟨k + 1, by omega, by go_num, ?_, by trivial⟩
              rw [HS1.out]
              unfold crc1
              rw [show x % 2 = 0 by omega]
              simp
            case measure => simp [intOf]; omega
        case neg =>
          obtain rfl : k = 8 := by omega
          go_wp2_with (fail)
          go_roundw
          case rel =>
            refine ⟨i + 1, by omega, by go_num, ?_, by trivial⟩
            rw [HST.out, crcL_append, ← HN.out, HX.out]
            rfl
          case measure => simp [intOf]; omega
set_option maxRecDepth 20000 in
set_option maxHeartbeats 2000000 in
theorem rnumber_t (A : Option Addr) (c : Nat) (bs : Bs) (w : World) (hl : bs.length ≤ 7) (h : BsAt n₀ w A bs) : Calls Try.prog 107 #[.slice A bs.length c] w fun e w' => e = .returned (.int .u64 (getL bs : Nat)) ∧ w' = w := by
  have HB := Lib.hid h
  clear h
  go_enter Try.func107, Try.ntmps107
  go_wp2_with (fail)
  go_loopw [3, 4] (fun v2 v7 wr => ∃ i : Nat, i ≤ bs.length ∧ v7 = .int .i64 i ∧ v2 = .int .u64 (getL (bs.take i) : Nat) ∧ wr = w) (fun _ v7 _ => bs.length - (intOf v7).toNat)
  case atStart => exact ⟨0, by omega, rfl, rfl, rfl⟩
  case round =>
    obtain ⟨i, hi, rfl, rfl, hwr⟩ := hrel
    have hwr := hwr.symm
    subst hwr
    by_cases hlt : i < bs.length
    case neg =>
      obtain rfl : i = bs.length := by omega
      rw [List.take_length]
      go_wp2
      go_ret
      exact ⟨rfl, rfl⟩
    case pos =>
      obtain ⟨b, o, rfl, hb, hc⟩ := HB.out (by omega)
      have z0 := hc i hlt
      unfold u8v at z0
      have hst := take_snocB bs i hlt
      obtain ⟨cb, hcb⟩ : ∃ x, x = bs.getD i 0 := ⟨_, rfl⟩
      rw [← hcb] at z0 hst
      obtain ⟨n, hn⟩ : ∃ n, n = getL (bs.take i) := ⟨_, rfl⟩
      have hn2 : n < 281474976710656 := by
        rw [hn]
        refine Nat.lt_of_lt_of_le (getL_lt _) ?_
        rw [List.length_take]
        exact Nat.le_trans (Nat.pow_le_pow_right (by decide) (show min i bs.length ≤ 6 by omega)) (by decide)
      rw [← hn]
      have HN := Lib.hid hn
      have HST := Lib.hid hst
      clear hn hst hc hcb
      have hcb2 : (cb.toNat : Int) ≤ 255 := by have := cb.toNat_lt; omega
      go_wp2_with (fail)
      go_roundw
      case rel =>
        refine ⟨i + 1, by omega, by go_num, ?_, by trivial⟩
        rw [HST.out, getL_snoc, ← HN.out]
        go_num
      case measure => simp [intOf]; omega

end Go.Proofs.Ytckeopidedoohaa

namespace Go.Proofs.Ytckeopidedoohaa
open Go.RowKit
variable {n₀ : Nat}
attribute [local go_sem] Oper.semAt_some

set_option maxRecDepth 20000 in
set_option maxHeartbeats 2000000 in
theorem rsectors_t (n : Nat) (w : World) (hl : n ≤ 140737488355328) : Calls Try.prog 86 #[.int .i64 (n : Nat)] w fun e w' => e = .returned (.int .i64 (max 1 ((n + 111) / 112) : Nat)) ∧ w' = w := by
  have e0 : ((n : Int) + 112 - 1).tdiv 112 = (((n + 111) / 112 : Nat) : Int) := by
    have e1 : (n : Int) + 112 - 1 = ((n + 111 : Nat) : Int) := by omega
    rw [e1]
    rfl
  have hq : (n + 111) / 112 ≤ 1256584717466 := by omega
  have i1 : IntKind.i64.wrap (((n + 111) / 112 : Nat) : Int) = (((n + 111) / 112 : Nat) : Int) := IntWalk.i64_in _ (by omega)
  go_enter Try.func86, Try.ntmps86
  go_wp2
  all_goals
    go_ret
    exact ⟨congrArg (fun z => Ending.returned (.int .i64 z)) (by omega), rfl⟩

set_option maxRecDepth 20000 in
set_option maxHeartbeats 2000000 in
theorem rused_t (A : Option Addr) (c : Nat) (rs : List Bs) (w : World) (hs : Sm rs) (h : RowsAt n₀ w A rs) : Calls Try.prog 87 #[.slice A rs.length c] w fun e w' => e = .returned (.int .i64 (usedN rs : Nat)) ∧ w' = w := by
  have HB := Lib.hid h
  have HS := Lib.hid hs
  have hl := hs.1
  clear h hs
  go_enter Try.func87, Try.ntmps87
  go_wp2_with (fail)
  go_loopw [3, 4] (fun v2 v7 wr => ∃ i : Nat, i ≤ rs.length ∧ v7 = .int .i64 i ∧ v2 = .int .i64 (usedN (rs.take i) : Nat) ∧ wr = w) (fun _ v7 _ => rs.length - (intOf v7).toNat)
  case atStart => exact ⟨0, by omega, rfl, rfl, rfl⟩
  case round =>
    obtain ⟨i, hi, rfl, rfl, hwr⟩ := hrel
    have hwr := hwr.symm
    subst hwr
    by_cases hlt : i < rs.length
    case neg =>
      obtain rfl : i = rs.length := by omega
      rw [List.take_length]
      go_wp2
      go_ret
      exact ⟨rfl, rfl⟩
    case pos =>
      obtain ⟨b, o, rfl, hb, hc⟩ := HB.out.get (by omega)
      obtain ⟨A', c', z0, hcc, -⟩ := hc i hlt
      have hst := take_snocR rs i hlt
      have hbl := HS.out.2 _ (mem_getD hlt)
      have hu : usedN (rs.take i) ≤ 9000 * 1256584717466 := by
        refine Nat.le_trans (usedN_le (fun b hb => HS.out.2 b (List.mem_of_mem_take hb))) ?_
        rw [List.length_take]
        exact Nat.mul_le_mul_right _ (by omega)
      obtain ⟨x, hx⟩ : ∃ x, x = rs.getD i [] := ⟨_, rfl⟩
      rw [← hx] at z0 hst hbl
      have hst2 : usedN (rs.take (i + 1)) = usedN (rs.take i) + secN x := by rw [hst, usedN_snoc]
      obtain ⟨u, hu2⟩ : ∃ u, u = usedN (rs.take i) := ⟨_, rfl⟩
      rw [← hu2] at hst2 hu
      rw [← hu2]
      obtain ⟨xn, hxn⟩ : ∃ n, n = x.length := ⟨_, rfl⟩
      rw [← hxn] at z0 hbl
      have hsx : secN x = max 1 ((xn + 111) / 112) := by rw [hxn]; rfl
      obtain ⟨sx, hsx2⟩ : ∃ n, n = max 1 ((xn + 111) / 112) := ⟨_, rfl⟩
      have hsl : sx ≤ 1256584717466 := by omega
      have K := rsectors_t xn w hbl
      rw [← hsx2] at K hsx
      have HST := Lib.hid hst2
      have HSX := Lib.hid hsx
      clear hc hst hx hu2 hxn hsx2 hsx hst2
      go_wp2_with (fail)
      go_at_call 86
      refine K.mono ?_
      rintro e w2 ⟨rfl, hw2⟩
      have hw2 := hw2.symm
      subst hw2
      clear K
      go_wp2_with (fail)
      go_roundw
      case rel => exact ⟨i + 1, by omega, by go_num, by rw [HST.out, HSX.out]; go_num, by trivial⟩
      case measure => simp [intOf]; omega

set_option maxRecDepth 20000 in
set_option maxHeartbeats 4000000 in
theorem rjcheck_t (RA : Option Addr) (rc : Nat) (j : Jn) (w : World) (hs : Sm j.recs) (h : RowsAt n₀ w RA j.recs) : Calls Try.prog 50 #[.agg #[.slice RA j.recs.length rc, .int .i64 j.many, .int .i64 j.sync]] w fun e w' => e = .returned (.int .i64 (gJchk j)) ∧ Below w.heap.size w w' := by
  have HB := Lib.hid h
  have HS := Lib.hid hs
  have hl := hs.1
  have hul : usedN j.recs ≤ 9000 * 1256584717466 := Nat.le_trans (usedN_le hs.2) (Nat.mul_le_mul_right _ hl)
  clear h hs
  by_cases k1 : j.many < 1
  case pos =>
    have dk1 : decide (j.many < 1) = true := decide_eq_true k1
    have HG := Lib.hid (jchk_no (j := j) (fun h => by have h1 := h; unfold JVal at h1; omega))
    go_enter Try.func50, Try.ntmps50
    go_wp2_with (fail)
    obtain ⟨W1, hW1⟩ : ∃ W, W = w.alloc (.cells #[.slice RA j.recs.length rc, .int .i64 j.many, .int .i64 j.sync] 55) := ⟨_, rfl⟩
    rw [← hW1]
    have hb : Below w.heap.size w W1 := by rw [hW1]; exact (Below.refl _ _).alloc (Nat.le_refl _) _
    have x1 : Blk W1 w.heap.size 55 #[.slice RA j.recs.length rc, .int .i64 j.many, .int .i64 j.sync] := by rw [hW1]; exact Blk.new w 55 _
    clear hW1
    have hw := hb
    clear hb
    have x1l := x1.lt
    have hks : ∀ W : World, Below W1.heap.size W1 W → W.cell? ⟨w.heap.size, 0, none⟩ = some (.slice RA j.recs.length rc) ∧ W.cell? ⟨w.heap.size, 1, none⟩ = some (.int .i64 j.many) ∧ W.cell? ⟨w.heap.size, 2, none⟩ = some (.int .i64 j.sync) := fun W hb => ⟨(x1.below hb x1l).cell 0, (x1.below hb x1l).cell 1, (x1.below hb x1l).cell 2⟩
    have HKS := Lib.hid hks
    have hur : ∀ W : World, Below W1.heap.size W1 W → Calls Try.prog 87 #[.slice RA j.recs.length rc] W (fun e w' => e = .returned (.int .i64 (usedN j.recs : Nat)) ∧ w' = W) := fun W hb => rused_t RA rc j.recs W HS.out (HB.out.below (hw.trans (hb.mono hw.size)))
    have HUR := Lib.hid hur
    clear hks hur x1
    have x1c0 := (HKS.out _ (Below.refl _ _)).1
    have x1c1 := (HKS.out _ (Below.refl _ _)).2.1
    have x1c2 := (HKS.out _ (Below.refl _ _)).2.2
    go_quiet (fail)
    all_goals
      go_wp2
      go_ret
      exact ⟨by rw [HG.out]; rfl, by first | exact hw.drew | exact below_drewN hw _⟩
  have dk1 : decide (j.many < 1) = false := decide_eq_false k1
  by_cases k2 : 4096 < j.many
  case pos =>
    have dk2 : decide (4096 < j.many) = true := decide_eq_true k2
    have HG := Lib.hid (jchk_no (j := j) (fun h => by have h1 := h; unfold JVal at h1; omega))
    go_enter Try.func50, Try.ntmps50
    go_wp2_with (fail)
    obtain ⟨W1, hW1⟩ : ∃ W, W = w.alloc (.cells #[.slice RA j.recs.length rc, .int .i64 j.many, .int .i64 j.sync] 55) := ⟨_, rfl⟩
    rw [← hW1]
    have hb : Below w.heap.size w W1 := by rw [hW1]; exact (Below.refl _ _).alloc (Nat.le_refl _) _
    have x1 : Blk W1 w.heap.size 55 #[.slice RA j.recs.length rc, .int .i64 j.many, .int .i64 j.sync] := by rw [hW1]; exact Blk.new w 55 _
    clear hW1
    have hw := hb
    clear hb
    have x1l := x1.lt
    have hks : ∀ W : World, Below W1.heap.size W1 W → W.cell? ⟨w.heap.size, 0, none⟩ = some (.slice RA j.recs.length rc) ∧ W.cell? ⟨w.heap.size, 1, none⟩ = some (.int .i64 j.many) ∧ W.cell? ⟨w.heap.size, 2, none⟩ = some (.int .i64 j.sync) := fun W hb => ⟨(x1.below hb x1l).cell 0, (x1.below hb x1l).cell 1, (x1.below hb x1l).cell 2⟩
    have HKS := Lib.hid hks
    have hur : ∀ W : World, Below W1.heap.size W1 W → Calls Try.prog 87 #[.slice RA j.recs.length rc] W (fun e w' => e = .returned (.int .i64 (usedN j.recs : Nat)) ∧ w' = W) := fun W hb => rused_t RA rc j.recs W HS.out (HB.out.below (hw.trans (hb.mono hw.size)))
    have HUR := Lib.hid hur
    clear hks hur x1
    have x1c0 := (HKS.out _ (Below.refl _ _)).1
    have x1c1 := (HKS.out _ (Below.refl _ _)).2.1
    have x1c2 := (HKS.out _ (Below.refl _ _)).2.2
    go_quiet (fail)
    all_goals
      go_wp2
      go_ret
      exact ⟨by rw [HG.out]; rfl, by first | exact hw.drew | exact below_drewN hw _⟩
  have dk2 : decide (4096 < j.many) = false := decide_eq_false k2
  by_cases k3 : j.sync < 0
  case pos =>
    have dk3 : decide (j.sync < 0) = true := decide_eq_true k3
    have HG := Lib.hid (jchk_no (j := j) (fun h => by have h1 := h; unfold JVal at h1; omega))
    go_enter Try.func50, Try.ntmps50
    go_wp2_with (fail)
    obtain ⟨W1, hW1⟩ : ∃ W, W = w.alloc (.cells #[.slice RA j.recs.length rc, .int .i64 j.many, .int .i64 j.sync] 55) := ⟨_, rfl⟩
    rw [← hW1]
    have hb : Below w.heap.size w W1 := by rw [hW1]; exact (Below.refl _ _).alloc (Nat.le_refl _) _
    have x1 : Blk W1 w.heap.size 55 #[.slice RA j.recs.length rc, .int .i64 j.many, .int .i64 j.sync] := by rw [hW1]; exact Blk.new w 55 _
    clear hW1
    have hw := hb
    clear hb
    have x1l := x1.lt
    have hks : ∀ W : World, Below W1.heap.size W1 W → W.cell? ⟨w.heap.size, 0, none⟩ = some (.slice RA j.recs.length rc) ∧ W.cell? ⟨w.heap.size, 1, none⟩ = some (.int .i64 j.many) ∧ W.cell? ⟨w.heap.size, 2, none⟩ = some (.int .i64 j.sync) := fun W hb => ⟨(x1.below hb x1l).cell 0, (x1.below hb x1l).cell 1, (x1.below hb x1l).cell 2⟩
    have HKS := Lib.hid hks
    have hur : ∀ W : World, Below W1.heap.size W1 W → Calls Try.prog 87 #[.slice RA j.recs.length rc] W (fun e w' => e = .returned (.int .i64 (usedN j.recs : Nat)) ∧ w' = W) := fun W hb => rused_t RA rc j.recs W HS.out (HB.out.below (hw.trans (hb.mono hw.size)))
    have HUR := Lib.hid hur
    clear hks hur x1
    have x1c0 := (HKS.out _ (Below.refl _ _)).1
    have x1c1 := (HKS.out _ (Below.refl _ _)).2.1
    have x1c2 := (HKS.out _ (Below.refl _ _)).2.2
    go_quiet (fail)
    all_goals
      go_wp2
      go_ret
      exact ⟨by rw [HG.out]; rfl, by first | exact hw.drew | exact below_drewN hw _⟩
  have dk3 : decide (j.sync < 0) = false := decide_eq_false k3
  by_cases k4 : (j.recs.length : Int) < j.sync
  case pos =>
    have dk4 : decide ((j.recs.length : Int) < j.sync) = true := decide_eq_true k4
    have HG := Lib.hid (jchk_no (j := j) (fun h => by have h1 := h; unfold JVal at h1; omega))
    go_enter Try.func50, Try.ntmps50
    go_wp2_with (fail)
    obtain ⟨W1, hW1⟩ : ∃ W, W = w.alloc (.cells #[.slice RA j.recs.length rc, .int .i64 j.many, .int .i64 j.sync] 55) := ⟨_, rfl⟩
    rw [← hW1]
    have hb : Below w.heap.size w W1 := by rw [hW1]; exact (Below.refl _ _).alloc (Nat.le_refl _) _
    have x1 : Blk W1 w.heap.size 55 #[.slice RA j.recs.length rc, .int .i64 j.many, .int .i64 j.sync] := by rw [hW1]; exact Blk.new w 55 _
    clear hW1
    have hw := hb
    clear hb
    have x1l := x1.lt
    have hks : ∀ W : World, Below W1.heap.size W1 W → W.cell? ⟨w.heap.size, 0, none⟩ = some (.slice RA j.recs.length rc) ∧ W.cell? ⟨w.heap.size, 1, none⟩ = some (.int .i64 j.many) ∧ W.cell? ⟨w.heap.size, 2, none⟩ = some (.int .i64 j.sync) := fun W hb => ⟨(x1.below hb x1l).cell 0, (x1.below hb x1l).cell 1, (x1.below hb x1l).cell 2⟩
    have HKS := Lib.hid hks
    have hur : ∀ W : World, Below W1.heap.size W1 W → Calls Try.prog 87 #[.slice RA j.recs.length rc] W (fun e w' => e = .returned (.int .i64 (usedN j.recs : Nat)) ∧ w' = W) := fun W hb => rused_t RA rc j.recs W HS.out (HB.out.below (hw.trans (hb.mono hw.size)))
    have HUR := Lib.hid hur
    clear hks hur x1
    have x1c0 := (HKS.out _ (Below.refl _ _)).1
    have x1c1 := (HKS.out _ (Below.refl _ _)).2.1
    have x1c2 := (HKS.out _ (Below.refl _ _)).2.2
    go_quiet (fail)
    all_goals
      go_wp2
      go_ret
      exact ⟨by rw [HG.out]; rfl, by first | exact hw.drew | exact below_drewN hw _⟩
  have dk4 : decide ((j.recs.length : Int) < j.sync) = false := decide_eq_false k4
  by_cases k5 : j.many < (usedN j.recs : Int)
  case pos =>
    have dk5 : decide (j.many < (usedN j.recs : Int)) = true := decide_eq_true k5
    have HG := Lib.hid (jchk_no (j := j) (fun h => by have h1 := h; unfold JVal at h1; omega))
    go_enter Try.func50, Try.ntmps50
    go_wp2_with (fail)
    obtain ⟨W1, hW1⟩ : ∃ W, W = w.alloc (.cells #[.slice RA j.recs.length rc, .int .i64 j.many, .int .i64 j.sync] 55) := ⟨_, rfl⟩
    rw [← hW1]
    have hb : Below w.heap.size w W1 := by rw [hW1]; exact (Below.refl _ _).alloc (Nat.le_refl _) _
    have x1 : Blk W1 w.heap.size 55 #[.slice RA j.recs.length rc, .int .i64 j.many, .int .i64 j.sync] := by rw [hW1]; exact Blk.new w 55 _
    clear hW1
    have hw := hb
    clear hb
    have x1l := x1.lt
    have hks : ∀ W : World, Below W1.heap.size W1 W → W.cell? ⟨w.heap.size, 0, none⟩ = some (.slice RA j.recs.length rc) ∧ W.cell? ⟨w.heap.size, 1, none⟩ = some (.int .i64 j.many) ∧ W.cell? ⟨w.heap.size, 2, none⟩ = some (.int .i64 j.sync) := fun W hb => ⟨(x1.below hb x1l).cell 0, (x1.below hb x1l).cell 1, (x1.below hb x1l).cell 2⟩
    have HKS := Lib.hid hks
    have hur : ∀ W : World, Below W1.heap.size W1 W → Calls Try.prog 87 #[.slice RA j.recs.length rc] W (fun e w' => e = .returned (.int .i64 (usedN j.recs : Nat)) ∧ w' = W) := fun W hb => rused_t RA rc j.recs W HS.out (HB.out.below (hw.trans (hb.mono hw.size)))
    have HUR := Lib.hid hur
    clear hks hur x1
    have x1c0 := (HKS.out _ (Below.refl _ _)).1
    have x1c1 := (HKS.out _ (Below.refl _ _)).2.1
    have x1c2 := (HKS.out _ (Below.refl _ _)).2.2
    go_region_held3 (fun W => W.cell? ⟨w.heap.size, 0, none⟩ = some (.slice RA j.recs.length rc) ∧ W.cell? ⟨w.heap.size, 1, none⟩ = some (.int .i64 j.many) ∧ W.cell? ⟨w.heap.size, 2, none⟩ = some (.int .i64 j.sync)) ((refine HKS.out _ ?_; repeat (first | with_reducible exact Below.refl _ _ | refine Below.drew ?_)))
      ((go_at_call 87; refine (HUR.out _ (by repeat (first | with_reducible exact Below.refl _ _ | refine Below.drew ?_))).mono ?_; rintro e w2 ⟨rfl, hw2⟩; subst hw2))
    all_goals
      go_wp2
      go_ret
      exact ⟨by rw [HG.out]; rfl, by first | exact hw.drew | exact below_drewN hw _⟩
  have dk5 : decide (j.many < (usedN j.recs : Int)) = false := decide_eq_false k5
  have HG := Lib.hid (jchk_yes (j := j) (by unfold JVal; omega))
  go_enter Try.func50, Try.ntmps50
  go_wp2_with (fail)
  obtain ⟨W1, hW1⟩ : ∃ W, W = w.alloc (.cells #[.slice RA j.recs.length rc, .int .i64 j.many, .int .i64 j.sync] 55) := ⟨_, rfl⟩
  rw [← hW1]
  have hb : Below w.heap.size w W1 := by rw [hW1]; exact (Below.refl _ _).alloc (Nat.le_refl _) _
  have x1 : Blk W1 w.heap.size 55 #[.slice RA j.recs.length rc, .int .i64 j.many, .int .i64 j.sync] := by rw [hW1]; exact Blk.new w 55 _
  clear hW1
  have hw := hb
  clear hb
  have x1l := x1.lt
  have hks : ∀ W : World, Below W1.heap.size W1 W → W.cell? ⟨w.heap.size, 0, none⟩ = some (.slice RA j.recs.length rc) ∧ W.cell? ⟨w.heap.size, 1, none⟩ = some (.int .i64 j.many) ∧ W.cell? ⟨w.heap.size, 2, none⟩ = some (.int .i64 j.sync) := fun W hb => ⟨(x1.below hb x1l).cell 0, (x1.below hb x1l).cell 1, (x1.below hb x1l).cell 2⟩
  have HKS := Lib.hid hks
  have hur : ∀ W : World, Below W1.heap.size W1 W → Calls Try.prog 87 #[.slice RA j.recs.length rc] W (fun e w' => e = .returned (.int .i64 (usedN j.recs : Nat)) ∧ w' = W) := fun W hb => rused_t RA rc j.recs W HS.out (HB.out.below (hw.trans (hb.mono hw.size)))
  have HUR := Lib.hid hur
  clear hks hur x1
  have x1c0 := (HKS.out _ (Below.refl _ _)).1
  have x1c1 := (HKS.out _ (Below.refl _ _)).2.1
  have x1c2 := (HKS.out _ (Below.refl _ _)).2.2
  go_region_held3 (fun W => W.cell? ⟨w.heap.size, 0, none⟩ = some (.slice RA j.recs.length rc) ∧ W.cell? ⟨w.heap.size, 1, none⟩ = some (.int .i64 j.many) ∧ W.cell? ⟨w.heap.size, 2, none⟩ = some (.int .i64 j.sync)) ((refine HKS.out _ ?_; repeat (first | with_reducible exact Below.refl _ _ | refine Below.drew ?_)))
    ((go_at_call 87; refine (HUR.out _ (by repeat (first | with_reducible exact Below.refl _ _ | refine Below.drew ?_))).mono ?_; rintro e w2 ⟨rfl, hw2⟩; subst hw2))
  all_goals
    go_wp2
    go_ret
    exact ⟨by rw [HG.out]; rfl, by first | exact hw.drew | exact below_drewN hw _⟩

set_option maxRecDepth 20000 in
set_option maxHeartbeats 4000000 in
theorem rroom_t (RA : Option Addr) (rc : Nat) (j : Jn) (w : World) (hs : Sm j.recs) (h : RowsAt n₀ w RA j.recs) : Calls Try.prog 52 #[.agg #[.slice RA j.recs.length rc, .int .i64 j.many, .int .i64 j.sync]] w fun e w' => e = .returned (.int .i64 (gRoom j)) ∧ Below w.heap.size w w' := by
  have HS := Lib.hid hs
  have HJ := Lib.hid (rfl : gJchk j = gJchk j)
  obtain ⟨gc, hgc⟩ : ∃ x, x = gJchk j := ⟨_, rfl⟩
  have HGC := Lib.hid hgc
  clear hs
  go_enter Try.func52, Try.ntmps52
  go_wp2_with (fail)
  obtain ⟨W1, hW1⟩ : ∃ W, W = w.alloc (.cells #[.slice RA j.recs.length rc, .int .i64 j.many, .int .i64 j.sync] 55) := ⟨_, rfl⟩
  rw [← hW1]
  have hb : Below w.heap.size w W1 := by rw [hW1]; exact (Below.refl _ _).alloc (Nat.le_refl _) _
  have x1 : Blk W1 w.heap.size 55 #[.slice RA j.recs.length rc, .int .i64 j.many, .int .i64 j.sync] := by rw [hW1]; exact Blk.new w 55 _
  clear hW1
  replace h := h.below hb
  have hw := hb
  clear hb
  have K : Calls Try.prog 50 #[.agg #[.slice RA j.recs.length rc, .int .i64 j.many, .int .i64 j.sync]] W1 (fun e w' => e = .returned (.int .i64 gc) ∧ Below W1.heap.size W1 w') := by rw [HGC.out]; exact rjcheck_t RA rc j W1 HS.out h
  go_at_call 50
  refine K.mono ?_
  rintro e w2 ⟨rfl, hb⟩
  clear K
  replace h := h.below hb
  replace x1 := x1.below hb x1.lt
  replace hw := hw.trans (hb.mono hw.size)
  clear hb
  by_cases k0 : gc = 0
  case neg =>
    have dk0 : (gc != 0) = true := bne_iff_ne.2 k0
    have HR : gRoom j = 0 := by
      unfold gRoom
      rw [if_neg (fun hv => k0 (by rw [hgc, jchk_yes hv]))]
    have HHR := Lib.hid HR
    clear HR k0 hgc
    go_wp2
    go_ret
    exact ⟨by rw [HHR.out]; rfl, hw⟩
  subst k0
  have hv := jchk_val HGC.out.symm
  have HR : gRoom j = 112 * (j.many - usedN j.recs) := by unfold gRoom; rw [if_pos hv]
  have HHR := Lib.hid HR
  have v1 : 1 ≤ j.many := hv.1
  have v2 : j.many ≤ 4096 := hv.2.1
  have v3 : (usedN j.recs : Int) ≤ j.many := hv.2.2.2.2
  obtain ⟨u, hu⟩ : ∃ u, u = usedN j.recs := ⟨_, rfl⟩
  rw [← hu] at v3
  have HU := Lib.hid hu
  clear HR hgc hv hu
  have x1c0 := x1.cell 0
  have x1c1 := x1.cell 1
  have x1c2 := x1.cell 2
  simp only [List.getElem?_toArray, List.getElem?_cons_zero, List.getElem?_cons_succ] at x1c0 x1c1 x1c2
  have x1l := x1.lt
  have hks : ∀ W : World, Below w2.heap.size w2 W → W.cell? ⟨w.heap.size, 0, none⟩ = some (.slice RA j.recs.length rc) ∧ W.cell? ⟨w.heap.size, 1, none⟩ = some (.int .i64 j.many) ∧ W.cell? ⟨w.heap.size, 2, none⟩ = some (.int .i64 j.sync) := fun W hb => ⟨(x1.below hb x1l).cell 0, (x1.below hb x1l).cell 1, (x1.below hb x1l).cell 2⟩
  have HKS := Lib.hid hks
  have hur : ∀ W : World, Below w2.heap.size w2 W → Calls Try.prog 87 #[.slice RA j.recs.length rc] W (fun e w' => e = .returned (.int .i64 (u : Nat)) ∧ w' = W) := fun W hb => by rw [HU.out]; exact rused_t RA rc j.recs W HS.out (h.below hb)
  have HUR := Lib.hid hur
  clear hks hur
  go_upto_region 3 with (fail)
  clear x1 x1c0 x1c1 x1c2 x1l h
  have i1 : IntKind.i64.wrap (j.many - (u : Int)) = j.many - u := IntWalk.i64_in _ (by omega)
  have i2 : IntKind.i64.wrap (112 * (j.many - (u : Int))) = 112 * (j.many - u) := IntWalk.i64_in _ (by omega)
  go_region_held3 (fun W => W.cell? ⟨w.heap.size, 0, none⟩ = some (.slice RA j.recs.length rc) ∧ W.cell? ⟨w.heap.size, 1, none⟩ = some (.int .i64 j.many) ∧ W.cell? ⟨w.heap.size, 2, none⟩ = some (.int .i64 j.sync)) ((refine HKS.out _ ?_; repeat (first | with_reducible exact Below.refl _ _ | refine Below.drew ?_)))
    ((go_at_call 87; refine (HUR.out _ (by repeat (first | with_reducible exact Below.refl _ _ | refine Below.drew ?_))).mono ?_; rintro e w2 ⟨rfl, hw2⟩; subst hw2))
  all_goals
    go_wp2
    go_ret
    exact ⟨by rw [HHR.out, ← HU.out]; rfl, by first | exact hw.drew | exact below_drewN hw _⟩

end Go.Proofs.Ytckeopidedoohaa
