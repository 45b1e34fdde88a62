/-
  The reference's checksum, number. Conditions: bytes lie as plain data. | The reference's Sectors, Used, Check, Room of a journal. Conditions: the journal lies as plain data. | Append of the reference. Conditions: the journal lies as plain data.
-/
import Derived.Test.YtckeopidedoohaaJck
import Derived.Test.YtckeopidedoohaaJap
namespace Go.Proofs.Ytckeopidedoohaa
open Go.RowKit
variable {n₀ : Nat}
attribute [local go_sem] Oper.semAt_some

set_option maxRecDepth 20000 in
set_option maxHeartbeats 2000000 in
theorem rsum_t (A : Option Addr) (c : Nat) (bs : Bs) (w : World) (hl : bs.length ≤ 140737488355328) (h : BsAt n₀ w A bs) : Calls Try.prog 111 #[.slice A bs.length c] w fun e w' => e = .returned (.int .u32 (gSum bs : Nat)) ∧ w' = w := by
  have HB := Lib.hid h
  clear h
  go_enter Try.func111, Try.ntmps111
  go_wp2_with (fail)
  go_loopw [3, 4] (fun v3 v8 wr => ∃ i : Nat, i ≤ bs.length ∧ v8 = .int .i64 i ∧ v3 = .int .u32 (crcL 4294967295 (bs.take i) : Nat) ∧ wr = w) (fun _ v8 _ => bs.length - (intOf v8).toNat)
  case atStart => exact ⟨0, by omega, rfl, rfl, rfl⟩
  case round =>
    obtain ⟨i, hi, rfl, rfl, hwr⟩ := hrel
    have hwr := hwr.symm
    subst hwr
    by_cases hlt : i < bs.length
    case neg =>
      obtain rfl : i = bs.length := by omega
      rw [List.take_length]
      go_wp2
      go_ret
      exact ⟨congrArg (fun z => Ending.returned (.int .u32 z)) ((u32_xor_nat _ 4294967295 (crcL_lt (by decide) _) (by decide)).trans (by unfold gSum; rw [Nat.xor_comm])), rfl⟩
    case pos =>
      obtain ⟨b, o, rfl, hb, hc⟩ := HB.out (by omega)
      have z0 := hc i hlt
      unfold u8v at z0
      have hst := take_snocB bs i hlt
      obtain ⟨cb, hcb⟩ : ∃ x, x = bs.getD i 0 := ⟨_, rfl⟩
      rw [← hcb] at z0 hst
      obtain ⟨n, hn⟩ : ∃ n, n = crcL 4294967295 (bs.take i) := ⟨_, rfl⟩
      have hn2 : n < 4294967296 := by rw [hn]; exact crcL_lt (by decide) _
      rw [← hn]
      have HN := Lib.hid hn
      have HST := Lib.hid hst
      clear hn hst hc hcb
      have hcb2 : (cb.toNat : Int) ≤ 255 := by have := cb.toNat_lt; omega
      go_wp2_with (fail)
      go_loopw [3, 5] (fun v3 v16 w2 => ∃ k : Nat, k ≤ 8 ∧ v16 = .int .i64 k ∧ v3 = .int .u32 (crcN k (n ^^^ cb.toNat) : Nat) ∧ w2 = w) (fun _ v16 _ => 8 - (intOf v16).toNat)
      case atStart =>
        exact ⟨0, by omega, rfl, congrArg (fun z => Value.int .u32 z) (u32_xor_nat n cb.toNat hn2 (by omega)), rfl⟩
      case round =>
        obtain ⟨k, hk, rfl, rfl, hwr⟩ := hrel
        have hwr := hwr.symm
        subst hwr
        obtain ⟨x, hx⟩ : ∃ x, x = crcN k (n ^^^ cb.toNat) := ⟨_, rfl⟩
        have hx2 : x < 4294967296 := by rw [hx]; exact crcN_lt _ (xor_u8_lt hn2 _)
        rw [← hx]
        have HX := Lib.hid hx
        clear hx
        by_cases hk8 : k < 8
        case pos =>
          have hs1 : crcN (k + 1) (n ^^^ cb.toNat) = crc1 x := by rw [HX.out]; rfl
          have HS1 := Lib.hid hs1
          clear hs1
          by_cases hodd : x % 2 = 1
          case pos =>
            have d1 : (((x : Int).tmod 2) == 1) = true := by
              rw [show (x : Int).tmod 2 = ((x % 2 : Nat) : Int) from rfl]
              exact beq_iff_eq.2 (by omega)
            have d2 : ((((x : Int) % 2)) == 1) = true := beq_iff_eq.2 (by omega)
            have d3 : (x : Int) % 2 = 1 := by omega
            go_wp2_with (fail)
            go_roundw
            case rel =>
              refine ⟨k + 1, by omega, by go_num, ?_, by trivial⟩
              rw [HS1.out]
              unfold crc1
              rw [hodd, show (x : Int) / 2 = ((x / 2 : Nat) : Int) by omega]
              exact congrArg (fun z => Value.int .u32 z) (u32_xor_nat (x / 2) 3988292384 (by omega) (by decide))
            case measure => simp [intOf]; omega
          case neg =>
            have d1 : (((x : Int).tmod 2) == 1) = false := by
              rw [show (x : Int).tmod 2 = ((x % 2 : Nat) : Int) from rfl]
              exact beq_eq_false_iff_ne.2 (by omega)
            have d2 : ((((x : Int) % 2)) == 1) = false := beq_eq_false_iff_ne.2 (by omega)
            have d3 : ¬ (x : Int) % 2 = 1 := by omega
            go_wp2_with (fail)
            go_roundw
            case rel =>
              refine ⟨k + 1, by omega, by go_num, ?_, by trivial⟩
              rw [HS1.out]
              unfold crc1
              rw [show x % 2 = 0 by omega]
              simp
            case measure => simp [intOf]; omega
        case neg =>
          obtain rfl : k = 8 := by omega
          go_wp2_with (fail)
          go_roundw
          case rel =>
            refine ⟨i + 1, by omega, by go_num, ?_, by trivial⟩
            rw [HST.out, crcL_append, ← HN.out, HX.out]
            rfl
          case measure => simp [intOf]; omega
set_option maxRecDepth 20000 in
set_option maxHeartbeats 2000000 in
theorem rnumber_t (A : Option Addr) (c : Nat) (bs : Bs) (w : World) (hl : bs.length ≤ 7) (h : BsAt n₀ w A bs) : Calls Try.prog 107 #[.slice A bs.length c] w fun e w' => e = .returned (.int .u64 (getL bs : Nat)) ∧ w' = w := by
  have HB := Lib.hid h
  clear h
  go_enter Try.func107, Try.ntmps107
  go_wp2_with (fail)
  go_loopw [3, 4] (fun v2 v7 wr => ∃ i : Nat, i ≤ bs.length ∧ v7 = .int .i64 i ∧ v2 = .int .u64 (getL (bs.take i) : Nat) ∧ wr = w) (fun _ v7 _ => bs.length - (intOf v7).toNat)
  case atStart => exact ⟨0, by omega, rfl, rfl, rfl⟩
  case round =>
    obtain ⟨i, hi, rfl, rfl, hwr⟩ := hrel
    have hwr := hwr.symm
    subst hwr
    by_cases hlt : i < bs.length
    case neg =>
      obtain rfl : i = bs.length := by omega
      rw [List.take_length]
      go_wp2
      go_ret
      exact ⟨rfl, rfl⟩
    case pos =>
      obtain ⟨b, o, rfl, hb, hc⟩ := HB.out (by omega)
      have z0 := hc i hlt
      unfold u8v at z0
      have hst := take_snocB bs i hlt
      obtain ⟨cb, hcb⟩ : ∃ x, x = bs.getD i 0 := ⟨_, rfl⟩
      rw [← hcb] at z0 hst
      obtain ⟨n, hn⟩ : ∃ n, n = getL (bs.take i) := ⟨_, rfl⟩
      have hn2 : n < 281474976710656 := by
        rw [hn]
        refine Nat.lt_of_lt_of_le (getL_lt _) ?_
        rw [List.length_take]
        exact Nat.le_trans (Nat.pow_le_pow_right (by decide) (show min i bs.length ≤ 6 by omega)) (by decide)
      rw [← hn]
      have HN := Lib.hid hn
      have HST := Lib.hid hst
      clear hn hst hc hcb
      have hcb2 : (cb.toNat : Int) ≤ 255 := by have := cb.toNat_lt; omega
      go_wp2_with (fail)
      go_roundw
      case rel =>
        refine ⟨i + 1, by omega, by go_num, ?_, by trivial⟩
        rw [HST.out, getL_snoc, ← HN.out]
        go_num
      case measure => simp [intOf]; omega

end Go.Proofs.Ytckeopidedoohaa

namespace Go.Proofs.Ytckeopidedoohaa
open Go.RowKit
variable {n₀ : Nat}
attribute [local go_sem] Oper.semAt_some

set_option maxRecDepth 20000 in
set_option maxHeartbeats 2000000 in
theorem rsectors_t (n : Nat) (w : World) (hl : n ≤ 140737488355328) : Calls Try.prog 86 #[.int .i64 (n : Nat)] w fun e w' => e = .returned (.int .i64 (max 1 ((n + 111) / 112) : Nat)) ∧ w' = w := by
  have e0 : ((n : Int) + 112 - 1).tdiv 112 = (((n + 111) / 112 : Nat) : Int) := by
    have e1 : (n : Int) + 112 - 1 = ((n + 111 : Nat) : Int) := by omega
    rw [e1]
    rfl
  have hq : (n + 111) / 112 ≤ 1256584717466 := by omega
  have i1 : IntKind.i64.wrap (((n + 111) / 112 : Nat) : Int) = (((n + 111) / 112 : Nat) : Int) := IntWalk.i64_in _ (by omega)
  go_enter Try.func86, Try.ntmps86
  go_wp2
  all_goals
    go_ret
    exact ⟨congrArg (fun z => Ending.returned (.int .i64 z)) (by omega), rfl⟩

set_option maxRecDepth 20000 in
set_option maxHeartbeats 2000000 in
theorem rused_t (A : Option Addr) (c : Nat) (rs : List Bs) (w : World) (hs : Sm rs) (h : RowsAt n₀ w A rs) : Calls Try.prog 87 #[.slice A rs.length c] w fun e w' => e = .returned (.int .i64 (usedN rs : Nat)) ∧ w' = w := by
  have HB := Lib.hid h
  have HS := Lib.hid hs
  have hl := hs.1
  clear h hs
  go_enter Try.func87, Try.ntmps87
  go_wp2_with (fail)
  go_loopw [3, 4] (fun v2 v7 wr => ∃ i : Nat, i ≤ rs.length ∧ v7 = .int .i64 i ∧ v2 = .int .i64 (usedN (rs.take i) : Nat) ∧ wr = w) (fun _ v7 _ => rs.length - (intOf v7).toNat)
  case atStart => exact ⟨0, by omega, rfl, rfl, rfl⟩
  case round =>
    obtain ⟨i, hi, rfl, rfl, hwr⟩ := hrel
    have hwr := hwr.symm
    subst hwr
    by_cases hlt : i < rs.length
    case neg =>
      obtain rfl : i = rs.length := by omega
      rw [List.take_length]
      go_wp2
      go_ret
      exact ⟨rfl, rfl⟩
    case pos =>
      obtain ⟨b, o, rfl, hb, hc⟩ := HB.out.get (by omega)
      obtain ⟨A', c', z0, hcc, -⟩ := hc i hlt
      have hst := take_snocR rs i hlt
      have hbl := HS.out.2 _ (mem_getD hlt)
      have hu : usedN (rs.take i) ≤ 9000 * 1256584717466 := by
        refine Nat.le_trans (usedN_le (fun b hb => HS.out.2 b (List.mem_of_mem_take hb))) ?_
        rw [List.length_take]
        exact Nat.mul_le_mul_right _ (by omega)
      obtain ⟨x, hx⟩ : ∃ x, x = rs.getD i [] := ⟨_, rfl⟩
      rw [← hx] at z0 hst hbl
      have hst2 : usedN (rs.take (i + 1)) = usedN (rs.take i) + secN x := by rw [hst, usedN_snoc]
      obtain ⟨u, hu2⟩ : ∃ u, u = usedN (rs.take i) := ⟨_, rfl⟩
      rw [← hu2] at hst2 hu
      rw [← hu2]
      obtain ⟨xn, hxn⟩ : ∃ n, n = x.length := ⟨_, rfl⟩
      rw [← hxn] at z0 hbl
      have hsx : secN x = max 1 ((xn + 111) / 112) := by rw [hxn]; rfl
      obtain ⟨sx, hsx2⟩ : ∃ n, n = max 1 ((xn + 111) / 112) := ⟨_, rfl⟩
      have hsl : sx ≤ 1256584717466 := by omega
      have K := rsectors_t xn w hbl
      rw [← hsx2] at K hsx
      have HST := Lib.hid hst2
      have HSX := Lib.hid hsx
      clear hc hst hx hu2 hxn hsx2 hsx hst2
      go_wp2_with (fail)
      go_at_call 86
      refine K.mono ?_
      rintro e w2 ⟨rfl, hw2⟩
      have hw2 := hw2.symm
      subst hw2
      clear K
      go_wp2_with (fail)
      go_roundw
      case rel => exact ⟨i + 1, by omega, by go_num, by rw [HST.out, HSX.out]; go_num, by trivial⟩
      case measure => simp [intOf]; omega

set_option maxRecDepth 20000 in
set_option maxHeartbeats 4000000 in
theorem rjcheck_t (RA : Option Addr) (rc : Nat) (j : Jn) (w : World) (hs : Sm j.recs) (h : RowsAt n₀ w RA j.recs) : Calls Try.prog 50 #[.agg #[.slice RA j.recs.length rc, .int .i64 j.many, .int .i64 j.sync]] w fun e w' => e = .returned (.int .i64 (gJchk j)) ∧ Below w.heap.size w w' := by
  have HB := Lib.hid h
  have HS := Lib.hid hs
  have hl := hs.1
  have hul : usedN j.recs ≤ 9000 * 1256584717466 := Nat.le_trans (usedN_le hs.2) (Nat.mul_le_mul_right _ hl)
  clear h hs
  by_cases k1 : j.many < 1
  case pos =>
    have dk1 : decide (j.many < 1) = true := decide_eq_true k1
    have HG := Lib.hid (jchk_no (j := j) (fun h => by have h1 := h; unfold JVal at h1; omega))
    go_enter Try.func50, Try.ntmps50
    go_wp2_with (fail)
    obtain ⟨W1, hW1⟩ : ∃ W, W = w.alloc (.cells #[.slice RA j.recs.length rc, .int .i64 j.many, .int .i64 j.sync] 55) := ⟨_, rfl⟩
    rw [← hW1]
    have hb : Below w.heap.size w W1 := by rw [hW1]; exact (Below.refl _ _).alloc (Nat.le_refl _) _
    have x1 : Blk W1 w.heap.size 55 #[.slice RA j.recs.length rc, .int .i64 j.many, .int .i64 j.sync] := by rw [hW1]; exact Blk.new w 55 _
    clear hW1
    have hw := hb
    clear hb
    have x1l := x1.lt
    have hks : ∀ W : World, Below W1.heap.size W1 W → W.cell? ⟨w.heap.size, 0, none⟩ = some (.slice RA j.recs.length rc) ∧ W.cell? ⟨w.heap.size, 1, none⟩ = some (.int .i64 j.many) ∧ W.cell? ⟨w.heap.size, 2, none⟩ = some (.int .i64 j.sync) := fun W hb => ⟨(x1.below hb x1l).cell 0, (x1.below hb x1l).cell 1, (x1.below hb x1l).cell 2⟩
    have HKS := Lib.hid hks
    have hur : ∀ W : World, Below W1.heap.size W1 W → Calls Try.prog 87 #[.slice RA j.recs.length rc] W (fun e w' => e = .returned (.int .i64 (usedN j.recs : Nat)) ∧ w' = W) := fun W hb => rused_t RA rc j.recs W HS.out (HB.out.below (hw.trans (hb.mono hw.size)))
    have HUR := Lib.hid hur
    clear hks hur x1
    have x1c0 := (HKS.out _ (Below.refl _ _)).1
    have x1c1 := (HKS.out _ (Below.refl _ _)).2.1
    have x1c2 := (HKS.out _ (Below.refl _ _)).2.2
    go_quiet (fail)
    all_goals
      go_wp2
      go_ret
      exact ⟨by rw [HG.out]; rfl, by first | exact hw.drew | exact below_drewN hw _⟩
  have dk1 : decide (j.many < 1) = false := decide_eq_false k1
  by_cases k2 : 4096 < j.many
  case pos =>
    have dk2 : decide (4096 < j.many) = true := decide_eq_true k2
    have HG := Lib.hid (jchk_no (j := j) (fun h => by have h1 := h; unfold JVal at h1; omega))
    go_enter Try.func50, Try.ntmps50
    go_wp2_with (fail)
    obtain ⟨W1, hW1⟩ : ∃ W, W = w.alloc (.cells #[.slice RA j.recs.length rc, .int .i64 j.many, .int .i64 j.sync] 55) := ⟨_, rfl⟩
    rw [← hW1]
    have hb : Below w.heap.size w W1 := by rw [hW1]; exact (Below.refl _ _).alloc (Nat.le_refl _) _
    have x1 : Blk W1 w.heap.size 55 #[.slice RA j.recs.length rc, .int .i64 j.many, .int .i64 j.sync] := by rw [hW1]; exact Blk.new w 55 _
    clear hW1
    have hw := hb
    clear hb
    have x1l := x1.lt
    have hks : ∀ W : World, Below W1.heap.size W1 W → W.cell? ⟨w.heap.size, 0, none⟩ = some (.slice RA j.recs.length rc) ∧ W.cell? ⟨w.heap.size, 1, none⟩ = some (.int .i64 j.many) ∧ W.cell? ⟨w.heap.size, 2, none⟩ = some (.int .i64 j.sync) := fun W hb => ⟨(x1.below hb x1l).cell 0, (x1.below hb x1l).cell 1, (x1.below hb x1l).cell 2⟩
    have HKS := Lib.hid hks
    have hur : ∀ W : World, Below W1.heap.size W1 W → Calls Try.prog 87 #[.slice RA j.recs.length rc] W (fun e w' => e = .returned (.int .i64 (usedN j.recs : Nat)) ∧ w' = W) := fun W hb => rused_t RA rc j.recs W HS.out (HB.out.below (hw.trans (hb.mono hw.size)))
    have HUR := Lib.hid hur
    clear hks hur x1
    have x1c0 := (HKS.out _ (Below.refl _ _)).1
    have x1c1 := (HKS.out _ (Below.refl _ _)).2.1
    have x1c2 := (HKS.out _ (Below.refl _ _)).2.2
    go_quiet (fail)
    all_goals
      go_wp2
      go_ret
      exact ⟨by rw [HG.out]; rfl, by first | exact hw.drew | exact below_drewN hw _⟩
  have dk2 : decide (4096 < j.many) = false := decide_eq_false k2
  by_cases k3 : j.sync < 0
  case pos =>
    have dk3 : decide (j.sync < 0) = true := decide_eq_true k3
    have HG := Lib.hid (jchk_no (j := j) (fun h => by have h1 := h; unfold JVal at h1; omega))
    go_enter Try.func50, Try.ntmps50
    go_wp2_with (fail)
    obtain ⟨W1, hW1⟩ : ∃ W, W = w.alloc (.cells #[.slice RA j.recs.length rc, .int .i64 j.many, .int .i64 j.sync] 55) := ⟨_, rfl⟩
    rw [← hW1]
    have hb : Below w.heap.size w W1 := by rw [hW1]; exact (Below.refl _ _).alloc (Nat.le_refl _) _
    have x1 : Blk W1 w.heap.size 55 #[.slice RA j.recs.length rc, .int .i64 j.many, .int .i64 j.sync] := by rw [hW1]; exact Blk.new w 55 _
    clear hW1
    have hw := hb
    clear hb
    have x1l := x1.lt
    have hks : ∀ W : World, Below W1.heap.size W1 W → W.cell? ⟨w.heap.size, 0, none⟩ = some (.slice RA j.recs.length rc) ∧ W.cell? ⟨w.heap.size, 1, none⟩ = some (.int .i64 j.many) ∧ W.cell? ⟨w.heap.size, 2, none⟩ = some (.int .i64 j.sync) := fun W hb => ⟨(x1.below hb x1l).cell 0, (x1.below hb x1l).cell 1, (x1.below hb x1l).cell 2⟩
    have HKS := Lib.hid hks
    have hur : ∀ W : World, Below W1.heap.size W1 W → Calls Try.prog 87 #[.slice RA j.recs.length rc] W (fun e w' => e = .returned (.int .i64 (usedN j.recs : Nat)) ∧ w' = W) := fun W hb => rused_t RA rc j.recs W HS.out (HB.out.below (hw.trans (hb.mono hw.size)))
    have HUR := Lib.hid hur
    clear hks hur x1
    have x1c0 := (HKS.out _ (Below.refl _ _)).1
    have x1c1 := (HKS.out _ (Below.refl _ _)).2.1
    have x1c2 := (HKS.out _ (Below.refl _ _)).2.2
    go_quiet (fail)
    all_goals
      go_wp2
      go_ret
      exact ⟨by rw [HG.out]; rfl, by first | exact hw.drew | exact below_drewN hw _⟩
  have dk3 : decide (j.sync < 0) = false := decide_eq_false k3
  by_cases k4 : (j.recs.length : Int) < j.sync
  case pos =>
    have dk4 : decide ((j.recs.length : Int) < j.sync) = true := decide_eq_true k4
    have HG := Lib.hid (jchk_no (j := j) (fun h => by have h1 := h; unfold JVal at h1; omega))
    go_enter Try.func50, Try.ntmps50
    go_wp2_with (fail)
    obtain ⟨W1, hW1⟩ : ∃ W, W = w.alloc (.cells #[.slice RA j.recs.length rc, .int .i64 j.many, .int .i64 j.sync] 55) := ⟨_, rfl⟩
    rw [← hW1]
    have hb : Below w.heap.size w W1 := by rw [hW1]; exact (Below.refl _ _).alloc (Nat.le_refl _) _
    have x1 : Blk W1 w.heap.size 55 #[.slice RA j.recs.length rc, .int .i64 j.many, .int .i64 j.sync] := by rw [hW1]; exact Blk.new w 55 _
    clear hW1
    have hw := hb
    clear hb
    have x1l := x1.lt
    have hks : ∀ W : World, Below W1.heap.size W1 W → W.cell? ⟨w.heap.size, 0, none⟩ = some (.slice RA j.recs.length rc) ∧ W.cell? ⟨w.heap.size, 1, none⟩ = some (.int .i64 j.many) ∧ W.cell? ⟨w.heap.size, 2, none⟩ = some (.int .i64 j.sync) := fun W hb => ⟨(x1.below hb x1l).cell 0, (x1.below hb x1l).cell 1, (x1.below hb x1l).cell 2⟩
    have HKS := Lib.hid hks
    have hur : ∀ W : World, Below W1.heap.size W1 W → Calls Try.prog 87 #[.slice RA j.recs.length rc] W (fun e w' => e = .returned (.int .i64 (usedN j.recs : Nat)) ∧ w' = W) := fun W hb => rused_t RA rc j.recs W HS.out (HB.out.below (hw.trans (hb.mono hw.size)))
    have HUR := Lib.hid hur
    clear hks hur x1
    have x1c0 := (HKS.out _ (Below.refl _ _)).1
    have x1c1 := (HKS.out _ (Below.refl _ _)).2.1
    have x1c2 := (HKS.out _ (Below.refl _ _)).2.2
    go_quiet (fail)
    all_goals
      go_wp2
      go_ret
      exact ⟨by rw [HG.out]; rfl, by first | exact hw.drew | exact below_drewN hw _⟩
  have dk4 : decide ((j.recs.length : Int) < j.sync) = false := decide_eq_false k4
  by_cases k5 : j.many < (usedN j.recs : Int)
  case pos =>
    have dk5 : decide (j.many < (usedN j.recs : Int)) = true := decide_eq_true k5
    have HG := Lib.hid (jchk_no (j := j) (fun h => by have h1 := h; unfold JVal at h1; omega))
    go_enter Try.func50, Try.ntmps50
    go_wp2_with (fail)
    obtain ⟨W1, hW1⟩ : ∃ W, W = w.alloc (.cells #[.slice RA j.recs.length rc, .int .i64 j.many, .int .i64 j.sync] 55) := ⟨_, rfl⟩
    rw [← hW1]
    have hb : Below w.heap.size w W1 := by rw [hW1]; exact (Below.refl _ _).alloc (Nat.le_refl _) _
    have x1 : Blk W1 w.heap.size 55 #[.slice RA j.recs.length rc, .int .i64 j.many, .int .i64 j.sync] := by rw [hW1]; exact Blk.new w 55 _
    clear hW1
    have hw := hb
    clear hb
    have x1l := x1.lt
    have hks : ∀ W : World, Below W1.heap.size W1 W → W.cell? ⟨w.heap.size, 0, none⟩ = some (.slice RA j.recs.length rc) ∧ W.cell? ⟨w.heap.size, 1, none⟩ = some (.int .i64 j.many) ∧ W.cell? ⟨w.heap.size, 2, none⟩ = some (.int .i64 j.sync) := fun W hb => ⟨(x1.below hb x1l).cell 0, (x1.below hb x1l).cell 1, (x1.below hb x1l).cell 2⟩
    have HKS := Lib.hid hks
    have hur : ∀ W : World, Below W1.heap.size W1 W → Calls Try.prog 87 #[.slice RA j.recs.length rc] W (fun e w' => e = .returned (.int .i64 (usedN j.recs : Nat)) ∧ w' = W) := fun W hb => rused_t RA rc j.recs W HS.out (HB.out.below (hw.trans (hb.mono hw.size)))
    have HUR := Lib.hid hur
    clear hks hur x1
    have x1c0 := (HKS.out _ (Below.refl _ _)).1
    have x1c1 := (HKS.out _ (Below.refl _ _)).2.1
    have x1c2 := (HKS.out _ (Below.refl _ _)).2.2
    go_region_held3 (fun W => W.cell? ⟨w.heap.size, 0, none⟩ = some (.slice RA j.recs.length rc) ∧ W.cell? ⟨w.heap.size, 1, none⟩ = some (.int .i64 j.many) ∧ W.cell? ⟨w.heap.size, 2, none⟩ = some (.int .i64 j.sync)) ((refine HKS.out _ ?_; repeat (first | with_reducible exact Below.refl _ _ | refine Below.drew ?_)))
      ((go_at_call 87; refine (HUR.out _ (by repeat (first | with_reducible exact Below.refl _ _ | refine Below.drew ?_))).mono ?_; rintro e w2 ⟨rfl, hw2⟩; subst hw2))
    all_goals
      go_wp2
      go_ret
      exact ⟨by rw [HG.out]; rfl, by first | exact hw.drew | exact below_drewN hw _⟩
  have dk5 : decide (j.many < (usedN j.recs : Int)) = false := decide_eq_false k5
  have HG := Lib.hid (jchk_yes (j := j) (by unfold JVal; omega))
  go_enter Try.func50, Try.ntmps50
  go_wp2_with (fail)
  obtain ⟨W1, hW1⟩ : ∃ W, W = w.alloc (.cells #[.slice RA j.recs.length rc, .int .i64 j.many, .int .i64 j.sync] 55) := ⟨_, rfl⟩
  rw [← hW1]
  have hb : Below w.heap.size w W1 := by rw [hW1]; exact (Below.refl _ _).alloc (Nat.le_refl _) _
  have x1 : Blk W1 w.heap.size 55 #[.slice RA j.recs.length rc, .int .i64 j.many, .int .i64 j.sync] := by rw [hW1]; exact Blk.new w 55 _
  clear hW1
  have hw := hb
  clear hb
  have x1l := x1.lt
  have hks : ∀ W : World, Below W1.heap.size W1 W → W.cell? ⟨w.heap.size, 0, none⟩ = some (.slice RA j.recs.length rc) ∧ W.cell? ⟨w.heap.size, 1, none⟩ = some (.int .i64 j.many) ∧ W.cell? ⟨w.heap.size, 2, none⟩ = some (.int .i64 j.sync) := fun W hb => ⟨(x1.below hb x1l).cell 0, (x1.below hb x1l).cell 1, (x1.below hb x1l).cell 2⟩
  have HKS := Lib.hid hks
  have hur : ∀ W : World, Below W1.heap.size W1 W → Calls Try.prog 87 #[.slice RA j.recs.length rc] W (fun e w' => e = .returned (.int .i64 (usedN j.recs : Nat)) ∧ w' = W) := fun W hb => rused_t RA rc j.recs W HS.out (HB.out.below (hw.trans (hb.mono hw.size)))
  have HUR := Lib.hid hur
  clear hks hur x1
  have x1c0 := (HKS.out _ (Below.refl _ _)).1
  have x1c1 := (HKS.out _ (Below.refl _ _)).2.1
  have x1c2 := (HKS.out _ (Below.refl _ _)).2.2
  go_region_held3 (fun W => W.cell? ⟨w.heap.size, 0, none⟩ = some (.slice RA j.recs.length rc) ∧ W.cell? ⟨w.heap.size, 1, none⟩ = some (.int .i64 j.many) ∧ W.cell? ⟨w.heap.size, 2, none⟩ = some (.int .i64 j.sync)) ((refine HKS.out _ ?_; repeat (first | with_reducible exact Below.refl _ _ | refine Below.drew ?_)))
    ((go_at_call 87; refine (HUR.out _ (by repeat (first | with_reducible exact Below.refl _ _ | refine Below.drew ?_))).mono ?_; rintro e w2 ⟨rfl, hw2⟩; subst hw2))
  all_goals
    go_wp2
    go_ret
    exact ⟨by rw [HG.out]; rfl, by first | exact hw.drew | exact below_drewN hw _⟩

set_option maxRecDepth 20000 in
set_option maxHeartbeats 4000000 in
theorem rroom_t (RA : Option Addr) (rc : Nat) (j : Jn) (w : World) (hs : Sm j.recs) (h : RowsAt n₀ w RA j.recs) : Calls Try.prog 52 #[.agg #[.slice RA j.recs.length rc, .int .i64 j.many, .int .i64 j.sync]] w fun e w' => e = .returned (.int .i64 (gRoom j)) ∧ Below w.heap.size w w' := by
  have HS := Lib.hid hs
  have HJ := Lib.hid (rfl : gJchk j = gJchk j)
  obtain ⟨gc, hgc⟩ : ∃ x, x = gJchk j := ⟨_, rfl⟩
  have HGC := Lib.hid hgc
  clear hs
  go_enter Try.func52, Try.ntmps52
  go_wp2_with (fail)
  obtain ⟨W1, hW1⟩ : ∃ W, W = w.alloc (.cells #[.slice RA j.recs.length rc, .int .i64 j.many, .int .i64 j.sync] 55) := ⟨_, rfl⟩
  rw [← hW1]
  have hb : Below w.heap.size w W1 := by rw [hW1]; exact (Below.refl _ _).alloc (Nat.le_refl _) _
  have x1 : Blk W1 w.heap.size 55 #[.slice RA j.recs.length rc, .int .i64 j.many, .int .i64 j.sync] := by rw [hW1]; exact Blk.new w 55 _
  clear hW1
  replace h := h.below hb
  have hw := hb
  clear hb
  have K : Calls Try.prog 50 #[.agg #[.slice RA j.recs.length rc, .int .i64 j.many, .int .i64 j.sync]] W1 (fun e w' => e = .returned (.int .i64 gc) ∧ Below W1.heap.size W1 w') := by rw [HGC.out]; exact rjcheck_t RA rc j W1 HS.out h
  go_at_call 50
  refine K.mono ?_
  rintro e w2 ⟨rfl, hb⟩
  clear K
  replace h := h.below hb
  replace x1 := x1.below hb x1.lt
  replace hw := hw.trans (hb.mono hw.size)
  clear hb
  by_cases k0 : gc = 0
  case neg =>
    have dk0 : (gc != 0) = true := bne_iff_ne.2 k0
    have HR : gRoom j = 0 := by
      unfold gRoom
      rw [if_neg (fun hv => k0 (by rw [hgc, jchk_yes hv]))]
    have HHR := Lib.hid HR
    clear HR k0 hgc
    go_wp2
    go_ret
    exact ⟨by rw [HHR.out]; rfl, hw⟩
  subst k0
  have hv := jchk_val HGC.out.symm
  have HR : gRoom j = 112 * (j.many - usedN j.recs) := by unfold gRoom; rw [if_pos hv]
  have HHR := Lib.hid HR
  have v1 : 1 ≤ j.many := hv.1
  have v2 : j.many ≤ 4096 := hv.2.1
  have v3 : (usedN j.recs : Int) ≤ j.many := hv.2.2.2.2
  obtain ⟨u, hu⟩ : ∃ u, u = usedN j.recs := ⟨_, rfl⟩
  rw [← hu] at v3
  have HU := Lib.hid hu
  clear HR hgc hv hu
  have x1c0 := x1.cell 0
  have x1c1 := x1.cell 1
  have x1c2 := x1.cell 2
  simp only [List.getElem?_toArray, List.getElem?_cons_zero, List.getElem?_cons_succ] at x1c0 x1c1 x1c2
  have x1l := x1.lt
  have hks : ∀ W : World, Below w2.heap.size w2 W → W.cell? ⟨w.heap.size, 0, none⟩ = some (.slice RA j.recs.length rc) ∧ W.cell? ⟨w.heap.size, 1, none⟩ = some (.int .i64 j.many) ∧ W.cell? ⟨w.heap.size, 2, none⟩ = some (.int .i64 j.sync) := fun W hb => ⟨(x1.below hb x1l).cell 0, (x1.below hb x1l).cell 1, (x1.below hb x1l).cell 2⟩
  have HKS := Lib.hid hks
  have hur : ∀ W : World, Below w2.heap.size w2 W → Calls Try.prog 87 #[.slice RA j.recs.length rc] W (fun e w' => e = .returned (.int .i64 (u : Nat)) ∧ w' = W) := fun W hb => by rw [HU.out]; exact rused_t RA rc j.recs W HS.out (h.below hb)
  have HUR := Lib.hid hur
  clear hks hur
  go_upto_region 3 with (fail)
  clear x1 x1c0 x1c1 x1c2 x1l h
  have i1 : IntKind.i64.wrap (j.many - (u : Int)) = j.many - u := IntWalk.i64_in _ (by omega)
  have i2 : IntKind.i64.wrap (112 * (j.many - (u : Int))) = 112 * (j.many - u) := IntWalk.i64_in _ (by omega)
  go_region_held3 (fun W => W.cell? ⟨w.heap.size, 0, none⟩ = some (.slice RA j.recs.length rc) ∧ W.cell? ⟨w.heap.size, 1, none⟩ = some (.int .i64 j.many) ∧ W.cell? ⟨w.heap.size, 2, none⟩ = some (.int .i64 j.sync)) ((refine HKS.out _ ?_; repeat (first | with_reducible exact Below.refl _ _ | refine Below.drew ?_)))
    ((go_at_call 87; refine (HUR.out _ (by repeat (first | with_reducible exact Below.refl _ _ | refine Below.drew ?_))).mono ?_; rintro e w2 ⟨rfl, hw2⟩; subst hw2))
  all_goals
    go_wp2
    go_ret
    exact ⟨by rw [HHR.out, ← HU.out]; rfl, by first | exact hw.drew | exact below_drewN hw _⟩

end Go.Proofs.Ytckeopidedoohaa

namespace Go.Proofs.Ytckeopidedoohaa
open Go.RowKit
variable {n₀ : Nat}
attribute [local go_sem] Oper.semAt_some

theorem app2_end {w W : World} {j : Jn} {b : Bs} {vs : List Value} {V A : Option Addr} {n c ca base : Nat} (hn : n = j.recs.length + 1) (hc : n ≤ c) (hca : b.length ≤ ca) (hR : Rws n₀ w vs j.recs) (hb : BsAt n₀ w A b) (hown : W.ownsRow base 35 1 (.slice V n c) n (vs ++ [.slice A b.length ca])) (hW : Below w.heap.size w W) :
    JnIs n₀ w ({ j with recs := j.recs ++ [b] }, 0) (.returned (.tuple #[.agg #[.slice V n c, .int .i64 j.many, .int .i64 j.sync], .int .i64 0])) W := by
  have hl : (j.recs ++ [b]).length = n := by simp [hn]
  refine ⟨_, rfl, ⟨V, c, by rw [hl], by rw [hl]; exact hc, _, rws_snoc (hR.below hW) ⟨A, ca, rfl, hca, hb.below hW⟩, ?_⟩, hW⟩
  exact own_ValsAt hown (by rw [List.length_append, List.length_singleton, hR.1]; exact hn)

set_option maxRecDepth 20000 in
set_option maxHeartbeats 4000000 in
theorem rappend_t (RA A : Option Addr) (rc c : Nat) (j : Jn) (b : Bs) (w : World) (hs : Sm j.recs) (hbl : b.length ≤ 1000000000) (hrc : j.recs.length ≤ rc) (hbc : b.length ≤ c) (h : RowsAt n₀ w RA j.recs) (hbb0 : BsAt n₀ w A b) :
    Calls Try.prog 48 #[.agg #[.slice RA j.recs.length rc, .int .i64 j.many, .int .i64 j.sync], .slice A b.length c] w (JnIs n₀ w (gApp j b)) := by
  obtain ⟨gc, hgc⟩ : ∃ x, x = gJchk j := ⟨_, rfl⟩
  have HGC := Lib.hid hgc
  have hjl := hs.1
  have HS := Lib.hid hs
  clear hs
  by_cases k0 : gc = 0
  case neg =>
    have hnv : ¬ JVal j := fun hv => k0 (by rw [hgc, jchk_yes hv])
    have E := Lib.hid (gApp_no (b := b) hnv)
    obtain rfl : gc = 1 := by rw [hgc, jchk_no hnv]
    clear k0 hgc hnv
    go_enter Try.func48, Try.ntmps48
    go_wp2_with (fail)
    obtain ⟨W1, hW1⟩ : ∃ W, W = (w.alloc (.cells #[.slice RA j.recs.length rc, .int .i64 j.many, .int .i64 j.sync] 55)).alloc (.cells #[.slice none 0 0, .int .i64 0, .int .i64 0] 55) := ⟨_, rfl⟩
    rw [← hW1]
    have hbb : Below w.heap.size w W1 := by rw [hW1]; exact ((Below.refl _ _).alloc (Nat.le_refl _) _).alloc (by simp) _
    have x2 : Blk W1 w.heap.size 55 #[.slice RA j.recs.length rc, .int .i64 j.many, .int .i64 j.sync] := by rw [hW1]; exact (Blk.new w 55 _).alloc _
    have x4 : Blk W1 (w.heap.size + 1) 55 #[.slice none 0 0, .int .i64 0, .int .i64 0] := by rw [hW1]; exact Blk.newAt (by simp) 55 _
    clear hW1
    replace h := h.below hbb
    replace hbb0 := hbb0.below hbb
    have hw := hbb
    clear hbb
    have K : Calls Try.prog 50 #[.agg #[.slice RA j.recs.length rc, .int .i64 j.many, .int .i64 j.sync]] W1 (fun e w' => e = .returned (.int .i64 1) ∧ Below W1.heap.size W1 w') := by rw [HGC.out]; exact rjcheck_t RA rc j W1 HS.out h
    go_at_call 50
    refine K.mono ?_
    rintro e w1 ⟨rfl, hb⟩
    clear K
    replace h := h.below hb
    replace hbb0 := hbb0.below hb
    replace x2 := x2.below hb x2.lt
    replace x4 := x4.below hb x4.lt
    replace hw := hw.trans (hb.mono hw.size)
    clear hb
    have x4c0 := x4.cell 0
    have x4f0 := x4.frozen 0
    have x4c1 := x4.cell 1
    have x4f1 := x4.frozen 1
    have x4c2 := x4.cell 2
    have x4f2 := x4.frozen 2
    simp only [List.getElem?_toArray, List.getElem?_cons_zero, List.getElem?_cons_succ] at x4c0 x4c1 x4c2
    have x4l := x4.lt
    have HWW := Lib.hid hw
    clear hw
    go_wp2
    refine bodyPost_ret (v := .tuple #[.agg #[.slice none 0 0, .int .i64 0, .int .i64 0], .int .i64 1]) (by simp [results, Try.results48, go_sem, x4c0, x4c1, x4c2]) rfl ?_
    rw [E.out]
    exact jn_end (fun W BB => jn0V W) (by repeat (first | with_reducible exact HWW.out | refine Below.setCell ?_ (by simp <;> omega) _))
  subst k0
  have hv := jchk_val HGC.out.symm
  have v1 : 1 ≤ j.many := hv.1
  have v2 : j.many ≤ 4096 := hv.2.1
  have v3 : (usedN j.recs : Int) ≤ j.many := hv.2.2.2.2
  obtain ⟨u, hu⟩ : ∃ u, u = usedN j.recs := ⟨_, rfl⟩
  obtain ⟨sx, hsx⟩ : ∃ s, s = max 1 ((b.length + 111) / 112) := ⟨_, rfl⟩
  have hsl : sx ≤ 10000000 := by omega
  have hsn : secN b = sx := by rw [hsx]; rfl
  have HV := Lib.hid hv
  obtain ⟨vs, hR, hva⟩ := h
  have hvl := hR.1
  have HR := Lib.hid hR
  have HVA := Lib.hid hva
  have h : RowsAt n₀ w RA j.recs := ⟨vs, hR, hva⟩
  have HH0 := Lib.hid h
  have HB0 := Lib.hid hbb0
  clear hR hva
  by_cases k1 : j.many - usedN j.recs < secN b
  case pos =>
    have E := Lib.hid (gApp_lim HV.out k1)
    rw [← hu, hsn] at k1
    rw [← hu] at v3
    have HU := Lib.hid hu
    have HSX := Lib.hid hsx
    clear hv hu hsx hsn hgc
    have dk : decide (j.many - (u : Int) < (sx : Int)) = true := decide_eq_true k1
    clear k1
    go_enter Try.func48, Try.ntmps48
    go_wp2_with (fail)
    obtain ⟨W1, hW1⟩ : ∃ W, W = (w.alloc (.cells #[.slice RA j.recs.length rc, .int .i64 j.many, .int .i64 j.sync] 55)).alloc (.cells #[.slice none 0 0, .int .i64 0, .int .i64 0] 55) := ⟨_, rfl⟩
    rw [← hW1]
    have hbb : Below w.heap.size w W1 := by rw [hW1]; exact ((Below.refl _ _).alloc (Nat.le_refl _) _).alloc (by simp) _
    have x2 : Blk W1 w.heap.size 55 #[.slice RA j.recs.length rc, .int .i64 j.many, .int .i64 j.sync] := by rw [hW1]; exact (Blk.new w 55 _).alloc _
    have x4 : Blk W1 (w.heap.size + 1) 55 #[.slice none 0 0, .int .i64 0, .int .i64 0] := by rw [hW1]; exact Blk.newAt (by simp) 55 _
    clear hW1
    replace h := h.below hbb
    replace hbb0 := hbb0.below hbb
    have hw := hbb
    clear hbb
    have K : Calls Try.prog 50 #[.agg #[.slice RA j.recs.length rc, .int .i64 j.many, .int .i64 j.sync]] W1 (fun e w' => e = .returned (.int .i64 0) ∧ Below W1.heap.size W1 w') := by rw [HGC.out]; exact rjcheck_t RA rc j W1 HS.out h
    go_at_call 50
    refine K.mono ?_
    rintro e w1 ⟨rfl, hb⟩
    clear K
    replace h := h.below hb
    replace hbb0 := hbb0.below hb
    replace x2 := x2.below hb x2.lt
    replace x4 := x4.below hb x4.lt
    replace hw := hw.trans (hb.mono hw.size)
    clear hb
    have x2c0 := x2.cell 0
    have x2c1 := x2.cell 1
    have x2c2 := x2.cell 2
    simp only [List.getElem?_toArray, List.getElem?_cons_zero, List.getElem?_cons_succ] at x2c0 x2c1 x2c2
    have x2l := x2.lt
    have x4l := x4.lt
    go_upto_region 4 with (fail)
    have hks : ∀ W : World, Below w1.heap.size w1 W → W.cell? ⟨w.heap.size, 0, none⟩ = some (.slice RA j.recs.length rc) ∧ W.cell? ⟨w.heap.size, 1, none⟩ = some (.int .i64 j.many) ∧ W.cell? ⟨w.heap.size, 2, none⟩ = some (.int .i64 j.sync) := fun W hb => ⟨(x2.below hb x2l).cell 0, (x2.below hb x2l).cell 1, (x2.below hb x2l).cell 2⟩
    have HKS := Lib.hid hks
    have hur : ∀ W : World, Below w1.heap.size w1 W → Calls Try.prog 87 #[.slice RA j.recs.length rc] W (fun e w' => e = .returned (.int .i64 (u : Nat)) ∧ w' = W) := fun W hb => by rw [HU.out]; exact rused_t RA rc j.recs W HS.out (h.below hb)
    have HUR := Lib.hid hur
    clear hks hur
    have hse : ∀ W : World, Calls Try.prog 86 #[.int .i64 (b.length : Nat)] W (fun e w' => e = .returned (.int .i64 (sx : Nat)) ∧ w' = W) := fun W => by rw [HSX.out]; exact rsectors_t b.length W (by omega)
    have HSE := Lib.hid hse
    clear hse
    have i1 : IntKind.i64.wrap (j.many - (u : Int)) = j.many - u := IntWalk.i64_in _ (by omega)
    go_cut [22] (fun s21 wx => s21 = .bool true ∧ Below w1.heap.size w1 wx)
    case first =>
      have HX2 := Lib.hid x2
      have HX4 := Lib.hid x4
      clear x2 x4
      go_region_held3 (fun W => W.cell? ⟨w.heap.size, 0, none⟩ = some (.slice RA j.recs.length rc) ∧ W.cell? ⟨w.heap.size, 1, none⟩ = some (.int .i64 j.many) ∧ W.cell? ⟨w.heap.size, 2, none⟩ = some (.int .i64 j.sync)) ((refine HKS.out _ ?_; repeat (first | with_reducible exact Below.refl _ _ | refine Below.drew ?_)))
        (first | (go_at_call 86; refine (HSE.out _).mono ?_; rintro e w2 ⟨rfl, hw2⟩; subst hw2) | (go_at_call 87; refine (HUR.out _ (by repeat (first | with_reducible exact Below.refl _ _ | refine Below.drew ?_))).mono ?_; rintro e w2 ⟨rfl, hw2⟩; subst hw2))
      all_goals
        (try go_wp2_with (fail))
        go_meet
        exact ⟨by first | rfl | rw [dk], (Below.refl _ _).drew⟩
    case rest =>
      obtain ⟨rfl, hbb⟩ := hcut
      clear dk i1 x4l
      clear x2c0 x2c1 x2c2 x2l
      replace h := h.below hbb
      replace hbb0 := hbb0.below hbb
      replace x2 := x2.below hbb x2.lt
      replace x4 := x4.below hbb x4.lt
      replace hw := hw.trans (hbb.mono hw.size)
      clear hbb
      have x4c0 := x4.cell 0
      have x4f0 := x4.frozen 0
      have x4c1 := x4.cell 1
      have x4f1 := x4.frozen 1
      have x4c2 := x4.cell 2
      have x4f2 := x4.frozen 2
      simp only [List.getElem?_toArray, List.getElem?_cons_zero, List.getElem?_cons_succ] at x4c0 x4c1 x4c2
      have x4l := x4.lt
      have HWW := Lib.hid hw
      clear hw
      go_wp2
      refine bodyPost_ret (v := .tuple #[.agg #[.slice none 0 0, .int .i64 0, .int .i64 0], .int .i64 2]) (by simp [results, Try.results48, go_sem, x4c0, x4c1, x4c2]) rfl ?_
      rw [E.out]
      exact jn_end (fun W BB => jn0V W) (by repeat (first | with_reducible exact HWW.out | refine Below.setCell ?_ (by simp <;> omega) _))
  case neg =>
    have E := Lib.hid (gApp_ok HV.out k1)
    rw [← hu, hsn] at k1
    rw [← hu] at v3
    have HU := Lib.hid hu
    have HSX := Lib.hid hsx
    clear hv hu hsx hsn hgc
    have dk : decide (j.many - (u : Int) < (sx : Int)) = false := decide_eq_false k1
    clear k1
    go_enter Try.func48, Try.ntmps48
    go_wp2_with (fail)
    obtain ⟨W1, hW1⟩ : ∃ W, W = (w.alloc (.cells #[.slice RA j.recs.length rc, .int .i64 j.many, .int .i64 j.sync] 55)).alloc (.cells #[.slice none 0 0, .int .i64 0, .int .i64 0] 55) := ⟨_, rfl⟩
    rw [← hW1]
    have hbb : Below w.heap.size w W1 := by rw [hW1]; exact ((Below.refl _ _).alloc (Nat.le_refl _) _).alloc (by simp) _
    have x2 : Blk W1 w.heap.size 55 #[.slice RA j.recs.length rc, .int .i64 j.many, .int .i64 j.sync] := by rw [hW1]; exact (Blk.new w 55 _).alloc _
    have x4 : Blk W1 (w.heap.size + 1) 55 #[.slice none 0 0, .int .i64 0, .int .i64 0] := by rw [hW1]; exact Blk.newAt (by simp) 55 _
    clear hW1
    replace h := h.below hbb
    replace hbb0 := hbb0.below hbb
    have hw := hbb
    clear hbb
    have K : Calls Try.prog 50 #[.agg #[.slice RA j.recs.length rc, .int .i64 j.many, .int .i64 j.sync]] W1 (fun e w' => e = .returned (.int .i64 0) ∧ Below W1.heap.size W1 w') := by rw [HGC.out]; exact rjcheck_t RA rc j W1 HS.out h
    go_at_call 50
    refine K.mono ?_
    rintro e w1 ⟨rfl, hb⟩
    clear K
    replace h := h.below hb
    replace hbb0 := hbb0.below hb
    replace x2 := x2.below hb x2.lt
    replace x4 := x4.below hb x4.lt
    replace hw := hw.trans (hb.mono hw.size)
    clear hb
    have x2c0 := x2.cell 0
    have x2c1 := x2.cell 1
    have x2c2 := x2.cell 2
    simp only [List.getElem?_toArray, List.getElem?_cons_zero, List.getElem?_cons_succ] at x2c0 x2c1 x2c2
    have x2l := x2.lt
    have x4l := x4.lt
    go_upto_region 4 with (fail)
    have hks : ∀ W : World, Below w1.heap.size w1 W → W.cell? ⟨w.heap.size, 0, none⟩ = some (.slice RA j.recs.length rc) ∧ W.cell? ⟨w.heap.size, 1, none⟩ = some (.int .i64 j.many) ∧ W.cell? ⟨w.heap.size, 2, none⟩ = some (.int .i64 j.sync) := fun W hb => ⟨(x2.below hb x2l).cell 0, (x2.below hb x2l).cell 1, (x2.below hb x2l).cell 2⟩
    have HKS := Lib.hid hks
    have hur : ∀ W : World, Below w1.heap.size w1 W → Calls Try.prog 87 #[.slice RA j.recs.length rc] W (fun e w' => e = .returned (.int .i64 (u : Nat)) ∧ w' = W) := fun W hb => by rw [HU.out]; exact rused_t RA rc j.recs W HS.out (h.below hb)
    have HUR := Lib.hid hur
    clear hks hur
    have hse : ∀ W : World, Calls Try.prog 86 #[.int .i64 (b.length : Nat)] W (fun e w' => e = .returned (.int .i64 (sx : Nat)) ∧ w' = W) := fun W => by rw [HSX.out]; exact rsectors_t b.length W (by omega)
    have HSE := Lib.hid hse
    clear hse
    have i1 : IntKind.i64.wrap (j.many - (u : Int)) = j.many - u := IntWalk.i64_in _ (by omega)
    go_cut [22] (fun s21 wx => s21 = .bool false ∧ Below w1.heap.size w1 wx)
    case first =>
      have HX2 := Lib.hid x2
      have HX4 := Lib.hid x4
      clear x2 x4
      go_region_held3 (fun W => W.cell? ⟨w.heap.size, 0, none⟩ = some (.slice RA j.recs.length rc) ∧ W.cell? ⟨w.heap.size, 1, none⟩ = some (.int .i64 j.many) ∧ W.cell? ⟨w.heap.size, 2, none⟩ = some (.int .i64 j.sync)) ((refine HKS.out _ ?_; repeat (first | with_reducible exact Below.refl _ _ | refine Below.drew ?_)))
        (first | (go_at_call 86; refine (HSE.out _).mono ?_; rintro e w2 ⟨rfl, hw2⟩; subst hw2) | (go_at_call 87; refine (HUR.out _ (by repeat (first | with_reducible exact Below.refl _ _ | refine Below.drew ?_))).mono ?_; rintro e w2 ⟨rfl, hw2⟩; subst hw2))
      all_goals
        (try go_wp2_with (fail))
        go_meet
        exact ⟨by first | rfl | rw [dk], (Below.refl _ _).drew⟩
    case rest =>
      obtain ⟨rfl, hbb⟩ := hcut
      clear dk i1 x4l
      clear x2c0 x2c1 x2c2 x2l
      replace h := h.below hbb
      replace hbb0 := hbb0.below hbb
      replace x2 := x2.below hbb x2.lt
      replace x4 := x4.below hbb x4.lt
      replace hw := hw.trans (hbb.mono hw.size)
      clear hbb
      have lx2c := x2.lt
      have lx4c := x4.lt
      obtain ⟨i0, hi0, hz0, hz1, hz2⟩ := info_parts info35
      have x2c0 := x2.cell 0
      have x2c1 := x2.cell 1
      have x2c2 := x2.cell 2
      simp only [List.getElem?_toArray, List.getElem?_cons_zero, List.getElem?_cons_succ] at x2c0 x2c1 x2c2
      have x2l := x2.lt
      have hw6s := hw.size
      have lx2 := x2.lt
      have lx4 := x4.lt
      have HWW := Lib.hid hw
      have HX2 := Lib.hid x2
      have HX4 := Lib.hid x4
      obtain ⟨xb, hxb⟩ : ∃ n, n = b.length := ⟨_, rfl⟩
      rw [← hxb]
      have HXB := Lib.hid hxb
      have hsrc : ∀ W, Below w.heap.size w W → (0 < j.recs.length → ∃ ad, RA = some ad ∧ ∀ q u, vs[q]? = some u → W.cell? (ad.add q) = some u) := fun W hb h0 => vals_src HVA.out hb (by omega)
      have HSRC := Lib.hid hsrc
      have ow : (wc.alloc (.cells #[] 35)).ownsRow wc.heap.size 35 1 (.slice (some ⟨wc.heap.size, 0, none⟩) 0 0) 0 [] := World.ownsRow_lit wc #[] 0 (Nat.le_refl _) (by simp [maxLen]) rfl
      have OW := Lib.hid ow
      clear x2 x4 hxb hw h hbb0 hsrc ow
      go_upto_region 7 with (first | (at_builtin; refine wpList_append_any (by rfl) (.tmp 24) (.tmp 26) 22 rfl wc.heap.size 35 i0 (.slice none 0 0) 1 24 Try.underlying22 hi0 hz0 hz1 hz2 rfl (by decide) (.slice (some ⟨wc.heap.size, 0, none⟩) 0 0) 0 [] rfl OW.out RA j.recs.length rc vs rfl (by omega) (HSRC.out _ (HWW.out.alloc HWW.out.size _)) (rws_one HR.out) (by simp [maxLen]; omega) (by omega) (by simp) ?_; intro v7 w7 hown7 hgrow7; simp only [Nat.zero_add, List.nil_append] at hown7; have b7 : Below wc.heap.size wc w7 := Below.grown ((Below.refl _ _).alloc (Nat.le_refl _) _) hgrow7 (by simp) (by intro k hk; simp [Value.ownBlock] at hk; omega)) | (at_builtin; refine wpList_append_own _ rfl (.tmp 27) (.tmp 29) 22 rfl wc.heap.size 35 i0 (.slice none 0 0) 1 24 Try.underlying22 hi0 hz0 hz1 hz2 rfl (by decide) _ j.recs.length vs rfl (hown7.alloc _) ⟨w7.heap.size, 0, none⟩ 1 1 [.slice A xb c] rfl rfl (cell_new1 w7 _ _) (by simp [Value.oneCell']) (by simp [maxLen]; omega) (by omega) (by have := b7.size; simp; omega) ?_; intro v8 w8 hown8 hgrow8 _; have b8 : Below wc.heap.size wc w8 := Below.grown (b7.alloc b7.size _) hgrow8 (by have := b7.size; simp; omega) (own_base hown7); obtain ⟨V7, c7, rfl, hc7⟩ := own_slice hown8; have y2 : Blk w8 w.heap.size 55 #[.slice RA j.recs.length rc, .int .i64 j.many, .int .i64 j.sync] := HX2.out.below b8 HX2.out.lt; have y2c0 := y2.cell 0; have y2f0 := y2.frozen 0; simp only [List.getElem?_toArray, List.getElem?_cons_zero] at y2c0))
      have y4 : Blk w8 (w.heap.size + 1) 55 #[.slice none 0 0, .int .i64 0, .int .i64 0] := HX4.out.below b8 HX4.out.lt
      have hw7 : Below w.heap.size w w8 := HWW.out.trans (b8.mono HWW.out.size)
      obtain ⟨W8, hW8⟩ : ∃ W, W = w8.setCell ⟨w.heap.size, 0, none⟩ (.slice V7 (j.recs.length + 1) c7) := ⟨_, rfl⟩
      rw [← hW8]
      have x2 : Blk W8 w.heap.size 55 #[.slice V7 (j.recs.length + 1) c7, .int .i64 j.many, .int .i64 j.sync] := by rw [hW8]; exact y2.set 0 _
      have x4 : Blk W8 (w.heap.size + 1) 55 #[.slice none 0 0, .int .i64 0, .int .i64 0] := by rw [hW8]; exact y4.other (p := ⟨w.heap.size, 0, none⟩) (show w.heap.size + 1 ≠ w.heap.size by omega) _
      have ho7 : W8.ownsRow wc.heap.size 35 1 (.slice V7 (j.recs.length + 1) c7) (j.recs.length + 1) (vs ++ [.slice A xb c]) := by rw [hW8]; exact ownsRow_setCell_below hown8 (show w.heap.size < wc.heap.size from lx2) _
      have hw8 : Below w.heap.size w W8 := by rw [hW8]; exact hw7.setCell (Nat.le_refl _) _
      have HO7 := Lib.hid ho7
      have HW8 := Lib.hid hw8
      clear hW8 y2 y2c0 y2f0 y4 hown7 hown8 ho7 hw7 hw8 hgrow7 hgrow8 b7 b8
      have x2c0 := x2.cell 0
      have x2c1 := x2.cell 1
      have x2c2 := x2.cell 2
      simp only [List.getElem?_toArray, List.getElem?_cons_zero, List.getElem?_cons_succ] at x2c0 x2c1 x2c2
      have x2l := x2.lt
      have x4c0 := x4.cell 0
      have x4f0 := x4.frozen 0
      have x4c1 := x4.cell 1
      have x4f1 := x4.frozen 1
      have x4c2 := x4.cell 2
      have x4f2 := x4.frozen 2
      simp only [List.getElem?_toArray, List.getElem?_cons_zero, List.getElem?_cons_succ] at x4c0 x4c1 x4c2
      have x4l := x4.lt
      go_wp2
      refine bodyPost_ret (v := .tuple #[.agg #[.slice V7 (j.recs.length + 1) c7, .int .i64 j.many, .int .i64 j.sync], .int .i64 0]) (by simp [results, Try.results48, go_sem, x4c0, x4c1, x4c2]) rfl ?_
      rw [E.out]
      have hxb := HXB.out
      subst hxb
      exact app2_end (base := wc.heap.size) rfl hc7 hbc HR.out HB0.out (by repeat (first | with_reducible exact HO7.out | refine ownsRow_setCell_below ?_ (by simp <;> omega) _)) (by repeat (first | with_reducible exact HW8.out | refine Below.setCell ?_ (by simp <;> omega) _))
end Go.Proofs.Ytckeopidedoohaa
