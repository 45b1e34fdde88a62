/-
  The reference's checksum, number. Conditions: bytes lie as plain data.
-/
import Derived.Test.YtckeopidedoohaaJck
namespace Go.Proofs.Ytckeopidedoohaa
open Go.RowKit
variable {n₀ : Nat}
attribute [local go_sem] Oper.semAt_some

set_option maxRecDepth 20000 in
set_option maxHeartbeats 2000000 in
theorem rsum_t (A : Option Addr) (c : Nat) (bs : Bs) (w : World) (hl : bs.length ≤ 140737488355328) (h : BsAt n₀ w A bs) : Calls Try.prog 111 #[.slice A bs.length c] w fun e w' => e = .returned (.int .u32 (gSum bs : Nat)) ∧ w' = w := by
  have HB := Lib.hid h
  clear h
  go_enter Try.func111, Try.ntmps111
  go_wp2_with (fail)
  go_loopw [3, 4] (fun v3 v8 wr => ∃ i : Nat, i ≤ bs.length ∧ v8 = .int .i64 i ∧ v3 = .int .u32 (crcL 4294967295 (bs.take i) : Nat) ∧ wr = w) (fun _ v8 _ => bs.length - (intOf v8).toNat)
  case atStart => exact ⟨0, by omega, rfl, rfl, rfl⟩
  case round =>
    obtain ⟨i, hi, rfl, rfl, hwr⟩ := hrel
    have hwr := hwr.symm
    subst hwr
    by_cases hlt : i < bs.length
    case neg =>
      obtain rfl : i = bs.length := by omega
      rw [List.take_length]
      go_wp2
      go_ret
      exact ⟨congrArg (fun z => Ending.returned (.int .u32 z)) ((u32_xor_nat _ 4294967295 (crcL_lt (by decide) _) (by decide)).trans (by unfold gSum; rw [Nat.xor_comm])), rfl⟩
    case pos =>
      obtain ⟨b, o, rfl, hb, hc⟩ := HB.out (by omega)
      have z0 := hc i hlt
      unfold u8v at z0
      have hst := take_snocB bs i hlt
      obtain ⟨cb, hcb⟩ : ∃ x, x = bs.getD i 0 := ⟨_, rfl⟩
      rw [← hcb] at z0 hst
      obtain ⟨n, hn⟩ : ∃ n, n = crcL 4294967295 (bs.take i) := ⟨_, rfl⟩
      have hn2 : n < 4294967296 := by rw [hn]; exact crcL_lt (by decide) _
      rw [← hn]
      have HN := Lib.hid hn
      have HST := Lib.hid hst
      clear hn hst hc hcb
      have hcb2 : (cb.toNat : Int) ≤ 255 := by have := cb.toNat_lt; omega
      go_wp2_with (fail)
      go_loopw [3, 5] (fun v3 v16 w2 => ∃ k : Nat, k ≤ 8 ∧ v16 = .int .i64 k ∧ v3 = .int .u32 (crcN k (n ^^^ cb.toNat) : Nat) ∧ w2 = w) (fun _ v16 _ => 8 - (intOf v16).toNat)
      case atStart =>
        exact ⟨0, by omega, rfl, congrArg (fun z => Value.int .u32 z) (u32_xor_nat n cb.toNat hn2 (by omega)), rfl⟩
      case round =>
        obtain ⟨k, hk, rfl, rfl, hwr⟩ := hrel
        have hwr := hwr.symm
        subst hwr
        obtain ⟨x, hx⟩ : ∃ x, x = crcN k (n ^^^ cb.toNat) := ⟨_, rfl⟩
        have hx2 : x < 4294967296 := by rw [hx]; exact crcN_lt _ (xor_u8_lt hn2 _)
        rw [← hx]
        have HX := Lib.hid hx
        clear hx
        by_cases hk8 : k < 8
        case pos =>
          have hs1 : crcN (k + 1) (n ^^^ cb.toNat) = crc1 x := by rw [HX.out]; rfl
          have HS1 := Lib.hid hs1
          clear hs1
          by_cases hodd : x % 2 = 1
          case pos =>
            have d1 : (((x : Int).tmod 2) == 1) = true := by
              rw [show (x : Int).tmod 2 = ((x % 2 : Nat) : Int) from rfl]
              exact beq_iff_eq.2 (by omega)
            have d2 : ((((x : Int) % 2)) == 1) = true := beq_iff_eq.2 (by omega)
            have d3 : (x : Int) % 2 = 1 := by omega
            go_wp2_with (fail)
            go_roundw
            case rel =>
              refine ⟨k + 1, by omega, by go_num, ?_, by trivial⟩
              rw [HS1.out]
              unfold crc1
              rw [hodd, show (x : Int) / 2 = ((x / 2 : Nat) : Int) by omega]
              exact congrArg (fun z => Value.int .u32 z) (u32_xor_nat (x / 2) 3988292384 (by omega) (by decide))
            case measure => simp [intOf]; omega
          case neg =>
            have d1 : (((x : Int).tmod 2) == 1) = false := by
              rw [show (x : Int).tmod 2 = ((x % 2 : Nat) : Int) from rfl]
              exact beq_eq_false_iff_ne.2 (by omega)
            have d2 : ((((x : Int) % 2)) == 1) = false := beq_eq_false_iff_ne.2 (by omega)
            have d3 : ¬ (x : Int) % 2 = 1 := by omega
            go_wp2_with (fail)
            go_roundw
            case rel =>
              refine ⟨k + 1, by omega, by go_num, ?_, by trivial⟩
              rw [HS1.out]
              unfold crc1
              rw [show x % 2 = 0 by omega]
              simp
            case measure => simp [intOf]; omega
        case neg =>
          obtain rfl : k = 8 := by omega
          go_wp2_with (fail)
          go_roundw
          case rel =>
            refine ⟨i + 1, by omega, by go_num, ?_, by trivial⟩
            rw [HST.out, crcL_append, ← HN.out, HX.out]
            rfl
          case measure => simp [intOf]; omega
set_option maxRecDepth 20000 in
set_option maxHeartbeats 2000000 in
theorem rnumber_t (A : Option Addr) (c : Nat) (bs : Bs) (w : World) (hl : bs.length ≤ 7) (h : BsAt n₀ w A bs) : Calls Try.prog 107 #[.slice A bs.length c] w fun e w' => e = .returned (.int .u64 (getL bs : Nat)) ∧ w' = w := by
  have HB := Lib.hid h
  clear h
  go_enter Try.func107, Try.ntmps107
  go_wp2_with (fail)
  go_loopw [3, 4] (fun v2 v7 wr => ∃ i : Nat, i ≤ bs.length ∧ v7 = .int .i64 i ∧ v2 = .int .u64 (getL (bs.take i) : Nat) ∧ wr = w) (fun _ v7 _ => bs.length - (intOf v7).toNat)
  case atStart => exact ⟨0, by omega, rfl, rfl, rfl⟩
  case round =>
    obtain ⟨i, hi, rfl, rfl, hwr⟩ := hrel
    have hwr := hwr.symm
    subst hwr
    by_cases hlt : i < bs.length
    case neg =>
      obtain rfl : i = bs.length := by omega
      rw [List.take_length]
      go_wp2
      go_ret
      exact ⟨rfl, rfl⟩
    case pos =>
      obtain ⟨b, o, rfl, hb, hc⟩ := HB.out (by omega)
      have z0 := hc i hlt
      unfold u8v at z0
      have hst := take_snocB bs i hlt
      obtain ⟨cb, hcb⟩ : ∃ x, x = bs.getD i 0 := ⟨_, rfl⟩
      rw [← hcb] at z0 hst
      obtain ⟨n, hn⟩ : ∃ n, n = getL (bs.take i) := ⟨_, rfl⟩
      have hn2 : n < 281474976710656 := by
        rw [hn]
        refine Nat.lt_of_lt_of_le (getL_lt _) ?_
        rw [List.length_take]
        exact Nat.le_trans (Nat.pow_le_pow_right (by decide) (show min i bs.length ≤ 6 by omega)) (by decide)
      rw [← hn]
      have HN := Lib.hid hn
      have HST := Lib.hid hst
      clear hn hst hc hcb
      have hcb2 : (cb.toNat : Int) ≤ 255 := by have := cb.toNat_lt; omega
      go_wp2_with (fail)
      go_roundw
      case rel =>
        refine ⟨i + 1, by omega, by go_num, ?_, by trivial⟩
        rw [HST.out, getL_snoc, ← HN.out]
        go_num
      case measure => simp [intOf]; omega

end Go.Proofs.Ytckeopidedoohaa
