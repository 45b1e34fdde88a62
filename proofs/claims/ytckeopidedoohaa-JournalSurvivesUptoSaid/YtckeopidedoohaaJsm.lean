/-
  The checksum, numbers of bytes. Conditions: bytes lie as plain data.
-/
import Derived.Test.YtckeopidedoohaaDbx
import Derived.Test.YtckeopidedoohaaJpl
import Derived.Laws.BitsAllLaws
namespace Go.Proofs.Ytckeopidedoohaa
open Go.RowKit
variable {n₀ : Nat}
attribute [local go_sem] Oper.semAt_some

theorem take_snocB (l : Bs) (i : Nat) (h : i < l.length) : l.take (i + 1) = l.take i ++ [l.getD i 0] := by
  rw [List.take_succ_eq_append_getElem h]
  simp [List.getD, h]
theorem crc_bits {x : Nat} (h : x < 4294967296) : bits .xor .u32 ((x : Int) / 2) (3988292384 * bits .and .u32 (x : Int) 1 % 4294967296) = ((crc1 x : Nat) : Int) := by
  have e1 : bits .and .u32 (x : Int) 1 = ((x % 2 : Nat) : Int) := by
    have := u32_and_nat x 1 h (by decide)
    rw [Nat.and_one_is_mod] at this
    exact this
  have e2 : (3988292384 : Int) * ((x % 2 : Nat) : Int) % 4294967296 = ((3988292384 * (x % 2) : Nat) : Int) := by omega
  have e3 : (x : Int) / 2 = ((x / 2 : Nat) : Int) := by omega
  rw [e1, e2, e3, u32_xor_nat _ _ (by omega) (by omega)]
  rfl

set_option maxRecDepth 20000 in
set_option maxHeartbeats 2000000 in
theorem sum_t (A : Option Addr) (c : Nat) (bs : Bs) (w : World) (hl : bs.length ≤ 140737488355328) (h : BsAt n₀ w A bs) : Calls Try.prog 109 #[.slice A bs.length c] w fun e w' => e = .returned (.int .u32 (gSum bs : Nat)) ∧ w' = w := by
  have HB := Lib.hid h
  clear h
  go_enter Try.func109, Try.ntmps109
  go_wp2_with (fail)
  go_loopw [3, 8] (fun v3 v8 wr => ∃ i : Nat, i ≤ bs.length ∧ v8 = .int .i64 i ∧ v3 = .int .u32 (crcL 4294967295 (bs.take i) : Nat) ∧ wr = w) (fun _ v8 _ => bs.length - (intOf v8).toNat)
  case atStart => exact ⟨0, by omega, rfl, rfl, rfl⟩
  case round =>
    obtain ⟨i, hi, rfl, rfl, hwr⟩ := hrel
    have hwr := hwr.symm
    subst hwr
    by_cases hlt : i < bs.length
    case neg =>
      obtain rfl : i = bs.length := by omega
      rw [List.take_length]
      go_wp2
      go_ret
      exact ⟨congrArg (fun z => Ending.returned (.int .u32 z)) (u32_xor_nat 4294967295 _ (by decide) (crcL_lt (by decide) _)), rfl⟩
    case pos =>
      obtain ⟨b, o, rfl, hb, hc⟩ := HB.out (by omega)
      have z0 := hc i hlt
      unfold u8v at z0
      have hst := take_snocB bs i hlt
      obtain ⟨cb, hcb⟩ : ∃ x, x = bs.getD i 0 := ⟨_, rfl⟩
      rw [← hcb] at z0 hst
      obtain ⟨n, hn⟩ : ∃ n, n = crcL 4294967295 (bs.take i) := ⟨_, rfl⟩
      have hn2 : n < 4294967296 := by rw [hn]; exact crcL_lt (by decide) _
      rw [← hn]
      have HN := Lib.hid hn
      have HST := Lib.hid hst
      clear hn hst hc hcb
      have hcb2 : (cb.toNat : Int) ≤ 255 := by have := cb.toNat_lt; omega
      go_wp2_with (fail)
      go_loopw [3, 16] (fun v3 v16 w2 => ∃ k : Nat, k ≤ 8 ∧ v16 = .int .i64 k ∧ v3 = .int .u32 (crcN k (n ^^^ cb.toNat) : Nat) ∧ w2 = w) (fun _ v16 _ => 8 - (intOf v16).toNat)
      case atStart =>
        exact ⟨0, by omega, rfl, congrArg (fun z => Value.int .u32 z) (u32_xor_nat n cb.toNat hn2 (by omega)), rfl⟩
      case round =>
        obtain ⟨k, hk, rfl, rfl, hwr⟩ := hrel
        have hwr := hwr.symm
        subst hwr
        obtain ⟨x, hx⟩ : ∃ x, x = crcN k (n ^^^ cb.toNat) := ⟨_, rfl⟩
        have hx2 : x < 4294967296 := by rw [hx]; exact crcN_lt _ (xor_u8_lt hn2 _)
        rw [← hx]
        have HX := Lib.hid hx
        clear hx
        by_cases hk8 : k < 8
        case pos =>
          go_wp2_with (fail)
          go_roundw
          case rel =>
            refine ⟨k + 1, by omega, by go_num, ?_, by trivial⟩
            rw [crc_bits hx2, HX.out]
            rfl
          case measure => simp [intOf]; omega
        case neg =>
          obtain rfl : k = 8 := by omega
          go_wp2_with (fail)
          go_roundw
          case rel =>
            refine ⟨i + 1, by omega, by go_num, ?_, by trivial⟩
            rw [HST.out, crcL_append, ← HN.out, HX.out]
            rfl
          case measure => simp [intOf]; omega
end Go.Proofs.Ytckeopidedoohaa
