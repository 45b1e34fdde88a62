/-
  Numbers of bytes: read, written. Conditions: bytes lie as plain data.
-/
import Derived.Test.YtckeopidedoohaaJsm
namespace Go.Proofs.Ytckeopidedoohaa
open Go.RowKit
variable {n₀ : Nat}
attribute [local go_sem] Oper.semAt_some

theorem getL_snoc (l : Bs) (c : UInt8) : getL (l ++ [c]) = getL l * 256 + c.toNat := by simp [getL]
theorem getL_lt (l : Bs) : getL l < 256 ^ l.length := by
  have h : ∀ (l : Bs) (m k : Nat), m < 256 ^ k → l.foldl (fun n c => n * 256 + c.toNat) m < 256 ^ (k + l.length) := fun l => by
    induction l with
    | nil => intro m k h; exact h
    | cons c l ih =>
      intro m k h
      rw [List.foldl_cons, List.length_cons, show k + (l.length + 1) = (k + 1) + l.length by omega]
      refine ih _ _ ?_
      have := c.toNat_lt
      rw [Nat.pow_succ]
      omega
  have := h l 0 0 (by decide)
  rwa [Nat.zero_add] at this
theorem or_byte (x c : Nat) (hc : c < 256) : x * 256 ||| c = x * 256 + c := by
  have := Nat.shiftLeft_add_eq_or_of_lt (i := 8) (b := c) (by omega) x
  rw [Nat.shiftLeft_eq] at this
  exact this.symm

set_option maxRecDepth 20000 in
set_option maxHeartbeats 2000000 in
theorem get_t (A : Option Addr) (c : Nat) (bs : Bs) (w : World) (hl : bs.length ≤ 7) (h : BsAt n₀ w A bs) : Calls Try.prog 88 #[.slice A bs.length c] w fun e w' => e = .returned (.int .u64 (getL bs : Nat)) ∧ w' = w := by
  have HB := Lib.hid h
  clear h
  go_enter Try.func88, Try.ntmps88
  go_wp2_with (fail)
  go_loopw [2, 7] (fun v2 v7 wr => ∃ i : Nat, i ≤ bs.length ∧ v7 = .int .i64 i ∧ v2 = .int .u64 (getL (bs.take i) : Nat) ∧ wr = w) (fun _ v7 _ => bs.length - (intOf v7).toNat)
  case atStart => exact ⟨0, by omega, rfl, rfl, rfl⟩
  case round =>
    obtain ⟨i, hi, rfl, rfl, hwr⟩ := hrel
    have hwr := hwr.symm
    subst hwr
    by_cases hlt : i < bs.length
    case neg =>
      obtain rfl : i = bs.length := by omega
      rw [List.take_length]
      go_wp2
      go_ret
      exact ⟨rfl, rfl⟩
    case pos =>
      obtain ⟨b, o, rfl, hb, hc⟩ := HB.out (by omega)
      have z0 := hc i hlt
      unfold u8v at z0
      have hst := take_snocB bs i hlt
      obtain ⟨cb, hcb⟩ : ∃ x, x = bs.getD i 0 := ⟨_, rfl⟩
      rw [← hcb] at z0 hst
      obtain ⟨n, hn⟩ : ∃ n, n = getL (bs.take i) := ⟨_, rfl⟩
      have hn2 : n < 281474976710656 := by
        rw [hn]
        refine Nat.lt_of_lt_of_le (getL_lt _) ?_
        rw [List.length_take]
        exact Nat.le_trans (Nat.pow_le_pow_right (by decide) (show min i bs.length ≤ 6 by omega)) (by decide)
      rw [← hn]
      have HN := Lib.hid hn
      have HST := Lib.hid hst
      clear hn hst hc hcb
      have hcb2 : (cb.toNat : Int) ≤ 255 := by have := cb.toNat_lt; omega
      go_wp2_with (fail)
      go_roundw
      case rel =>
        refine ⟨i + 1, by omega, by go_num, ?_, by trivial⟩
        rw [HST.out, getL_snoc, ← HN.out]
        have e1 : (n : Int) * 256 = ((n * 256 : Nat) : Int) := by omega
        rw [e1, u64_or_nat _ _ (by omega) (by omega), or_byte _ _ (by omega)]
      case measure => simp [intOf]; omega

/-- Bytes into which the last bytes of a number were put. -/
def putB (bs : Bs) (o L n : Nat) : Nat → Bs
  | 0 => bs
  | i + 1 => (putB bs o L n i).set (o + (L - 1 - i)) (UInt8.ofNat (n / 256 ^ i))
theorem putB_len (bs : Bs) (o L n i : Nat) : (putB bs o L n i).length = bs.length := by
  induction i with
  | zero => rfl
  | succ i ih => simp [putB, ih]
set_option maxRecDepth 20000 in
set_option maxHeartbeats 2000000 in
theorem put_t (B o L c n : Nat) (bs : Bs) (t : TypeId) (w : World) (hL : L ≤ 8) (hoL : o + L ≤ bs.length) (hn : n < 18446744073709551616) (h : Blk w B t (bcells bs).toArray) : Calls Try.prog 108 #[.slice (some ⟨B, o, none⟩) L c, .int .u64 (n : Nat)] w fun e w' => e = .returned (.tuple #[]) ∧ Blk w' B t (bcells (putB bs o L n L)).toArray ∧ Keep (fun r => r = B) w w' := by
  have HB := Lib.hid h
  clear h
  go_enter Try.func108, Try.ntmps108
  go_wp2_with (fail)
  go_loopw [7] (fun v7 wr => ∃ i : Nat, i ≤ L ∧ v7 = .int .i64 i ∧ Blk wr B t (bcells (putB bs o L n i)).toArray ∧ Keep (fun r => r = B) w wr) (fun v7 _ => L - (intOf v7).toNat)
  case atStart => exact ⟨0, by omega, rfl, HB.out, Keep.refl _ _⟩
  case round =>
    obtain ⟨i, hi, rfl, hx, hk⟩ := hrel
    by_cases hlt : i < L
    case neg =>
      obtain rfl : i = L := by omega
      go_wp2
      refine bodyPost_end (v := .tuple #[]) ?_ rfl ⟨rfl, hx, hk⟩
      simp [results, Try.results108]
    case pos =>
      have hpl := putB_len bs o L n i
      obtain ⟨cv, hcv⟩ : ∃ v, wr.cell? ⟨B, o + (L - 1 - i), none⟩ = some v := by
        rw [hx.cell, List.getElem?_toArray]
        exact ⟨_, List.getElem?_eq_getElem (by rw [bcells_len, hpl]; omega)⟩
      have hf := hx.frozen (o + (L - 1 - i))
      have k0 : (0 : Int) ≤ (i : Int) := by omega
      have k1 : (i : Int) < (L : Int) := by omega
      have k2 : (L : Int) ≤ 8 := by omega
      have hv : (n : Int) / 2 ^ (8 * i) % 256 = ((UInt8.ofNat (n / 256 ^ i)).toNat : Int) := by
        have e1 : (2 : Nat) ^ (8 * i) = 256 ^ i := by rw [Nat.pow_mul]
        have e2 : (n : Int) / 2 ^ (8 * i) = ((n / 256 ^ i : Nat) : Int) := by
          rw [← e1]
          simp
        rw [e2]
        simp
      have HV := Lib.hid hv
      have HX := Lib.hid hx
      have HK := Lib.hid hk
      clear hv hx hk
      go_wp2_with (fail)
      rw [HV.out]
      refine ⟨⟨i + 1, by omega, by go_num, ?_, HK.out.setCell (fun _ => rfl) _⟩, by simp [intOf]; omega⟩
      show Blk _ B t (bcells ((putB bs o L n i).set (o + (L - 1 - i)) (UInt8.ofNat (n / 256 ^ i)))).toArray
      rw [← bcells_set]
      exact HX.out.set _ _
end Go.Proofs.Ytckeopidedoohaa
