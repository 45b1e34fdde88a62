/-
  The checksum, numbers of bytes. Conditions: bytes lie as plain data. | Numbers of bytes: read, written. Conditions: bytes lie as plain data. | Sectors that records occupy; whether a journal is right. Conditions: the records lie as plain data.
-/
import Derived.Test.YtckeopidedoohaaDbx
import Derived.Test.YtckeopidedoohaaJpl
import Derived.Laws.BitsAllLaws
import Derived.Deep.RegionHeld3
import Derived.Deep.QuietTactic
namespace Go.Proofs.Ytckeopidedoohaa
open Go.RowKit
variable {n₀ : Nat}
attribute [local go_sem] Oper.semAt_some

theorem take_snocB (l : Bs) (i : Nat) (h : i < l.length) : l.take (i + 1) = l.take i ++ [l.getD i 0] := by
  rw [List.take_succ_eq_append_getElem h]
  simp [List.getD, h]
theorem crc_bits {x : Nat} (h : x < 4294967296) : bits .xor .u32 ((x : Int) / 2) (3988292384 * bits .and .u32 (x : Int) 1 % 4294967296) = ((crc1 x : Nat) : Int) := by
  have e1 : bits .and .u32 (x : Int) 1 = ((x % 2 : Nat) : Int) := by
    have := u32_and_nat x 1 h (by decide)
    rw [Nat.and_one_is_mod] at this
    exact this
  have e2 : (3988292384 : Int) * ((x % 2 : Nat) : Int) % 4294967296 = ((3988292384 * (x % 2) : Nat) : Int) := by omega
  have e3 : (x : Int) / 2 = ((x / 2 : Nat) : Int) := by omega
  rw [e1, e2, e3, u32_xor_nat _ _ (by omega) (by omega)]
  rfl

set_option maxRecDepth 20000 in
set_option maxHeartbeats 2000000 in
theorem sum_t (A : Option Addr) (c : Nat) (bs : Bs) (w : World) (hl : bs.length ≤ 140737488355328) (h : BsAt n₀ w A bs) : Calls Try.prog 109 #[.slice A bs.length c] w fun e w' => e = .returned (.int .u32 (gSum bs : Nat)) ∧ w' = w := by
  have HB := Lib.hid h
  clear h
  go_enter Try.func109, Try.ntmps109
  go_wp2_with (fail)
  go_loopw [3, 8] (fun v3 v8 wr => ∃ i : Nat, i ≤ bs.length ∧ v8 = .int .i64 i ∧ v3 = .int .u32 (crcL 4294967295 (bs.take i) : Nat) ∧ wr = w) (fun _ v8 _ => bs.length - (intOf v8).toNat)
  case atStart => exact ⟨0, by omega, rfl, rfl, rfl⟩
  case round =>
    obtain ⟨i, hi, rfl, rfl, hwr⟩ := hrel
    have hwr := hwr.symm
    subst hwr
    by_cases hlt : i < bs.length
    case neg =>
      obtain rfl : i = bs.length := by omega
      rw [List.take_length]
      go_wp2
      go_ret
      exact ⟨congrArg (fun z => Ending.returned (.int .u32 z)) (u32_xor_nat 4294967295 _ (by decide) (crcL_lt (by decide) _)), rfl⟩
    case pos =>
      obtain ⟨b, o, rfl, hb, hc⟩ := HB.out (by omega)
      have z0 := hc i hlt
      unfold u8v at z0
      have hst := take_snocB bs i hlt
      obtain ⟨cb, hcb⟩ : ∃ x, x = bs.getD i 0 := ⟨_, rfl⟩
      rw [← hcb] at z0 hst
      obtain ⟨n, hn⟩ : ∃ n, n = crcL 4294967295 (bs.take i) := ⟨_, rfl⟩
      have hn2 : n < 4294967296 := by rw [hn]; exact crcL_lt (by decide) _
      rw [← hn]
      have HN := Lib.hid hn
      have HST := Lib.hid hst
      clear hn hst hc hcb
      have hcb2 : (cb.toNat : Int) ≤ 255 := by have := cb.toNat_lt; omega
      go_wp2_with (fail)
      go_loopw [3, 16] (fun v3 v16 w2 => ∃ k : Nat, k ≤ 8 ∧ v16 = .int .i64 k ∧ v3 = .int .u32 (crcN k (n ^^^ cb.toNat) : Nat) ∧ w2 = w) (fun _ v16 _ => 8 - (intOf v16).toNat)
      case atStart =>
        exact ⟨0, by omega, rfl, congrArg (fun z => Value.int .u32 z) (u32_xor_nat n cb.toNat hn2 (by omega)), rfl⟩
      case round =>
        obtain ⟨k, hk, rfl, rfl, hwr⟩ := hrel
        have hwr := hwr.symm
        subst hwr
        obtain ⟨x, hx⟩ : ∃ x, x = crcN k (n ^^^ cb.toNat) := ⟨_, rfl⟩
        have hx2 : x < 4294967296 := by rw [hx]; exact crcN_lt _ (xor_u8_lt hn2 _)
        rw [← hx]
        have HX := Lib.hid hx
        clear hx
        by_cases hk8 : k < 8
        case pos =>
          go_wp2_with (fail)
          go_roundw
          case rel =>
            refine ⟨k + 1, by omega, by go_num, ?_, by trivial⟩
            rw [crc_bits hx2, HX.out]
            rfl
          case measure => simp [intOf]; omega
        case neg =>
          obtain rfl : k = 8 := by omega
          go_wp2_with (fail)
          go_roundw
          case rel =>
            refine ⟨i + 1, by omega, by go_num, ?_, by trivial⟩
            rw [HST.out, crcL_append, ← HN.out, HX.out]
            rfl
          case measure => simp [intOf]; omega
end Go.Proofs.Ytckeopidedoohaa

namespace Go.Proofs.Ytckeopidedoohaa
open Go.RowKit
variable {n₀ : Nat}
attribute [local go_sem] Oper.semAt_some

theorem getL_snoc (l : Bs) (c : UInt8) : getL (l ++ [c]) = getL l * 256 + c.toNat := by simp [getL]
theorem getL_lt (l : Bs) : getL l < 256 ^ l.length := by
  have h : ∀ (l : Bs) (m k : Nat), m < 256 ^ k → l.foldl (fun n c => n * 256 + c.toNat) m < 256 ^ (k + l.length) := fun l => by
    induction l with
    | nil => intro m k h; exact h
    | cons c l ih =>
      intro m k h
      rw [List.foldl_cons, List.length_cons, show k + (l.length + 1) = (k + 1) + l.length by omega]
      refine ih _ _ ?_
      have := c.toNat_lt
      rw [Nat.pow_succ]
      omega
  have := h l 0 0 (by decide)
  rwa [Nat.zero_add] at this
theorem or_byte (x c : Nat) (hc : c < 256) : x * 256 ||| c = x * 256 + c := by
  have := Nat.shiftLeft_add_eq_or_of_lt (i := 8) (b := c) (by omega) x
  rw [Nat.shiftLeft_eq] at this
  exact this.symm

set_option maxRecDepth 20000 in
set_option maxHeartbeats 2000000 in
theorem get_t (A : Option Addr) (c : Nat) (bs : Bs) (w : World) (hl : bs.length ≤ 7) (h : BsAt n₀ w A bs) : Calls Try.prog 88 #[.slice A bs.length c] w fun e w' => e = .returned (.int .u64 (getL bs : Nat)) ∧ w' = w := by
  have HB := Lib.hid h
  clear h
  go_enter Try.func88, Try.ntmps88
  go_wp2_with (fail)
  go_loopw [2, 7] (fun v2 v7 wr => ∃ i : Nat, i ≤ bs.length ∧ v7 = .int .i64 i ∧ v2 = .int .u64 (getL (bs.take i) : Nat) ∧ wr = w) (fun _ v7 _ => bs.length - (intOf v7).toNat)
  case atStart => exact ⟨0, by omega, rfl, rfl, rfl⟩
  case round =>
    obtain ⟨i, hi, rfl, rfl, hwr⟩ := hrel
    have hwr := hwr.symm
    subst hwr
    by_cases hlt : i < bs.length
    case neg =>
      obtain rfl : i = bs.length := by omega
      rw [List.take_length]
      go_wp2
      go_ret
      exact ⟨rfl, rfl⟩
    case pos =>
      obtain ⟨b, o, rfl, hb, hc⟩ := HB.out (by omega)
      have z0 := hc i hlt
      unfold u8v at z0
      have hst := take_snocB bs i hlt
      obtain ⟨cb, hcb⟩ : ∃ x, x = bs.getD i 0 := ⟨_, rfl⟩
      rw [← hcb] at z0 hst
      obtain ⟨n, hn⟩ : ∃ n, n = getL (bs.take i) := ⟨_, rfl⟩
      have hn2 : n < 281474976710656 := by
        rw [hn]
        refine Nat.lt_of_lt_of_le (getL_lt _) ?_
        rw [List.length_take]
        exact Nat.le_trans (Nat.pow_le_pow_right (by decide) (show min i bs.length ≤ 6 by omega)) (by decide)
      rw [← hn]
      have HN := Lib.hid hn
      have HST := Lib.hid hst
      clear hn hst hc hcb
      have hcb2 : (cb.toNat : Int) ≤ 255 := by have := cb.toNat_lt; omega
      go_wp2_with (fail)
      go_roundw
      case rel =>
        refine ⟨i + 1, by omega, by go_num, ?_, by trivial⟩
        rw [HST.out, getL_snoc, ← HN.out]
        have e1 : (n : Int) * 256 = ((n * 256 : Nat) : Int) := by omega
        rw [e1, u64_or_nat _ _ (by omega) (by omega), or_byte _ _ (by omega)]
      case measure => simp [intOf]; omega

/-- Bytes into which the last bytes of a number were put. -/
def putB (bs : Bs) (o L n : Nat) : Nat → Bs
  | 0 => bs
  | i + 1 => (putB bs o L n i).set (o + (L - 1 - i)) (UInt8.ofNat (n / 256 ^ i))
theorem putB_len (bs : Bs) (o L n i : Nat) : (putB bs o L n i).length = bs.length := by
  induction i with
  | zero => rfl
  | succ i ih => simp [putB, ih]
set_option maxRecDepth 20000 in
set_option maxHeartbeats 2000000 in
theorem put_t (B o L c n : Nat) (bs : Bs) (t : TypeId) (w : World) (hL : L ≤ 8) (hoL : o + L ≤ bs.length) (hn : n < 18446744073709551616) (h : Blk w B t (bcells bs).toArray) : Calls Try.prog 108 #[.slice (some ⟨B, o, none⟩) L c, .int .u64 (n : Nat)] w fun e w' => e = .returned (.tuple #[]) ∧ Blk w' B t (bcells (putB bs o L n L)).toArray ∧ Keep (fun r => r = B) w w' := by
  have HB := Lib.hid h
  clear h
  go_enter Try.func108, Try.ntmps108
  go_wp2_with (fail)
  go_loopw [7] (fun v7 wr => ∃ i : Nat, i ≤ L ∧ v7 = .int .i64 i ∧ Blk wr B t (bcells (putB bs o L n i)).toArray ∧ Keep (fun r => r = B) w wr) (fun v7 _ => L - (intOf v7).toNat)
  case atStart => exact ⟨0, by omega, rfl, HB.out, Keep.refl _ _⟩
  case round =>
    obtain ⟨i, hi, rfl, hx, hk⟩ := hrel
    by_cases hlt : i < L
    case neg =>
      obtain rfl : i = L := by omega
      go_wp2
      refine bodyPost_end (v := .tuple #[]) ?_ rfl ⟨rfl, hx, hk⟩
      simp [results, Try.results108]
    case pos =>
      have hpl := putB_len bs o L n i
      obtain ⟨cv, hcv⟩ : ∃ v, wr.cell? ⟨B, o + (L - 1 - i), none⟩ = some v := by
        rw [hx.cell, List.getElem?_toArray]
        exact ⟨_, List.getElem?_eq_getElem (by rw [bcells_len, hpl]; omega)⟩
      have hf := hx.frozen (o + (L - 1 - i))
      have k0 : (0 : Int) ≤ (i : Int) := by omega
      have k1 : (i : Int) < (L : Int) := by omega
      have k2 : (L : Int) ≤ 8 := by omega
      have hv : (n : Int) / 2 ^ (8 * i) % 256 = ((UInt8.ofNat (n / 256 ^ i)).toNat : Int) := by
        have e1 : (2 : Nat) ^ (8 * i) = 256 ^ i := by rw [Nat.pow_mul]
        have e2 : (n : Int) / 2 ^ (8 * i) = ((n / 256 ^ i : Nat) : Int) := by
          rw [← e1]
          simp
        rw [e2]
        simp
      have HV := Lib.hid hv
      have HX := Lib.hid hx
      have HK := Lib.hid hk
      clear hv hx hk
      go_wp2_with (fail)
      rw [HV.out]
      refine ⟨⟨i + 1, by omega, by go_num, ?_, HK.out.setCell (fun _ => rfl) _⟩, by simp [intOf]; omega⟩
      show Blk _ B t (bcells ((putB bs o L n i).set (o + (L - 1 - i)) (UInt8.ofNat (n / 256 ^ i)))).toArray
      rw [← bcells_set]
      exact HX.out.set _ _
end Go.Proofs.Ytckeopidedoohaa

namespace Go.Proofs.Ytckeopidedoohaa
open Go.RowKit
variable {n₀ : Nat}
attribute [local go_sem] Oper.semAt_some

/-- A journal. -/
structure Jn where
  recs : List Bs
  many : Int
  sync : Int
def jn0 : Jn := ⟨[], 0, 0⟩
/-- A journal that is right. -/
def JVal (j : Jn) : Prop := 1 ≤ j.many ∧ j.many ≤ 4096 ∧ 0 ≤ j.sync ∧ j.sync ≤ j.recs.length ∧ (usedN j.recs : Int) ≤ j.many
open Classical in
noncomputable def gJchk (j : Jn) : Int := if JVal j then 0 else 1
theorem jchk_yes {j : Jn} (h : JVal j) : gJchk j = 0 := if_pos h
theorem jchk_no {j : Jn} (h : ¬ JVal j) : gJchk j = 1 := if_neg h
theorem jchk_val {j : Jn} (h : gJchk j = 0) : JVal j := by
  unfold gJchk at h
  split at h
  · assumption
  · cases h
/-- Rows in the machine's reach. -/
def Sm (rs : List Bs) : Prop := rs.length ≤ 9000 ∧ ∀ b ∈ rs, b.length ≤ 140737488355328
theorem secN_le {b : Bs} (h : b.length ≤ 140737488355328) : 1 ≤ secN b ∧ secN b ≤ 1256584717466 := by
  unfold secN
  omega
theorem usedN_le {rs : List Bs} (h : ∀ b ∈ rs, b.length ≤ 140737488355328) : usedN rs ≤ rs.length * 1256584717466 := by
  induction rs with
  | nil => exact Nat.le_refl _
  | cons b rs ih =>
    have h1 := ih (fun x hx => h x (List.mem_cons_of_mem _ hx))
    have h2 := (secN_le (h b List.mem_cons_self)).2
    rw [usedN_cons, List.length_cons]
    omega
theorem usedN_snoc (rs : List Bs) (b : Bs) : usedN (rs ++ [b]) = usedN rs + secN b := by rw [usedN_append, usedN_cons, usedN_nil, Nat.add_zero]
theorem take_snocR (l : List Bs) (i : Nat) (h : i < l.length) : l.take (i + 1) = l.take i ++ [l.getD i []] := by
  rw [List.take_succ_eq_append_getElem h]
  simp [List.getD, h]
theorem mem_getD {l : List Bs} {i : Nat} (h : i < l.length) : l.getD i [] ∈ l := by
  rw [List.getD_eq_getElem?_getD, List.getElem?_eq_getElem h]
  exact List.getElem_mem h

set_option maxRecDepth 20000 in
set_option maxHeartbeats 2000000 in
theorem sectors_t (A : Option Addr) (c n : Nat) (w : World) (hl : n ≤ 140737488355328) : Calls Try.prog 83 #[.slice A n c] w fun e w' => e = .returned (.int .i64 (max 1 ((n + 111) / 112) : Nat)) ∧ w' = w := by
  have e0 : ((n : Int) + 112 - 1).tdiv 112 = (((n + 111) / 112 : Nat) : Int) := by
    have e1 : (n : Int) + 112 - 1 = ((n + 111 : Nat) : Int) := by omega
    rw [e1]
    rfl
  have hq : (n + 111) / 112 ≤ 1256584717466 := by omega
  have i1 : IntKind.i64.wrap (((n + 111) / 112 : Nat) : Int) = (((n + 111) / 112 : Nat) : Int) := IntWalk.i64_in _ (by omega)
  go_enter Try.func83, Try.ntmps83
  go_wp2
  all_goals
    go_ret
    exact ⟨congrArg (fun z => Ending.returned (.int .i64 z)) (by omega), rfl⟩

set_option maxRecDepth 20000 in
set_option maxHeartbeats 2000000 in
theorem used_t (A : Option Addr) (c : Nat) (rs : List Bs) (w : World) (hs : Sm rs) (h : RowsAt n₀ w A rs) : Calls Try.prog 84 #[.slice A rs.length c] w fun e w' => e = .returned (.int .i64 (usedN rs : Nat)) ∧ w' = w := by
  have HB := Lib.hid h
  have HS := Lib.hid hs
  have hl := hs.1
  clear h hs
  go_enter Try.func84, Try.ntmps84
  go_wp2_with (fail)
  go_loopw [2, 7] (fun v2 v7 wr => ∃ i : Nat, i ≤ rs.length ∧ v7 = .int .i64 i ∧ v2 = .int .i64 (usedN (rs.take i) : Nat) ∧ wr = w) (fun _ v7 _ => rs.length - (intOf v7).toNat)
  case atStart => exact ⟨0, by omega, rfl, rfl, rfl⟩
  case round =>
    obtain ⟨i, hi, rfl, rfl, hwr⟩ := hrel
    have hwr := hwr.symm
    subst hwr
    by_cases hlt : i < rs.length
    case neg =>
      obtain rfl : i = rs.length := by omega
      rw [List.take_length]
      go_wp2
      go_ret
      exact ⟨rfl, rfl⟩
    case pos =>
      obtain ⟨b, o, rfl, hb, hc⟩ := HB.out.get (by omega)
      obtain ⟨A', c', z0, hcc, -⟩ := hc i hlt
      have hst := take_snocR rs i hlt
      have hbl := HS.out.2 _ (mem_getD hlt)
      have hu : usedN (rs.take i) ≤ 9000 * 1256584717466 := by
        refine Nat.le_trans (usedN_le (fun b hb => HS.out.2 b (List.mem_of_mem_take hb))) ?_
        rw [List.length_take]
        exact Nat.mul_le_mul_right _ (by omega)
      obtain ⟨x, hx⟩ : ∃ x, x = rs.getD i [] := ⟨_, rfl⟩
      rw [← hx] at z0 hst hbl
      have hst2 : usedN (rs.take (i + 1)) = usedN (rs.take i) + secN x := by rw [hst, usedN_snoc]
      obtain ⟨u, hu2⟩ : ∃ u, u = usedN (rs.take i) := ⟨_, rfl⟩
      rw [← hu2] at hst2 hu
      rw [← hu2]
      obtain ⟨xn, hxn⟩ : ∃ n, n = x.length := ⟨_, rfl⟩
      rw [← hxn] at z0 hbl
      have hsx : secN x = max 1 ((xn + 111) / 112) := by rw [hxn]; rfl
      obtain ⟨sx, hsx2⟩ : ∃ n, n = max 1 ((xn + 111) / 112) := ⟨_, rfl⟩
      have hsl : sx ≤ 1256584717466 := by omega
      have K := sectors_t A' c' xn w hbl
      rw [← hsx2] at K hsx
      have HST := Lib.hid hst2
      have HSX := Lib.hid hsx
      clear hc hst hx hu2 hxn hsx2 hsx hst2
      go_wp2_with (fail)
      go_at_call 83
      refine K.mono ?_
      rintro e w2 ⟨rfl, hw2⟩
      have hw2 := hw2.symm
      subst hw2
      clear K
      go_wp2_with (fail)
      go_roundw
      case rel => exact ⟨i + 1, by omega, by go_num, by rw [HST.out, HSX.out]; go_num, by trivial⟩
      case measure => simp [intOf]; omega

set_option maxRecDepth 20000 in
set_option maxHeartbeats 4000000 in
theorem jcheck_t (RA : Option Addr) (rc : Nat) (j : Jn) (w : World) (hs : Sm j.recs) (h : RowsAt n₀ w RA j.recs) : Calls Try.prog 49 #[.agg #[.slice RA j.recs.length rc, .int .i64 j.many, .int .i64 j.sync]] w fun e w' => e = .returned (.int .i64 (gJchk j)) ∧ Below w.heap.size w w' := by
  have HB := Lib.hid h
  have HS := Lib.hid hs
  have hl := hs.1
  have hul : usedN j.recs ≤ 9000 * 1256584717466 := Nat.le_trans (usedN_le hs.2) (Nat.mul_le_mul_right _ hl)
  clear h hs
  by_cases k1 : j.many < 1
  case pos =>
    have dk1 : decide (j.many < 1) = true := decide_eq_true k1
    have HG := Lib.hid (jchk_no (j := j) (fun h => by have h1 := h; unfold JVal at h1; omega))
    go_enter Try.func49, Try.ntmps49
    go_wp2_with (fail)
    obtain ⟨W1, hW1⟩ : ∃ W, W = w.alloc (.cells #[.slice RA j.recs.length rc, .int .i64 j.many, .int .i64 j.sync] 55) := ⟨_, rfl⟩
    rw [← hW1]
    have hb : Below w.heap.size w W1 := by rw [hW1]; exact (Below.refl _ _).alloc (Nat.le_refl _) _
    have x1 : Blk W1 w.heap.size 55 #[.slice RA j.recs.length rc, .int .i64 j.many, .int .i64 j.sync] := by rw [hW1]; exact Blk.new w 55 _
    clear hW1
    have hw := hb
    clear hb
    have x1l := x1.lt
    have hks : ∀ W : World, Below W1.heap.size W1 W → W.cell? ⟨w.heap.size, 0, none⟩ = some (.slice RA j.recs.length rc) ∧ W.cell? ⟨w.heap.size, 1, none⟩ = some (.int .i64 j.many) ∧ W.cell? ⟨w.heap.size, 2, none⟩ = some (.int .i64 j.sync) := fun W hb => ⟨(x1.below hb x1l).cell 0, (x1.below hb x1l).cell 1, (x1.below hb x1l).cell 2⟩
    have HKS := Lib.hid hks
    have hur : ∀ W : World, Below W1.heap.size W1 W → Calls Try.prog 84 #[.slice RA j.recs.length rc] W (fun e w' => e = .returned (.int .i64 (usedN j.recs : Nat)) ∧ w' = W) := fun W hb => used_t RA rc j.recs W HS.out (HB.out.below (hw.trans (hb.mono hw.size)))
    have HUR := Lib.hid hur
    clear hks hur x1
    have x1c0 := (HKS.out _ (Below.refl _ _)).1
    have x1c1 := (HKS.out _ (Below.refl _ _)).2.1
    have x1c2 := (HKS.out _ (Below.refl _ _)).2.2
    go_quiet (fail)
    all_goals
      go_wp2
      go_ret
      exact ⟨by rw [HG.out]; rfl, by first | exact hw.drew | exact below_drewN hw _⟩
  have dk1 : decide (j.many < 1) = false := decide_eq_false k1
  by_cases k2 : 4096 < j.many
  case pos =>
    have dk2 : decide (4096 < j.many) = true := decide_eq_true k2
    have HG := Lib.hid (jchk_no (j := j) (fun h => by have h1 := h; unfold JVal at h1; omega))
    go_enter Try.func49, Try.ntmps49
    go_wp2_with (fail)
    obtain ⟨W1, hW1⟩ : ∃ W, W = w.alloc (.cells #[.slice RA j.recs.length rc, .int .i64 j.many, .int .i64 j.sync] 55) := ⟨_, rfl⟩
    rw [← hW1]
    have hb : Below w.heap.size w W1 := by rw [hW1]; exact (Below.refl _ _).alloc (Nat.le_refl _) _
    have x1 : Blk W1 w.heap.size 55 #[.slice RA j.recs.length rc, .int .i64 j.many, .int .i64 j.sync] := by rw [hW1]; exact Blk.new w 55 _
    clear hW1
    have hw := hb
    clear hb
    have x1l := x1.lt
    have hks : ∀ W : World, Below W1.heap.size W1 W → W.cell? ⟨w.heap.size, 0, none⟩ = some (.slice RA j.recs.length rc) ∧ W.cell? ⟨w.heap.size, 1, none⟩ = some (.int .i64 j.many) ∧ W.cell? ⟨w.heap.size, 2, none⟩ = some (.int .i64 j.sync) := fun W hb => ⟨(x1.below hb x1l).cell 0, (x1.below hb x1l).cell 1, (x1.below hb x1l).cell 2⟩
    have HKS := Lib.hid hks
    have hur : ∀ W : World, Below W1.heap.size W1 W → Calls Try.prog 84 #[.slice RA j.recs.length rc] W (fun e w' => e = .returned (.int .i64 (usedN j.recs : Nat)) ∧ w' = W) := fun W hb => used_t RA rc j.recs W HS.out (HB.out.below (hw.trans (hb.mono hw.size)))
    have HUR := Lib.hid hur
    clear hks hur x1
    have x1c0 := (HKS.out _ (Below.refl _ _)).1
    have x1c1 := (HKS.out _ (Below.refl _ _)).2.1
    have x1c2 := (HKS.out _ (Below.refl _ _)).2.2
    go_quiet (fail)
    all_goals
      go_wp2
      go_ret
      exact ⟨by rw [HG.out]; rfl, by first | exact hw.drew | exact below_drewN hw _⟩
  have dk2 : decide (4096 < j.many) = false := decide_eq_false k2
  by_cases k3 : j.sync < 0
  case pos =>
    have dk3 : decide (j.sync < 0) = true := decide_eq_true k3
    have HG := Lib.hid (jchk_no (j := j) (fun h => by have h1 := h; unfold JVal at h1; omega))
    go_enter Try.func49, Try.ntmps49
    go_wp2_with (fail)
    obtain ⟨W1, hW1⟩ : ∃ W, W = w.alloc (.cells #[.slice RA j.recs.length rc, .int .i64 j.many, .int .i64 j.sync] 55) := ⟨_, rfl⟩
    rw [← hW1]
    have hb : Below w.heap.size w W1 := by rw [hW1]; exact (Below.refl _ _).alloc (Nat.le_refl _) _
    have x1 : Blk W1 w.heap.size 55 #[.slice RA j.recs.length rc, .int .i64 j.many, .int .i64 j.sync] := by rw [hW1]; exact Blk.new w 55 _
    clear hW1
    have hw := hb
    clear hb
    have x1l := x1.lt
    have hks : ∀ W : World, Below W1.heap.size W1 W → W.cell? ⟨w.heap.size, 0, none⟩ = some (.slice RA j.recs.length rc) ∧ W.cell? ⟨w.heap.size, 1, none⟩ = some (.int .i64 j.many) ∧ W.cell? ⟨w.heap.size, 2, none⟩ = some (.int .i64 j.sync) := fun W hb => ⟨(x1.below hb x1l).cell 0, (x1.below hb x1l).cell 1, (x1.below hb x1l).cell 2⟩
    have HKS := Lib.hid hks
    have hur : ∀ W : World, Below W1.heap.size W1 W → Calls Try.prog 84 #[.slice RA j.recs.length rc] W (fun e w' => e = .returned (.int .i64 (usedN j.recs : Nat)) ∧ w' = W) := fun W hb => used_t RA rc j.recs W HS.out (HB.out.below (hw.trans (hb.mono hw.size)))
    have HUR := Lib.hid hur
    clear hks hur x1
    have x1c0 := (HKS.out _ (Below.refl _ _)).1
    have x1c1 := (HKS.out _ (Below.refl _ _)).2.1
    have x1c2 := (HKS.out _ (Below.refl _ _)).2.2
    go_quiet (fail)
    all_goals
      go_wp2
      go_ret
      exact ⟨by rw [HG.out]; rfl, by first | exact hw.drew | exact below_drewN hw _⟩
  have dk3 : decide (j.sync < 0) = false := decide_eq_false k3
  by_cases k4 : (j.recs.length : Int) < j.sync
  case pos =>
    have dk4 : decide ((j.recs.length : Int) < j.sync) = true := decide_eq_true k4
    have HG := Lib.hid (jchk_no (j := j) (fun h => by have h1 := h; unfold JVal at h1; omega))
    go_enter Try.func49, Try.ntmps49
    go_wp2_with (fail)
    obtain ⟨W1, hW1⟩ : ∃ W, W = w.alloc (.cells #[.slice RA j.recs.length rc, .int .i64 j.many, .int .i64 j.sync] 55) := ⟨_, rfl⟩
    rw [← hW1]
    have hb : Below w.heap.size w W1 := by rw [hW1]; exact (Below.refl _ _).alloc (Nat.le_refl _) _
    have x1 : Blk W1 w.heap.size 55 #[.slice RA j.recs.length rc, .int .i64 j.many, .int .i64 j.sync] := by rw [hW1]; exact Blk.new w 55 _
    clear hW1
    have hw := hb
    clear hb
    have x1l := x1.lt
    have hks : ∀ W : World, Below W1.heap.size W1 W → W.cell? ⟨w.heap.size, 0, none⟩ = some (.slice RA j.recs.length rc) ∧ W.cell? ⟨w.heap.size, 1, none⟩ = some (.int .i64 j.many) ∧ W.cell? ⟨w.heap.size, 2, none⟩ = some (.int .i64 j.sync) := fun W hb => ⟨(x1.below hb x1l).cell 0, (x1.below hb x1l).cell 1, (x1.below hb x1l).cell 2⟩
    have HKS := Lib.hid hks
    have hur : ∀ W : World, Below W1.heap.size W1 W → Calls Try.prog 84 #[.slice RA j.recs.length rc] W (fun e w' => e = .returned (.int .i64 (usedN j.recs : Nat)) ∧ w' = W) := fun W hb => used_t RA rc j.recs W HS.out (HB.out.below (hw.trans (hb.mono hw.size)))
    have HUR := Lib.hid hur
    clear hks hur x1
    have x1c0 := (HKS.out _ (Below.refl _ _)).1
    have x1c1 := (HKS.out _ (Below.refl _ _)).2.1
    have x1c2 := (HKS.out _ (Below.refl _ _)).2.2
    go_quiet (fail)
    all_goals
      go_wp2
      go_ret
      exact ⟨by rw [HG.out]; rfl, by first | exact hw.drew | exact below_drewN hw _⟩
  have dk4 : decide ((j.recs.length : Int) < j.sync) = false := decide_eq_false k4
  by_cases k5 : j.many < (usedN j.recs : Int)
  case pos =>
    have dk5 : decide (j.many < (usedN j.recs : Int)) = true := decide_eq_true k5
    have HG := Lib.hid (jchk_no (j := j) (fun h => by have h1 := h; unfold JVal at h1; omega))
    go_enter Try.func49, Try.ntmps49
    go_wp2_with (fail)
    obtain ⟨W1, hW1⟩ : ∃ W, W = w.alloc (.cells #[.slice RA j.recs.length rc, .int .i64 j.many, .int .i64 j.sync] 55) := ⟨_, rfl⟩
    rw [← hW1]
    have hb : Below w.heap.size w W1 := by rw [hW1]; exact (Below.refl _ _).alloc (Nat.le_refl _) _
    have x1 : Blk W1 w.heap.size 55 #[.slice RA j.recs.length rc, .int .i64 j.many, .int .i64 j.sync] := by rw [hW1]; exact Blk.new w 55 _
    clear hW1
    have hw := hb
    clear hb
    have x1l := x1.lt
    have hks : ∀ W : World, Below W1.heap.size W1 W → W.cell? ⟨w.heap.size, 0, none⟩ = some (.slice RA j.recs.length rc) ∧ W.cell? ⟨w.heap.size, 1, none⟩ = some (.int .i64 j.many) ∧ W.cell? ⟨w.heap.size, 2, none⟩ = some (.int .i64 j.sync) := fun W hb => ⟨(x1.below hb x1l).cell 0, (x1.below hb x1l).cell 1, (x1.below hb x1l).cell 2⟩
    have HKS := Lib.hid hks
    have hur : ∀ W : World, Below W1.heap.size W1 W → Calls Try.prog 84 #[.slice RA j.recs.length rc] W (fun e w' => e = .returned (.int .i64 (usedN j.recs : Nat)) ∧ w' = W) := fun W hb => used_t RA rc j.recs W HS.out (HB.out.below (hw.trans (hb.mono hw.size)))
    have HUR := Lib.hid hur
    clear hks hur x1
    have x1c0 := (HKS.out _ (Below.refl _ _)).1
    have x1c1 := (HKS.out _ (Below.refl _ _)).2.1
    have x1c2 := (HKS.out _ (Below.refl _ _)).2.2
    go_region_held3 (fun W => W.cell? ⟨w.heap.size, 0, none⟩ = some (.slice RA j.recs.length rc) ∧ W.cell? ⟨w.heap.size, 1, none⟩ = some (.int .i64 j.many) ∧ W.cell? ⟨w.heap.size, 2, none⟩ = some (.int .i64 j.sync)) ((refine HKS.out _ ?_; repeat (first | with_reducible exact Below.refl _ _ | refine Below.drew ?_)))
      ((go_at_call 84; refine (HUR.out _ (by repeat (first | with_reducible exact Below.refl _ _ | refine Below.drew ?_))).mono ?_; rintro e w2 ⟨rfl, hw2⟩; subst hw2))
    all_goals
      go_wp2
      go_ret
      exact ⟨by rw [HG.out]; rfl, by first | exact hw.drew | exact below_drewN hw _⟩
  have dk5 : decide (j.many < (usedN j.recs : Int)) = false := decide_eq_false k5
  have HG := Lib.hid (jchk_yes (j := j) (by unfold JVal; omega))
  go_enter Try.func49, Try.ntmps49
  go_wp2_with (fail)
  obtain ⟨W1, hW1⟩ : ∃ W, W = w.alloc (.cells #[.slice RA j.recs.length rc, .int .i64 j.many, .int .i64 j.sync] 55) := ⟨_, rfl⟩
  rw [← hW1]
  have hb : Below w.heap.size w W1 := by rw [hW1]; exact (Below.refl _ _).alloc (Nat.le_refl _) _
  have x1 : Blk W1 w.heap.size 55 #[.slice RA j.recs.length rc, .int .i64 j.many, .int .i64 j.sync] := by rw [hW1]; exact Blk.new w 55 _
  clear hW1
  have hw := hb
  clear hb
  have x1l := x1.lt
  have hks : ∀ W : World, Below W1.heap.size W1 W → W.cell? ⟨w.heap.size, 0, none⟩ = some (.slice RA j.recs.length rc) ∧ W.cell? ⟨w.heap.size, 1, none⟩ = some (.int .i64 j.many) ∧ W.cell? ⟨w.heap.size, 2, none⟩ = some (.int .i64 j.sync) := fun W hb => ⟨(x1.below hb x1l).cell 0, (x1.below hb x1l).cell 1, (x1.below hb x1l).cell 2⟩
  have HKS := Lib.hid hks
  have hur : ∀ W : World, Below W1.heap.size W1 W → Calls Try.prog 84 #[.slice RA j.recs.length rc] W (fun e w' => e = .returned (.int .i64 (usedN j.recs : Nat)) ∧ w' = W) := fun W hb => used_t RA rc j.recs W HS.out (HB.out.below (hw.trans (hb.mono hw.size)))
  have HUR := Lib.hid hur
  clear hks hur x1
  have x1c0 := (HKS.out _ (Below.refl _ _)).1
  have x1c1 := (HKS.out _ (Below.refl _ _)).2.1
  have x1c2 := (HKS.out _ (Below.refl _ _)).2.2
  go_region_held3 (fun W => W.cell? ⟨w.heap.size, 0, none⟩ = some (.slice RA j.recs.length rc) ∧ W.cell? ⟨w.heap.size, 1, none⟩ = some (.int .i64 j.many) ∧ W.cell? ⟨w.heap.size, 2, none⟩ = some (.int .i64 j.sync)) ((refine HKS.out _ ?_; repeat (first | with_reducible exact Below.refl _ _ | refine Below.drew ?_)))
    ((go_at_call 84; refine (HUR.out _ (by repeat (first | with_reducible exact Below.refl _ _ | refine Below.drew ?_))).mono ?_; rintro e w2 ⟨rfl, hw2⟩; subst hw2))
  all_goals
    go_wp2
    go_ret
    exact ⟨by rw [HG.out]; rfl, by first | exact hw.drew | exact below_drewN hw _⟩
end Go.Proofs.Ytckeopidedoohaa
