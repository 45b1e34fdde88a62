/-
  numeral of the journal's reference. Conditions: one to seven bytes.
-/
import Derived.Test.YtckeopidedoohaaJrn
import Derived.Test.YtckeopidedoohaaJsn
namespace Go.Proofs.Ytckeopidedoohaa
open Go.RowKit
variable {n₀ : Nat}
attribute [local go_sem] Oper.semAt_some

theorem makeN {k : Nat} (hk : k ≤ 7) (w : World) : (Instr.makeSlice 35 (.int .i64 (k : Int)) (.int .i64 (k : Int))).run Try.prog w = .ok (.slice (some ⟨w.heap.size, 0, none⟩) k k) (w.alloc (.cells (bcells (List.replicate k 0)).toArray 5)) := by
  obtain ⟨i0, hi0, hz0, hz1, hz2⟩ := info_parts info5
  have hr := run_make (P := Try.prog) w 35 5 i0 (.int .u8 0) Try.underlying35 hi0 hz0 .i64 .i64 k k (by omega) (Int.le_refl _) (by rw [hz2]; omega) (by omega)
  have e : madeCells (Value.int .u8 0).cells (k * i0.size) = (bcells (List.replicate k 0)).toArray := by
    rw [hz1]
    apply Array.ext'
    show (madeCells #[.int .u8 0] (k * 1)).toList = _
    rw [toList_madeCells_one]
    simp [bcells, u8v]
  simpa [e] using hr
theorem num_set (r : Nat) (x : UInt8) (xs : Bs) : (bcells (List.replicate (r + 1) 0 ++ xs)).toArray.setIfInBounds r (.int .u8 (x.toNat : Int)) = (bcells (List.replicate r 0 ++ x :: xs)).toArray := by
  rw [List.setIfInBounds_toArray]
  congr 1
  have e : bcells (List.replicate (r + 1) 0 ++ xs) = bcells (List.replicate r 0) ++ .int .u8 0 :: bcells xs := by
    rw [List.replicate_succ']
    simp [bcells, u8v]
  have e2 : bcells (List.replicate r 0 ++ x :: xs) = bcells (List.replicate r 0) ++ .int .u8 (x.toNat : Int) :: bcells xs := by simp [bcells, u8v]
  have hl : (bcells (List.replicate r (0 : UInt8))).length = r := by rw [bcells_len, List.length_replicate]
  rw [e, e2, List.set_append_right _ _ (by omega), hl, Nat.sub_self]
  rfl

set_option maxRecDepth 20000 in
set_option maxHeartbeats 4000000 in
theorem rnumeral_t (n k : Nat) (w : World) (hk1 : 1 ≤ k) (hk : k ≤ 7) (hn : n < 18446744073709551616) :
    Calls Try.prog 110 #[.int .u64 (n : Nat), .int .i64 (k : Nat)] w fun e w' => e = .returned (.slice (some ⟨w.heap.size, 0, none⟩) k k) ∧ Blk w' w.heap.size 5 (bcells (beL k n)).toArray ∧ Below w.heap.size w w' := by
  have hmk := makeN hk w
  have i1 : IntKind.i64.wrap ((k : Int) - 1) = (k : Int) - 1 := IntWalk.i64_in _ (by omega)
  go_enter Try.func110, Try.ntmps110
  go_wp2_with (fail)
  obtain ⟨g, hg⟩ : ∃ g, g = w.heap.size := ⟨_, rfl⟩
  have HGE := Lib.hid hg
  obtain ⟨W1, hW1⟩ : ∃ W, W = w.alloc (.cells (bcells (List.replicate k 0)).toArray 5) := ⟨_, rfl⟩
  rw [← hW1, ← hg]
  have x1 : Blk W1 g 5 (bcells (List.replicate k 0 ++ beL 0 n)).toArray := by rw [hW1, hg]; simpa [beL] using Blk.new w 5 (bcells (List.replicate k 0)).toArray
  have hb1 : Below w.heap.size w W1 := by rw [hW1]; exact (Below.refl _ _).alloc (Nat.le_refl _) _
  clear hW1 hmk hg
  go_loopw [0, 6] (fun v0 v6 wr => ∃ r q : Nat, r ≤ k ∧ q < 18446744073709551616 ∧ v6 = .int .i64 ((r : Int) - 1) ∧ v0 = .int .u64 (q : Nat) ∧ Hid (q = n / 256 ^ (k - r)) ∧ Blk wr g 5 (bcells (List.replicate r 0 ++ beL (k - r) n)).toArray ∧ Below w.heap.size w wr) (fun _ v6 _ => (intOf v6 + 1).toNat)
  case atStart => exact ⟨k, n, by omega, hn, rfl, rfl, Lib.hid (by simp), by rw [Nat.sub_self]; exact x1, hb1⟩
  case round =>
    obtain ⟨r, q, hr, hq, rfl, rfl, HQ, hx, hb⟩ := hrel
    by_cases h0 : r = 0
    case pos =>
      subst h0
      go_wp2_with (fail)
      go_ret
      exact ⟨by rw [HGE.out]; rfl, by rw [← HGE.out]; simpa using hx, hb⟩
    obtain ⟨r, rfl⟩ : ∃ t, r = t + 1 := ⟨r - 1, by omega⟩
    clear h0
    have e1 : (((r + 1 : Nat) : Int) - 1) = (r : Int) := by omega
    rw [e1]
    have n0 : (0 : Int) ≤ (r : Int) := by omega
    have n1 : (r : Int) < (k : Int) := by omega
    have d1 : decide ((0 : Int) ≤ (r : Int)) = true := decide_eq_true n0
    have i2 : IntKind.i64.wrap ((r : Int) - 1) = (r : Int) - 1 := IntWalk.i64_in _ (by omega)
    have t1 : (q : Int).tmod 256 = ((q % 256 : Nat) : Int) := rfl
    have t2 : (q : Int).tdiv 256 = ((q / 256 : Nat) : Int) := rfl
    obtain ⟨x, hxx⟩ : ∃ x : UInt8, x = UInt8.ofNat q := ⟨_, rfl⟩
    have hxn : (x.toNat : Int) = ((q % 256 : Nat) : Int) := by rw [hxx, UInt8.toNat_ofNat']
    have w1 : IntKind.u8.wrap ((q % 256 : Nat) : Int) = (x.toNat : Int) := by rw [hxn]; simp [IntKind.wrap, IntKind.bits, IntKind.signed] <;> omega
    have w2 : IntKind.u64.wrap ((q / 256 : Nat) : Int) = ((q / 256 : Nat) : Int) := by simp [IntKind.wrap, IntKind.bits, IntKind.signed] <;> omega
    have hset := hx.set r (.int .u8 (x.toNat : Int))
    rw [num_set] at hset
    have ebe : x :: beL (k - (r + 1)) n = beL (k - r) n := by rw [show k - r = (k - (r + 1)) + 1 by omega, hxx, HQ.out]; rfl
    rw [ebe] at hset
    have hq2 : q / 256 = n / 256 ^ (k - r) := by rw [HQ.out, Nat.div_div_eq_div_mul, ← Nat.pow_succ]; congr 2; omega
    have HQ2 := Lib.hid hq2
    have hbs : Below w.heap.size w (wr.setCell ⟨g, r, none⟩ (.int .u8 (x.toNat : Int))) := hb.setCell (by rw [HGE.out]; exact Nat.le_refl _) _
    rw [show (x.toNat : Int) = (q : Int) % 256 by rw [hxn]; omega] at hset hbs
    have HST := Lib.hid (And.intro hset hbs)
    obtain ⟨v0, hv0⟩ : ∃ v, (bcells (List.replicate (r + 1) 0 ++ beL (k - (r + 1)) n)).toArray[r]? = some v := ⟨_, Array.getElem?_eq_getElem (by rw [List.size_toArray, bcells_len, List.length_append, List.length_replicate]; omega)⟩
    have c0 := (hx.cell r).trans hv0
    have f0 := hx.frozen r
    clear hset hbs ebe hq2 hxx hxn hx hv0
    go_wp2_with (fail)
    go_roundw
    case rel => exact ⟨r, q / 256, by omega, by omega, by go_num, by go_num, HQ2, HST.out.1, HST.out.2⟩
    case measure => simp [intOf] <;> omega
end Go.Proofs.Ytckeopidedoohaa
