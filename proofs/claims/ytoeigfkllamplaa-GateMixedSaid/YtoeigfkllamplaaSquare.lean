/-
  The gate's square: a list of digits is squared. Conditions: digits to the base 2^32, one at least, not over a million.
-/
import Derived.Test.YtoeigfkllamplaaSq
import Derived.Test.YtoeigfkllamplaaRefs
import Derived.Deep.OwnRows
namespace Go.Proofs.Ytoeigfkllamplaa
open Go.RowKit

theorem info42 : (Try.prog.info? 42).map (fun i => (i.zero, i.size, i.bytes)) = some (some (.int .u32 0), 1, 4) := by kernel_rfl

/-- The product so far: its digits in the new block, and the carry. -/
def SqRel (w : World) (m : Nat) (V : Int) (z : Nat) (c : Int) (p : Nat) (wr : World) : Prop :=
  ∃ f : Nat → Int, wr.rowIs w.heap.size 42 m (fun j => .int .u32 (f j)) ∧ Digits f m ∧ (∀ j, z ≤ j → j < m → f j = 0) ∧ 0 ≤ c ∧ c < 4294967296 ∧ vU f m + c * 4294967296 ^ p = V ∧ Below w.heap.size w wr

/-- What lies at a place of the product, and what a store there leaves. -/
theorem SqRel.at {w : World} {m : Nat} {V : Int} {z : Nat} {c : Int} {p : Nat} {wr : World} (h : SqRel w m V z c p wr) {j : Nat} (hj : j < m) :
    ∃ x, 0 ≤ x ∧ x < 4294967296 ∧ (z ≤ j → x = 0) ∧ wr.cell? ⟨w.heap.size, j, none⟩ = some (.int .u32 x) ∧ wr.frozen? ⟨w.heap.size, j, none⟩ = false ∧
      ∀ y, 0 ≤ y → y < 4294967296 → ∀ c' p' V', 0 ≤ c' → c' < 4294967296 → V' = V - c * 4294967296 ^ p + (y - x) * 4294967296 ^ j + c' * 4294967296 ^ p' → ∀ z', z ≤ z' → j < z' → SqRel w m V' z' c' p' (wr.setCell ⟨w.heap.size, j, none⟩ (.int .u32 y)) := by
  obtain ⟨f, hr, hd, hz, c0, c1, hV, hB⟩ := h
  refine ⟨f j, (hd j hj).1, (hd j hj).2, fun hzj => hz j hzj hj, hr.cell hj, hr.frozen j, fun y y0 y1 c' p' V' c0' c1' hV' z' hz1 hz2 => ?_⟩
  refine ⟨upd f j y, ?_, ?_, fun i h1 h2 => ?_, c0', c1', ?_, hB.setCell (Nat.le_refl _) _⟩
  · refine (hr.set j (.int .u32 y)).congr fun i hi => ?_
    unfold upd
    by_cases e : i = j
    · rw [if_pos e, if_pos e]
    · rw [if_neg e, if_neg e]
  · intro i hi
    unfold upd
    by_cases e : i = j
    · rw [if_pos e]; exact ⟨y0, y1⟩
    · rw [if_neg e]; exact hd i hi
  · unfold upd
    rw [if_neg (by omega)]
    exact hz i (by omega) h2
  · rw [vU_upd, if_pos hj, hV']
    omega

theorem vL_step (xs : Nat → Int) (i : Nat) (X : Int) : vU xs (i + 1) * X = vU xs i * X + xs i * X * 4294967296 ^ i := by
  show (vU xs i + xs i * 4294967296 ^ i) * X = _
  rw [Int.add_mul, Int.mul_assoc, Int.mul_assoc, Int.mul_comm (4294967296 ^ i)]
theorem vIn_step (xs : Nat → Int) (k i : Nat) (a : Int) : a * vU xs (k + 1) * 4294967296 ^ i = a * vU xs k * 4294967296 ^ i + a * xs k * 4294967296 ^ (i + k) := by
  show a * (vU xs k + xs k * 4294967296 ^ k) * 4294967296 ^ i = _
  rw [Int.mul_add, Int.add_mul, Int.pow_add, Int.mul_comm (4294967296 ^ i) (4294967296 ^ k), ← Int.mul_assoc, ← Int.mul_assoc]

set_option maxHeartbeats 2000000 in
theorem square_t (A : Option Addr) (c : Nat) (xs : List Int) (w : World) (h0 : 0 < xs.length) (hl : xs.length ≤ 1000000) (hx : IntsAt .u32 w A xs) (hd : Digits (gi xs) xs.length) :
    Calls Try.prog 22 #[.slice A xs.length c] w fun e w' => ∃ ys : List Int, e = .returned (.slice (some ⟨w.heap.size, 0, none⟩) ys.length ys.length) ∧ ys.length = 2 * xs.length ∧ IntsAt .u32 w' (some ⟨w.heap.size, 0, none⟩) ys ∧ Digits (gi ys) ys.length ∧ vU (gi ys) ys.length = vU (gi xs) xs.length * vU (gi xs) xs.length ∧ Below w.heap.size w w' := by
  obtain ⟨b, o, rfl, hb, hc⟩ := hx h0
  have hmk := run_make_row' (P := Try.prog) 44 42 (.int .u32 0) 4 Try.underlying44 info42 rfl .i64 .i64 (2 * xs.length) (by omega) (by omega)
  rw [show ((2 * xs.length : Nat) : Int) = 2 * (xs.length : Int) by omega] at hmk
  go_enter Try.func22, Try.ntmps22
  go_wp2
  go_loopw [16] (fun i wr => ∃ k : Nat, k ≤ xs.length ∧ i = .int .i64 k ∧ SqRel w (2 * xs.length) (vU (gi xs) k * vU (gi xs) xs.length) (k + xs.length) 0 0 wr) (fun i _ => xs.length - (intOf i).toNat)
  case atStart =>
    refine ⟨0, by omega, rfl, fun _ => 0, World.rowIs_made _ _ _ _, fun j hj => ⟨by show (0 : Int) ≤ 0; omega, by show (0 : Int) < 4294967296; omega⟩, fun j _ _ => rfl, by omega, by omega, ?_, (Below.refl _ _).alloc (Nat.le_refl _) _⟩
    rw [vU_zero (n := 0) (by omega) (fun j _ _ => rfl)]
    simp [vU]
  case round =>
    obtain ⟨i, hi, rfl, hR⟩ := hrel
    by_cases hlt : i < xs.length
    · have hBi := hR.choose_spec.2.2.2.2.2.2
      have g1 := (hBi.cell (p := ⟨b, o + i, none⟩) hb).trans (hc i hlt)
      obtain ⟨a, ha⟩ : ∃ a, a = gi xs i := ⟨_, rfl⟩
      rw [← ha] at g1
      have ha0 : 0 ≤ a := by rw [ha]; exact (hd i hlt).1
      have ha1 : a < 4294967296 := by rw [ha]; exact (hd i hlt).2
      have HA := Lib.hid ha
      clear ha
      go_wp2
      go_loopw [6, 23] (fun u6 j wk => ∃ (k : Nat) (cy : Int), k ≤ xs.length ∧ j = .int .i64 k ∧ u6 = .int .u64 cy ∧ SqRel w (2 * xs.length) (vU (gi xs) i * vU (gi xs) xs.length + a * vU (gi xs) k * 4294967296 ^ i) (i + xs.length) cy (i + k) wk) (fun _ j _ => xs.length - (intOf j).toNat)
      case atStart =>
        refine ⟨0, 0, by omega, rfl, rfl, ?_⟩
        obtain ⟨f, r1, r2, r3, r4, r5, r6, r7⟩ := hR
        refine ⟨f, r1, r2, r3, r4, r5, ?_, r7⟩
        rw [← r6]
        simp [vU]
      case round =>
        obtain ⟨k, cy, hk, rfl, rfl, hS⟩ := hrel
        by_cases hkt : k < xs.length
        · have hBk := hS.choose_spec.2.2.2.2.2.2
          have g2 := (hBk.cell (p := ⟨b, o + k, none⟩) hb).trans (hc k hkt)
          obtain ⟨x, x0, x1, _, gx, fx, hst⟩ := hS.at (j := i + k) (by omega)
          have c0 := hS.choose_spec.2.2.2.1
          have c1 := hS.choose_spec.2.2.2.2.1
          obtain ⟨bb, hbb⟩ : ∃ a, a = gi xs k := ⟨_, rfl⟩
          rw [← hbb] at g2
          have hb0 : 0 ≤ bb := by rw [hbb]; exact (hd k hkt).1
          have hb1 : bb < 4294967296 := by rw [hbb]; exact (hd k hkt).2
          have HB := Lib.hid hbb
          clear hbb
          have st := sq_step (V := vU (gi xs) i * vU (gi xs) xs.length + a * vU (gi xs) k * 4294967296 ^ i - cy * 4294967296 ^ (i + k)) (i + k) ⟨x0, x1⟩ ⟨ha0, ha1⟩ ⟨hb0, hb1⟩ ⟨c0, c1⟩ rfl
          obtain ⟨s1, s2, s3, s4, s5, s6, s7, s8, s9⟩ := st
          have hst2 := hst _ s5 s6 _ (i + (k + 1)) (vU (gi xs) i * vU (gi xs) xs.length + a * vU (gi xs) (k + 1) * 4294967296 ^ i) s7 s8 (by
            rw [vIn_step, ← HB.out]
            rw [← Nat.add_assoc]
            generalize ((a * bb + x + cy) % 4294967296 - x) * 4294967296 ^ (i + k) = t1 at s9 ⊢
            generalize (a * bb + x + cy) / 4294967296 * 4294967296 ^ (i + k + 1) = t2 at s9 ⊢
            generalize cy * 4294967296 ^ (i + k) = t3 at s9 ⊢
            generalize a * bb * 4294967296 ^ (i + k) = t4 at s9 ⊢
            generalize vU (gi xs) i * vU (gi xs) xs.length = t5 at s9 ⊢
            generalize a * vU (gi xs) k * 4294967296 ^ i = t6 at s9 ⊢
            omega) (i + xs.length) (Nat.le_refl _) (by omega)
          have HST := Lib.hid hst2
          clear hst2 hst s9
          go_wp2
          go_roundw
          case rel => exact ⟨k + 1, _, by omega, by go_num, rfl, HST.out⟩
          case measure => simp [intOf]; omega
        · obtain rfl : k = xs.length := by omega
          obtain ⟨x, x0, x1, hxz, gx, fx, hst⟩ := hS.at (j := i + xs.length) (by omega)
          have c0 := hS.choose_spec.2.2.2.1
          have c1 := hS.choose_spec.2.2.2.2.1
          have hst2 := hst cy c0 c1 0 0 (vU (gi xs) (i + 1) * vU (gi xs) xs.length) (by omega) (by omega) (by
            rw [vL_step, ← HA.out, hxz (Nat.le_refl _)]
            generalize a * vU (gi xs) xs.length * 4294967296 ^ i = t6
            simp only [Int.sub_zero, Int.zero_mul, Int.add_zero]
            generalize cy * 4294967296 ^ (i + xs.length) = t3
            omega) (i + 1 + xs.length) (by omega) (by omega)
          have HST := Lib.hid hst2
          clear hst2 hst hxz
          have hcm : cy % 4294967296 = cy := by omega
          go_wp2
          go_roundw
          case rel => exact ⟨i + 1, by omega, by go_num, HST.out⟩
          case measure => simp [intOf]; omega
    · obtain rfl : i = xs.length := by omega
      obtain ⟨f, hr, hdf, _, _, _, hV, hB⟩ := hR
      have e : ∀ j, j < 2 * xs.length → gi ((List.range (2 * xs.length)).map f) j = f j := fun j hj => by simp [gi, hj]
      go_wp2
      go_ret
      refine ⟨(List.range (2 * xs.length)).map f, by simp, by simp, fun _ => ⟨_, _, rfl, hr.lt, fun j hj => ?_⟩, fun j hj => ?_, ?_, hB⟩
      · have hj2 : j < 2 * xs.length := by simpa using hj
        rw [e j hj2, Nat.zero_add]
        exact hr.cell hj2
      · have hj2 : j < 2 * xs.length := by simpa using hj
        rw [e j hj2]
        exact hdf j hj2
      · rw [show ((List.range (2 * xs.length)).map f).length = 2 * xs.length by simp, vU_ext e, ← hV]
        simp
end Go.Proofs.Ytoeigfkllamplaa
