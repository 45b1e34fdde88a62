/-
  A sample of the reference; numbers as a source. Conditions: the numbers lie in memory.
-/
import Derived.Test.YtckeopidedoohaaRda
import Derived.Deep.CutBlock
import Derived.Deep.DeepCutAuto
namespace Go.Proofs.Ytckeopidedoohaa
open Go.RowKit
variable {n₀ : Nat}
attribute [local go_sem] Oper.semAt_some

theorem nums_src {w w' : World} {A : Option Addr} {xs : List Int} (h : NumsAt n₀ w A xs) (hb : Below w.heap.size w w') : 0 < xs.length → ∃ ad, A = some ad ∧ ∀ j u, (icells xs)[j]? = some u → w'.cell? (ad.add j) = some u := fun h0 => by
  obtain ⟨b, o, rfl, hl, hc⟩ := h h0
  refine ⟨_, rfl, fun j u hu => ?_⟩
  have hj : j < xs.length := by
    have := (List.getElem?_eq_some_iff.1 hu).1
    rwa [icells_len] at this
  rw [icells_get xs j hj] at hu
  rw [addr_at, (hb.cell (p := ⟨b, o + j, none⟩) hl.lt).trans (hc j hj)]
  exact hu
def q4 (x0 x1 x2 x3 : Int) : Nat → Int
  | 0 => 0
  | 1 => x0
  | 2 => x0 * 256 + x1
  | 3 => (x0 * 256 + x1) * 256 + x2
  | _ => ((x0 * 256 + x1) * 256 + x2) * 256 + x3
set_option maxRecDepth 20000 in
set_option maxHeartbeats 4000000 in
theorem sampleR_t (bb o c : Nat) (a b d e : UInt8) (w : World) (h0 : w.cell? ⟨bb, o, none⟩ = some (u8v a)) (h1 : w.cell? ⟨bb, o + 1, none⟩ = some (u8v b)) (h2 : w.cell? ⟨bb, o + 2, none⟩ = some (u8v d)) (h3 : w.cell? ⟨bb, o + 3, none⟩ = some (u8v e)) : Calls Try.prog 120 #[.slice (some ⟨bb, o, none⟩) 4 c] w fun x w' => x = .returned (.int .i64 (smp a b d e)) ∧ w' = w := by
  unfold u8v at h0 h1 h2 h3
  have l0 := a.toNat_lt
  have l1 := b.toNat_lt
  have l2 := d.toNat_lt
  have l3 := e.toNat_lt
  have HS : Hid (smp a b d e = if a.toNat < 128 then (((a.toNat * 256 + b.toNat) * 256 + d.toNat) * 256 + e.toNat : Int) else (((a.toNat * 256 + b.toNat) * 256 + d.toNat) * 256 + e.toNat : Int) - 4294967296) := Lib.hid (by unfold smp; split <;> omega)
  obtain ⟨x0, hx0⟩ : ∃ x : Int, x = (a.toNat : Int) := ⟨_, rfl⟩
  obtain ⟨x1, hx1⟩ : ∃ x : Int, x = (b.toNat : Int) := ⟨_, rfl⟩
  obtain ⟨x2, hx2⟩ : ∃ x : Int, x = (d.toNat : Int) := ⟨_, rfl⟩
  obtain ⟨x3, hx3⟩ : ∃ x : Int, x = (e.toNat : Int) := ⟨_, rfl⟩
  have g0 : 0 ≤ x0 ∧ x0 < 256 := by omega
  have g1 : 0 ≤ x1 ∧ x1 < 256 := by omega
  have g2 : 0 ≤ x2 ∧ x2 < 256 := by omega
  have g3 : 0 ≤ x3 ∧ x3 < 256 := by omega
  have hlt : a.toNat < 128 ↔ x0 < 128 := by omega
  rw [← hx0] at h0
  rw [← hx1] at h1
  rw [← hx2] at h2
  rw [← hx3] at h3
  rw [← hx0, ← hx1, ← hx2, ← hx3] at HS
  obtain ⟨s, hs⟩ : ∃ s, s = smp a b d e := ⟨_, rfl⟩
  rw [← hs] at HS ⊢
  simp only [hlt] at HS
  clear l0 l1 l2 l3 hx0 hx1 hx2 hx3 hs hlt
  obtain ⟨g00, g01⟩ := g0
  obtain ⟨g10, g11⟩ := g1
  obtain ⟨g20, g21⟩ := g2
  obtain ⟨g30, g31⟩ := g3
  go_enter Try.func120, Try.ntmps120
  go_wp2_with (fail)
  go_loopw [3, 4] (fun v3 v4 wr => ∃ (i : Nat) (n : Int), i ≤ 4 ∧ v4 = .int .i64 i ∧ v3 = .int .i64 n ∧ Hid (n = q4 x0 x1 x2 x3 i) ∧ wr = w) (fun _ v4 _ => 4 - (intOf v4).toNat)
  case atStart => exact ⟨0, 0, by omega, rfl, rfl, Lib.hid rfl, rfl⟩
  case round =>
    obtain ⟨i, n, hi, rfl, rfl, HV, hwr⟩ := hrel
    have hwr := hwr.symm
    subst hwr
    by_cases hi4 : i < 4
    case neg =>
      obtain rfl : i = 4 := by omega
      have hv : n = ((x0 * 256 + x1) * 256 + x2) * 256 + x3 := HV.out
      by_cases k : x0 < 128
      · rw [if_pos k] at HS
        have hn : n < 2147483648 := by omega
        have d1 : decide (2147483648 ≤ n) = false := decide_eq_false (by omega)
        have hsn : s = n := by rw [HS.out, hv]
        have HE := Lib.hid hsn
        clear hv hsn k HS
        go_wp2
        go_ret
        exact ⟨by rw [HE.out]; rfl, rfl⟩
      · rw [if_neg k] at HS
        have hn : 2147483648 ≤ n := by omega
        have hn2 : n < 4294967296 := by omega
        have d1 : decide (2147483648 ≤ n) = true := decide_eq_true hn
        have i1 : IntKind.i64.wrap (n - 4294967296) = n - 4294967296 := IntWalk.i64_in _ (by omega)
        have hsn : s = n - 4294967296 := by rw [HS.out, hv]
        have HE := Lib.hid hsn
        clear hv hsn k HS
        go_wp2
        go_ret
        exact ⟨by rw [HE.out]; rfl, rfl⟩
    have hi4' : i = 0 ∨ i = 1 ∨ i = 2 ∨ i = 3 := by omega
    rcases hi4' with rfl | rfl | rfl | rfl
    · have hv : n = 0 := HV.out
      have hb0 : 0 ≤ n ∧ n < 16777216 := by omega
      obtain ⟨hb1, hb2⟩ := hb0
      have i1 : IntKind.i64.wrap (256 * n) = 256 * n := IntWalk.i64_in _ (by omega)
      have i2 : IntKind.i64.wrap (256 * n + x0) = 256 * n + x0 := IntWalk.i64_in _ (by omega)
      have HV2 := Lib.hid hv
      clear hv
      go_wp2_with (fail)
      go_roundw
      case rel => exact ⟨1, _, by omega, by go_num, rfl, Lib.hid (by have := HV2.out; show _ = x0; omega), by first | trivial | rfl⟩
      case measure => simp [intOf]
    · have hv : n = x0 := HV.out
      have hb0 : 0 ≤ n ∧ n < 16777216 := by omega
      obtain ⟨hb1, hb2⟩ := hb0
      have i1 : IntKind.i64.wrap (256 * n) = 256 * n := IntWalk.i64_in _ (by omega)
      have i2 : IntKind.i64.wrap (256 * n + x1) = 256 * n + x1 := IntWalk.i64_in _ (by omega)
      have HV2 := Lib.hid hv
      clear hv
      go_wp2_with (fail)
      go_roundw
      case rel => exact ⟨2, _, by omega, by go_num, rfl, Lib.hid (by have := HV2.out; show _ = x0 * 256 + x1; omega), by first | trivial | rfl⟩
      case measure => simp [intOf]
    · have hv : n = x0 * 256 + x1 := HV.out
      have hb0 : 0 ≤ n ∧ n < 16777216 := by omega
      obtain ⟨hb1, hb2⟩ := hb0
      have i1 : IntKind.i64.wrap (256 * n) = 256 * n := IntWalk.i64_in _ (by omega)
      have i2 : IntKind.i64.wrap (256 * n + x2) = 256 * n + x2 := IntWalk.i64_in _ (by omega)
      have HV2 := Lib.hid hv
      clear hv
      go_wp2_with (fail)
      go_roundw
      case rel => exact ⟨3, _, by omega, by go_num, rfl, Lib.hid (by have := HV2.out; show _ = (x0 * 256 + x1) * 256 + x2; omega), by first | trivial | rfl⟩
      case measure => simp [intOf]
    · have hv : n = (x0 * 256 + x1) * 256 + x2 := HV.out
      have hb0 : 0 ≤ n ∧ n < 16777216 := by omega
      obtain ⟨hb1, hb2⟩ := hb0
      have i1 : IntKind.i64.wrap (256 * n) = 256 * n := IntWalk.i64_in _ (by omega)
      have i2 : IntKind.i64.wrap (256 * n + x3) = 256 * n + x3 := IntWalk.i64_in _ (by omega)
      have HV2 := Lib.hid hv
      clear hv
      go_wp2_with (fail)
      go_roundw
      case rel => exact ⟨4, _, by omega, by go_num, rfl, Lib.hid (by have := HV2.out; show _ = ((x0 * 256 + x1) * 256 + x2) * 256 + x3; omega), by first | trivial | rfl⟩
      case measure => simp [intOf]
end Go.Proofs.Ytckeopidedoohaa
