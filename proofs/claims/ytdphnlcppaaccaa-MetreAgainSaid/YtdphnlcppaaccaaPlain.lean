/-
  Changes of a metre as plain data, and what the program and the reference compute over them, in plain Lean. No program in sight.
-/
import Derived.Test.YtdphnlcppaaccaaRows
import Derived.Below
namespace Go.Proofs.Ytdphnlcppaaccaa
open Go.RowKit

structure Met where
  bar : Int
  beats : Int
  unit : Int
def m0 : Met := ⟨0, 0, 0⟩
def mb (ms : List Met) (i : Nat) : Int := (ms.getD i m0).bar
def mt (ms : List Met) (i : Nat) : Int := (ms.getD i m0).beats
def mu (ms : List Met) (i : Nat) : Int := (ms.getD i m0).unit

/-- One change that is fine in itself. -/
structure Fine (ms : List Met) (i : Nat) : Prop where
  b0 : 0 ≤ mb ms i
  b1 : mb ms i ≤ 1048576
  t0 : 1 ≤ mt ms i
  t1 : mt ms i ≤ 32
  u0 : 1 ≤ mu ms i
  u1 : mu ms i ≤ 65536

structure Valid (ms : List Met) : Prop where
  pos : 1 ≤ ms.length
  few : ms.length ≤ 64
  zero : mb ms 0 = 0
  fine : ∀ i, i < ms.length → Fine ms i
  up : ∀ i, i + 1 < ms.length → mb ms i < mb ms (i + 1)

/-- The place of the change that holds for a bar, among the first k. -/
def ofI (ms : List Met) (bar : Int) : Nat → Nat
  | 0 => 0
  | k + 1 => if mb ms k ≤ bar then k else ofI ms bar k
theorem ofI_lt (ms : List Met) (bar : Int) (k : Nat) (h : 0 < k) : ofI ms bar k < k := by
  induction k with
  | zero => omega
  | succ k ih =>
    unfold ofI
    split
    · omega
    · rcases Nat.eq_zero_or_pos k with rfl | hk
      · simp [ofI]
      · have := ih hk; omega

theorem mul_bd {a b A B : Int} (ha : 0 ≤ a) (hA : a ≤ A) (hb : 0 ≤ b) (hB : b ≤ B) : 0 ≤ a * b ∧ a * b ≤ A * B :=
  ⟨Int.mul_nonneg ha hb, Int.mul_le_mul hA hB hb (Int.le_trans ha hA)⟩

/-- The end of the part of change k, as far as a bar goes. -/
def eN (ms : List Met) (bar : Int) (k : Nat) : Int := if k + 1 < ms.length then min bar (mb ms (k + 1)) else bar
/-- The tick at which a bar begins, summed over the first k changes. -/
def bgn (ms : List Met) (bar : Int) : Nat → Int
  | 0 => 0
  | k + 1 => if mb ms k < eN ms bar k then bgn ms bar k + (eN ms bar k - mb ms k) * mt ms k * mu ms k else bgn ms bar k
theorem eN_le (ms : List Met) (bar : Int) (k : Nat) : eN ms bar k ≤ bar := by
  unfold eN
  split
  · exact Int.min_le_left _ _
  · exact Int.le_refl _
theorem prod_bd {ms : List Met} {k : Nat} (h : Fine ms k) {d : Int} (h0 : 0 ≤ d) (h1 : d ≤ 1048577) :
    0 ≤ d * mt ms k ∧ d * mt ms k ≤ 33554464 ∧ 0 ≤ d * mt ms k * mu ms k ∧ d * mt ms k * mu ms k ≤ 2199025352704 := by
  obtain ⟨_, _, t0, t1, u0, u1⟩ := h
  have a := mul_bd h0 h1 (by omega : 0 ≤ mt ms k) t1
  have b := mul_bd a.1 a.2 (by omega : 0 ≤ mu ms k) u1
  omega
theorem bgn_bd {ms : List Met} (hv : Valid ms) {bar : Int} (hb : bar ≤ 1048577) (k : Nat) (hk : k ≤ ms.length) : 0 ≤ bgn ms bar k ∧ bgn ms bar k ≤ (k : Int) * 2199025352704 := by
  induction k with
  | zero => simp [bgn]
  | succ k ih =>
    have ih := ih (by omega)
    have he := eN_le ms bar k
    have hf := hv.fine k (by omega)
    unfold bgn
    split
    · have hp := prod_bd hf (d := eN ms bar k - mb ms k) (by omega) (by have := hf.b0; omega)
      have e : ((k + 1 : Nat) : Int) * 2199025352704 = (k : Int) * 2199025352704 + 2199025352704 := by omega
      omega
    · omega

/-- The greatest bar that begins at a tick or before it, as the reference finds it behind the first k changes. -/
def atB (ms : List Met) (tick : Int) : Nat → Int
  | 0 => 0
  | k + 1 => if bgn ms (mb ms k) ms.length ≤ tick then mb ms k + (tick - bgn ms (mb ms k) ms.length) / (mt ms k * mu ms k) else atB ms tick k
theorem long_bd {ms : List Met} {k : Nat} (h : Fine ms k) : 1 ≤ mt ms k * mu ms k ∧ mt ms k * mu ms k ≤ 2097152 := by
  obtain ⟨_, _, t0, t1, u0, u1⟩ := h
  have a := mul_bd (by omega : 0 ≤ mt ms k) t1 (by omega : 0 ≤ mu ms k) u1
  have b := Int.mul_le_mul t0 u0 (by omega) (by omega : 0 ≤ mt ms k)
  omega
theorem quot_bd {x y : Int} (hx : 0 ≤ x) (hy : 1 ≤ y) : 0 ≤ x / y ∧ x / y ≤ x :=
  ⟨Int.ediv_nonneg hx (by omega), Int.ediv_le_self y hx⟩
theorem atB_bd {ms : List Met} (hv : Valid ms) {tick : Int} (h0 : 0 ≤ tick) (h1 : tick ≤ 16777216) (k : Nat) (hk : k ≤ ms.length) : 0 ≤ atB ms tick k ∧ atB ms tick k ≤ 17825792 := by
  induction k with
  | zero => simp [atB]
  | succ k ih =>
    have ih := ih (by omega)
    have hf := hv.fine k (by omega)
    have hl := long_bd hf
    have hb := (bgn_bd hv (bar := mb ms k) (by have := hf.b1; omega) ms.length (Nat.le_refl _)).1
    unfold atB
    split
    · have hq := quot_bd (x := tick - bgn ms (mb ms k) ms.length) (by omega) hl.1
      have := hf.b0
      have := hf.b1
      omega
    · omega

/-- The tick at which a bar begins. -/
def bg (ms : List Met) (bar : Int) : Int := bgn ms bar ms.length
/-- The loop of the reference's Bars. -/
def rbGo (ms : List Met) (lo hi : Int) : Nat → Int → List Int → List Int × Int
  | 0, _, acc => (acc, 0)
  | f + 1, bar, acc =>
    if bar ≤ 1048576 ∧ bg ms bar < hi then
      if bg ms bar < lo then rbGo ms lo hi f (bar + 1) acc
      else if acc.length = 4096 then ([], 2)
      else rbGo ms lo hi f (bar + 1) (acc ++ [bg ms bar])
    else (acc, 0)
def rBars (ms : List Met) (lo hi : Int) : List Int × Int :=
  if lo < 0 ∨ hi < lo ∨ 16777216 < hi then ([], 1) else
  rbGo ms lo hi ((1048577 - atB ms lo ms.length).toNat + 1) (atB ms lo ms.length) []

section
variable {ms : List Met} {lo hi bar : Int} {acc : List Int}
theorem rbGo_end (f : Nat) (h : ¬ (bar ≤ 1048576 ∧ bg ms bar < hi)) : rbGo ms lo hi (f + 1) bar acc = (acc, 0) := by
  unfold rbGo
  rw [if_neg h]
theorem fuel_succ (h : bar ≤ 1048576) : (1048577 - bar).toNat = (1048577 - (bar + 1)).toNat + 1 := by omega
theorem rbGo_skip (h : bar ≤ 1048576) (h1 : bg ms bar < hi) (h2 : bg ms bar < lo) :
    rbGo ms lo hi ((1048577 - bar).toNat + 1) bar acc = rbGo ms lo hi ((1048577 - (bar + 1)).toNat + 1) (bar + 1) acc := by
  conv => lhs; unfold rbGo
  rw [if_pos ⟨h, h1⟩, if_pos h2, fuel_succ h]
theorem rbGo_full (f : Nat) (h : bar ≤ 1048576) (h1 : bg ms bar < hi) (h2 : ¬ bg ms bar < lo) (h3 : acc.length = 4096) : rbGo ms lo hi (f + 1) bar acc = ([], 2) := by
  unfold rbGo
  rw [if_pos ⟨h, h1⟩, if_neg h2, if_pos h3]
theorem rbGo_more (h : bar ≤ 1048576) (h1 : bg ms bar < hi) (h2 : ¬ bg ms bar < lo) (h3 : ¬ acc.length = 4096) :
    rbGo ms lo hi ((1048577 - bar).toNat + 1) bar acc = rbGo ms lo hi ((1048577 - (bar + 1)).toNat + 1) (bar + 1) (acc ++ [bg ms bar]) := by
  conv => lhs; unfold rbGo
  rw [if_pos ⟨h, h1⟩, if_neg h2, if_neg h3, fuel_succ h]
end
end Go.Proofs.Ytdphnlcppaaccaa
