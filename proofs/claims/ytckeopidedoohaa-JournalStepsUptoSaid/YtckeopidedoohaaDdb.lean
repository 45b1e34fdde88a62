/-
  A sector with one byte in either half. Conditions: none.
-/
import Derived.Test.YtckeopidedoohaaDsy
namespace Go.Proofs.Ytckeopidedoohaa
open Go.RowKit
attribute [local go_sem] Oper.semAt_some

/-- A sector with one byte in either half. -/
def dblB (b : UInt8) : Bs := (zs.set 0 b).set 64 b
theorem dblB_len (b : UInt8) : (dblB b).length = 128 := by simp [dblB, zs]
theorem bcells_set (bs : Bs) (i : Nat) (b : UInt8) : (bcells bs).toArray.setIfInBounds i (u8v b) = (bcells (bs.set i b)).toArray := by simp [bcells]
/-- A sector of the call's own. -/
def OwnB (w : World) (bs : Bs) (e : Ending) (w' : World) : Prop := ∃ g, e = .returned (.slice (some ⟨g, 0, none⟩) 128 128) ∧ Blk w' g 5 (bcells bs).toArray ∧ w.heap.size ≤ g ∧ Below w.heap.size w w'

set_option maxRecDepth 20000 in
set_option maxHeartbeats 1000000 in
theorem double_t (b : UInt8) (w : World) : Calls Try.prog 40 #[u8v b] w (OwnB w (dblB b)) := by
  have hmk := make128
  have hb : Blk (w.alloc (.cells zc128.toArray 5)) w.heap.size 5 zc128.toArray := Blk.new w 5 _
  have c0 : (w.alloc (.cells zc128.toArray 5)).cell? ⟨w.heap.size, 0, none⟩ = some (.int .u8 0) := by rw [hb.cell]; rfl
  have c1 : (w.alloc (.cells zc128.toArray 5)).cell? ⟨w.heap.size, 64, none⟩ = some (.int .u8 0) := by rw [hb.cell]; rfl
  have f0 := hb.frozen 0
  have f1 := hb.frozen 64
  clear hb
  unfold u8v
  go_enter Try.func40, Try.ntmps40
  go_wp2
  go_ret
  have e : ((zc128.set 0 (.int .u8 b.toNat)).set 64 (.int .u8 b.toNat)) = bcells (dblB b) := by
    rw [zc128_b]
    unfold bcells dblB zs
    rw [List.map_set, List.map_set]
    rfl
  rw [e]
  exact ⟨w.heap.size, rfl, Blk.new w 5 _, Nat.le_refl _, (Below.refl _ w).alloc (Nat.le_refl _) _⟩
end Go.Proofs.Ytckeopidedoohaa
