/-
  An argument that is a disk, opened, with its bulk.
-/
import Derived.Test.YtckeopidedoohaaJup
namespace Go.Proofs.Ytckeopidedoohaa
open Go.ChangeShapes Go.WideShapes Go.ChangeAt Go.RowKit Go.Deep

section
variable {H : Type} {enc : TypeId × Value → H} {w : World} {spare : Nat → Bool} {held : Bool} {base : Nat}
set_option maxRecDepth 100000 in
theorem open_diskU {r : Go.Reach} {b0 : Nat} {v : Value} {d : DataW H} {p : List MemPlace} (hv : Value.okWide Try.prog w r b0 25 v) (h : DataW.Trod enc Try.prog w base spare held 25 v d p) :
    ∃ SA sc PA pc k, v = .agg #[.slice SA (Dk.secs k).length sc, .slice PA k.pend.length pc, .int .i64 k.left, .bool k.stop] ∧ k.secs.length ≤ sc ∧ k.pend.length ≤ pc ∧ RowsAt w.heap.size w SA k.secs ∧ WrsAt w.heap.size w PA k.pend ∧ (∀ N, Bk d N → k.secs.length ≤ N ∧ k.pend.length ≤ N) := by
  obtain ⟨fuel, h⟩ := h
  have ht := Try.underlying25
  obtain ⟨⟨cs⟩, rfl, hsz⟩ := okWide_struct ht hv
  obtain ⟨y0, y1, y2, y3, n, hx, hcl, j0, j1, j2, j3⟩ := Go.Joins.trod_struct4 ht h
  have k22 : Try.prog.cellsOf 22 = 1 := by kernel_rfl
  have k23 : Try.prog.cellsOf 23 = 1 := by kernel_rfl
  have k3 : Try.prog.cellsOf 3 = 1 := by kernel_rfl
  have k4 : Try.prog.cellsOf 4 = 1 := by kernel_rfl
  have k25 : Try.prog.cellsOf 25 = 4 := by kernel_rfl
  dsimp only at j0 j1 j2 j3
  rw [k22] at j0
  rw [k23] at j1
  rw [k3] at j2
  rw [k4] at j3
  rw [k25] at hsz
  match cs, hsz with
  | [x0, x1, x2, x3], _ =>
    obtain ⟨z2, i2, _⟩ := DataW.trod_int Try.underlying3 j2
    obtain ⟨z3, i3, _⟩ := DataW.trod_bool Try.underlying4 j3
    obtain ⟨SA, rs, sc, i0, hs1, hs2, hs3⟩ := open_rowsU Try.underlying22 Try.underlying35 Try.underlying5 (by kernel_rfl) (by kernel_rfl) j0
    obtain ⟨PA, l, pc, i1, hp1, hp2, _⟩ := open_wrs Try.underlying23 Try.underlying90 (by kernel_rfl) (by kernel_rfl) (by kernel_rfl) Try.underlying3 rfl Try.underlying35 Try.underlying5 (by kernel_rfl) (by kernel_rfl) j1
    have hb1 : ∀ N, Bk y1.1 N → l.length ≤ N := fun N hN => by
      rcases open_slice Try.underlying23 j1 with ⟨e1, e2⟩ | ⟨a, len, cap, m, k, D, Pl, e1, hb, hl, hm, hmm, e2, hi⟩
      · have e3 := e1.symm.trans i1
        simp only [List.cons.injEq, Value.slice.injEq, and_true] at e3
        omega
      · have e3 := e1.symm.trans i1
        simp only [List.cons.injEq, Value.slice.injEq, and_true] at e3
        have hnm : len ≤ m := by rw [hmm]; split <;> omega
        rw [e2] at hN
        have h9 := (bk_slice hN).1
        rw [List.length_map, List.length_range] at h9
        omega
    simp [Value.cells] at i0 i1 i2 i3
    subst i0 i1 i2 i3
    refine ⟨SA, sc, PA, pc, ⟨rs, l, z2, z3⟩, rfl, hs1, hp1, hs2, hp2, fun N hl => ?_⟩
    have hx1 := congrArg (·.1) hx
    dsimp only at hx1
    rw [hx1] at hl
    exact ⟨(hs3 N (bk_agg hl _ (by simp))).1, hb1 N (bk_agg hl _ (by simp))⟩
end
end Go.Proofs.Ytckeopidedoohaa
