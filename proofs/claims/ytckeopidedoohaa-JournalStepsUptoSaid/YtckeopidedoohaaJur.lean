/-
  A list of rows as an argument that reads, with the bound on the bulk. Conditions: the argument reads.
-/
import Derived.Test.YtckeopidedoohaaJup
namespace Go.Proofs.Ytckeopidedoohaa
open Go.ChangeShapes Go.WideShapes Go.ChangeAt Go.RowKit Go.Deep

section
variable {H : Type} {enc : TypeId × Value → H} {w : World} {base : Nat} {spare : Nat → Bool} {held : Bool}
set_option maxRecDepth 100000 in
theorem open_list {r : Go.Reach} {b0 : Nat} {v : Value} {d : DataW H} {p : List MemPlace} (hv : Value.okWide Try.prog w r b0 22 v) (h : DataW.Trod enc Try.prog w base spare held 22 v d p) :
    ∃ A rs c, v = .slice A (List.length rs) c ∧ rs.length ≤ c ∧ RowsAt w.heap.size w A rs ∧ (∀ N, Bk d N → rs.length ≤ N ∧ ∀ b ∈ rs, b.length ≤ N) := by
  obtain ⟨fuel, h⟩ := h
  obtain ⟨A, n, c, rfl⟩ := okWide_slice Try.underlying22 hv
  obtain ⟨A', rs, c', e, h1, h2, h3⟩ := open_rowsU Try.underlying22 Try.underlying35 Try.underlying5 (by kernel_rfl) (by kernel_rfl) h
  simp [Value.cells] at e
  obtain ⟨rfl, rfl, rfl⟩ := e
  exact ⟨A, rs, c, rfl, h1, h2, h3⟩
theorem open_u8 {x : Int} (h : (Lit.int .u8 x).wf = true) : ∃ y : UInt8, x = (y.toNat : Int) := by
  simp only [Lit.wf, IntKind.min, IntKind.max, IntKind.signed, IntKind.bits, Bool.and_eq_true, decide_eq_true_eq] at h
  refine ⟨UInt8.ofNat x.toNat, ?_⟩
  have h1 := h.1
  have h2 := h.2
  simp at h1 h2
  have h3 : x.toNat < 256 := by omega
  have h4 : (UInt8.ofNat x.toNat).toNat = x.toNat := by simp; omega
  rw [h4]
  omega
end
end Go.Proofs.Ytckeopidedoohaa
