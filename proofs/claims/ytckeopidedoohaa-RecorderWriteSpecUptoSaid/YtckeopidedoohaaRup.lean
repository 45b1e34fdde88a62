/-
  Ints as an argument that reads, with the bound on the bulk. Conditions: the argument reads.
-/
import Derived.Test.YtckeopidedoohaaJup
import Derived.Test.YtckeopidedoohaaRrd
namespace Go.Proofs.Ytckeopidedoohaa
open Go.ChangeShapes Go.WideShapes Go.ChangeAt Go.RowKit Go.Deep

section
variable {H : Type} {enc : TypeId × Value → H} {P : Program} {w : World} {base : Nat} {spare : Nat → Bool} {held : Bool}
/-- Ints. -/
theorem open_nsU {t e : TypeId} (ht : P.underlying t = some (.slice e)) (he : P.underlying e = some (.int .i64)) (hC : P.cellsOf e = 1) {fuel : Nat} {cs : List Value} {x : DataW H × List MemPlace} (h : DataW.trod enc P w base spare held fuel t cs = some x) :
    ∃ A xs c, cs = [.slice A (List.length xs) c] ∧ xs.length ≤ c ∧ NumsAt w.heap.size w A xs ∧ (∀ N, Bk x.1 N → xs.length ≤ N) := by
  rcases open_slice ht h with ⟨rfl, rfl⟩ | ⟨a, len, cap, m, k, D, Pl, rfl, hb, hl, hm, hmm, rfl, hi⟩
  · exact ⟨none, [], 0, rfl, Nat.le_refl _, NumsAt.nil _ _, fun _ _ => Nat.zero_le _⟩
  · have hnm : len ≤ m := by rw [hmm]; split <;> omega
    have each : ∀ i, ∃ x : Int, i < len → w.cell? (a.add i) = some (.int .i64 x) := by
      intro i
      by_cases hin : i < len
      · obtain ⟨cs', hc, ht'⟩ := hi i (by omega)
        rw [hC, Nat.mul_one] at hc
        obtain ⟨_, hcl, hat⟩ := World.cells?_some hc
        obtain ⟨z, rfl, _, hz⟩ := DataW.trod_int he ht'
        refine ⟨z, fun _ => ?_⟩
        simpa [add_zero'] using hat 0 (by omega)
      · exact ⟨0, fun h => absurd h hin⟩
    obtain ⟨f, hf⟩ := Classical.axiomOfChoice each
    have hlen : ((List.range len).map f).length = len := by simp
    refine ⟨some a, (List.range len).map f, cap, by rw [hlen], by rw [hlen]; exact hl, fun h0 => ?_, fun N hw => ?_⟩
    · rw [hlen] at h0
      have h00 := hf 0 h0
      rw [add_zero'] at h00
      obtain ⟨b, o, rfl, hlt⟩ := at_block h00
      refine ⟨b, o, rfl, ⟨hlt, .inl hlt⟩, fun i hi => ?_⟩
      rw [hlen] at hi
      rw [getD_map_range f len i 0 hi, ← addr_at]
      exact hf i hi
    · rw [hlen]
      have := (bk_slice hw).1
      simpa using this
end
section
variable {H : Type} {enc : TypeId × Value → H} {w : World} {spare : Nat → Bool} {held : Bool} {base : Nat}
set_option maxRecDepth 100000 in
/-- An argument that is a slice of ints. -/
theorem open_nums {r : Go.Reach} {b0 : Nat} {v : Value} {d : DataW H} {p : List MemPlace} (hv : Value.okWide Try.prog w r b0 67 v) (h : DataW.Trod enc Try.prog w base spare held 67 v d p) :
    ∃ A xs c, v = .slice A (List.length xs) c ∧ xs.length ≤ c ∧ NumsAt w.heap.size w A xs ∧ (∀ N, Bk d N → xs.length ≤ N) := by
  obtain ⟨fuel, h⟩ := h
  obtain ⟨A, n, c, rfl⟩ := okWide_slice Try.underlying67 hv
  obtain ⟨A', xs, c', e, h1, h2, h3⟩ := open_nsU Try.underlying67 Try.underlying3 (by kernel_rfl) h
  simp [Value.cells] at e
  obtain ⟨rfl, rfl, rfl⟩ := e
  exact ⟨A, xs, c, rfl, h1, h2, h3⟩
end
end Go.Proofs.Ytckeopidedoohaa
