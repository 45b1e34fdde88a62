/-
  A slice of small numbers as an argument: its numbers, in their bounds. Conditions: the kind's bounds.
-/
import Derived.Test.YtoeigfkllamplaaShut
import Derived.Test.YtoeigfkllamplaaLaw3
namespace Go.Proofs.Ytoeigfkllamplaa
open Go.ChangeShapes Go.WideShapes Go.ChangeAt Go.RowKit Go.Deep

section
variable {H : Type} {enc : TypeId × Value → H} {P : Program} {w : World} {base : Nat} {spare : Nat → Bool} {held : Bool}
theorem open_small {t e : TypeId} {k : IntKind} {v : Value} {d : DataW H} {p : List MemPlace} (ht : P.underlying t = some (.slice e)) (he : P.underlying e = some (.int k)) (hC : P.cellsOf e = 1) {top : Int} (hk : ∀ n : Int, (Lit.int k n).wf = true → 0 ≤ n ∧ n ≤ top)
    {r : Reach} {b0 : Nat} (hv : Value.okWide P w r b0 t v) (h : DataW.Trod enc P w base spare held t v d p) :
    ∃ (A : Option Addr) (l : List Int) (c : Nat), v = .slice A l.length c ∧ SmallAt k top w A l := by
  obtain ⟨fuel, h⟩ := h
  have hvs : ∃ A n c, v = .slice A n c := by
    exact okWide_slice ht hv
  obtain ⟨A, n, c, rfl⟩ := hvs
  rcases open_slice ht h with ⟨h0, _⟩ | ⟨a, len, cap, m, k', D, Pl, hcs, hb, hl, hm, hmm, hx, hi⟩
  · simp [Value.cells] at h0
    obtain ⟨rfl, rfl, rfl⟩ := h0
    exact ⟨none, [], 0, rfl, fun h => absurd h (by simp), fun i hi => absurd hi (by simp)⟩
  · simp [Value.cells] at hcs
    obtain ⟨rfl, rfl, rfl⟩ := hcs
    have hnm : n ≤ m := by rw [hmm]; split <;> omega
    have each : ∀ i, ∃ x : Int, i < n → w.cell? (a.add i) = some (.int k x) ∧ 0 ≤ x ∧ x ≤ top := by
      intro i
      by_cases hin : i < n
      · obtain ⟨cs', hc, ht'⟩ := hi i (by omega)
        rw [hC, Nat.mul_one] at hc
        obtain ⟨z, e, hwf⟩ := DataW.trod_int he ht'
        obtain ⟨_, hcl, hat⟩ := World.cells?_some hc
        subst e
        exact ⟨z, fun _ => ⟨by simpa [Addr.add] using hat 0 (by omega), hk z hwf.2⟩⟩
      · exact ⟨0, fun h => absurd h hin⟩
    obtain ⟨f, hf⟩ := Classical.axiomOfChoice each
    have hlen : ((List.range n).map f).length = n := by simp
    refine ⟨some a, (List.range n).map f, c, by rw [hlen], fun hp => ?_, fun i hi => ?_⟩
    · rw [hlen] at hp
      obtain ⟨ab, ao, asp⟩ := a
      have h00 := (hf 0 hp).1
      have has : asp = none := by
        cases asp with
        | none => rfl
        | some s =>
          simp [Addr.add, World.cell?] at h00
          split at h00 <;> simp at h00
      subst has
      have hget : ∀ i, i < n → gi ((List.range n).map f) i = f i := fun i hi => by simp [gi, hi]
      refine ⟨ab, ao, rfl, World.block_lt_of_cell? w _ h00, fun i hi => ?_⟩
      rw [hlen] at hi
      rw [hget i hi]
      have := (hf i hi).1
      simpa only [addr_add] using this
    · rw [hlen] at hi
      have : gi ((List.range n).map f) i = f i := by simp [gi, hi]
      rw [this]
      exact (hf i hi).2
end
theorem wf_u8 (n : Int) (h : (Lit.int .u8 n).wf = true) : 0 ≤ n ∧ n ≤ 255 := by
  simp only [Lit.wf, Bool.and_eq_true, decide_eq_true_eq] at h
  exact h
theorem wf_u16 (n : Int) (h : (Lit.int .u16 n).wf = true) : 0 ≤ n ∧ n ≤ 65535 := by
  simp only [Lit.wf, Bool.and_eq_true, decide_eq_true_eq] at h
  exact h
end Go.Proofs.Ytoeigfkllamplaa
