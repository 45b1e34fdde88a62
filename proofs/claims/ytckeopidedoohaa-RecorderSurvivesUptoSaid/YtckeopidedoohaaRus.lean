/-
  A script of RecorderSurvives as an argument that reads, with the bound on the bulk. Conditions: the argument reads.
-/
import Derived.Test.YtckeopidedoohaaRup
import Derived.Test.YtckeopidedoohaaJur
import Derived.Test.YtckeopidedoohaaRsv
namespace Go.Proofs.Ytckeopidedoohaa
open Go.ChangeShapes Go.WideShapes Go.ChangeAt Go.RowKit Go.Deep

section
variable {H : Type} {enc : TypeId × Value → H} {P : Program} {w : World} {base : Nat} {spare : Nat → Bool} {held : Bool}
/-- Rows of ints. -/
theorem open_nrowsU {t s e : TypeId} (ht : P.underlying t = some (.slice s)) (hs : P.underlying s = some (.slice e)) (he : P.underlying e = some (.int .i64)) (hC : P.cellsOf e = 1) (hCs : P.cellsOf s = 1) {fuel : Nat} {cs : List Value} {x : DataW H × List MemPlace} (h : DataW.trod enc P w base spare held fuel t cs = some x) :
    ∃ A ls c, cs = [.slice A (List.length ls) c] ∧ NRows w.heap.size w A ls ∧ (∀ N, Bk x.1 N → ls.length ≤ N ∧ ∀ b ∈ ls, b.length ≤ N) := by
  rcases open_slice ht h with ⟨rfl, rfl⟩ | ⟨a, len, cap, m, k, D, Pl, rfl, hb, hl, hm, hmm, rfl, hi⟩
  · exact ⟨none, [], 0, rfl, fun h => absurd h (by simp), fun _ _ => ⟨Nat.zero_le _, fun b hb => by cases hb⟩⟩
  · have hnm : len ≤ m := by rw [hmm]; split <;> omega
    have each : ∀ i, ∃ x : List Int × (Option Addr × Nat), i < len → w.cell? (a.add i) = some (.slice x.2.1 x.1.length x.2.2) ∧ NumsAt w.heap.size w x.2.1 x.1 ∧ (∀ N, Bk (D i) N → x.1.length ≤ N) := by
      intro i
      by_cases hin : i < len
      · obtain ⟨cs', hc, ht'⟩ := hi i (by omega)
        rw [hCs, Nat.mul_one] at hc
        obtain ⟨_, hcl, hat⟩ := World.cells?_some hc
        obtain ⟨A, bs, c, rfl, hcap, hbs, hw⟩ := open_nsU hs he hC ht'
        refine ⟨(bs, (A, c)), fun _ => ⟨?_, hbs, hw⟩⟩
        simpa [add_zero'] using hat 0 (by omega)
      · exact ⟨([], (none, 0)), fun h => absurd h hin⟩
    obtain ⟨f, hf⟩ := Classical.axiomOfChoice each
    have hlen : ((List.range len).map fun i => (f i).1).length = len := by simp
    refine ⟨some a, (List.range len).map fun i => (f i).1, cap, by rw [hlen], fun h0 => ?_, fun N hw => ⟨?_, fun b hb => ?_⟩⟩
    · rw [hlen] at h0
      have h00 := (hf 0 h0).1
      rw [add_zero'] at h00
      obtain ⟨b, o, rfl, hlt⟩ := at_block h00
      refine ⟨b, o, rfl, hlt, fun i hi => ?_⟩
      rw [hlen] at hi
      rw [getD_map_range (fun i => (f i).1) len i [] hi, ← addr_at]
      exact ⟨_, _, (hf i hi).1, (hf i hi).2.1⟩
    · rw [hlen]
      have := (bk_slice hw).1
      simpa using this
    · obtain ⟨i, hi, rfl⟩ := List.mem_map.1 hb
      have hi := List.mem_range.1 hi
      exact (hf i hi).2.2 N ((bk_slice hw).2 _ (List.mem_map.2 ⟨i, List.mem_range.2 (by omega), rfl⟩))
end
section
variable {H : Type} {enc : TypeId × Value → H} {w : World} {base : Nat} {spare : Nat → Bool} {held : Bool}
set_option maxRecDepth 100000 in
theorem open_stepsQ {r : Go.Reach} {b0 : Nat} {v : Value} {d : DataW H} {p : List MemPlace} (hv : Value.okWide Try.prog w r b0 81 v) (h : DataW.Trod enc Try.prog w base spare held 81 v d p) :
    ∃ A l c, v = .slice A (List.length l) c ∧ StepsQ w.heap.size w A l ∧ (∀ N, Bk d N → l.length ≤ N ∧ ∀ x ∈ l, x.blks.length ≤ N ∧ ∀ b ∈ x.blks, b.length ≤ N) := by
  obtain ⟨fuel, h⟩ := h
  obtain ⟨A, n, c, rfl⟩ := okWide_slice Try.underlying81 hv
  have hq := Try.underlying84
  have hC : Try.prog.cellsOf 84 = 3 := by kernel_rfl
  rcases open_slice Try.underlying81 h with ⟨h0, _⟩ | ⟨a, len, cap, m, k, D, Pl, hcs, hb, hl, hm, hmm, hx0, hi⟩
  · simp [Value.cells] at h0
    obtain ⟨rfl, rfl, rfl⟩ := h0
    exact ⟨none, [], 0, rfl, fun h => absurd h (by simp), fun _ _ => ⟨Nat.zero_le _, fun x hx => by cases hx⟩⟩
  · simp [Value.cells] at hcs
    obtain ⟨rfl, rfl, rfl⟩ := hcs
    obtain ⟨rfl, rfl⟩ := Prod.mk.inj hx0
    have hnm : n ≤ m := by rw [hmm]; split <;> omega
    have k82 : Try.prog.cellsOf 82 = 1 := by kernel_rfl
    have k4 : Try.prog.cellsOf 4 = 1 := by kernel_rfl
    have k5 : Try.prog.cellsOf 5 = 1 := by kernel_rfl
    have each : ∀ i, ∃ x : Stq × (Option Addr × Nat), i < n → w.cell? (a.add (i * 3)) = some (.slice x.2.1 x.1.blks.length x.2.2) ∧ w.cell? ((a.add (i * 3)).add 1) = some (.bool x.1.stop) ∧ w.cell? ((a.add (i * 3)).add 2) = some (.int .u8 (x.1.at_.toNat : Int)) ∧ NRows w.heap.size w x.2.1 x.1.blks ∧ (∀ N, Bk (D i) N → x.1.blks.length ≤ N ∧ ∀ b ∈ x.1.blks, b.length ≤ N) := by
      intro i
      by_cases hin : i < n
      · obtain ⟨cs', hc, ht'⟩ := hi i (by omega)
        rw [hC] at hc
        obtain ⟨y0, y1, y2, n', hx, hcl', g0, g1, g2⟩ := trod_struct3 hq ht'
        obtain ⟨_, hcl, hat⟩ := World.cells?_some hc
        dsimp only at g0 g1 g2
        rw [k82] at g0
        rw [k4] at g1
        rw [k5] at g2
        match cs', hcl with
        | [x0, x1, x2], _ =>
          obtain ⟨SA, rs, sc, i0, hs2, hs3⟩ := open_nrowsU Try.underlying82 Try.underlying67 Try.underlying3 (by kernel_rfl) (by kernel_rfl) g0
          obtain ⟨z1, e1, _⟩ := DataW.trod_bool Try.underlying4 g1
          obtain ⟨z2, e2, _, w2⟩ := DataW.trod_int Try.underlying5 g2
          simp at i0 e1 e2
          subst i0 e1 e2
          obtain ⟨u2, rfl⟩ := open_u8 w2
          refine ⟨(⟨rs, z1, u2⟩, (SA, sc)), fun _ => ⟨by simpa [add_zero'] using hat 0 (by omega), by simpa using hat 1 (by omega), by simpa using hat 2 (by omega), hs2, fun N hN => ?_⟩⟩
          have hx1 := congrArg (·.1) hx
          dsimp only at hx1
          rw [hx1] at hN
          exact hs3 N (bk_agg hN _ (by simp))
      · exact ⟨(sq0, (none, 0)), fun h => absurd h hin⟩
    obtain ⟨f, hf⟩ := Classical.axiomOfChoice each
    have hlen : ((List.range n).map fun i => (f i).1).length = n := by simp
    refine ⟨some a, (List.range n).map fun i => (f i).1, c, by rw [hlen], fun h0 => ?_, fun N hN => ⟨?_, fun x hx => ?_⟩⟩
    · rw [hlen] at h0
      have h00 := (hf 0 h0).1
      rw [Nat.zero_mul, add_zero'] at h00
      obtain ⟨b, o, rfl, hlt⟩ := at_block h00
      refine ⟨b, o, rfl, hlt, fun i hi => ?_⟩
      rw [hlen] at hi
      rw [getD_map_range (fun i => (f i).1) n i sq0 hi]
      obtain ⟨c0, c1, c2, c3, -⟩ := hf i hi
      rw [addr_at] at c0 c1 c2
      rw [addr_at] at c1 c2
      exact ⟨_, _, c0, c1, c2, c3⟩
    · rw [hlen]
      have := (bk_slice hN).1
      simp at this
      omega
    · obtain ⟨i, hi, rfl⟩ := List.mem_map.1 hx
      have hi := List.mem_range.1 hi
      exact (hf i hi).2.2.2.2 N ((bk_slice hN).2 _ (List.mem_map.2 ⟨i, List.mem_range.2 (by omega), rfl⟩))
end
end Go.Proofs.Ytckeopidedoohaa
