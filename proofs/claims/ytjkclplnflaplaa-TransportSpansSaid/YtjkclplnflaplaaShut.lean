/-
  The last step of a row 'for every input it answers true, and the arguments read as they did': all arguments at once, of whatever readable types, from 'Below' alone. And a slice of four-number structs opened to its changes.
-/
import Derived.Test.YtjkclplnflaplaaChk
import Derived.ProofKit
import Derived.Carry
import Derived.Deep.Slices
import Derived.Deep.Fields
namespace Go.Proofs.Ytjkclplnflaplaa
open Go.ChangeShapes Go.WideShapes Go.ChangeAt Go.RowKit Go.Deep

theorem addr_add (b o k : Nat) : (⟨b, o, none⟩ : Addr).add k = ⟨b, o + k, none⟩ := by
  unfold Addr.add
  split
  · rename_i h; rw [h]; rfl
  · rfl

section
variable {H : Type} {enc : TypeId × Value → H} {P : Program}
theorem trodAll_stays (hl : laidOutB P = true) {W W' : World} {sp : Nat → Bool} (hb : Below W.heap.size W W') : ∀ {ts : List TypeId} {vs : List Value} {ds : List (DataW H)} {ps : List MemPlace},
    ts.all (fun t => P.readableRec t && decide (t < P.types.size)) = true → DataW.TrodAll enc P W 0 (fun _ => true) true ts vs ds ps → (∀ p ∈ ps, sp p.block = true) → DataW.TrodAll enc P W' 0 sp true ts vs ds ps
  | [], _, _, _, _, h, _ => by
    obtain ⟨rfl, rfl, rfl⟩ := trodAll_nil h
    rfl
  | t :: ts, _, _, _, hr, h, hs => by
    have hlt := DataW.TrodAll.lt h
    obtain ⟨v, vs, d, ds, p, q, rfl, rfl, rfl, h0, h1⟩ := trodAll_cons h
    simp only [List.all_cons, Bool.and_eq_true, decide_eq_true_eq] at hr
    exact ⟨_, _, (WideElems.Trod_stays hl hr.1.1 hr.1.2 h0 (fun x hx => hb.same (hlt x (List.mem_append_left _ hx))) (fun x hx => hs x (List.mem_append_left _ hx))),
      (trodAll_stays hl hb (by simpa using hr.2) h1 fun x hx => hs x (List.mem_append_right _ hx)), rfl⟩

theorem post_yes {f : Func} {s : ChangeSpec} {apart fresh handsOn : Bool} {W W' : World} {args : Array Value} {ds gs : List (DataW H)} {before : List MemPlace} {t : TypeId} (hl : laidOutB P = true)
    (hW : DataW.Whole enc P f.params.toList s.vars apart W args.toList ds gs before) (hp : f.params.toList.all (fun t => P.readableRec t && decide (t < P.types.size)) = true) (hv : s.vars = [])
    (hs : s.fn H (ds ++ gs) = { results := [.lit (.bool true)], args := ds }) (ht : f.resultTypes = #[t]) (hu : P.underlying t = some .bool) (hb : Below W.heap.size W W') :
    s.post enc P f apart fresh handsOn false W args (.bool true) W' := by
  have hlt : ∀ p ∈ before, p.block < W.heap.size := fun p hp => hW.lt p hp
  have hW' := hW
  obtain ⟨p, q, hA, hV, rfl, hfz, hnd⟩ := hW
  rw [hv] at hV
  obtain ⟨rfl, rfl⟩ := trodVars_none hV
  refine ⟨ds, [], _, [], p, [], hW', ?_, ?_, ?_, World.keptBut_mono (fun x hx => ⟨hx, ?_⟩) (hb.frame (· ∈ p ++ [])), fun h => nomatch h⟩
  · rw [hs, ht]
    exact trodAll_mk1 (shut_bool hu true)
  · rw [hs]
    exact trodAll_stays hl hb hp hA fun x hx => by simpa using hlt x (by simpa using hx)
  · rw [hs, hv]
    rfl
  · exact .inr (.inl (by simpa using hx))

variable {w : World} {base : Nat} {spare : Nat → Bool} {held : Bool}
/-- An argument of a type '[]T', T a struct of four ints: the orders that it holds. -/
theorem open_ords {t e : TypeId} {f0 f1 f2 f3 : Field} {v : Value} {d : DataW H} {p : List MemPlace} (ht : P.underlying t = some (.slice e)) (he : P.underlying e = some (.struct #[f0, f1, f2, f3])) (hone : oneCellFields P #[f0, f1, f2, f3] = true) (hC : P.cellsOf e = 4)
    (u0 : P.underlying f0.type = some (.int .i64)) (u1 : P.underlying f1.type = some (.int .i64)) (u2 : P.underlying f2.type = some (.int .i64)) (u3 : P.underlying f3.type = some (.int .i64)) {r : Reach} {b0 : Nat} (hv : Value.okWide P w r b0 t v) (h : DataW.Trod enc P w base spare held t v d p) :
    ∃ (A : Option Addr) (ms : List Ord) (c : Nat), v = .slice A ms.length c ∧ ms.length ≤ c ∧ ms.length ≤ maxLen ∧ SlAt w A ms := by
  obtain ⟨fuel, h⟩ := h
  have hvs : ∃ A n c, v = .slice A n c := by
    exact okWide_slice ht hv
  obtain ⟨A, n, c, rfl⟩ := hvs
  rcases open_slice ht h with ⟨h0, _⟩ | ⟨a, len, cap, m, k, D, Pl, hcs, hb, hl, hm, hmm, hx, hi⟩
  · simp [Value.cells] at h0
    obtain ⟨rfl, rfl, rfl⟩ := h0
    exact ⟨none, [], 0, rfl, by simp, by simp, fun h => absurd h (by simp)⟩
  · simp [Value.cells] at hcs
    obtain ⟨rfl, rfl, rfl⟩ := hcs
    have hnm : n ≤ m := by rw [hmm]; split <;> omega
    have each : ∀ i, ∃ x : Ord, i < n → w.cell? (a.add (i * 4)) = some (.int .i64 x.at_) ∧ w.cell? ((a.add (i * 4)).add 1) = some (.int .i64 x.kind) ∧ w.cell? ((a.add (i * 4)).add 2) = some (.int .i64 x.a) ∧ w.cell? ((a.add (i * 4)).add 3) = some (.int .i64 x.b) := by
      intro i
      by_cases hin : i < n
      · obtain ⟨cs', hc, ht'⟩ := hi i (by omega)
        rw [hC] at hc
        obtain ⟨ys, n', hn', hy, hlen, hyl, hf⟩ := DataW.trod_struct he ht'
        obtain ⟨_, hcl, hat⟩ := World.cells?_some hc
        obtain ⟨o0, k0⟩ := hone_of hone 0 f0 rfl
        obtain ⟨o1, k1⟩ := hone_of hone 1 f1 rfl
        obtain ⟨o2, k2⟩ := hone_of hone 2 f2 rfl
        obtain ⟨o3, k3⟩ := hone_of hone 3 f3 rfl
        match cs', hcl with
        | [x0, x1, x2, x3], _ =>
          have g0 := hf 0 f0 rfl
          have g1 := hf 1 f1 rfl
          have g2 := hf 2 f2 rfl
          have g3 := hf 3 f3 rfl
          rw [o0, k0] at g0
          rw [o1, k1] at g1
          rw [o2, k2] at g2
          rw [o3, k3] at g3
          match ys, hyl with
          | [y0, y1, y2, y3], _ =>
            obtain ⟨z0, e0, _⟩ := DataW.trod_int u0 g0
            obtain ⟨z1, e1, _⟩ := DataW.trod_int u1 g1
            obtain ⟨z2, e2, _⟩ := DataW.trod_int u2 g2
            obtain ⟨z3, e3, _⟩ := DataW.trod_int u3 g3
            simp at e0 e1 e2 e3
            subst e0 e1 e2 e3
            exact ⟨⟨z0, z1, z2, z3⟩, fun _ => ⟨by simpa [Addr.add] using hat 0 (by omega), by simpa using hat 1 (by omega), by simpa using hat 2 (by omega), by simpa using hat 3 (by omega)⟩⟩
      · exact ⟨o0, fun h => absurd h hin⟩
    obtain ⟨f, hf⟩ := Classical.axiomOfChoice each
    have hlen : ((List.range n).map f).length = n := by simp
    refine ⟨some a, (List.range n).map f, c, by rw [hlen], by rw [hlen]; exact hl, by rw [hlen]; omega, fun hp => ?_⟩
    rw [hlen] at hp
    obtain ⟨ab, ao, asp⟩ := a
    have h00 := (hf 0 hp).1
    have has : asp = none := by
      cases asp with
      | none => rfl
      | some s =>
        simp [Addr.add, World.cell?] at h00
        split at h00 <;> simp at h00
    subst has
    have hget : ∀ i, i < n → ((List.range n).map f).getD i o0 = f i := fun i hi => by simp [List.getD, hi]
    refine ⟨ab, ao, rfl, ?_, fun i hi => ?_, fun i hi => ?_, fun i hi => ?_, fun i hi => ?_⟩
    · have hlt := World.block_lt_of_cell? w _ h00
      exact hlt
    · rw [hlen] at hi
      unfold oT
      rw [hget i hi]
      have := (hf i hi).1
      simpa only [addr_add] using this
    · rw [hlen] at hi
      unfold oK
      rw [hget i hi]
      have := (hf i hi).2.1
      simpa only [addr_add] using this
    · rw [hlen] at hi
      unfold oA
      rw [hget i hi]
      have := (hf i hi).2.2.1
      simpa only [addr_add] using this
    · rw [hlen] at hi
      unfold oB
      rw [hget i hi]
      have := (hf i hi).2.2.2
      simpa only [addr_add] using this
theorem wf_i64 (n : Int) (h : (Lit.int .i64 n).wf = true) : -9223372036854775808 ≤ n ∧ n ≤ 9223372036854775807 := by
  simp only [Lit.wf, Bool.and_eq_true, decide_eq_true_eq] at h
  exact h
theorem wf_u32 (n : Int) (h : (Lit.int .u32 n).wf = true) : 0 ≤ n ∧ n ≤ 4294967295 := by
  simp only [Lit.wf, Bool.and_eq_true, decide_eq_true_eq] at h
  exact h
end
end Go.Proofs.Ytjkclplnflaplaa
