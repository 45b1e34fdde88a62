/-
  The last step of a row 'for every input it answers true, and the arguments read as they did': all arguments at once, of whatever readable types, from 'Below' alone. And a slice of integers opened to its numbers.
-/
import Derived.Test.YtoeigfkllamplaaBase
import Derived.ProofKit
import Derived.Carry
import Derived.Deep.Slices
import Derived.Deep.Fields
namespace Go.Proofs.Ytoeigfkllamplaa
open Go.ChangeShapes Go.WideShapes Go.ChangeAt Go.RowKit Go.Deep

theorem addr_add (b o k : Nat) : (⟨b, o, none⟩ : Addr).add k = ⟨b, o + k, none⟩ := by
  unfold Addr.add
  split
  · rename_i h; rw [h]; rfl
  · rfl

section
variable {H : Type} {enc : TypeId × Value → H} {P : Program}
theorem trodAll_stays (hl : laidOutB P = true) {W W' : World} {sp : Nat → Bool} (hb : Below W.heap.size W W') : ∀ {ts : List TypeId} {vs : List Value} {ds : List (DataW H)} {ps : List MemPlace},
    ts.all (fun t => P.readableRec t && decide (t < P.types.size)) = true → DataW.TrodAll enc P W 0 (fun _ => true) true ts vs ds ps → (∀ p ∈ ps, sp p.block = true) → DataW.TrodAll enc P W' 0 sp true ts vs ds ps
  | [], _, _, _, _, h, _ => by
    obtain ⟨rfl, rfl, rfl⟩ := trodAll_nil h
    rfl
  | t :: ts, _, _, _, hr, h, hs => by
    have hlt := DataW.TrodAll.lt h
    obtain ⟨v, vs, d, ds, p, q, rfl, rfl, rfl, h0, h1⟩ := trodAll_cons h
    simp only [List.all_cons, Bool.and_eq_true, decide_eq_true_eq] at hr
    exact ⟨_, _, (WideElems.Trod_stays hl hr.1.1 hr.1.2 h0 (fun x hx => hb.same (hlt x (List.mem_append_left _ hx))) (fun x hx => hs x (List.mem_append_left _ hx))),
      (trodAll_stays hl hb (by simpa using hr.2) h1 fun x hx => hs x (List.mem_append_right _ hx)), rfl⟩

theorem post_yes {f : Func} {s : ChangeSpec} {apart fresh handsOn : Bool} {W W' : World} {args : Array Value} {ds gs : List (DataW H)} {before : List MemPlace} {t : TypeId} (hl : laidOutB P = true)
    (hW : DataW.Whole enc P f.params.toList s.vars apart W args.toList ds gs before) (hp : f.params.toList.all (fun t => P.readableRec t && decide (t < P.types.size)) = true) (hv : s.vars = [])
    (hs : s.fn H (ds ++ gs) = { results := [.lit (.bool true)], args := ds }) (ht : f.resultTypes = #[t]) (hu : P.underlying t = some .bool) (hb : Below W.heap.size W W') :
    s.post enc P f apart fresh handsOn false W args (.bool true) W' := by
  have hlt : ∀ p ∈ before, p.block < W.heap.size := fun p hp => hW.lt p hp
  have hW' := hW
  obtain ⟨p, q, hA, hV, rfl, hfz, hnd⟩ := hW
  rw [hv] at hV
  obtain ⟨rfl, rfl⟩ := trodVars_none hV
  refine ⟨ds, [], _, [], p, [], hW', ?_, ?_, ?_, World.keptBut_mono (fun x hx => ⟨hx, ?_⟩) (hb.frame (· ∈ p ++ [])), fun h => nomatch h⟩
  · rw [hs, ht]
    exact trodAll_mk1 (shut_bool hu true)
  · rw [hs]
    exact trodAll_stays hl hb hp hA fun x hx => by simpa using hlt x (by simpa using hx)
  · rw [hs, hv]
    rfl
  · exact .inr (.inl (by simpa using hx))

variable {w : World} {base : Nat} {spare : Nat → Bool} {held : Bool}
/-- An argument of a type '[]T', T a kind of integer: the numbers that it holds. -/
theorem open_ints_at {t e : TypeId} {k : IntKind} {v : Value} {d : DataW H} {p : List MemPlace} (ht : P.underlying t = some (.slice e)) (he : P.underlying e = some (.int k)) (hC : P.cellsOf e = 1)
    {r : Reach} {b0 : Nat} (hv : Value.okWide P w r b0 t v) (h : DataW.Trod enc P w base spare held t v d p) :
    ∃ (A : Option Addr) (l : List Int) (c : Nat), v = .slice A l.length c ∧ IntsAt k w A l := by
  obtain ⟨fuel, h⟩ := h
  have hvs : ∃ A n c, v = .slice A n c := by
    exact okWide_slice ht hv
  obtain ⟨A, n, c, rfl⟩ := hvs
  rcases open_slice ht h with ⟨h0, _⟩ | ⟨a, len, cap, m, k', D, Pl, hcs, hb, hl, hm, hmm, hx, hi⟩
  · simp [Value.cells] at h0
    obtain ⟨rfl, rfl, rfl⟩ := h0
    exact ⟨none, [], 0, rfl, fun h => absurd h (by simp)⟩
  · simp [Value.cells] at hcs
    obtain ⟨rfl, rfl, rfl⟩ := hcs
    have hnm : n ≤ m := by rw [hmm]; split <;> omega
    have each : ∀ i, ∃ x : Int, i < n → w.cell? (a.add i) = some (.int k x) := by
      intro i
      by_cases hin : i < n
      · obtain ⟨cs', hc, ht'⟩ := hi i (by omega)
        rw [hC, Nat.mul_one] at hc
        obtain ⟨z, e, _⟩ := DataW.trod_int he ht'
        obtain ⟨_, hcl, hat⟩ := World.cells?_some hc
        subst e
        exact ⟨z, fun _ => by simpa [Addr.add] using hat 0 (by omega)⟩
      · exact ⟨0, fun h => absurd h hin⟩
    obtain ⟨f, hf⟩ := Classical.axiomOfChoice each
    have hlen : ((List.range n).map f).length = n := by simp
    refine ⟨some a, (List.range n).map f, c, by rw [hlen], fun hp => ?_⟩
    rw [hlen] at hp
    obtain ⟨ab, ao, asp⟩ := a
    have h00 := hf 0 hp
    have has : asp = none := by
      cases asp with
      | none => rfl
      | some s =>
        simp [Addr.add, World.cell?] at h00
        split at h00 <;> simp at h00
    subst has
    have hget : ∀ i, i < n → gi ((List.range n).map f) i = f i := fun i hi => by simp [gi, hi]
    refine ⟨ab, ao, rfl, World.block_lt_of_cell? w _ h00, fun i hi => ?_⟩
    rw [hlen] at hi
    rw [hget i hi]
    have := hf i hi
    simpa only [addr_add] using this
end
end Go.Proofs.Ytoeigfkllamplaa
