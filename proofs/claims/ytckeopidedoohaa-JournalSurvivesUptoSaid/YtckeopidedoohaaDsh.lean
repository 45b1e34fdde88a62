/-
  The last step of a row 'for every input it answers true, and the arguments read as they did': all arguments at once, of whatever readable types, from 'Below' alone. And a disk, bytes opened.
-/
import Derived.Test.YtckeopidedoohaaDop
import Derived.Test.YtckeopidedoohaaDfw
import Derived.SizedLaws
import Derived.ProofKit
import Derived.Carry
import Derived.Deep.Slices
import Derived.Deep.Fields
namespace Go.Proofs.Ytckeopidedoohaa
open Go.ChangeShapes Go.WideShapes Go.ChangeAt Go.RowKit Go.Deep

section
variable {H : Type} {enc : TypeId × Value → H} {P : Program}
theorem trodAll_stays (hl : laidOutB P = true) {W W' : World} {sp : Nat → Bool} (hb : Below W.heap.size W W') : ∀ {ts : List TypeId} {vs : List Value} {ds : List (DataW H)} {ps : List MemPlace},
    ts.all (fun t => P.readableRec t && decide (t < P.types.size)) = true → DataW.TrodAll enc P W 0 (fun _ => true) true ts vs ds ps → (∀ p ∈ ps, sp p.block = true) → DataW.TrodAll enc P W' 0 sp true ts vs ds ps
  | [], _, _, _, _, h, _ => by
    obtain ⟨rfl, rfl, rfl⟩ := trodAll_nil h
    rfl
  | t :: ts, _, _, _, hr, h, hs => by
    have hlt := DataW.TrodAll.lt h
    obtain ⟨v, vs, d, ds, p, q, rfl, rfl, rfl, h0, h1⟩ := trodAll_cons h
    simp only [List.all_cons, Bool.and_eq_true, decide_eq_true_eq] at hr
    exact ⟨_, _, (WideElems.Trod_stays hl hr.1.1 hr.1.2 h0 (fun x hx => hb.same (hlt x (List.mem_append_left _ hx))) (fun x hx => hs x (List.mem_append_left _ hx))),
      (trodAll_stays hl hb (by simpa using hr.2) h1 fun x hx => hs x (List.mem_append_right _ hx)), rfl⟩

theorem post_yes {f : Func} {s : ChangeSpec} {apart fresh handsOn : Bool} {W W' : World} {args : Array Value} {ds gs : List (DataW H)} {before : List MemPlace} {t : TypeId} (hl : laidOutB P = true)
    (hW : DataW.Whole enc P f.params.toList s.vars apart W args.toList ds gs before) (hp : f.params.toList.all (fun t => P.readableRec t && decide (t < P.types.size)) = true) (hv : s.vars = [])
    (hs : s.fn H (ds ++ gs) = { results := [.lit (.bool true)], args := ds }) (ht : f.resultTypes = #[t]) (hu : P.underlying t = some .bool) (hb : Below W.heap.size W W') :
    s.post enc P f apart fresh handsOn false W args (.bool true) W' := by
  have hlt : ∀ p ∈ before, p.block < W.heap.size := fun p hp => hW.lt p hp
  have hW' := hW
  obtain ⟨p, q, hA, hV, rfl, hfz, hnd⟩ := hW
  rw [hv] at hV
  obtain ⟨rfl, rfl⟩ := trodVars_none hV
  refine ⟨ds, [], _, [], p, [], hW', ?_, ?_, ?_, World.keptBut_mono (fun x hx => ⟨hx, ?_⟩) (hb.frame (· ∈ p ++ [])), fun h => nomatch h⟩
  · rw [hs, ht]
    exact trodAll_mk1 (shut_bool hu true)
  · rw [hs]
    exact trodAll_stays hl hb hp hA fun x hx => by simpa using hlt x (by simpa using hx)
  · rw [hs, hv]
    rfl
  · exact .inr (.inl (by simpa using hx))
end

section
variable {H : Type} {enc : TypeId × Value → H} {w : World} {spare : Nat → Bool} {held : Bool} {base : Nat}
theorem reach_small : reachBytes ≤ 140737488355328 := by decide
set_option maxRecDepth 100000 in
/-- An argument that is a disk. -/
theorem open_disk {r : Go.Reach} {b0 : Nat} {v : Value} {d : DataW H} {p : List MemPlace} (hv : Value.okWide Try.prog w r b0 25 v) (h : DataW.Trod enc Try.prog w base spare held 25 v d p) :
    ∃ SA sc PA pc k, v = .agg #[.slice SA (Dk.secs k).length sc, .slice PA k.pend.length pc, .int .i64 k.left, .bool k.stop] ∧ k.secs.length ≤ sc ∧ k.pend.length ≤ pc ∧ RowsAt w.heap.size w SA k.secs ∧ WrsAt w.heap.size w PA k.pend ∧ (Light (d.weights Try.prog 25) → Go.Proofs.Ytckeopidedoohaa.Reach k) := by
  obtain ⟨SA, sc, PA, pc, k, e, h1, h2, h3, h4, h5⟩ := open_dk Try.underlying25 (by kernel_rfl) (rt := 22) (pt := 23) rfl rfl Try.underlying3 Try.underlying4 Try.underlying22 Try.underlying23 Try.underlying90 (by kernel_rfl) (by kernel_rfl) (by kernel_rfl) Try.underlying3 rfl Try.underlying35 Try.underlying5 (by kernel_rfl) (by kernel_rfl) (by kernel_rfl) (by kernel_rfl) (by kernel_rfl) hv h
  refine ⟨SA, sc, PA, pc, k, e, h1, h2, h3, h4, fun hl => ?_⟩
  obtain ⟨⟨a, b⟩, c, d⟩ := h5 hl
  exact ⟨Nat.le_trans a reach_small, Nat.le_trans c reach_small, fun x hx => Nat.le_trans (b x hx) reach_small, fun x hx => Nat.le_trans (d x hx) reach_small⟩
set_option maxRecDepth 100000 in
/-- An argument that is bytes. -/
theorem open_bytes {r : Go.Reach} {b0 : Nat} {v : Value} {d : DataW H} {p : List MemPlace} (hv : Value.okWide Try.prog w r b0 35 v) (h : DataW.Trod enc Try.prog w base spare held 35 v d p) :
    ∃ A bs c, v = .slice A (List.length bs) c ∧ bs.length ≤ c ∧ BsAt w.heap.size w A bs ∧ (Light (d.weights Try.prog 35) → bs.length ≤ reachBytes) := by
  obtain ⟨fuel, h⟩ := h
  obtain ⟨A, n, c, rfl⟩ := okWide_slice Try.underlying35 hv
  obtain ⟨A', bs, c', e, h1, h2, h3⟩ := open_bs Try.underlying35 Try.underlying5 (by kernel_rfl) (by kernel_rfl) h
  simp [Value.cells] at e
  obtain ⟨rfl, rfl, rfl⟩ := e
  exact ⟨A, bs, c, rfl, h1, h2, h3⟩
theorem wf_i64 (n : Int) (h : (Lit.int .i64 n).wf = true) : -9223372036854775808 ≤ n ∧ n ≤ 9223372036854775807 := by
  simp only [Lit.wf, Bool.and_eq_true, decide_eq_true_eq] at h
  exact h
theorem light_each {P : Program} {t : TypeId} {ts : List TypeId} {d : DataW H} {ds : List (DataW H)} (h : Light (DataW.weightsEach P (t :: ts) (d :: ds))) : Light (d.weights P t) ∧ Light (DataW.weightsEach P ts ds) := by
  rw [DataW.weightsEach] at h
  exact light_app.1 h
end
end Go.Proofs.Ytckeopidedoohaa
