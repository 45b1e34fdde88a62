/-
  The last step of a row 'for every input it answers true, and the arguments read as they did': all arguments at once, of whatever readable types, from 'Below' alone. And a disk, bytes opened. | A journal, a list of rows, bytes out of an argument that reads, with the bound on the bulk of all arguments. Conditions: the argument reads.
-/
import Derived.Test.YtckeopidedoohaaDop
import Derived.Test.YtckeopidedoohaaDfw
import Derived.SizedLaws
import Derived.ProofKit
import Derived.Carry
import Derived.Deep.Slices
import Derived.Deep.Fields
import Derived.Test.YtckeopidedoohaaRows
import Derived.Test.YtckeopidedoohaaJck
import Derived.JoinedCond
import Derived.Deep.CondSized
namespace Go.Proofs.Ytckeopidedoohaa
open Go.ChangeShapes Go.WideShapes Go.ChangeAt Go.RowKit Go.Deep

section
variable {H : Type} {enc : TypeId × Value → H} {P : Program}
theorem trodAll_stays (hl : laidOutB P = true) {W W' : World} {sp : Nat → Bool} (hb : Below W.heap.size W W') : ∀ {ts : List TypeId} {vs : List Value} {ds : List (DataW H)} {ps : List MemPlace},
    ts.all (fun t => P.readableRec t && decide (t < P.types.size)) = true → DataW.TrodAll enc P W 0 (fun _ => true) true ts vs ds ps → (∀ p ∈ ps, sp p.block = true) → DataW.TrodAll enc P W' 0 sp true ts vs ds ps
  | [], _, _, _, _, h, _ => by
    obtain ⟨rfl, rfl, rfl⟩ := trodAll_nil h
    rfl
  | t :: ts, _, _, _, hr, h, hs => by
    have hlt := DataW.TrodAll.lt h
    obtain ⟨v, vs, d, ds, p, q, rfl, rfl, rfl, h0, h1⟩ := trodAll_cons h
    simp only [List.all_cons, Bool.and_eq_true, decide_eq_true_eq] at hr
    exact ⟨_, _, (WideElems.Trod_stays hl hr.1.1 hr.1.2 h0 (fun x hx => hb.same (hlt x (List.mem_append_left _ hx))) (fun x hx => hs x (List.mem_append_left _ hx))),
      (trodAll_stays hl hb (by simpa using hr.2) h1 fun x hx => hs x (List.mem_append_right _ hx)), rfl⟩

theorem post_yes {f : Func} {s : ChangeSpec} {apart fresh handsOn : Bool} {W W' : World} {args : Array Value} {ds gs : List (DataW H)} {before : List MemPlace} {t : TypeId} (hl : laidOutB P = true)
    (hW : DataW.Whole enc P f.params.toList s.vars apart W args.toList ds gs before) (hp : f.params.toList.all (fun t => P.readableRec t && decide (t < P.types.size)) = true) (hv : s.vars = [])
    (hs : s.fn H (ds ++ gs) = { results := [.lit (.bool true)], args := ds }) (ht : f.resultTypes = #[t]) (hu : P.underlying t = some .bool) (hb : Below W.heap.size W W') :
    s.post enc P f apart fresh handsOn false W args (.bool true) W' := by
  have hlt : ∀ p ∈ before, p.block < W.heap.size := fun p hp => hW.lt p hp
  have hW' := hW
  obtain ⟨p, q, hA, hV, rfl, hfz, hnd⟩ := hW
  rw [hv] at hV
  obtain ⟨rfl, rfl⟩ := trodVars_none hV
  refine ⟨ds, [], _, [], p, [], hW', ?_, ?_, ?_, World.keptBut_mono (fun x hx => ⟨hx, ?_⟩) (hb.frame (· ∈ p ++ [])), fun h => nomatch h⟩
  · rw [hs, ht]
    exact trodAll_mk1 (shut_bool hu true)
  · rw [hs]
    exact trodAll_stays hl hb hp hA fun x hx => by simpa using hlt x (by simpa using hx)
  · rw [hs, hv]
    rfl
  · exact .inr (.inl (by simpa using hx))
end

section
variable {H : Type} {enc : TypeId × Value → H} {w : World} {spare : Nat → Bool} {held : Bool} {base : Nat}
theorem reach_small : reachBytes ≤ 140737488355328 := by decide
set_option maxRecDepth 100000 in
/-- An argument that is a disk. -/
theorem open_disk {r : Go.Reach} {b0 : Nat} {v : Value} {d : DataW H} {p : List MemPlace} (hv : Value.okWide Try.prog w r b0 25 v) (h : DataW.Trod enc Try.prog w base spare held 25 v d p) :
    ∃ SA sc PA pc k, v = .agg #[.slice SA (Dk.secs k).length sc, .slice PA k.pend.length pc, .int .i64 k.left, .bool k.stop] ∧ k.secs.length ≤ sc ∧ k.pend.length ≤ pc ∧ RowsAt w.heap.size w SA k.secs ∧ WrsAt w.heap.size w PA k.pend ∧ (Light (d.weights Try.prog 25) → Go.Proofs.Ytckeopidedoohaa.Reach k) := by
  obtain ⟨SA, sc, PA, pc, k, e, h1, h2, h3, h4, h5⟩ := open_dk Try.underlying25 (by kernel_rfl) (rt := 22) (pt := 23) rfl rfl Try.underlying3 Try.underlying4 Try.underlying22 Try.underlying23 Try.underlying90 (by kernel_rfl) (by kernel_rfl) (by kernel_rfl) Try.underlying3 rfl Try.underlying35 Try.underlying5 (by kernel_rfl) (by kernel_rfl) (by kernel_rfl) (by kernel_rfl) (by kernel_rfl) hv h
  refine ⟨SA, sc, PA, pc, k, e, h1, h2, h3, h4, fun hl => ?_⟩
  obtain ⟨⟨a, b⟩, c, d⟩ := h5 hl
  exact ⟨Nat.le_trans a reach_small, Nat.le_trans c reach_small, fun x hx => Nat.le_trans (b x hx) reach_small, fun x hx => Nat.le_trans (d x hx) reach_small⟩
set_option maxRecDepth 100000 in
/-- An argument that is bytes. -/
theorem open_bytes {r : Go.Reach} {b0 : Nat} {v : Value} {d : DataW H} {p : List MemPlace} (hv : Value.okWide Try.prog w r b0 35 v) (h : DataW.Trod enc Try.prog w base spare held 35 v d p) :
    ∃ A bs c, v = .slice A (List.length bs) c ∧ bs.length ≤ c ∧ BsAt w.heap.size w A bs ∧ (Light (d.weights Try.prog 35) → bs.length ≤ reachBytes) := by
  obtain ⟨fuel, h⟩ := h
  obtain ⟨A, n, c, rfl⟩ := okWide_slice Try.underlying35 hv
  obtain ⟨A', bs, c', e, h1, h2, h3⟩ := open_bs Try.underlying35 Try.underlying5 (by kernel_rfl) (by kernel_rfl) h
  simp [Value.cells] at e
  obtain ⟨rfl, rfl, rfl⟩ := e
  exact ⟨A, bs, c, rfl, h1, h2, h3⟩
theorem wf_i64 (n : Int) (h : (Lit.int .i64 n).wf = true) : -9223372036854775808 ≤ n ∧ n ≤ 9223372036854775807 := by
  simp only [Lit.wf, Bool.and_eq_true, decide_eq_true_eq] at h
  exact h
theorem light_each {P : Program} {t : TypeId} {ts : List TypeId} {d : DataW H} {ds : List (DataW H)} (h : Light (DataW.weightsEach P (t :: ts) (d :: ds))) : Light (d.weights P t) ∧ Light (DataW.weightsEach P ts ds) := by
  rw [DataW.weightsEach] at h
  exact light_app.1 h
end
end Go.Proofs.Ytckeopidedoohaa

namespace Go.Proofs.Ytckeopidedoohaa
open Go.ChangeShapes Go.WideShapes Go.ChangeAt Go.RowKit Go.Deep

section
variable {H : Type} {enc : TypeId × Value → H} {P : Program} {w : World} {base : Nat} {spare : Nat → Bool} {held : Bool}
/-- The bulk is at most N. -/
def Bk (d : DataW H) (N : Nat) : Prop := Rows.uptoBulk d ≤ N
theorem bk_one (d : DataW H) : 1 ≤ Rows.uptoBulk d := by
  cases d with
  | lit l => cases l <;> simp [Rows.uptoBulk]
  | nil => simp [Rows.uptoBulk]
  | ptr d => simp [Rows.uptoBulk]
  | slice elems spare => simp [Rows.uptoBulk]
  | agg parts => simp [Rows.uptoBulk]
  | iface t d => simp [Rows.uptoBulk]
  | map entries => simp [Rows.uptoBulk]
  | held h => simp [Rows.uptoBulk]
theorem bk_mem {d : DataW H} {l : List (DataW H)} (h : d ∈ l) : Rows.uptoBulk d ≤ Rows.uptoBulkAll l := by
  induction l with
  | nil => cases h
  | cons x r ih =>
    simp only [Rows.uptoBulkAll]
    rcases List.mem_cons.1 h with e | e
    · subst e; omega
    · have := ih e; omega
theorem bk_len (l : List (DataW H)) : l.length ≤ Rows.uptoBulkAll l := by
  induction l with
  | nil => simp [Rows.uptoBulkAll]
  | cons x r ih => have := bk_one x; simp only [Rows.uptoBulkAll, List.length_cons]; omega
theorem bk_slice {l r : List (DataW H)} {N : Nat} (h : Bk (DataW.slice l r) N) : l.length ≤ N ∧ ∀ d ∈ l, Bk d N := by
  unfold Bk at h
  simp only [Rows.uptoBulk] at h
  have h1 := bk_len l
  exact ⟨by omega, fun d hd => by have := bk_mem hd; unfold Bk; omega⟩
theorem bk_agg {l : List (DataW H)} {N : Nat} (h : Bk (DataW.agg l) N) : ∀ d ∈ l, Bk d N := fun d hd => by
  unfold Bk at h ⊢
  simp only [Rows.uptoBulk] at h
  have := bk_mem hd
  omega
theorem bk_each {ds gs : List (DataW H)} (h : Rows.uptoSmall H (ds ++ gs) = true) : ∀ d ∈ ds, Bk d 1048576 := fun d hd => by
  have h1 : Rows.uptoBulkAll (ds ++ gs) ≤ 1048576 := of_decide_eq_true h
  exact Nat.le_trans (bk_mem (List.mem_append_left _ hd)) h1

/-- Bytes. -/
theorem open_bsU {t e : TypeId} (ht : P.underlying t = some (.slice e)) (he : P.underlying e = some (.int .u8)) (hC : P.cellsOf e = 1) {fuel : Nat} {cs : List Value} {x : DataW H × List MemPlace} (h : DataW.trod enc P w base spare held fuel t cs = some x) :
    ∃ A bs c, cs = [.slice A (List.length bs) c] ∧ bs.length ≤ c ∧ BsAt w.heap.size w A bs ∧ (∀ N, Bk x.1 N → bs.length ≤ N) := by
  rcases open_slice ht h with ⟨rfl, rfl⟩ | ⟨a, len, cap, m, k, D, Pl, rfl, hb, hl, hm, hmm, rfl, hi⟩
  · exact ⟨none, [], 0, rfl, Nat.le_refl _, BsAt.nil _ _, fun _ _ => Nat.zero_le _⟩
  · have hnm : len ≤ m := by rw [hmm]; split <;> omega
    have each : ∀ i, ∃ x : UInt8, i < len → w.cell? (a.add i) = some (u8v x) := by
      intro i
      by_cases hin : i < len
      · obtain ⟨cs', hc, ht'⟩ := hi i (by omega)
        rw [hC, Nat.mul_one] at hc
        obtain ⟨_, hcl, hat⟩ := World.cells?_some hc
        obtain ⟨z, rfl, _, hz⟩ := DataW.trod_int he ht'
        refine ⟨UInt8.ofNat z.toNat, fun _ => ?_⟩
        rw [← u8_of z hz]
        simpa [add_zero'] using hat 0 (by omega)
      · exact ⟨0, fun h => absurd h hin⟩
    obtain ⟨f, hf⟩ := Classical.axiomOfChoice each
    have hlen : ((List.range len).map f).length = len := by simp
    refine ⟨some a, (List.range len).map f, cap, by rw [hlen], by rw [hlen]; exact hl, fun h0 => ?_, fun N hw => ?_⟩
    · rw [hlen] at h0
      have h00 := hf 0 h0
      rw [add_zero'] at h00
      obtain ⟨b, o, rfl, hlt⟩ := at_block h00
      refine ⟨b, o, rfl, ⟨hlt, .inl hlt⟩, fun i hi => ?_⟩
      rw [hlen] at hi
      rw [getD_map_range f len i 0 hi, ← addr_at]
      exact hf i hi
    · rw [hlen]
      have := (bk_slice hw).1
      simpa using this

/-- Rows of bytes. -/
theorem open_rowsU {t s e : TypeId} (ht : P.underlying t = some (.slice s)) (hs : P.underlying s = some (.slice e)) (he : P.underlying e = some (.int .u8)) (hC : P.cellsOf e = 1) (hCs : P.cellsOf s = 1) {fuel : Nat} {cs : List Value} {x : DataW H × List MemPlace} (h : DataW.trod enc P w base spare held fuel t cs = some x) :
    ∃ A rs c, cs = [.slice A (List.length rs) c] ∧ rs.length ≤ c ∧ RowsAt w.heap.size w A rs ∧ (∀ N, Bk x.1 N → rs.length ≤ N ∧ ∀ b ∈ rs, b.length ≤ N) := by
  rcases open_slice ht h with ⟨rfl, rfl⟩ | ⟨a, len, cap, m, k, D, Pl, rfl, hb, hl, hm, hmm, rfl, hi⟩
  · exact ⟨none, [], 0, rfl, Nat.le_refl _, RowsAt.nil _ _, fun _ _ => ⟨Nat.zero_le _, fun b hb => by cases hb⟩⟩
  · have hnm : len ≤ m := by rw [hmm]; split <;> omega
    have each : ∀ i, ∃ x : Value × Bs, i < len → w.cell? (a.add i) = some x.1 ∧ BsV w.heap.size w x.1 x.2 ∧ (∀ N, Bk (D i) N → x.2.length ≤ N) := by
      intro i
      by_cases hin : i < len
      · obtain ⟨cs', hc, ht'⟩ := hi i (by omega)
        rw [hCs, Nat.mul_one] at hc
        obtain ⟨_, hcl, hat⟩ := World.cells?_some hc
        obtain ⟨A, bs, c, rfl, hcap, hbs, hw⟩ := open_bsU hs he hC ht'
        refine ⟨(.slice A bs.length c, bs), fun _ => ⟨?_, ⟨A, c, rfl, hcap, hbs⟩, hw⟩⟩
        simpa [add_zero'] using hat 0 (by omega)
      · exact ⟨(undef, []), fun h => absurd h hin⟩
    obtain ⟨f, hf⟩ := Classical.axiomOfChoice each
    have hlen : ((List.range len).map fun i => (f i).2).length = len := by simp
    refine ⟨some a, (List.range len).map fun i => (f i).2, cap, by rw [hlen], by rw [hlen]; exact hl, ⟨(List.range len).map fun i => (f i).1, ⟨by simp, fun i hi => ?_⟩, fun h0 => ?_⟩, fun N hw => ⟨?_, fun b hb => ?_⟩⟩
    · rw [hlen] at hi
      rw [getD_map_range (fun i => (f i).1) len i undef hi, getD_map_range (fun i => (f i).2) len i [] hi]
      exact (hf i hi).2.1
    · simp only [List.length_map, List.length_range] at h0
      have h00 := (hf 0 h0).1
      rw [add_zero'] at h00
      obtain ⟨b, o, rfl, hlt⟩ := at_block h00
      refine ⟨b, o, rfl, ⟨hlt, .inl hlt⟩, fun i hi => ?_⟩
      simp only [List.length_map, List.length_range] at hi
      rw [getD_map_range (fun i => (f i).1) len i undef hi, ← addr_at]
      exact (hf i hi).1
    · rw [hlen]
      have := (bk_slice hw).1
      simpa using this
    · obtain ⟨i, hi, rfl⟩ := List.mem_map.1 hb
      have hi := List.mem_range.1 hi
      exact (hf i hi).2.2 N ((bk_slice hw).2 _ (List.mem_map.2 ⟨i, List.mem_range.2 (by omega), rfl⟩))
end

section
variable {H : Type} {enc : TypeId × Value → H} {w : World} {spare : Nat → Bool} {held : Bool} {base : Nat}
set_option maxRecDepth 100000 in
/-- An argument that is a journal. -/
theorem open_jn {r : Go.Reach} {b0 : Nat} {v : Value} {d : DataW H} {p : List MemPlace} (hv : Value.okWide Try.prog w r b0 55 v) (h : DataW.Trod enc Try.prog w base spare held 55 v d p) :
    ∃ RA rc j, v = .agg #[.slice RA (Jn.recs j).length rc, .int .i64 j.many, .int .i64 j.sync] ∧ j.recs.length ≤ rc ∧ RowsAt w.heap.size w RA j.recs ∧ (∀ N, Bk d N → j.recs.length ≤ N ∧ ∀ b ∈ j.recs, b.length ≤ N) := by
  obtain ⟨fuel, h⟩ := h
  have ht := Try.underlying55
  obtain ⟨⟨cs⟩, rfl, hsz⟩ := okWide_struct ht hv
  obtain ⟨y0, y1, y2, n, hx, hcl, j0, j1, j2⟩ := trod_struct3 ht h
  have k22 : Try.prog.cellsOf 22 = 1 := by kernel_rfl
  have k3 : Try.prog.cellsOf 3 = 1 := by kernel_rfl
  have k55 : Try.prog.cellsOf 55 = 3 := by kernel_rfl
  dsimp only at j0 j1 j2
  rw [k22] at j0
  rw [k3] at j1 j2
  rw [k55] at hsz
  match cs, hsz with
  | [x0, x1, x2], _ =>
    obtain ⟨z1, i1, _⟩ := DataW.trod_int Try.underlying3 j1
    obtain ⟨z2, i2, _⟩ := DataW.trod_int Try.underlying3 j2
    obtain ⟨SA, rs, sc, i0, hs1, hs2, hs3⟩ := open_rowsU Try.underlying22 Try.underlying35 Try.underlying5 (by kernel_rfl) (by kernel_rfl) j0
    simp [Value.cells] at i0 i1 i2
    subst i0 i1 i2
    refine ⟨SA, sc, ⟨rs, z1, z2⟩, rfl, hs1, hs2, fun N hl => ?_⟩
    have hx1 := congrArg (·.1) hx
    dsimp only at hx1
    rw [hx1] at hl
    exact hs3 N (bk_agg hl _ (by simp))
set_option maxRecDepth 100000 in
/-- An argument that is bytes. -/
theorem open_bytesU {r : Go.Reach} {b0 : Nat} {v : Value} {d : DataW H} {p : List MemPlace} (hv : Value.okWide Try.prog w r b0 35 v) (h : DataW.Trod enc Try.prog w base spare held 35 v d p) :
    ∃ A bs c, v = .slice A (List.length bs) c ∧ bs.length ≤ c ∧ BsAt w.heap.size w A bs ∧ (∀ N, Bk d N → bs.length ≤ N) := by
  obtain ⟨fuel, h⟩ := h
  obtain ⟨A, n, c, rfl⟩ := okWide_slice Try.underlying35 hv
  obtain ⟨A', bs, c', e, h1, h2, h3⟩ := open_bsU Try.underlying35 Try.underlying5 (by kernel_rfl) h
  simp [Value.cells] at e
  obtain ⟨rfl, rfl, rfl⟩ := e
  exact ⟨A, bs, c, rfl, h1, h2, h3⟩
end
end Go.Proofs.Ytckeopidedoohaa
