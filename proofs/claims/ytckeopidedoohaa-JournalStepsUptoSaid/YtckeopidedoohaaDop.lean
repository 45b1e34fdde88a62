/-
  A disk, a list of rows and a list of bytes out of an argument that reads. Conditions: the argument reads.
-/
import Derived.Test.YtckeopidedoohaaDk
import Derived.ProofKit
import Derived.Carry
import Derived.Deep.Slices
import Derived.Deep.Fields
import Derived.Lib.SmallJoins
namespace Go.Proofs.Ytckeopidedoohaa
open Go.ChangeShapes Go.WideShapes Go.ChangeAt Go.RowKit Go.Deep

section
variable {H : Type} {enc : TypeId × Value → H} {P : Program} {w : World} {base : Nat} {spare : Nat → Bool} {held : Bool}
/-- No weight is beyond the machine's reach. -/
def Light (l : List Nat) : Prop := l.all (· ≤ reachBytes) = true
theorem light_app {l m : List Nat} : Light (l ++ m) ↔ Light l ∧ Light m := by unfold Light; rw [List.all_append, Bool.and_eq_true]
theorem light_cons {n : Nat} {m : List Nat} : Light (n :: m) ↔ n ≤ reachBytes ∧ Light m := by unfold Light; rw [List.all_cons, Bool.and_eq_true, decide_eq_true_eq]
theorem light_mem {e : TypeId} {l : List (DataW H)} {d : DataW H} (hd : d ∈ l) (h : Light (DataW.weightsAll P e l)) : Light (d.weights P e) := by
  induction l with
  | nil => cases hd
  | cons x l ih =>
    rw [DataW.weightsAll, light_app] at h
    rcases List.mem_cons.1 hd with rfl | hd
    · exact h.1
    · exact ih hd h.2
theorem light_slice {t e : TypeId} (ht : P.underlying t = some (.slice e)) {l r : List (DataW H)} (h : Light ((DataW.slice l r).weights P t)) : (l.length + r.length) * P.bytesOf e ≤ reachBytes ∧ Light (DataW.weightsAll P e l) := by
  rw [DataW.weights, ht] at h
  exact ⟨(light_cons.1 h).1, (light_app.1 (light_cons.1 h).2).1⟩
theorem wf_u8 (n : Int) (h : (Lit.int .u8 n).wf = true) : 0 ≤ n ∧ n ≤ 255 := by
  simp only [Lit.wf, Bool.and_eq_true, decide_eq_true_eq] at h
  exact h
theorem u8_of (n : Int) (h : (Lit.int .u8 n).wf = true) : Value.int .u8 n = u8v (UInt8.ofNat n.toNat) := by
  obtain ⟨h0, h1⟩ := wf_u8 n h
  unfold u8v
  congr 1
  simp
  omega
theorem addr_at (b o k : Nat) : (⟨b, o, none⟩ : Addr).add k = ⟨b, o + k, none⟩ := by
  unfold Addr.add
  split
  · rename_i h; rw [h]; rfl
  · rfl
theorem add_zero' (a : Addr) : a.add 0 = a := by
  unfold Addr.add
  simp
theorem at_block {a : Addr} {v : Value} (h : w.cell? a = some v) : ∃ b o, a = ⟨b, o, none⟩ ∧ b < w.heap.size := by
  obtain ⟨b, o, s⟩ := a
  have hlt := World.block_lt_of_cell? w _ h
  cases s with
  | none => exact ⟨b, o, rfl, hlt⟩
  | some s =>
    simp [World.cell?] at h
    split at h <;> simp at h
theorem getD_map_range {α : Type} (f : Nat → α) (n i : Nat) (d : α) (h : i < n) : ((List.range n).map f).getD i d = f i := by simp [List.getD, h]

/-- Bytes. -/
theorem open_bs {t e : TypeId} (ht : P.underlying t = some (.slice e)) (he : P.underlying e = some (.int .u8)) (hC : P.cellsOf e = 1) (hB : P.bytesOf e = 1) {fuel : Nat} {cs : List Value} {x : DataW H × List MemPlace} (h : DataW.trod enc P w base spare held fuel t cs = some x) :
    ∃ A bs c, cs = [.slice A bs.length c] ∧ bs.length ≤ c ∧ BsAt w.heap.size w A bs ∧ (Light (x.1.weights P t) → bs.length ≤ reachBytes) := by
  rcases open_slice ht h with ⟨rfl, rfl⟩ | ⟨a, len, cap, m, k, D, Pl, rfl, hb, hl, hm, hmm, rfl, hi⟩
  · exact ⟨none, [], 0, rfl, Nat.le_refl _, BsAt.nil _ _, fun _ => Nat.zero_le _⟩
  · have hnm : len ≤ m := by rw [hmm]; split <;> omega
    have each : ∀ i, ∃ x : UInt8, i < len → w.cell? (a.add i) = some (u8v x) := by
      intro i
      by_cases hin : i < len
      · obtain ⟨cs', hc, ht'⟩ := hi i (by omega)
        rw [hC, Nat.mul_one] at hc
        obtain ⟨_, hcl, hat⟩ := World.cells?_some hc
        obtain ⟨z, rfl, _, hz⟩ := DataW.trod_int he ht'
        refine ⟨UInt8.ofNat z.toNat, fun _ => ?_⟩
        rw [← u8_of z hz]
        simpa [add_zero'] using hat 0 (by omega)
      · exact ⟨0, fun h => absurd h hin⟩
    obtain ⟨f, hf⟩ := Classical.axiomOfChoice each
    have hlen : ((List.range len).map f).length = len := by simp
    refine ⟨some a, (List.range len).map f, cap, by rw [hlen], by rw [hlen]; exact hl, fun h0 => ?_, fun hw => ?_⟩
    · rw [hlen] at h0
      have h00 := hf 0 h0
      rw [add_zero'] at h00
      obtain ⟨b, o, rfl, hlt⟩ := at_block h00
      refine ⟨b, o, rfl, ⟨hlt, .inl hlt⟩, fun i hi => ?_⟩
      rw [hlen] at hi
      rw [getD_map_range f len i 0 hi, ← addr_at]
      exact hf i hi
    · rw [hlen]
      have := (light_slice ht hw).1
      simp [hB] at this
      omega

/-- Rows of bytes. -/
theorem open_rows {t s e : TypeId} (ht : P.underlying t = some (.slice s)) (hs : P.underlying s = some (.slice e)) (he : P.underlying e = some (.int .u8)) (hC : P.cellsOf e = 1) (hB : P.bytesOf e = 1) (hCs : P.cellsOf s = 1) (hBs : P.bytesOf s = 24) {fuel : Nat} {cs : List Value} {x : DataW H × List MemPlace} (h : DataW.trod enc P w base spare held fuel t cs = some x) :
    ∃ A rs c, cs = [.slice A (List.length rs) c] ∧ rs.length ≤ c ∧ RowsAt w.heap.size w A rs ∧ (Light (x.1.weights P t) → rs.length ≤ reachBytes ∧ ∀ b ∈ rs, b.length ≤ reachBytes) := by
  rcases open_slice ht h with ⟨rfl, rfl⟩ | ⟨a, len, cap, m, k, D, Pl, rfl, hb, hl, hm, hmm, rfl, hi⟩
  · exact ⟨none, [], 0, rfl, Nat.le_refl _, RowsAt.nil _ _, fun _ => ⟨Nat.zero_le _, fun b hb => by cases hb⟩⟩
  · have hnm : len ≤ m := by rw [hmm]; split <;> omega
    have each : ∀ i, ∃ x : Value × Bs, i < len → w.cell? (a.add i) = some x.1 ∧ BsV w.heap.size w x.1 x.2 ∧ (Light ((D i).weights P s) → x.2.length ≤ reachBytes) := by
      intro i
      by_cases hin : i < len
      · obtain ⟨cs', hc, ht'⟩ := hi i (by omega)
        rw [hCs, Nat.mul_one] at hc
        obtain ⟨_, hcl, hat⟩ := World.cells?_some hc
        obtain ⟨A, bs, c, rfl, hcap, hbs, hw⟩ := open_bs hs he hC hB ht'
        refine ⟨(.slice A bs.length c, bs), fun _ => ⟨?_, ⟨A, c, rfl, hcap, hbs⟩, hw⟩⟩
        simpa [add_zero'] using hat 0 (by omega)
      · exact ⟨(undef, []), fun h => absurd h hin⟩
    obtain ⟨f, hf⟩ := Classical.axiomOfChoice each
    have hlen : ((List.range len).map fun i => (f i).2).length = len := by simp
    refine ⟨some a, (List.range len).map fun i => (f i).2, cap, by rw [hlen], by rw [hlen]; exact hl, ⟨(List.range len).map fun i => (f i).1, ⟨by simp, fun i hi => ?_⟩, fun h0 => ?_⟩, fun hw => ⟨?_, fun b hb => ?_⟩⟩
    · rw [hlen] at hi
      rw [getD_map_range (fun i => (f i).1) len i undef hi, getD_map_range (fun i => (f i).2) len i [] hi]
      exact (hf i hi).2.1
    · simp only [List.length_map, List.length_range] at h0
      have h00 := (hf 0 h0).1
      rw [add_zero'] at h00
      obtain ⟨b, o, rfl, hlt⟩ := at_block h00
      refine ⟨b, o, rfl, ⟨hlt, .inl hlt⟩, fun i hi => ?_⟩
      simp only [List.length_map, List.length_range] at hi
      rw [getD_map_range (fun i => (f i).1) len i undef hi, ← addr_at]
      exact (hf i hi).1
    · rw [hlen]
      have := (light_slice ht hw).1
      simp [hBs] at this
      omega
    · obtain ⟨i, hi, rfl⟩ := List.mem_map.1 hb
      have hi := List.mem_range.1 hi
      exact (hf i hi).2.2 (light_mem (List.mem_map.2 ⟨i, List.mem_range.2 hi, rfl⟩) (light_slice ht hw).2)

/-- Pending writes. -/
theorem open_wrs {t q s e : TypeId} {f0 f1 : Field} (ht : P.underlying t = some (.slice q)) (hq : P.underlying q = some (.struct #[f0, f1])) (hone : oneCellFields P #[f0, f1] = true) (hCq : P.cellsOf q = 2) (hBq : P.bytesOf q = 32) (u0 : P.underlying f0.type = some (.int .i64)) (e1 : f1.type = s)
    (hs : P.underlying s = some (.slice e)) (he : P.underlying e = some (.int .u8)) (hC : P.cellsOf e = 1) (hB : P.bytesOf e = 1) {fuel : Nat} {cs : List Value} {x : DataW H × List MemPlace} (h : DataW.trod enc P w base spare held fuel t cs = some x) :
    ∃ A rs c, cs = [.slice A (List.length rs) c] ∧ rs.length ≤ c ∧ WrsAt w.heap.size w A rs ∧ (Light (x.1.weights P t) → rs.length ≤ reachBytes ∧ ∀ b ∈ rs, b.data.length ≤ reachBytes) := by
  subst e1
  rcases open_slice ht h with ⟨rfl, rfl⟩ | ⟨a, len, cap, m, k, D, Pl, rfl, hb, hl, hm, hmm, rfl, hi⟩
  · exact ⟨none, [], 0, rfl, Nat.le_refl _, WrsAt.nil _ _, fun _ => ⟨Nat.zero_le _, fun b hb => by cases hb⟩⟩
  · have hnm : len ≤ m := by rw [hmm]; split <;> omega
    have each : ∀ i, ∃ x : Value × Wr, i < len → w.cell? (a.add (i * 2)) = some (.int .i64 x.2.at_) ∧ w.cell? ((a.add (i * 2)).add 1) = some x.1 ∧ BsV w.heap.size w x.1 x.2.data ∧ (Light ((D i).weights P q) → x.2.data.length ≤ reachBytes) := by
      intro i
      by_cases hin : i < len
      · obtain ⟨cs', hc, ht'⟩ := hi i (by omega)
        rw [hCq] at hc
        obtain ⟨y0, y1, n, hx, hcl', g0, g1⟩ := trod_struct2 hq ht'
        obtain ⟨_, hcl, hat⟩ := World.cells?_some hc
        obtain ⟨o0, k0⟩ := hone_of hone 0 f0 rfl
        obtain ⟨o1, k1⟩ := hone_of hone 1 f1 rfl
        rw [o0, k0] at g0
        rw [o1, k1] at g1
        match cs', hcl with
        | [x0, x1], _ =>
          obtain ⟨z0, e0, _⟩ := DataW.trod_int u0 g0
          obtain ⟨A, bs, c, e1, hcap, hbs, hw⟩ := open_bs hs he hC hB g1
          simp at e0 e1
          subst e0 e1
          refine ⟨(.slice A bs.length c, ⟨z0, bs⟩), fun _ => ⟨by simpa [add_zero'] using hat 0 (by omega), by simpa using hat 1 (by omega), ⟨A, c, rfl, hcap, hbs⟩, fun hl => hw ?_⟩⟩
          have hx1 := congrArg (·.1) hx
          dsimp only at hx1
          rw [hx1, DataW.weights, hq] at hl
          dsimp only at hl
          simp only [List.map_cons, List.map_nil, DataW.weightsEach, List.append_nil] at hl
          exact (light_app.1 hl).2
      · exact ⟨(undef, wr0), fun h => absurd h hin⟩
    obtain ⟨f, hf⟩ := Classical.axiomOfChoice each
    have hlen : ((List.range len).map fun i => (f i).2).length = len := by simp
    have hvl : ((List.range len).map fun i => (f i).1).length = ((List.range len).map fun i => (f i).2).length := by simp
    refine ⟨some a, (List.range len).map fun i => (f i).2, cap, by rw [hlen], by rw [hlen]; exact hl, ⟨(List.range len).map fun i => (f i).1, ⟨by simp, fun i hi => ?_⟩, fun h0 => ?_⟩, fun hw => ⟨?_, fun b hb => ?_⟩⟩
    · simp only [List.length_map, List.length_range] at hi
      rw [getD_map_range (fun i => (f i).1) len i undef hi, List.map_map, getD_map_range (Wr.data ∘ fun i => (f i).2) len i [] hi]
      exact (hf i hi).2.2.1
    · rw [hlen] at h0
      have h00 := (hf 0 h0).1
      rw [Nat.zero_mul, add_zero'] at h00
      obtain ⟨b, o, rfl, hlt⟩ := at_block h00
      refine ⟨b, o, rfl, ⟨hlt, .inl hlt⟩, fun j hj => ?_⟩
      rw [hlen] at hj
      have hd := Nat.div_add_mod j 2
      have hjl : j / 2 < len := by omega
      obtain ⟨k0, k1⟩ := flatW_get _ _ hvl (j / 2) (by rw [hlen]; exact hjl)
      rw [getD_map_range (fun i => (f i).2) len _ wr0 hjl] at k0
      rw [getD_map_range (fun i => (f i).1) len _ undef hjl] at k1
      obtain ⟨c0, c1, _, _⟩ := hf (j / 2) hjl
      rw [addr_at] at c0 c1
      rw [addr_at] at c1
      rcases Nat.mod_two_eq_zero_or_one j with h2 | h2
      · have ej : j = j / 2 * 2 := by omega
        rw [ej, k0, c0]
      · have ej : j = j / 2 * 2 + 1 := by omega
        rw [ej, k1, ← c1, Nat.add_assoc]
    · rw [hlen]
      have := (light_slice ht hw).1
      simp [hBq] at this
      omega
    · obtain ⟨i, hi, rfl⟩ := List.mem_map.1 hb
      have hi := List.mem_range.1 hi
      exact (hf i hi).2.2.2 (light_mem (List.mem_map.2 ⟨i, List.mem_range.2 hi, rfl⟩) (light_slice ht hw).2)
/-- A disk. -/
theorem open_dk {t q s e rt pt : TypeId} {f0 f1 f2 f3 g0 g1 : Field} (ht : P.underlying t = some (.struct #[f0, f1, f2, f3])) (hone : oneCellFields P #[f0, f1, f2, f3] = true) (e0 : f0.type = rt) (e1 : f1.type = pt) (u2 : P.underlying f2.type = some (.int .i64)) (u3 : P.underlying f3.type = some .bool)
    (hrt : P.underlying rt = some (.slice s)) (hpt : P.underlying pt = some (.slice q)) (hq : P.underlying q = some (.struct #[g0, g1])) (honeq : oneCellFields P #[g0, g1] = true) (hCq : P.cellsOf q = 2) (hBq : P.bytesOf q = 32) (v0 : P.underlying g0.type = some (.int .i64)) (w1 : g1.type = s)
    (hs : P.underlying s = some (.slice e)) (he : P.underlying e = some (.int .u8)) (hC : P.cellsOf e = 1) (hB : P.bytesOf e = 1) (hCs : P.cellsOf s = 1) (hBs : P.bytesOf s = 24) (hCt : P.cellsOf t = 4)
    {r : Reach} {b0 : Nat} {v : Value} {d : DataW H} {p : List MemPlace} (hv : Value.okWide P w r b0 t v) (h : DataW.Trod enc P w base spare held t v d p) :
    ∃ SA sc PA pc k, v = .agg #[.slice SA (Dk.secs k).length sc, .slice PA k.pend.length pc, .int .i64 k.left, .bool k.stop] ∧ k.secs.length ≤ sc ∧ k.pend.length ≤ pc ∧ RowsAt w.heap.size w SA k.secs ∧ WrsAt w.heap.size w PA k.pend ∧
      (Light (d.weights P t) → (k.secs.length ≤ reachBytes ∧ ∀ b ∈ k.secs, b.length ≤ reachBytes) ∧ (k.pend.length ≤ reachBytes ∧ ∀ b ∈ k.pend, b.data.length ≤ reachBytes)) := by
  subst e0 e1
  obtain ⟨fuel, h⟩ := h
  obtain ⟨⟨cs⟩, rfl, hsz⟩ := okWide_struct ht hv
  obtain ⟨y0, y1, y2, y3, n, hx, hcl, j0, j1, j2, j3⟩ := Go.Joins.trod_struct4 ht h
  obtain ⟨o0, k0⟩ := hone_of hone 0 f0 rfl
  obtain ⟨o1, k1⟩ := hone_of hone 1 f1 rfl
  obtain ⟨o2, k2⟩ := hone_of hone 2 f2 rfl
  obtain ⟨o3, k3⟩ := hone_of hone 3 f3 rfl
  rw [o0, k0] at j0
  rw [o1, k1] at j1
  rw [o2, k2] at j2
  rw [o3, k3] at j3
  rw [hCt] at hsz
  match cs, hsz with
  | [x0, x1, x2, x3], _ =>
    obtain ⟨z2, i2, _⟩ := DataW.trod_int u2 j2
    obtain ⟨z3, i3, _⟩ := DataW.trod_bool u3 j3
    obtain ⟨SA, rs, sc, i0, hs1, hs2, hs3⟩ := open_rows hrt hs he hC hB hCs hBs j0
    obtain ⟨PA, l, pc, i1, hp1, hp2, hp3⟩ := open_wrs hpt hq honeq hCq hBq v0 w1 hs he hC hB j1
    simp [Value.cells] at i0 i1 i2 i3
    subst i0 i1 i2 i3
    refine ⟨SA, sc, PA, pc, ⟨rs, l, z2, z3⟩, rfl, hs1, hp1, hs2, hp2, fun hl => ?_⟩
    have hx1 := congrArg (·.1) hx
    dsimp only at hx1
    rw [hx1, DataW.weights, ht] at hl
    dsimp only at hl
    simp only [List.map_cons, List.map_nil, DataW.weightsEach, List.append_nil] at hl
    obtain ⟨l0, l1⟩ := light_app.1 hl
    exact ⟨hs3 l0, hp3 (light_app.1 l1).1⟩
end
end Go.Proofs.Ytckeopidedoohaa
