/-
  Disks as plain data, and how they lie in memory: bytes, sectors, pending writes. Conditions: none.
-/
import Derived.Test.YtckeopidedoohaaIter
namespace Go.Proofs.Ytckeopidedoohaa
open Go.RowKit
variable {n₀ : Nat}

/-- The types whose blocks are rows: bytes, slices of bytes, pending writes, an array of 128 bytes. -/
def rowT (t : TypeId) : Bool := t == 5 || t == 35 || t == 90 || t == 132
/-- A block in which rows may lie: one that stood at the beginning, or one that was made for them. -/
structure Lies (n₀ : Nat) (w : World) (b : Nat) : Prop where
  lt : b < w.heap.size
  off : b < n₀ ∨ ∃ cs t f, w.heap[b]? = some (.cells cs t f) ∧ rowT t = true
theorem Lies.below {w w' : World} {b : Nat} (h : Lies n₀ w b) (hb : Below w.heap.size w w') : Lies n₀ w' b := by
  refine ⟨Nat.lt_of_lt_of_le h.lt hb.size, ?_⟩
  rcases h.off with h1 | ⟨cs, t, f, h1, h2⟩
  · exact .inl h1
  · exact .inr ⟨cs, t, f, (hb.block b h.lt).trans h1, h2⟩
theorem Lies.of_blk {w : World} {b : Nat} {t : TypeId} {cs : Array Value} (h : Blk w b t cs) (ht : rowT t = true) : Lies n₀ w b := ⟨h.lt, .inr ⟨cs, t, _, h, ht⟩⟩
theorem Lies.ne {w : World} {b B : Nat} {t : TypeId} {cs : Array Value} (h : Lies n₀ w b) (hB : Blk w B t cs) (ht : rowT t = false) (hn : n₀ ≤ B) : b ≠ B := by
  rintro rfl
  rcases h.off with h1 | ⟨cs', t', f, h1, h2⟩
  · omega
  · unfold Blk at hB
    rw [hB] at h1
    cases h1
    rw [ht] at h2
    cases h2
/-- Boxes: blocks that hold no rows. -/
def Boxes (n₀ : Nat) (w : World) (may : Nat → Prop) : Prop := ∀ r, r < w.heap.size → may r → n₀ ≤ r ∧ ∃ t cs, Blk w r t cs ∧ rowT t = false
theorem Boxes.one {w : World} {B : Nat} {t : TypeId} {cs : Array Value} (hB : Blk w B t cs) (ht : rowT t = false) (hn : n₀ ≤ B) : Boxes n₀ w (fun r => r = B) := fun r _ h => by
  subst h
  exact ⟨hn, t, cs, hB, ht⟩
theorem Boxes.two {w : World} {B C : Nat} {t u : TypeId} {cs ds : Array Value} (hB : Blk w B t cs) (ht : rowT t = false) (hn : n₀ ≤ B) (hC : Blk w C u ds) (hu : rowT u = false) (hm : n₀ ≤ C) : Boxes n₀ w (fun r => r = B ∨ r = C) := fun r _ h => by
  rcases h with rfl | rfl
  · exact ⟨hn, t, cs, hB, ht⟩
  · exact ⟨hm, u, ds, hC, hu⟩
theorem Lies.may {w : World} {b : Nat} {may : Nat → Prop} (h : Lies n₀ w b) (hm : Boxes n₀ w may) : ¬ may b := fun hb => by
  obtain ⟨hn, t, cs, hB, ht⟩ := hm b h.lt hb
  exact h.ne hB ht hn rfl
theorem Lies.keep {w w' : World} {b : Nat} {may : Nat → Prop} (h : Lies n₀ w b) (hk : Keep may w w') (hm : Boxes n₀ w may) : Lies n₀ w' b := by
  refine ⟨Nat.lt_of_lt_of_le h.lt hk.size, ?_⟩
  rcases h.off with h1 | ⟨cs, t, f, h1, h2⟩
  · exact .inl h1
  · exact .inr ⟨cs, t, f, (hk.block b h.lt (h.may hm)).trans h1, h2⟩
theorem Lies.set {w : World} {b : Nat} (h : Lies n₀ w b) (p : Addr) (v : Value) (hp : b ≠ p.block) : Lies n₀ (w.setCell p v) b := by
  have e := Below.heap_setCell w p v b hp
  refine ⟨?_, ?_⟩
  · have := h.lt
    rcases Nat.lt_or_ge b (w.setCell p v).heap.size with h1 | h1
    · exact h1
    · rw [Array.getElem?_eq_none h1, Array.getElem?_eq_getElem this] at e
      cases e
  · rcases h.off with h1 | ⟨cs, t, f, h1, h2⟩
    · exact .inl h1
    · exact .inr ⟨cs, t, f, e.trans h1, h2⟩

abbrev Bs := List UInt8
def u8v (b : UInt8) : Value := .int .u8 (b.toNat : Int)
/-- An address at which bytes lie. -/
def BsAt (n₀ : Nat) (w : World) (A : Option Addr) (bs : Bs) : Prop := 0 < bs.length → ∃ b o, A = some ⟨b, o, none⟩ ∧ Lies n₀ w b ∧ ∀ i, i < bs.length → w.cell? ⟨b, o + i, none⟩ = some (u8v (bs.getD i 0))
/-- A slice value that reads as bytes. -/
def BsV (n₀ : Nat) (w : World) (v : Value) (bs : Bs) : Prop := ∃ A c, v = .slice A bs.length c ∧ bs.length ≤ c ∧ BsAt n₀ w A bs
theorem BsAt.below {w w' : World} {A : Option Addr} {bs : Bs} (h : BsAt n₀ w A bs) (hb : Below w.heap.size w w') : BsAt n₀ w' A bs := fun h0 => by
  obtain ⟨b, o, e, hlt, hc⟩ := h h0
  exact ⟨b, o, e, hlt.below hb, fun i hi => (hb.cell (p := ⟨b, _, none⟩) hlt.lt).trans (hc i hi)⟩
theorem BsAt.keep {w w' : World} {A : Option Addr} {bs : Bs} {may : Nat → Prop} (h : BsAt n₀ w A bs) (hk : Keep may w w') (hm : Boxes n₀ w may) : BsAt n₀ w' A bs := fun h0 => by
  obtain ⟨b, o, e, hlt, hc⟩ := h h0
  exact ⟨b, o, e, hlt.keep hk hm, fun i hi => (hk.cell (p := ⟨b, _, none⟩) hlt.lt (hlt.may hm)).trans (hc i hi)⟩
theorem BsV.keep {w w' : World} {v : Value} {bs : Bs} {may : Nat → Prop} (h : BsV n₀ w v bs) (hk : Keep may w w') (hm : Boxes n₀ w may) : BsV n₀ w' v bs := by
  obtain ⟨A, c, e, hc, h⟩ := h
  exact ⟨A, c, e, hc, h.keep hk hm⟩
theorem BsV.below {w w' : World} {v : Value} {bs : Bs} (h : BsV n₀ w v bs) (hb : Below w.heap.size w w') : BsV n₀ w' v bs := by
  obtain ⟨A, c, e, hc, h⟩ := h
  exact ⟨A, c, e, hc, h.below hb⟩
theorem BsAt.nil (w : World) (A : Option Addr) : BsAt n₀ w A [] := fun h => absurd h (by simp)

/-- Values that read as rows of bytes, one by one. -/
def Rws (n₀ : Nat) (w : World) (vs : List Value) (rs : List Bs) : Prop := vs.length = rs.length ∧ ∀ i, i < rs.length → BsV n₀ w (vs.getD i undef) (rs.getD i [])
/-- An address at which values lie, one cell each. -/
def ValsAt (n₀ : Nat) (w : World) (A : Option Addr) (vs : List Value) : Prop := 0 < vs.length → ∃ b o, A = some ⟨b, o, none⟩ ∧ Lies n₀ w b ∧ ∀ i, i < vs.length → w.cell? ⟨b, o + i, none⟩ = some (vs.getD i undef)
theorem Rws.below {w w' : World} {vs : List Value} {rs : List Bs} (h : Rws n₀ w vs rs) (hb : Below w.heap.size w w') : Rws n₀ w' vs rs := ⟨h.1, fun i hi => (h.2 i hi).below hb⟩
theorem ValsAt.below {w w' : World} {A : Option Addr} {vs : List Value} (h : ValsAt n₀ w A vs) (hb : Below w.heap.size w w') : ValsAt n₀ w' A vs := fun h0 => by
  obtain ⟨b, o, e, hlt, hc⟩ := h h0
  exact ⟨b, o, e, hlt.below hb, fun i hi => (hb.cell (p := ⟨b, _, none⟩) hlt.lt).trans (hc i hi)⟩
theorem Rws.keep {w w' : World} {vs : List Value} {rs : List Bs} {may : Nat → Prop} (h : Rws n₀ w vs rs) (hk : Keep may w w') (hm : Boxes n₀ w may) : Rws n₀ w' vs rs := ⟨h.1, fun i hi => (h.2 i hi).keep hk hm⟩
theorem ValsAt.keep {w w' : World} {A : Option Addr} {vs : List Value} {may : Nat → Prop} (h : ValsAt n₀ w A vs) (hk : Keep may w w') (hm : Boxes n₀ w may) : ValsAt n₀ w' A vs := fun h0 => by
  obtain ⟨b, o, e, hlt, hc⟩ := h h0
  exact ⟨b, o, e, hlt.keep hk hm, fun i hi => (hk.cell (p := ⟨b, _, none⟩) hlt.lt (hlt.may hm)).trans (hc i hi)⟩
/-- An address at which rows of bytes lie. -/
def RowsAt (n₀ : Nat) (w : World) (A : Option Addr) (rs : List Bs) : Prop := ∃ vs, Rws n₀ w vs rs ∧ ValsAt n₀ w A vs
theorem RowsAt.below {w w' : World} {A : Option Addr} {rs : List Bs} (h : RowsAt n₀ w A rs) (hb : Below w.heap.size w w') : RowsAt n₀ w' A rs := by
  obtain ⟨vs, h1, h2⟩ := h
  exact ⟨vs, h1.below hb, h2.below hb⟩
theorem RowsAt.keep {w w' : World} {A : Option Addr} {rs : List Bs} {may : Nat → Prop} (h : RowsAt n₀ w A rs) (hk : Keep may w w') (hm : Boxes n₀ w may) : RowsAt n₀ w' A rs := by
  obtain ⟨vs, h1, h2⟩ := h
  exact ⟨vs, h1.keep hk hm, h2.keep hk hm⟩
theorem RowsAt.nil (w : World) (A : Option Addr) : RowsAt n₀ w A [] := ⟨[], ⟨rfl, fun i hi => absurd hi (by simp)⟩, fun h => absurd h (by simp)⟩
theorem RowsAt.get {w : World} {A : Option Addr} {rs : List Bs} (h : RowsAt n₀ w A rs) (h0 : 0 < rs.length) : ∃ b o, A = some ⟨b, o, none⟩ ∧ b < w.heap.size ∧ ∀ i, i < rs.length → ∃ A' c', w.cell? ⟨b, o + i, none⟩ = some (.slice A' (rs.getD i []).length c') ∧ (rs.getD i []).length ≤ c' ∧ BsAt n₀ w A' (rs.getD i []) := by
  obtain ⟨vs, h1, h2⟩ := h
  obtain ⟨b, o, e, hlt, hc⟩ := h2 (by rw [h1.1]; exact h0)
  refine ⟨b, o, e, hlt.lt, fun i hi => ?_⟩
  obtain ⟨A', c', e', hc', hb⟩ := h1.2 i hi
  exact ⟨A', c', by rw [hc i (by rw [h1.1]; exact hi), e'], hc', hb⟩

/-- A write that is pending. -/
structure Wr where
  at_ : Int
  data : Bs
def wr0 : Wr := ⟨0, []⟩
/-- The cells of pending writes, the data as the values say. -/
def flatW : List Wr → List Value → List Value
  | [], _ => []
  | x :: xs, vs => .int .i64 x.at_ :: vs.headD undef :: flatW xs vs.tail
theorem flatW_len (xs : List Wr) (vs : List Value) : (flatW xs vs).length = xs.length * 2 := by
  induction xs generalizing vs with
  | nil => rfl
  | cons x xs ih => simp only [flatW, List.length_cons, ih]; omega
theorem flatW_get (xs : List Wr) (vs : List Value) (hl : vs.length = xs.length) (i : Nat) (hi : i < xs.length) : (flatW xs vs)[i * 2]? = some (.int .i64 (xs.getD i wr0).at_) ∧ (flatW xs vs)[i * 2 + 1]? = some (vs.getD i undef) := by
  induction xs generalizing vs i with
  | nil => simp at hi
  | cons x xs ih =>
    cases vs with
    | nil => simp at hl
    | cons v vs =>
      cases i with
      | zero => exact ⟨rfl, rfl⟩
      | succ i =>
        have := ih vs (by simpa using hl) i (by simpa using hi)
        rw [show (i + 1) * 2 = i * 2 + 2 by omega, show i * 2 + 2 + 1 = i * 2 + 1 + 2 by omega]
        simpa [flatW] using this
theorem flatW_append (xs ys : List Wr) (vs us : List Value) (hl : vs.length = xs.length) : flatW (xs ++ ys) (vs ++ us) = flatW xs vs ++ flatW ys us := by
  induction xs generalizing vs with
  | nil =>
    cases vs with
    | nil => rfl
    | cons v vs => simp at hl
  | cons x xs ih =>
    cases vs with
    | nil => simp at hl
    | cons v vs => simp [flatW, ih vs (by simpa using hl)]
/-- An address at which pending writes lie. -/
def WrsAt (n₀ : Nat) (w : World) (A : Option Addr) (xs : List Wr) : Prop := ∃ vs, Rws n₀ w vs (xs.map Wr.data) ∧ (0 < xs.length → ∃ b o, A = some ⟨b, o, none⟩ ∧ Lies n₀ w b ∧ ∀ j, j < xs.length * 2 → w.cell? ⟨b, o + j, none⟩ = (flatW xs vs)[j]?)
theorem WrsAt.below {w w' : World} {A : Option Addr} {xs : List Wr} (h : WrsAt n₀ w A xs) (hb : Below w.heap.size w w') : WrsAt n₀ w' A xs := by
  obtain ⟨vs, h1, h2⟩ := h
  refine ⟨vs, h1.below hb, fun h0 => ?_⟩
  obtain ⟨b, o, e, hlt, hc⟩ := h2 h0
  exact ⟨b, o, e, hlt.below hb, fun i hi => (hb.cell (p := ⟨b, _, none⟩) hlt.lt).trans (hc i hi)⟩
theorem WrsAt.keep {w w' : World} {A : Option Addr} {xs : List Wr} {may : Nat → Prop} (h : WrsAt n₀ w A xs) (hk : Keep may w w') (hm : Boxes n₀ w may) : WrsAt n₀ w' A xs := by
  obtain ⟨vs, h1, h2⟩ := h
  refine ⟨vs, h1.keep hk hm, fun h0 => ?_⟩
  obtain ⟨b, o, e, hlt, hc⟩ := h2 h0
  exact ⟨b, o, e, hlt.keep hk hm, fun i hi => (hk.cell (p := ⟨b, _, none⟩) hlt.lt (hlt.may hm)).trans (hc i hi)⟩
theorem WrsAt.nil (w : World) (A : Option Addr) : WrsAt n₀ w A [] := ⟨[], ⟨rfl, fun i hi => absurd hi (by simp)⟩, fun h => absurd h (by simp)⟩
theorem WrsAt.get {w : World} {A : Option Addr} {xs : List Wr} (h : WrsAt n₀ w A xs) (h0 : 0 < xs.length) : ∃ b o, A = some ⟨b, o, none⟩ ∧ b < w.heap.size ∧ ∀ i, i < xs.length → w.cell? ⟨b, o + i * 2, none⟩ = some (.int .i64 (xs.getD i wr0).at_) ∧ ∃ A' c', w.cell? ⟨b, o + i * 2 + 1, none⟩ = some (.slice A' (xs.getD i wr0).data.length c') ∧ (xs.getD i wr0).data.length ≤ c' ∧ BsAt n₀ w A' (xs.getD i wr0).data := by
  obtain ⟨vs, h1, h2⟩ := h
  obtain ⟨b, o, e, hlt, hc⟩ := h2 h0
  have hl : vs.length = xs.length := by have := h1.1; simpa using this
  refine ⟨b, o, e, hlt.lt, fun i hi => ?_⟩
  obtain ⟨f1, f2⟩ := flatW_get xs vs hl i hi
  obtain ⟨A', c', e', hc', hb⟩ := h1.2 i (by simpa using hi)
  have e2 : (xs.map Wr.data).getD i [] = (xs.getD i wr0).data := by simp [List.getD, hi]
  rw [e2] at e' hc' hb
  exact ⟨by rw [hc _ (by omega), f1], A', c', by rw [Nat.add_assoc, hc _ (by omega), f2, e'], hc', hb⟩

/-- A disk. -/
structure Dk where
  secs : List Bs
  pend : List Wr
  left : Int
  stop : Bool
def dk0 : Dk := ⟨[], [], 0, false⟩
/-- A value that reads as a disk. -/
def DkV (n₀ : Nat) (w : World) (v : Value) (d : Dk) : Prop := ∃ SA sc PA pc, v = .agg #[.slice SA d.secs.length sc, .slice PA d.pend.length pc, .int .i64 d.left, .bool d.stop] ∧ d.secs.length ≤ sc ∧ d.pend.length ≤ pc ∧ RowsAt n₀ w SA d.secs ∧ WrsAt n₀ w PA d.pend
theorem DkV.below {w w' : World} {v : Value} {d : Dk} (h : DkV n₀ w v d) (hb : Below w.heap.size w w') : DkV n₀ w' v d := by
  obtain ⟨SA, sc, PA, pc, e, h1, h2, h3, h4⟩ := h
  exact ⟨SA, sc, PA, pc, e, h1, h2, h3.below hb, h4.below hb⟩

/-- A pending write that is not right. -/
def badW (n : Nat) (x : Wr) : Bool := !decide (0 ≤ x.at_ ∧ x.at_ < n ∧ x.data.length = 128)
/-- A disk that is right. -/
def Val (d : Dk) : Prop := 1 ≤ d.secs.length ∧ d.secs.length ≤ 4096 ∧ d.pend.length ≤ 4096 ∧ -1 ≤ d.left ∧ d.left ≤ 65536 ∧ (∀ x ∈ d.pend, 0 ≤ x.at_ ∧ x.at_ < d.secs.length ∧ x.data.length = 128) ∧ ∀ b ∈ d.secs, b.length = 128
open Classical in
noncomputable def gChk (d : Dk) : Int := if Val d then 0 else 40
end Go.Proofs.Ytckeopidedoohaa
