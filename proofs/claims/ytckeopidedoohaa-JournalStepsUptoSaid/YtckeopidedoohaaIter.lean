/-
  A range over a function, where the iterator keeps state of its own in memory: blocks are coloured by who may write them (the iterator, the caller, nobody), and each side leaves the other's alone. Conditions: the wide fence, an outermost loop.
-/
import Derived.Test.YtckeopidedoohaaBase
import Derived.RangeFuncNested
import Derived.RangeFuncBound
import Derived.RangeFuncCalls
import Derived.RangeFuncLeaves
import Derived.OwnWalkIn
import Derived.TacticsInMore
import Derived.LoopNIn
import Derived.LoopIn
namespace Go.Proofs.Ytckeopidedoohaa
open Go.RowKit

/-- Who may write a block: the iterator ('it'), the loop's owner ('cl'). -/
structure Col where
  it : Nat → Prop
  cl : Nat → Prop
/-- What is new from block n on is the loop's owner's. -/
def Col.by (c : Col) (n : Nat) : Col := ⟨fun r => r < n ∧ c.it r, fun r => n ≤ r ∨ c.cl r⟩
/-- What is new from block n on is the iterator's. -/
def Col.own (c : Col) (n : Nat) : Col := ⟨fun r => n ≤ r ∨ c.it r, fun r => r < n ∧ c.cl r⟩
def Col.Same (n : Nat) (c c' : Col) : Prop := ∀ r, r < n → (c'.it r ↔ c.it r) ∧ (c'.cl r ↔ c.cl r)

theorem Col.same_own (c : Col) (n : Nat) : Col.Same n c (c.own n) := fun r hr => ⟨⟨fun h => h.resolve_left (by omega), .inr⟩, ⟨fun h => h.2, fun h => ⟨hr, h⟩⟩⟩
theorem Col.same_by (c : Col) (n : Nat) : Col.Same n c (c.by n) := fun r hr => ⟨⟨fun h => h.2, fun h => ⟨hr, h⟩⟩, ⟨fun h => h.resolve_left (by omega), .inr⟩⟩
theorem Col.same_refl (n : Nat) (c : Col) : Col.Same n c c := fun _ _ => ⟨Iff.rfl, Iff.rfl⟩

/-- Nothing has changed but blocks that 'may' names, and new ones. -/
structure Keep (may : Nat → Prop) (W W' : World) : Prop where
  os : W'.os = W.os
  tape : W'.tape = W.tape
  output : W'.output = W.output
  size : W.heap.size ≤ W'.heap.size
  block : ∀ r, r < W.heap.size → ¬ may r → W'.heap[r]? = W.heap[r]?

theorem Keep.refl (may : Nat → Prop) (W : World) : Keep may W W := ⟨rfl, rfl, rfl, Nat.le_refl _, fun _ _ _ => rfl⟩
theorem Keep.trans {may : Nat → Prop} {a b c : World} (h : Keep may a b) (k : Keep may b c) : Keep may a c :=
  ⟨k.os.trans h.os, k.tape.trans h.tape, k.output.trans h.output, Nat.le_trans h.size k.size, fun r hr hn => (k.block r (Nat.lt_of_lt_of_le hr h.size) hn).trans (h.block r hr hn)⟩
theorem Keep.then {may may' : Nat → Prop} {a b c : World} (h : Keep may a b) (k : Keep may' b c) (hm : ∀ r, r < a.heap.size → may' r → may r) : Keep may a c :=
  ⟨k.os.trans h.os, k.tape.trans h.tape, k.output.trans h.output, Nat.le_trans h.size k.size, fun r hr hn => (k.block r (Nat.lt_of_lt_of_le hr h.size) (fun hx => hn (hm r hr hx))).trans (h.block r hr hn)⟩
theorem Keep.mono {may may' : Nat → Prop} {a b : World} (h : Keep may a b) (hm : ∀ r, r < a.heap.size → may r → may' r) : Keep may' a b :=
  ⟨h.os, h.tape, h.output, h.size, fun r hr hn => h.block r hr (fun hx => hn (hm r hr hx))⟩
theorem Keep.of_below {B : Nat} {a b : World} (h : Below B a b) (may : Nat → Prop) (hB : ∀ r, B ≤ r → r < a.heap.size → may r) : Keep may a b :=
  ⟨h.os, h.tape, h.output, h.size, fun r hr hn => h.block r (Nat.lt_of_not_le fun hle => hn (hB r hle hr))⟩
theorem Keep.of_same {a b : World} (h : Below a.heap.size a b) (may : Nat → Prop) : Keep may a b := Keep.of_below h may fun r h1 h2 => by omega
theorem Keep.cell {may : Nat → Prop} {a b : World} (h : Keep may a b) {p : Addr} (hp : p.block < a.heap.size) (hn : ¬ may p.block) : b.cell? p = a.cell? p := World.cell?_of_block (w := a) (h.block _ hp hn)
theorem Keep.frozen {may : Nat → Prop} {a b : World} (h : Keep may a b) {p : Addr} (hp : p.block < a.heap.size) (hn : ¬ may p.block) : b.frozen? p = a.frozen? p := World.frozen?_of_block (w := a) (h.block _ hp hn)
theorem Keep.setCell {may : Nat → Prop} {a b : World} (h : Keep may a b) {p : Addr} (hp : p.block < a.heap.size → may p.block) (u : Value) : Keep may a (b.setCell p u) :=
  ⟨h.os, h.tape, h.output, by have := h.size; simpa [World.setCell] using this, fun r hr hn => (Below.heap_setCell _ _ _ _ (fun e => hn (by subst e; exact hp hr))).trans (h.block r hr hn)⟩
theorem Keep.alloc {may : Nat → Prop} {a b : World} (h : Keep may a b) (o : Obj) : Keep may a (b.alloc o) :=
  ⟨h.os, h.tape, h.output, Nat.le_trans h.size (by simp), fun r hr hn => (Below.heap_alloc _ _ _ (Nat.lt_of_lt_of_le hr h.size)).trans (h.block r hr hn)⟩
theorem Keep.drewN {may : Nat → Prop} {a b : World} (h : Keep may a b) (n : Nat) : Keep may a (b.drewN n) := ⟨h.os, h.tape, h.output, h.size, h.block⟩
theorem Keep.drew {may : Nat → Prop} {a b : World} (h : Keep may a b) : Keep may a b.drew := ⟨h.os, h.tape, h.output, h.size, h.block⟩
theorem Keep.putObj {may : Nat → Prop} {a b : World} (h : Keep may a b) {l : Nat} (hl : may l) (o : Obj) : Keep may a (b.putObj l o) :=
  ⟨h.os, h.tape, h.output, by simpa using h.size, fun r hr hn => (World.putObj_heap_other (fun e => hn (by subst e; exact hl))).trans (h.block r hr hn)⟩
theorem Keep.grown {may : Nat → Prop} {a b c : World} {row : Option Nat} (h : Keep may a b) (hg : b.grownBy c row) (hr : ∀ k, row = some k → k < a.heap.size → may k) : Keep may a c :=
  ⟨hg.os.trans h.os, hg.tape.trans h.tape, hg.output.trans h.output, Nat.le_trans h.size hg.size, fun r hr' hn => (hg.block r (Nat.lt_of_lt_of_le hr' h.size) (fun e => hn (hr r e.symm hr'))).trans (h.block r hr' hn)⟩
theorem Keep.below {may : Nat → Prop} {a b : World} (h : Keep may a b) {B : Nat} (hB : B ≤ a.heap.size) (hm : ∀ r, r < B → ¬ may r) : Below B a b :=
  ⟨h.os, h.tape, h.output, h.size, fun r hr => h.block r (Nat.lt_of_lt_of_le hr hB) (hm r hr)⟩

/-- A word on the world that abides the iterator's own steps, and what is new. -/
def Stable {α : Type} (I : Col → List α → World → Prop) : Prop := ∀ c c' s W W', I c s W → Keep c.it W W' → Col.Same W.heap.size c c' → I c' s W'

/-- An iterator's contract: whatever its caller keeps, it hands on its elements one by one; it writes 'its' blocks and its new ones alone; the caller leaves these, and those that it reads ('ros'), as they are. -/
def IterC {α : Type} (n : Nat) (P : Program) (g : Nat) (lb : Array Value) (encs : α → Array Value) (S Sp : List α → Prop) (w : World) (its ros : Nat → Prop) : Prop :=
  ∀ (l : Nat) (J Jx : Col → List α → World → Prop) (c0 : Col) (W : World), Below w.heap.size w W → Stable J → Stable Jx → (∀ r, its r → c0.it r) → (∀ r, its r ∨ ros r → ¬ c0.cl r) →
    (∀ c pre x W1, J c pre W1 → Sp (pre ++ [x]) → YieldAt Fence.wide (n - 1) P l (encs x) W1 fun e W' =>
      Keep c.cl W1 W' ∧ ((e = .returned (.bool true) ∧ J (c.by W1.heap.size) (pre ++ [x]) W') ∨ (e = .returned (.bool false) ∧ Jx (c.by W1.heap.size) (pre ++ [x]) W'))) →
    J c0 [] W →
    CallsIn Fence.wide n P g (#[.func (.yield l) #[] #[]] ++ lb) W fun e W' => (∃ v, e = .returned v) ∧ ((∃ c xs, S xs ∧ J c xs W') ∨ (∃ c pre, Sp pre ∧ Jx c pre W'))

/-- How the body of a round may be left. -/
def bodyPostC {α : Type} (c : Col) (I : Col → List α → World → Prop) (Ix : Code → Col → List α → World → Prop) (s : List α) (W : World) : Exit → Act → World → Prop
  | .normal, _, W' => Keep c.cl W W' ∧ I (c.by W.heap.size) s W'
  | .ret, _, W' => Keep c.cl W W' ∧ Ix .ret (c.by W.heap.size) s W'
  | .exit id, _, W' => Keep c.cl W W' ∧ Ix (.exit id) (c.by W.heap.size) s W'
  | .goto t, _, W' => Keep c.cl W W' ∧ Ix (.goto t) (c.by W.heap.size) s W'
  | .panic _, _, _ => False
  | .outgrown, _, _ => False

/-- The wide fence lets every function in, and asks for no depth. -/
theorem wide_fn (k : Nat) : Fence.wide.fn k = True := rfl
theorem wide_depth : Fence.wide.depth = none := rfl
attribute [go_sem] wide_fn wide_depth

variable {P : Program} {n : Nat}

theorem wpIn_range {α : Type} {g : Operand} {ps : Array Tmp} {assign body : Code} {Q : Exit → Act → World → Prop} {a : Act} {w : World} (h1 : 1 ≤ n)
    {gf : Nat} {lb : Array Value} (hg : a.eval g = .func (.func gf) #[] lb) (eg : ∀ args w, (callFunc gf args).run P w = .ok (.enter gf args) w)
    {encs : α → Array Value} {S Sp : List α → Prop} {its ros : Nat → Prop} (hseq : IterC (n - 1) P gf lb encs S Sp w its ros) (hps : ∀ x, (encs x).size = ps.size)
    (I : Col → List α → World → Prop) (Ix : Code → Col → List α → World → Prop) (hI : Stable I) (hIx : ∀ j, Stable (Ix j))
    (c0 : Col) (hc1 : ∀ r, its r → c0.it r) (hc2 : ∀ r, its r ∨ ros r → ¬ c0.cl r) (hc3 : ∀ r, its r ∨ ros r → r < w.heap.size) (h0 : I c0 [] w)
    (fa : Act → α → Nat → Act) (Ax : α → Nat → World → Prop) (hAx : ∀ x B W1 W2, Ax x B W1 → Keep (fun r => r < B) W1 W2 → Ax x B W2)
    (hassign : ∀ (l : Nat) (x : α) (W : World) (K : Act → World → Prop), (∀ W1, Below W.heap.size W W1 → Ax x W.heap.size W1 → K (fa { tmps := a.tmps, defers := [] } x W.heap.size) W1) →
      assign.wpIn (Fence.wide.inRound l) (n - 1 - 1) P (Exit.then K (fun _ _ _ => False)) { tmps := (ps.zip (encs x)).foldl (fun t (p, v) => t.setIfInBounds p v) a.tmps, defers := [] } W)
    (hbody : ∀ (l : Nat) (c : Col) (pre : List α) (x : α) (B : Nat) (W : World), I c pre W → Ax x B W → B ≤ W.heap.size → (∀ r, B ≤ r → c.cl r ∧ ¬ c.it r) → Sp (pre ++ [x]) →
      body.wpIn (Fence.wide.inRound l) (n - 1 - 1) P (bodyPostC c I Ix (pre ++ [x]) W) (fa { tmps := a.tmps, defers := [] } x B) W)
    (hdone : ∀ (D : Nat) (c : Col) (xs : List α) (W : World), w.heap.size ≤ D → S xs → I c xs W → W.heap[D]? = some (.deferred (some [])) → Q .normal { a with defers := { target := .collected D, args := #[] } :: a.defers } W)
    (hstop : ∀ (D : Nat) (j : Code) (c : Col) (pre : List α) (W : World), w.heap.size ≤ D → Sp pre → Ix j c pre W → W.heap[D]? = some (.deferred (some [])) → j.wpIn Fence.wide n P Q { a with defers := { target := .collected D, args := #[] } :: a.defers } W) :
    (Code.rangeFunc g ps assign body).wpIn Fence.wide n P Q a w := by
  refine wpIn_rangeFunc ?_
  intro fn hfn
  obtain ⟨rec, hrec⟩ : ∃ rec : LoopState → Option Code → Loop, rec = fun st pe => { state := st, pending := pe, fn, tmps := a.tmps, params := ps, assign, body, defers := w.heap.size } := ⟨_, rfl⟩
  obtain ⟨L, hLe⟩ : ∃ L, L = w.heap.size + 1 := ⟨_, rfl⟩
  obtain ⟨D, hDe⟩ : ∃ D, D = w.heap.size := ⟨_, rfl⟩
  obtain ⟨W1, hW1⟩ : ∃ W1, (w.alloc (.deferred (some []))).alloc (.loop (rec .ready none)) = W1 := ⟨_, rfl⟩
  have hL1 : W1.heap[L]? = some (.loop (rec .ready none)) := by
    rw [← hW1, hLe]; have := World.alloc_heap_new (w.alloc (.deferred (some []))) (.loop (rec .ready none)); rwa [World.size_alloc] at this
  have hD1 : W1.heap[D]? = some (.deferred (some [])) := by
    rw [← hW1, hDe]; exact (Below.heap_alloc _ _ _ (by simp)).trans (World.alloc_heap_new w _)
  have hbW : Below w.heap.size w W1 := by
    rw [← hW1]; exact (((Below.refl _ w).alloc (Nat.le_refl _) _).alloc (by simp) _)
  refine ⟨L, [{ target := .collected D, args := #[] }], W1, { target := .fn (.func gf) lb, args := #[.func (.yield L) #[] #[]] }, W1, gf,
    #[.func (.yield L) #[] #[]] ++ lb, W1, ?_, ?_, ?_, ?_, fun _ => h1, ?_⟩
  · rw [← hW1, hrec, hLe, hDe]; exact run_enterLoop_outer _ _ _ _ _
  · simp only [resolve, hg]
    simp [go_sem]
  · intro f' _; trivial
  · simp [invoke, go_sem, eg]
  · -- from the iterator's colours to the caller's
    obtain ⟨inn, hinn⟩ : ∃ inn : Col → Col, inn = fun c => ⟨fun r => c.it r ∨ r = L ∨ r = D, fun r => c.cl r ∧ r ≠ L ∧ r ≠ D⟩ := ⟨_, rfl⟩
    have hit : ∀ c r, (inn c).it r ↔ (c.it r ∨ r = L ∨ r = D) := fun c r => by rw [hinn]
    have hcl : ∀ c r, (inn c).cl r ↔ (c.cl r ∧ r ≠ L ∧ r ≠ D) := fun c r => by rw [hinn]
    have hsame : ∀ {k : Nat} {c c' : Col}, Col.Same k c c' → Col.Same k (inn c) (inn c') := fun {k c c'} h r hr => by
      obtain ⟨ha, hb⟩ := h r hr
      rw [hit, hit, hcl, hcl, ha, hb]
      exact ⟨Iff.rfl, Iff.rfl⟩
    refine (hseq L
      (fun c pre W => (¬ c.it L ∧ ¬ c.it D ∧ c.cl L ∧ c.cl D) ∧ I (inn c) pre W ∧ W.heap[L]? = some (.loop (rec .ready none)) ∧ W.heap[D]? = some (.deferred (some [])))
      (fun c pre W => (¬ c.it L ∧ ¬ c.it D ∧ c.cl L ∧ c.cl D) ∧ ∃ j, Ix j (inn c) pre W ∧ W.heap[L]? = some (.loop (rec .done (some j))) ∧ W.heap[D]? = some (.deferred (some [])))
      ⟨fun r => c0.it r ∧ r ≠ L ∧ r ≠ D, fun r => c0.cl r ∨ r = L ∨ r = D⟩ W1 hbW ?_ ?_ ?_ ?_ ?_ ?_).mono ?_
    · rintro c c' s A B ⟨⟨a1, a2, a3, a4⟩, hi, hl, hd⟩ hk hs
      have hLs : L < A.heap.size := (Array.getElem?_eq_some_iff.1 hl).1
      have hDs : D < A.heap.size := (Array.getElem?_eq_some_iff.1 hd).1
      refine ⟨⟨fun h => a1 ((hs L hLs).1.1 h), fun h => a2 ((hs D hDs).1.1 h), (hs L hLs).2.2 a3, (hs D hDs).2.2 a4⟩, hI _ _ _ _ _ hi (hk.mono fun r _ h => (hit c r).2 (.inl h)) (hsame hs), (hk.block L hLs a1).trans hl, (hk.block D hDs a2).trans hd⟩
    · rintro c c' s A B ⟨⟨a1, a2, a3, a4⟩, j, hi, hl, hd⟩ hk hs
      have hLs : L < A.heap.size := (Array.getElem?_eq_some_iff.1 hl).1
      have hDs : D < A.heap.size := (Array.getElem?_eq_some_iff.1 hd).1
      refine ⟨⟨fun h => a1 ((hs L hLs).1.1 h), fun h => a2 ((hs D hDs).1.1 h), (hs L hLs).2.2 a3, (hs D hDs).2.2 a4⟩, j, hIx _ _ _ _ _ _ hi (hk.mono fun r _ h => (hit c r).2 (.inl h)) (hsame hs), (hk.block L hLs a1).trans hl, (hk.block D hDs a2).trans hd⟩
    · intro r hr
      have := hc3 r (.inl hr)
      exact ⟨hc1 r hr, by omega, by omega⟩
    · intro r hr
      have := hc3 r hr
      rintro (h | h | h)
      · exact hc2 r hr h
      · omega
      · omega
    · -- one round
      rintro c pre x W ⟨⟨a1, a2, a3, a4⟩, hi, hl, hd⟩ hlen
      have hLs : L < W.heap.size := (Array.getElem?_eq_some_iff.1 hl).1
      have hDs : D < W.heap.size := (Array.getElem?_eq_some_iff.1 hd).1
      have hy := run_yield (P := P) (args := encs x) hl (by rw [hrec]; exact hps x)
      rw [hrec] at hy
      refine ⟨fn, _, assign, body, hy, roundIn_of_wpIn hfn (hassign _ x W _ ?_)⟩
      clear hy
      intro Wa hba hax
      have hLa : Wa.heap[L]? = some (.loop (rec .ready none)) := (hba.block L hLs).trans hl
      have hDa : Wa.heap[D]? = some (.deferred (some [])) := (hba.block D hDs).trans hd
      have hLas : L < Wa.heap.size := (Array.getElem?_eq_some_iff.1 hLa).1
      refine ⟨_, run_beginRound hLa (by rw [hrec]), ?_⟩
      obtain ⟨Wb, hWb⟩ : ∃ Wb, Wa.putObj L (.loop { rec .ready none with state := .busy }) = Wb := ⟨_, rfl⟩
      have hLb : Wb.heap[L]? = some (.loop { rec .ready none with state := .busy }) := by rw [← hWb]; exact World.putObj_heap_same hLas
      have hDb : Wb.heap[D]? = some (.deferred (some [])) := by rw [← hWb]; exact (World.putObj_heap_other (by omega)).trans hDa
      have hkab : Keep (fun r => r = L) Wa Wb := by rw [← hWb]; exact (Keep.refl (fun r => r = L) Wa).putObj (l := L) rfl _
      have hsab : Wb.heap.size = Wa.heap.size := by rw [← hWb]; simp
      rw [hWb]
      have hkb : Keep (fun r => r = L) W Wb := (Keep.of_same hba _).trans hkab
      have hib : I ((inn c).by W.heap.size) pre Wb := hI _ _ _ _ _ hi (hkb.mono fun r _ h => (hit c r).2 (.inr (.inl h))) (Col.same_by _ _)
      have haxb := hAx _ _ _ _ hax (hkab.mono fun r _ h => by rw [h]; exact hLs)
      refine wpIn_mono (hbody L _ pre x W.heap.size Wb hib haxb hkb.size (fun r hr => ⟨.inl hr, fun h => by have := h.1; omega⟩) hlen) ?_
      -- what lies behind the body: the record is turned once more
      have fin : ∀ (jump : Option Code) (W3 : World), Keep ((inn c).by W.heap.size).cl Wb W3 →
          (Instr.endRound L jump).run P W3 = .ok (.bool jump.isNone) (W3.putObj L (.loop (rec (if jump.isNone then .ready else .done) jump))) ∧
          (W3.putObj L (.loop (rec (if jump.isNone then .ready else .done) jump))).heap[L]? = some (.loop (rec (if jump.isNone then .ready else .done) jump)) ∧
          (W3.putObj L (.loop (rec (if jump.isNone then .ready else .done) jump))).heap[D]? = some (.deferred (some [])) ∧
          Keep c.cl W (W3.putObj L (.loop (rec (if jump.isNone then .ready else .done) jump))) ∧
          Keep (((inn c).by W.heap.size).by Wb.heap.size).it W3 (W3.putObj L (.loop (rec (if jump.isNone then .ready else .done) jump))) ∧
          Col.Same W3.heap.size (((inn c).by W.heap.size).by Wb.heap.size) (inn (c.by W.heap.size)) := fun jump W3 hk3 => by
        have nL : ¬ ((inn c).by W.heap.size).cl L := fun h => h.elim (fun h => by omega) (fun h => ((hcl c L).1 h).2.1 rfl)
        have nD : ¬ ((inn c).by W.heap.size).cl D := fun h => h.elim (fun h => by omega) (fun h => ((hcl c D).1 h).2.2 rfl)
        have hl3 := (hk3.block L (by omega) nL).trans hLb
        have hd3 := (hk3.block D (by omega) nD).trans hDb
        have := run_endRound (P := P) jump hl3
        rw [hrec] at this ⊢
        refine ⟨this, World.putObj_heap_same (Array.getElem?_eq_some_iff.1 hl3).1, (World.putObj_heap_other (by omega)).trans hd3, ?_, ?_, ?_⟩
        · refine ((hkb.mono fun r _ h => by rw [h]; exact a3).then hk3 fun r hr hx => ?_).putObj a3 _
          exact hx.elim (fun h => by omega) (fun hx => ((hcl c r).1 hx).1)
        · exact (Keep.refl _ _).putObj ⟨by omega, hLs, (hit c L).2 (.inr (.inl rfl))⟩ _
        · intro r hr
          have hsb : W.heap.size ≤ Wb.heap.size := hkb.size
          constructor
          · rw [hit]
            constructor
            · rintro (⟨h, h'⟩ | rfl | rfl)
              · exact ⟨by omega, h, (hit c r).2 (.inl h')⟩
              · exact ⟨by omega, hLs, (hit c _).2 (.inr (.inl rfl))⟩
              · exact ⟨by omega, hDs, (hit c _).2 (.inr (.inr rfl))⟩
            · rintro ⟨_, h, h'⟩
              rcases (hit c r).1 h' with h' | h' | h'
              · exact .inl ⟨h, h'⟩
              · exact .inr (.inl h')
              · exact .inr (.inr h')
          · rw [hcl]
            constructor
            · rintro ⟨h | h, h1, h2⟩
              · exact .inr (.inl h)
              · exact .inr (.inr ((hcl c r).2 ⟨h, h1, h2⟩))
            · rintro (h | h | h)
              · exact ⟨.inl (by omega), by omega, by omega⟩
              · exact ⟨.inl h, by omega, by omega⟩
              · have := (hcl c r).1 h
                exact ⟨.inr this.1, this.2⟩
      have nL' : (¬ (c.by W.heap.size).it L ∧ ¬ (c.by W.heap.size).it D ∧ (c.by W.heap.size).cl L ∧ (c.by W.heap.size).cl D) := ⟨fun h => a1 h.2, fun h => a2 h.2, .inr a3, .inr a4⟩
      rintro e a3' W3 hp
      cases e with
      | normal =>
        obtain ⟨hk3, hi3⟩ := hp
        obtain ⟨hr, hl4, hd4, hk4, hk5, hs5⟩ := fin none W3 hk3
        exact ⟨_, _, hr, hk4, .inl ⟨rfl, nL', hI _ _ _ _ _ hi3 hk5 hs5, hl4, hd4⟩⟩
      | ret =>
        obtain ⟨hk3, hi3⟩ := hp
        obtain ⟨hr, hl4, hd4, hk4, hk5, hs5⟩ := fin (some .ret) W3 hk3
        exact ⟨_, _, hr, hk4, .inr ⟨rfl, nL', .ret, hIx _ _ _ _ _ _ hi3 hk5 hs5, hl4, hd4⟩⟩
      | exit id =>
        obtain ⟨hk3, hi3⟩ := hp
        obtain ⟨hr, hl4, hd4, hk4, hk5, hs5⟩ := fin (some (.exit id)) W3 hk3
        exact ⟨_, _, hr, hk4, .inr ⟨rfl, nL', .exit id, hIx _ _ _ _ _ _ hi3 hk5 hs5, hl4, hd4⟩⟩
      | goto t =>
        obtain ⟨hk3, hi3⟩ := hp
        obtain ⟨hr, hl4, hd4, hk4, hk5, hs5⟩ := fin (some (.goto t)) W3 hk3
        exact ⟨_, _, hr, hk4, .inr ⟨rfl, nL', .goto t, hIx _ _ _ _ _ _ hi3 hk5 hs5, hl4, hd4⟩⟩
      | panic ch => exact hp.elim
      | outgrown => exact hp.elim
    · refine ⟨⟨fun h => h.2.1 rfl, fun h => h.2.2 rfl, .inr (.inl rfl), .inr (.inr rfl)⟩, hI _ _ _ _ _ h0 (Keep.of_same hbW _) (fun r hr => ?_), hL1, hD1⟩
      rw [hit, hcl]
      constructor
      · constructor
        · rintro (h | h | h)
          · exact h.1
          · omega
          · omega
        · exact fun h => .inl ⟨h, by omega, by omega⟩
      · constructor
        · rintro ⟨h | h | h, _, _⟩
          · exact h
          · omega
          · omega
        · exact fun h => ⟨.inl h, by omega, by omega⟩
    · -- behind the iterator
      rintro e W2 ⟨⟨v, rfl⟩, (⟨c, xs, hS, _, hi, hl, hd⟩ | ⟨c, pre, hSp, _, j, hi, hl, hd⟩)⟩
      · exact ⟨none, _, by have := run_endLoop (P := P) hl (by rw [hrec]; simp); rw [hrec] at this; exact this,
          hdone D (inn c) xs _ (by omega) hS (hI _ _ _ _ _ hi ((Keep.refl _ _).putObj ((hit c L).2 (.inr (.inl rfl))) _) (Col.same_refl _ _)) ((World.putObj_heap_other (by omega)).trans hd)⟩
      · exact ⟨some j, _, by have := run_endLoop (P := P) hl (by rw [hrec]; simp); rw [hrec] at this; exact this,
          hstop D j (inn c) pre _ (by omega) hSp (hIx _ _ _ _ _ _ hi ((Keep.refl _ _).putObj ((hit c L).2 (.inr (.inl rfl))) _) (Col.same_refl _ _)) ((World.putObj_heap_other (by omega)).trans hd)⟩

/-- A block that is the loop's owner's. -/
def Mine (c : Col) (B : Nat) : Prop := c.cl B ∧ ¬ c.it B
/-- A block of cells, none of them frozen. -/
def Blk (W : World) (B : Nat) (t : TypeId) (cs : Array Value) : Prop := W.heap[B]? = some (.cells cs t (0, 0))

section
variable {W W' : World} {B : Nat} {t : TypeId} {cs : Array Value}
theorem Blk.lt (h : Blk W B t cs) : B < W.heap.size := (Array.getElem?_eq_some_iff.1 h).1
theorem Blk.cell (h : Blk W B t cs) (i : Nat) : W.cell? ⟨B, i, none⟩ = cs[i]? := by unfold Blk at h; simp [World.cell?, h]
theorem Blk.frozen (h : Blk W B t cs) (i : Nat) : W.frozen? ⟨B, i, none⟩ = false := by unfold Blk at h; simp [World.frozen?, h]
theorem Blk.cell0 {v : Value} (h : Blk W B t #[v]) : W.cell? ⟨B, 0, none⟩ = some v := by rw [h.cell]; rfl
theorem Blk.keep {may : Nat → Prop} (h : Blk W B t cs) (hk : Keep may W W') (hn : ¬ may B) : Blk W' B t cs := (hk.block B h.lt hn).trans h
theorem Blk.below {n₀ : Nat} (h : Blk W B t cs) (hk : Below n₀ W W') (hn : B < n₀) : Blk W' B t cs := (hk.block B hn).trans h
theorem Blk.new (W : World) (t : TypeId) (cs : Array Value) : Blk (W.alloc (.cells cs t)) W.heap.size t cs := heap_alloc_new W _
theorem Blk.newAt (h : W.heap.size = B) (t : TypeId) (cs : Array Value) : Blk (W.alloc (.cells cs t)) B t cs := h ▸ Blk.new W t cs
theorem Blk.ne {t' : TypeId} {B' : Nat} {cs' : Array Value} (h : Blk W B t cs) (h' : Blk W B' t' cs') (hne : t ≠ t') : B ≠ B' := by
  rintro rfl
  unfold Blk at h h'
  rw [h] at h'
  simp only [Option.some.injEq, Obj.cells.injEq] at h'
  exact hne h'.2.1
theorem Blk.putObj {D : Nat} (h : Blk W B t cs) (hne : B ≠ D) (o : Obj) : Blk (W.putObj D o) B t cs := (World.putObj_heap_other hne).trans h
theorem below_putObj {n₀ D : Nat} {w W : World} (h : Below n₀ w W) (hD : n₀ ≤ D) (o : Obj) : Below n₀ w (W.putObj D o) :=
  ⟨h.os, h.tape, h.output, by simpa using h.size, fun k hk => (World.putObj_heap_other (by omega)).trans (h.block k hk)⟩
theorem Blk.alloc (h : Blk W B t cs) (o : Obj) : Blk (W.alloc o) B t cs := (Below.heap_alloc W o B h.lt).trans h
theorem Blk.drewN (h : Blk W B t cs) (n : Nat) : Blk (W.drewN n) B t cs := h
theorem Blk.set (h : Blk W B t cs) (i : Nat) (u : Value) : Blk (W.setCell ⟨B, i, none⟩ u) B t (cs.setIfInBounds i u) := by
  unfold Blk at h ⊢
  simp [World.setCell, Array.getElem?_modify, h]
theorem Blk.set0 {v : Value} (h : Blk W B t #[v]) (u : Value) : Blk (W.setCell ⟨B, 0, none⟩ u) B t #[u] := h.set 0 u
theorem Blk.other (h : Blk W B t cs) {p : Addr} (hp : B ≠ p.block) (u : Value) : Blk (W.setCell p u) B t cs := (Below.heap_setCell W p u B hp).trans h
end

section
variable {α : Type} {I J : Col → List α → World → Prop}
theorem Stable.and (h : Stable I) (k : Stable J) : Stable (fun c s W => I c s W ∧ J c s W) := fun c c' s W W' hs hk hc => ⟨h c c' s W W' hs.1 hk hc, k c c' s W W' hs.2 hk hc⟩
theorem Stable.pure (p : List α → Prop) : Stable (fun _ s _ => p s) := fun _ _ _ _ _ hs _ _ => hs
theorem Stable.ex {β : Type} {I : β → Col → List α → World → Prop} (h : ∀ v, Stable (I v)) : Stable (fun c s W => ∃ v, I v c s W) := fun c c' s W W' ⟨v, hs⟩ hk hc => ⟨v, h v c c' s W W' hs hk hc⟩
theorem Mine.same {c c' : Col} {n B : Nat} (h : Mine c B) (hc : Col.Same n c c') (hB : B < n) : Mine c' B := ⟨(hc B hB).2.2 h.1, fun hx => h.2 ((hc B hB).1.1 hx)⟩
theorem Mine.by {c : Col} {B : Nat} (h : Mine c B) (n : Nat) : Mine (c.by n) B := ⟨.inr h.1, fun hx => h.2 hx.2⟩
theorem Mine.new (c : Col) {B n : Nat} (h : n ≤ B) : Mine (c.by n) B := ⟨.inl h, fun hx => by have := hx.1; omega⟩
theorem Stable.blk (B : Nat) (t : TypeId) (f : List α → Array Value) : Stable (fun c s W => Mine c B ∧ Blk W B t (f s)) := fun _ _ _ _ _ hs hk hc => ⟨hs.1.same hc hs.2.lt, hs.2.keep hk hs.1.2⟩
/-- What lay below block n₀ when the call began lies as it lay. -/
def Old (n₀ : Nat) (w : World) (c : Col) (W : World) : Prop := (∀ r, r < n₀ → ¬ c.it r) ∧ Below n₀ w W
theorem Stable.old {n₀ : Nat} {w : World} (hn : n₀ ≤ w.heap.size) : Stable (fun c (_ : List α) W => Old n₀ w c W) := fun _ _ _ _ _ hs hk hc => by
  have hsz := Nat.le_trans hn hs.2.size
  exact ⟨fun r hr hx => hs.1 r hr ((hc r (Nat.lt_of_lt_of_le hr hsz)).1.1 hx), hs.2.trans (hk.below hsz hs.1)⟩
theorem Old.by {n₀ : Nat} {w : World} {c : Col} {W W' : World} (h : Old n₀ w c W) (n : Nat) (hk : Below n₀ W W') : Old n₀ w (c.by n) W' := ⟨fun r hr hx => h.1 r hr hx.2, h.2.trans hk⟩
end
end Go.Proofs.Ytckeopidedoohaa
