/-
  A range over a function whose iterator hands on memory of its own: a block that it made and does not write again. The law of Iter.lean with one word more at every yield. Conditions: the wide fence, an outermost loop. | A region that draws its order and whose last operations come behind all others: the first ones by the plain laws, the last ones inside the fence. Conditions: found by running through all sets of operations that may have come up. | The iterator over the records of some sectors. Conditions: sectors of 128 bytes, at most 4096 of them.
-/
import Derived.Test.YtckeopidedoohaaIter
import Derived.Deep.RegionHeld3
import Derived.OrdersIn
import Derived.Test.YtckeopidedoohaaTk
import Derived.Test.YtckeopidedoohaaJgo
namespace Go.Proofs.Ytckeopidedoohaa
open Go.RowKit

/-- What lies in memory when an element is handed on: its block, if it has one, and the iterator writes it no more. -/
def YV {α : Type} (bl : α → Option (Nat × TypeId × Array Value)) (c : Col) (x : α) (W : World) : Prop := ∀ g t cs, bl x = some (g, t, cs) → W.heap[g]? = some (.cells cs t (0, 0)) ∧ ¬ c.it g
/-- An iterator's contract: whatever its caller keeps, it hands on its elements one by one; it writes 'its' blocks and its new ones alone; the caller leaves these, and those that it reads ('ros'), as they are. -/
def IterV {α : Type} (bl : α → Option (Nat × TypeId × Array Value)) (n : Nat) (P : Program) (g : Nat) (lb : Array Value) (encs : α → Array Value) (S Sp : List α → Prop) (w : World) (its ros : Nat → Prop) : Prop :=
  ∀ (l : Nat) (J Jx : Col → List α → World → Prop) (c0 : Col) (W : World), Below w.heap.size w W → Stable J → Stable Jx → (∀ r, its r → c0.it r) → (∀ r, its r ∨ ros r → ¬ c0.cl r) →
    (∀ c pre x W1, J c pre W1 → YV bl c x W1 → Sp (pre ++ [x]) → YieldAt Fence.wide (n - 1) P l (encs x) W1 fun e W' =>
      Keep c.cl W1 W' ∧ ((e = .returned (.bool true) ∧ J (c.by W1.heap.size) (pre ++ [x]) W') ∨ (e = .returned (.bool false) ∧ Jx (c.by W1.heap.size) (pre ++ [x]) W'))) →
    J c0 [] W →
    CallsIn Fence.wide n P g (#[.func (.yield l) #[] #[]] ++ lb) W fun e W' => (∃ v, e = .returned v) ∧ ((∃ c xs, S xs ∧ J c xs W') ∨ (∃ c pre, Sp pre ∧ Jx c pre W'))

variable {P : Program} {n : Nat}

theorem wpIn_rangeV {α : Type} {g : Operand} {ps : Array Tmp} {assign body : Code} {Q : Exit → Act → World → Prop} {a : Act} {w : World} (h1 : 1 ≤ n)
    {gf : Nat} {lb : Array Value} (hg : a.eval g = .func (.func gf) #[] lb) (eg : ∀ args w, (callFunc gf args).run P w = .ok (.enter gf args) w)
    {encs : α → Array Value} {S Sp : List α → Prop} {its ros : Nat → Prop} {bl : α → Option (Nat × TypeId × Array Value)} (hseq : IterV bl (n - 1) P gf lb encs S Sp w its ros) (hps : ∀ x, (encs x).size = ps.size)
    (I : Col → List α → World → Prop) (Ix : Code → Col → List α → World → Prop) (hI : Stable I) (hIx : ∀ j, Stable (Ix j))
    (c0 : Col) (hc1 : ∀ r, its r → c0.it r) (hc2 : ∀ r, its r ∨ ros r → ¬ c0.cl r) (hc3 : ∀ r, its r ∨ ros r → r < w.heap.size) (h0 : I c0 [] w)
    (fa : Act → α → Nat → Act) (Ax : α → Nat → World → Prop) (hAx : ∀ x B W1 W2, Ax x B W1 → Keep (fun r => r < B) W1 W2 → Ax x B W2)
    (hassign : ∀ (l : Nat) (x : α) (W : World) (K : Act → World → Prop), (∀ W1, Below W.heap.size W W1 → Ax x W.heap.size W1 → K (fa { tmps := a.tmps, defers := [] } x W.heap.size) W1) →
      assign.wpIn (Fence.wide.inRound l) (n - 1 - 1) P (Exit.then K (fun _ _ _ => False)) { tmps := (ps.zip (encs x)).foldl (fun t (p, v) => t.setIfInBounds p v) a.tmps, defers := [] } W)
    (hbody : ∀ (l : Nat) (c : Col) (pre : List α) (x : α) (B : Nat) (W : World), I c pre W → Ax x B W → B ≤ W.heap.size → (∀ r, B ≤ r → c.cl r ∧ ¬ c.it r) → Sp (pre ++ [x]) → (∀ g t cs, bl x = some (g, t, cs) → W.heap[g]? = some (.cells cs t (0, 0)) ∧ g < B ∧ ¬ c.it g) →
      body.wpIn (Fence.wide.inRound l) (n - 1 - 1) P (bodyPostC c I Ix (pre ++ [x]) W) (fa { tmps := a.tmps, defers := [] } x B) W)
    (hdone : ∀ (D : Nat) (c : Col) (xs : List α) (W : World), w.heap.size ≤ D → S xs → I c xs W → W.heap[D]? = some (.deferred (some [])) → Q .normal { a with defers := { target := .collected D, args := #[] } :: a.defers } W)
    (hstop : ∀ (D : Nat) (j : Code) (c : Col) (pre : List α) (W : World), w.heap.size ≤ D → Sp pre → Ix j c pre W → W.heap[D]? = some (.deferred (some [])) → j.wpIn Fence.wide n P Q { a with defers := { target := .collected D, args := #[] } :: a.defers } W) :
    (Code.rangeFunc g ps assign body).wpIn Fence.wide n P Q a w := by
  refine wpIn_rangeFunc ?_
  intro fn hfn
  obtain ⟨rec, hrec⟩ : ∃ rec : LoopState → Option Code → Loop, rec = fun st pe => { state := st, pending := pe, fn, tmps := a.tmps, params := ps, assign, body, defers := w.heap.size } := ⟨_, rfl⟩
  obtain ⟨L, hLe⟩ : ∃ L, L = w.heap.size + 1 := ⟨_, rfl⟩
  obtain ⟨D, hDe⟩ : ∃ D, D = w.heap.size := ⟨_, rfl⟩
  obtain ⟨W1, hW1⟩ : ∃ W1, (w.alloc (.deferred (some []))).alloc (.loop (rec .ready none)) = W1 := ⟨_, rfl⟩
  have hL1 : W1.heap[L]? = some (.loop (rec .ready none)) := by
    rw [← hW1, hLe]; have := World.alloc_heap_new (w.alloc (.deferred (some []))) (.loop (rec .ready none)); rwa [World.size_alloc] at this
  have hD1 : W1.heap[D]? = some (.deferred (some [])) := by
    rw [← hW1, hDe]; exact (Below.heap_alloc _ _ _ (by simp)).trans (World.alloc_heap_new w _)
  have hbW : Below w.heap.size w W1 := by
    rw [← hW1]; exact (((Below.refl _ w).alloc (Nat.le_refl _) _).alloc (by simp) _)
  refine ⟨L, [{ target := .collected D, args := #[] }], W1, { target := .fn (.func gf) lb, args := #[.func (.yield L) #[] #[]] }, W1, gf,
    #[.func (.yield L) #[] #[]] ++ lb, W1, ?_, ?_, ?_, ?_, fun _ => h1, ?_⟩
  · rw [← hW1, hrec, hLe, hDe]; exact run_enterLoop_outer _ _ _ _ _
  · simp only [resolve, hg]
    simp [go_sem]
  · intro f' _; trivial
  · simp [invoke, go_sem, eg]
  · -- from the iterator's colours to the caller's
    obtain ⟨inn, hinn⟩ : ∃ inn : Col → Col, inn = fun c => ⟨fun r => c.it r ∨ r = L ∨ r = D, fun r => c.cl r ∧ r ≠ L ∧ r ≠ D⟩ := ⟨_, rfl⟩
    have hit : ∀ c r, (inn c).it r ↔ (c.it r ∨ r = L ∨ r = D) := fun c r => by rw [hinn]
    have hcl : ∀ c r, (inn c).cl r ↔ (c.cl r ∧ r ≠ L ∧ r ≠ D) := fun c r => by rw [hinn]
    have hsame : ∀ {k : Nat} {c c' : Col}, Col.Same k c c' → Col.Same k (inn c) (inn c') := fun {k c c'} h r hr => by
      obtain ⟨ha, hb⟩ := h r hr
      rw [hit, hit, hcl, hcl, ha, hb]
      exact ⟨Iff.rfl, Iff.rfl⟩
    refine (hseq L
      (fun c pre W => (¬ c.it L ∧ ¬ c.it D ∧ c.cl L ∧ c.cl D) ∧ I (inn c) pre W ∧ W.heap[L]? = some (.loop (rec .ready none)) ∧ W.heap[D]? = some (.deferred (some [])))
      (fun c pre W => (¬ c.it L ∧ ¬ c.it D ∧ c.cl L ∧ c.cl D) ∧ ∃ j, Ix j (inn c) pre W ∧ W.heap[L]? = some (.loop (rec .done (some j))) ∧ W.heap[D]? = some (.deferred (some [])))
      ⟨fun r => c0.it r ∧ r ≠ L ∧ r ≠ D, fun r => c0.cl r ∨ r = L ∨ r = D⟩ W1 hbW ?_ ?_ ?_ ?_ ?_ ?_).mono ?_
    · rintro c c' s A B ⟨⟨a1, a2, a3, a4⟩, hi, hl, hd⟩ hk hs
      have hLs : L < A.heap.size := (Array.getElem?_eq_some_iff.1 hl).1
      have hDs : D < A.heap.size := (Array.getElem?_eq_some_iff.1 hd).1
      refine ⟨⟨fun h => a1 ((hs L hLs).1.1 h), fun h => a2 ((hs D hDs).1.1 h), (hs L hLs).2.2 a3, (hs D hDs).2.2 a4⟩, hI _ _ _ _ _ hi (hk.mono fun r _ h => (hit c r).2 (.inl h)) (hsame hs), (hk.block L hLs a1).trans hl, (hk.block D hDs a2).trans hd⟩
    · rintro c c' s A B ⟨⟨a1, a2, a3, a4⟩, j, hi, hl, hd⟩ hk hs
      have hLs : L < A.heap.size := (Array.getElem?_eq_some_iff.1 hl).1
      have hDs : D < A.heap.size := (Array.getElem?_eq_some_iff.1 hd).1
      refine ⟨⟨fun h => a1 ((hs L hLs).1.1 h), fun h => a2 ((hs D hDs).1.1 h), (hs L hLs).2.2 a3, (hs D hDs).2.2 a4⟩, j, hIx _ _ _ _ _ _ hi (hk.mono fun r _ h => (hit c r).2 (.inl h)) (hsame hs), (hk.block L hLs a1).trans hl, (hk.block D hDs a2).trans hd⟩
    · intro r hr
      have := hc3 r (.inl hr)
      exact ⟨hc1 r hr, by omega, by omega⟩
    · intro r hr
      have := hc3 r hr
      rintro (h | h | h)
      · exact hc2 r hr h
      · omega
      · omega
    · -- one round
      rintro c pre x W ⟨⟨a1, a2, a3, a4⟩, hi, hl, hd⟩ hyv hlen
      have hLs : L < W.heap.size := (Array.getElem?_eq_some_iff.1 hl).1
      have hDs : D < W.heap.size := (Array.getElem?_eq_some_iff.1 hd).1
      have hy := run_yield (P := P) (args := encs x) hl (by rw [hrec]; exact hps x)
      rw [hrec] at hy
      refine ⟨fn, _, assign, body, hy, roundIn_of_wpIn hfn (hassign _ x W _ ?_)⟩
      clear hy
      intro Wa hba hax
      have hLa : Wa.heap[L]? = some (.loop (rec .ready none)) := (hba.block L hLs).trans hl
      have hDa : Wa.heap[D]? = some (.deferred (some [])) := (hba.block D hDs).trans hd
      have hLas : L < Wa.heap.size := (Array.getElem?_eq_some_iff.1 hLa).1
      refine ⟨_, run_beginRound hLa (by rw [hrec]), ?_⟩
      obtain ⟨Wb, hWb⟩ : ∃ Wb, Wa.putObj L (.loop { rec .ready none with state := .busy }) = Wb := ⟨_, rfl⟩
      have hLb : Wb.heap[L]? = some (.loop { rec .ready none with state := .busy }) := by rw [← hWb]; exact World.putObj_heap_same hLas
      have hDb : Wb.heap[D]? = some (.deferred (some [])) := by rw [← hWb]; exact (World.putObj_heap_other (by omega)).trans hDa
      have hkab : Keep (fun r => r = L) Wa Wb := by rw [← hWb]; exact (Keep.refl (fun r => r = L) Wa).putObj (l := L) rfl _
      have hsab : Wb.heap.size = Wa.heap.size := by rw [← hWb]; simp
      rw [hWb]
      have hkb : Keep (fun r => r = L) W Wb := (Keep.of_same hba _).trans hkab
      have hib : I ((inn c).by W.heap.size) pre Wb := hI _ _ _ _ _ hi (hkb.mono fun r _ h => (hit c r).2 (.inr (.inl h))) (Col.same_by _ _)
      have haxb := hAx _ _ _ _ hax (hkab.mono fun r _ h => by rw [h]; exact hLs)
      refine wpIn_mono (hbody L _ pre x W.heap.size Wb hib haxb hkb.size (fun r hr => ⟨.inl hr, fun h => by have := h.1; omega⟩) hlen (fun g t cs hg => by
        obtain ⟨h1, h2⟩ := hyv g t cs hg
        have gL : g ≠ L := fun h => by rw [h, hl] at h1; cases h1
        have gD : g ≠ D := fun h => by rw [h, hd] at h1; cases h1
        have hgs := (Array.getElem?_eq_some_iff.1 h1).1
        exact ⟨(hkb.block g hgs gL).trans h1, hgs, fun h => ((hit c g).1 h.2).elim h2 (fun h => h.elim gL gD)⟩)) ?_
      -- what lies behind the body: the record is turned once more
      have fin : ∀ (jump : Option Code) (W3 : World), Keep ((inn c).by W.heap.size).cl Wb W3 →
          (Instr.endRound L jump).run P W3 = .ok (.bool jump.isNone) (W3.putObj L (.loop (rec (if jump.isNone then .ready else .done) jump))) ∧
          (W3.putObj L (.loop (rec (if jump.isNone then .ready else .done) jump))).heap[L]? = some (.loop (rec (if jump.isNone then .ready else .done) jump)) ∧
          (W3.putObj L (.loop (rec (if jump.isNone then .ready else .done) jump))).heap[D]? = some (.deferred (some [])) ∧
          Keep c.cl W (W3.putObj L (.loop (rec (if jump.isNone then .ready else .done) jump))) ∧
          Keep (((inn c).by W.heap.size).by Wb.heap.size).it W3 (W3.putObj L (.loop (rec (if jump.isNone then .ready else .done) jump))) ∧
          Col.Same W3.heap.size (((inn c).by W.heap.size).by Wb.heap.size) (inn (c.by W.heap.size)) := fun jump W3 hk3 => by
        have nL : ¬ ((inn c).by W.heap.size).cl L := fun h => h.elim (fun h => by omega) (fun h => ((hcl c L).1 h).2.1 rfl)
        have nD : ¬ ((inn c).by W.heap.size).cl D := fun h => h.elim (fun h => by omega) (fun h => ((hcl c D).1 h).2.2 rfl)
        have hl3 := (hk3.block L (by omega) nL).trans hLb
        have hd3 := (hk3.block D (by omega) nD).trans hDb
        have := run_endRound (P := P) jump hl3
        rw [hrec] at this ⊢
        refine ⟨this, World.putObj_heap_same (Array.getElem?_eq_some_iff.1 hl3).1, (World.putObj_heap_other (by omega)).trans hd3, ?_, ?_, ?_⟩
        · refine ((hkb.mono fun r _ h => by rw [h]; exact a3).then hk3 fun r hr hx => ?_).putObj a3 _
          exact hx.elim (fun h => by omega) (fun hx => ((hcl c r).1 hx).1)
        · exact (Keep.refl _ _).putObj ⟨by omega, hLs, (hit c L).2 (.inr (.inl rfl))⟩ _
        · intro r hr
          have hsb : W.heap.size ≤ Wb.heap.size := hkb.size
          constructor
          · rw [hit]
            constructor
            · rintro (⟨h, h'⟩ | rfl | rfl)
              · exact ⟨by omega, h, (hit c r).2 (.inl h')⟩
              · exact ⟨by omega, hLs, (hit c _).2 (.inr (.inl rfl))⟩
              · exact ⟨by omega, hDs, (hit c _).2 (.inr (.inr rfl))⟩
            · rintro ⟨_, h, h'⟩
              rcases (hit c r).1 h' with h' | h' | h'
              · exact .inl ⟨h, h'⟩
              · exact .inr (.inl h')
              · exact .inr (.inr h')
          · rw [hcl]
            constructor
            · rintro ⟨h | h, h1, h2⟩
              · exact .inr (.inl h)
              · exact .inr (.inr ((hcl c r).2 ⟨h, h1, h2⟩))
            · rintro (h | h | h)
              · exact ⟨.inl (by omega), by omega, by omega⟩
              · exact ⟨.inl h, by omega, by omega⟩
              · have := (hcl c r).1 h
                exact ⟨.inr this.1, this.2⟩
      have nL' : (¬ (c.by W.heap.size).it L ∧ ¬ (c.by W.heap.size).it D ∧ (c.by W.heap.size).cl L ∧ (c.by W.heap.size).cl D) := ⟨fun h => a1 h.2, fun h => a2 h.2, .inr a3, .inr a4⟩
      rintro e a3' W3 hp
      cases e with
      | normal =>
        obtain ⟨hk3, hi3⟩ := hp
        obtain ⟨hr, hl4, hd4, hk4, hk5, hs5⟩ := fin none W3 hk3
        exact ⟨_, _, hr, hk4, .inl ⟨rfl, nL', hI _ _ _ _ _ hi3 hk5 hs5, hl4, hd4⟩⟩
      | ret =>
        obtain ⟨hk3, hi3⟩ := hp
        obtain ⟨hr, hl4, hd4, hk4, hk5, hs5⟩ := fin (some .ret) W3 hk3
        exact ⟨_, _, hr, hk4, .inr ⟨rfl, nL', .ret, hIx _ _ _ _ _ _ hi3 hk5 hs5, hl4, hd4⟩⟩
      | exit id =>
        obtain ⟨hk3, hi3⟩ := hp
        obtain ⟨hr, hl4, hd4, hk4, hk5, hs5⟩ := fin (some (.exit id)) W3 hk3
        exact ⟨_, _, hr, hk4, .inr ⟨rfl, nL', .exit id, hIx _ _ _ _ _ _ hi3 hk5 hs5, hl4, hd4⟩⟩
      | goto t =>
        obtain ⟨hk3, hi3⟩ := hp
        obtain ⟨hr, hl4, hd4, hk4, hk5, hs5⟩ := fin (some (.goto t)) W3 hk3
        exact ⟨_, _, hr, hk4, .inr ⟨rfl, nL', .goto t, hIx _ _ _ _ _ _ hi3 hk5 hs5, hl4, hd4⟩⟩
      | panic ch => exact hp.elim
      | outgrown => exact hp.elim
    · refine ⟨⟨fun h => h.2.1 rfl, fun h => h.2.2 rfl, .inr (.inl rfl), .inr (.inr rfl)⟩, hI _ _ _ _ _ h0 (Keep.of_same hbW _) (fun r hr => ?_), hL1, hD1⟩
      rw [hit, hcl]
      constructor
      · constructor
        · rintro (h | h | h)
          · exact h.1
          · omega
          · omega
        · exact fun h => .inl ⟨h, by omega, by omega⟩
      · constructor
        · rintro ⟨h | h | h, _, _⟩
          · exact h
          · omega
          · omega
        · exact fun h => ⟨.inl h, by omega, by omega⟩
    · -- behind the iterator
      rintro e W2 ⟨⟨v, rfl⟩, (⟨c, xs, hS, _, hi, hl, hd⟩ | ⟨c, pre, hSp, _, j, hi, hl, hd⟩)⟩
      · exact ⟨none, _, by have := run_endLoop (P := P) hl (by rw [hrec]; simp); rw [hrec] at this; exact this,
          hdone D (inn c) xs _ (by omega) hS (hI _ _ _ _ _ hi ((Keep.refl _ _).putObj ((hit c L).2 (.inr (.inl rfl))) _) (Col.same_refl _ _)) ((World.putObj_heap_other (by omega)).trans hd)⟩
      · exact ⟨some j, _, by have := run_endLoop (P := P) hl (by rw [hrec]; simp); rw [hrec] at this; exact this,
          hstop D j (inn c) pre _ (by omega) hSp (hIx _ _ _ _ _ _ hi ((Keep.refl _ _).putObj ((hit c L).2 (.inr (.inl rfl))) _) (Col.same_refl _ _)) ((World.putObj_heap_other (by omega)).trans hd)⟩

end Go.Proofs.Ytckeopidedoohaa

namespace Go.Proofs.Ytckeopidedoohaa
open Go.RowKit

/-- All sets of places below k. -/
def masks : Nat → List (List Bool)
  | 0 => [[]]
  | k + 1 => (masks k).map (List.cons true) ++ (masks k).map (List.cons false)
theorem masks_all (l : List Bool) : l ∈ masks l.length := by
  induction l with
  | nil => simp [masks]
  | cons b l ih =>
    simp only [List.length_cons, masks, List.mem_append, List.mem_map, List.cons.injEq]
    cases b
    · exact .inr ⟨l, ih, rfl, rfl⟩
    · exact .inl ⟨l, ih, rfl, rfl⟩
def unlisted (l : List Bool) : Nat := (l.filter (!·)).length
/-- Whatever has come up, what it waits for has come up. -/
def closedB (ops : Array Oper) (l : List Bool) : Bool :=
  (List.range l.length).all fun i => !(l.getD i false) || ((ops[i]?).map fun o => o.after.all fun e => !(Region.binds .any e) || l.getD e.on false).getD true
def full (l : List Bool) (t : Nat) : Array Bool := (l ++ List.replicate t false).toArray
def maskOk (ops pre : Array Oper) (t : Nat) (l : List Bool) : Bool :=
  !closedB pre l || unlisted l == 0 ||
    (Region.ready .any ops (full l t) == Region.ready .any pre l.toArray && !(Region.ready .any pre l.toArray).isEmpty &&
      (Region.ready .any pre l.toArray).all fun i => decide (i < l.length) && closedB pre (l.set i true) && unlisted (l.set i true) + 1 == unlisted l)
def splitOk (ops pre : Array Oper) (k t : Nat) : Bool := (masks k).all (maskOk ops pre t)

theorem operIn_wide {P : Program} {Q R : Exit → Act → World → Prop} (n : Nat) {o : Oper} (hd : ∀ c, o.op ≠ .defer c) (hR : ¬ LetsOut R) (hp : ∀ c a w, R (.panic c) a w → Q (.panic c) a w) {a : Act} {w : World} {K : Act → World → Prop} (h : o.wp P a w K R) :
    o.wpIn Fence.wide n P a w K Q := by
  unfold Oper.wpIn
  refine ⟨fun f _ => trivial, ?_⟩
  rw [Oper.semAt_eq _ _ _ hd]
  unfold Oper.wp at h
  generalize hg : (execOp a.eval o).run P w = r at *
  cases r with
  | ok x w' =>
    cases x <;> simp only [Oper.upon, Oper.uponIn] at h ⊢ <;> first | exact h | skip
    case enter f args =>
      refine ⟨fun hx => by simp [Fence.wide] at hx, callsIn_wide.2 (h.mono fun e w'' he => ?_)⟩
      cases e with
      | returned v => exact he
      | panicked c => exact hp _ _ _ he
      | outgrown => exact (hR he).elim
    case row row args => exact ⟨fun hx => by simp [Fence.wide] at hx, fun c cs _ => let ⟨v, w', r, s⟩ := h c cs; ⟨v, w', r, stepsIn_wide.2 s⟩⟩
  | halt x w' => cases x <;> simp only [Oper.upon, Oper.uponIn] at h ⊢ <;> first | exact h | exact hp _ _ _ h

/-- What holds behind the first ones: the rest of the region is still to come. -/
def Rest (n : Nat) (P : Program) (ops : Array Oper) (Q : Exit → Act → World → Prop) (k t : Nat) : Exit → Act → World → Prop
  | .normal, a, w => wpAnyIn Fence.wide n P .any ops Q t (full (List.replicate k true) t) a w
  | .panic c, a, w => Q (.panic c) a w
  | _, _, _ => False
theorem rest_shut {n : Nat} {P : Program} {ops : Array Oper} {Q : Exit → Act → World → Prop} {k t : Nat} : ¬ LetsOut (Rest n P ops Q k t) := fun ⟨_, _, h⟩ => h

theorem none_unlisted {l : List Bool} (h : unlisted l = 0) : l = List.replicate l.length true := by
  induction l with
  | nil => rfl
  | cons b l ih =>
    unfold unlisted at h ih
    cases b
    · simp at h
    · simp only [List.length_cons, List.replicate_succ]
      congr 1
      exact ih (by simpa using h)
theorem full_set {l : List Bool} {t i : Nat} (hi : i < l.length) : (full l t).setIfInBounds i true = full (l.set i true) t := by
  unfold full
  rw [List.setIfInBounds_toArray, List.set_append_left _ _ hi]

def plainOps (pre : Array Oper) : Bool := pre.toList.all fun o => o.guard.isNone && (match o.op with | .defer _ => false | _ => true)
theorem plain_spec {pre : Array Oper} (h : plainOps pre = true) {i : Nat} {o : Oper} (ho : pre[i]? = some o) : o.guard = none ∧ ∀ c, o.op ≠ .defer c := by
  have hm : o ∈ pre.toList := by
    obtain ⟨hi, he⟩ := Array.getElem?_eq_some_iff.1 ho
    rw [← he]
    simp
  have := List.all_eq_true.1 h o hm
  simp only [Bool.and_eq_true] at this
  refine ⟨by simpa using this.1, fun c hc => ?_⟩
  have h2 := this.2
  rw [hc] at h2
  cases h2

theorem split_any {P : Program} {ops pre : Array Oper} {Q : Exit → Act → World → Prop} {S : World → Prop} (n k t : Nat) (hok : splitOk ops pre k t = true) (hsame : ∀ i, i < k → ops[i]? = pre[i]?) (hpl : plainOps pre = true) :
    ∀ (f : Nat) (l : List Bool) (a : Act) (w : World), l.length = k → closedB pre l = true → unlisted l = f → wpAnyH P .any pre (Rest n P ops Q k t) S f l.toArray a w → wpAnyIn Fence.wide n P .any ops Q (f + t) (full l t) a w
  | 0, l, a, w, hl, hc, hu, h => by
    have e := none_unlisted hu
    rw [hl] at e
    have := h.2
    rw [Nat.zero_add, e]
    exact this
  | f + 1, l, a, w, hl, hc, hu, h => by
    have hm := List.all_eq_true.1 hok l (hl ▸ masks_all l)
    unfold maskOk at hm
    rw [hc, hu] at hm
    simp only [Bool.not_true, Bool.false_or, Bool.or_eq_true, beq_iff_eq, Nat.add_eq_zero_iff, Nat.one_ne_zero, and_false, false_or, Bool.and_eq_true, List.all_eq_true, decide_eq_true_eq] at hm
    obtain ⟨⟨h1, h2⟩, h3⟩ := hm
    rw [show f + 1 + t = (f + t) + 1 by omega]
    refine ⟨fun h0 => ?_, fun i hi => ?_⟩
    · rw [h1] at h0
      rw [h0] at h2
      simp at h2
    · rw [h1] at hi
      obtain ⟨⟨hik, hcl⟩, hun⟩ := h3 i hi
      have hw := h.2 i hi
      rw [full_set hik]
      have hnext := fun a' w' (hh : S w' ∧ wpAnyH P .any pre (Rest n P ops Q k t) S f (l.toArray.setIfInBounds i true) a' w') => split_any n k t hok hsame hpl f (l.set i true) a' w' (by simpa using hl) hcl (by omega) (by have := hh.2; rwa [List.setIfInBounds_toArray] at this)
      unfold wpOp at hw
      unfold wpOpIn
      rw [hsame i (by omega)]
      cases ho : pre[i]? with
      | none => rw [ho] at hw; exact hnext _ _ hw
      | some o =>
        rw [ho] at hw
        obtain ⟨hg, hd⟩ := plain_spec hpl ho
        have w1 : ∀ y, Region.wanted o y = true := fun y => by unfold Region.wanted; rw [hg]
        simp only [w1, if_true] at hw ⊢
        have hw2 := hw.resolve_right fun hx => rest_shut hx.2
        exact Oper.wpIn_mono hnext (operIn_wide (Q := Q) n hd rest_shut (fun c a w (h : Q (.panic c) a w) => h) hw2)

/-- The region from its beginning. -/
theorem split_region {P : Program} {ops pre : Array Oper} {Q : Exit → Act → World → Prop} (S : World → Prop) (n k t id : Nat) (hm : P.follows .mixedOrders = true) (hok : splitOk ops pre k t = true) (hsz : ops.size = k + t) (hpz : pre.size = k) (hsame : ∀ i, i < k → ops[i]? = pre[i]?) (hpl : plainOps pre = true) (hcl : closedB pre (List.replicate k false) = true) (hun : unlisted (List.replicate k false) = k)
    {a : Act} {w : World} (hS : S w.drew) (h : S w.drew → wpAnyH P .any pre (Rest n P ops Q k t) S k (Array.replicate k false) a w.drew) : (Code.region id ops true).wpIn Fence.wide n P Q a w := by
  refine wpIn_region_any hm ?_
  have := split_any n k t hok hsame hpl k (List.replicate k false) a w.drew (by simp) hcl hun (by rw [List.toArray_replicate]; exact h hS)
  rw [hsz]
  have e : Array.replicate (k + t) false = full (List.replicate k false) t := by
    unfold full
    rw [List.replicate_append_replicate, List.toArray_replicate]
  rw [e]
  exact this

theorem wpAnyIn_one {F : Fence} {n : Nat} {P : Program} {ops : Array Oper} {Q : Exit → Act → World → Prop} {md : Region.Mode} {f i : Nat} {listed : Array Bool} {a : Act} {w : World} (h1 : Region.ready md ops listed = [i])
    (h : wpOpIn F n P ops Q i (wpAnyIn F n P md ops Q f (listed.setIfInBounds i true)) a w) : wpAnyIn F n P md ops Q (f + 1) listed a w :=
  ⟨fun h0 => absurd (h1.symm.trans h0) (by simp), fun j hj => (List.mem_singleton.1 (h1 ▸ hj)) ▸ h⟩
theorem wpAnyIn_end {F : Fence} {n : Nat} {P : Program} {ops : Array Oper} {Q : Exit → Act → World → Prop} {md : Region.Mode} {listed : Array Bool} {a : Act} {w : World} (h1 : Region.ready md ops listed = []) (h : Q .normal a w) : wpAnyIn F n P md ops Q 0 listed a w := ⟨h1, h⟩
end Go.Proofs.Ytckeopidedoohaa

namespace Go.Proofs.Ytckeopidedoohaa
open Go.RowKit
variable {n₀ : Nat}
attribute [local go_sem] Oper.semAt_some
@[reducible] def oJit0 : Oper := { dst := some 19, op := Op.move (Operand.tmp 7), type := 35, pos := "journal.go:78", after := #[], guard := none }
@[reducible] def oJit1 : Oper := { dst := some 20, op := Op.move (Operand.tmp 6), type := 3, pos := "journal.go:78", after := #[], guard := none }
@[reducible] def oJit2 : Oper := { dst := some 21, op := Op.call { callee := Callee.value (Operand.func 105), args := #[Operand.tmp 19, Operand.tmp 20], argTypes := #[35, 3] }, type := 4, pos := "journal.go:78", after := #[{ on := 0, ground := Ground.data }, { on := 1, ground := Ground.data }], guard := none }
@[reducible] def oJit3 : Oper := { dst := some 22, op := Op.unOp UnOp.not 4 (Operand.tmp 21), type := 4, pos := "journal.go:78", after := #[{ on := 2, ground := Ground.data }], guard := none }
@[reducible] def oJit4 : Oper := { dst := some 23, op := Op.move (Operand.tmp 22), type := 4, pos := "journal.go:78", after := #[{ on := 3, ground := Ground.data }, { on := 2, ground := Ground.chain }], guard := none }
@[reducible] def oJit5 : Oper := { dst := some 24, op := Op.move (Operand.tmp 7), type := 35, pos := "journal.go:78", after := #[{ on := 4, ground := Ground.guard }], guard := some (4, false) }
@[reducible] def oJit6 : Oper := { dst := some 25, op := Op.indexAddr 35 (Operand.tmp 24) (Operand.const (Value.int IntKind.i64 10)), type := 0, pos := "journal.go:78", after := #[{ on := 5, ground := Ground.data }, { on := 4, ground := Ground.guard }], guard := some (4, false) }
@[reducible] def oJit7 : Oper := { dst := some 26, op := Op.load 5 (Operand.tmp 25), type := 5, pos := "journal.go:78", after := #[{ on := 6, ground := Ground.data }, { on := 4, ground := Ground.guard }], guard := some (4, false) }
@[reducible] def oJit8 : Oper := { dst := some 27, op := Op.binOp BinOp.and 5 (Operand.tmp 26) (Operand.const (Value.int IntKind.u8 1)) 5, type := 5, pos := "journal.go:78", after := #[{ on := 7, ground := Ground.data }, { on := 4, ground := Ground.guard }], guard := some (4, false) }
@[reducible] def oJit9 : Oper := { dst := some 28, op := Op.binOp BinOp.neq 5 (Operand.tmp 27) (Operand.const (Value.int IntKind.u8 0)) 5, type := 4, pos := "journal.go:78", after := #[{ on := 8, ground := Ground.data }, { on := 4, ground := Ground.guard }], guard := some (4, false) }
@[reducible] def oJit10 : Oper := { dst := some 29, op := Op.move (Operand.tmp 6), type := 3, pos := "journal.go:78", after := #[{ on := 4, ground := Ground.guard }], guard := some (4, false) }
@[reducible] def oJit11 : Oper := { dst := some 30, op := Op.move (Operand.tmp 3), type := 3, pos := "journal.go:78", after := #[{ on := 4, ground := Ground.guard }], guard := some (4, false) }
@[reducible] def oJit12 : Oper := { dst := some 31, op := Op.binOp BinOp.eql 3 (Operand.tmp 29) (Operand.tmp 30) 3, type := 4, pos := "journal.go:78", after := #[{ on := 10, ground := Ground.data }, { on := 11, ground := Ground.data }, { on := 4, ground := Ground.guard }], guard := some (4, false) }
@[reducible] def oJit13 : Oper := { dst := some 32, op := Op.binOp BinOp.neq 4 (Operand.tmp 28) (Operand.tmp 31) 4, type := 4, pos := "journal.go:78", after := #[{ on := 9, ground := Ground.data }, { on := 12, ground := Ground.data }, { on := 4, ground := Ground.guard }], guard := some (4, false) }
@[reducible] def oJit14 : Oper := { dst := some 33, op := Op.pick (Operand.tmp 23) (Operand.const (Value.bool true)) (Operand.tmp 32), type := 4, pos := "journal.go:78", after := #[{ on := 4, ground := Ground.data }, { on := 13, ground := Ground.data }], guard := none }
@[reducible] def oJit15 : Oper := { dst := some 34, op := Op.move (Operand.tmp 33), type := 4, pos := "journal.go:78", after := #[{ on := 14, ground := Ground.data }, { on := 4, ground := Ground.chain }], guard := none }
@[reducible] def oJit16 : Oper := { dst := some 35, op := Op.move (Operand.tmp 7), type := 35, pos := "journal.go:78", after := #[{ on := 15, ground := Ground.guard }], guard := some (15, false) }
@[reducible] def oJit17 : Oper := { dst := some 36, op := Op.slice 35 (Operand.tmp 35) none (some (Operand.const (Value.int IntKind.i64 4))) none, type := 35, pos := "journal.go:78", after := #[{ on := 16, ground := Ground.data }, { on := 15, ground := Ground.guard }], guard := some (15, false) }
@[reducible] def oJit18 : Oper := { dst := some 37, op := Op.call { callee := Callee.value (Operand.func 88), args := #[Operand.tmp 36], argTypes := #[35] }, type := 109, pos := "journal.go:78", after := #[{ on := 17, ground := Ground.data }, { on := 15, ground := Ground.chain }, { on := 15, ground := Ground.guard }], guard := some (15, false) }
@[reducible] def oJit19 : Oper := { dst := some 38, op := Op.load 22 (Operand.tmp 1), type := 22, pos := "journal.go:78", after := #[{ on := 15, ground := Ground.guard }], guard := some (15, false) }
@[reducible] def oJit20 : Oper := { dst := some 39, op := Op.move (Operand.tmp 3), type := 3, pos := "journal.go:78", after := #[{ on := 15, ground := Ground.guard }], guard := some (15, false) }
@[reducible] def oJit21 : Oper := { dst := some 40, op := Op.indexAddr 22 (Operand.tmp 38) (Operand.tmp 39), type := 0, pos := "journal.go:78", after := #[{ on := 19, ground := Ground.data }, { on := 20, ground := Ground.data }, { on := 15, ground := Ground.guard }], guard := some (15, false) }
@[reducible] def oJit22 : Oper := { dst := some 41, op := Op.load 35 (Operand.tmp 40), type := 35, pos := "journal.go:78", after := #[{ on := 21, ground := Ground.data }, { on := 15, ground := Ground.guard }], guard := some (15, false) }
@[reducible] def oJit23 : Oper := { dst := some 42, op := Op.slice 35 (Operand.tmp 41) none (some (Operand.const (Value.int IntKind.i64 4))) none, type := 35, pos := "journal.go:78", after := #[{ on := 22, ground := Ground.data }, { on := 15, ground := Ground.guard }], guard := some (15, false) }
@[reducible] def oJit24 : Oper := { dst := some 43, op := Op.call { callee := Callee.value (Operand.func 88), args := #[Operand.tmp 42], argTypes := #[35] }, type := 109, pos := "journal.go:78", after := #[{ on := 23, ground := Ground.data }, { on := 18, ground := Ground.chain }, { on := 15, ground := Ground.guard }], guard := some (15, false) }
@[reducible] def oJit25 : Oper := { dst := some 44, op := Op.binOp BinOp.neq 109 (Operand.tmp 37) (Operand.tmp 43) 109, type := 4, pos := "journal.go:78", after := #[{ on := 18, ground := Ground.data }, { on := 24, ground := Ground.data }, { on := 15, ground := Ground.guard }], guard := some (15, false) }
@[reducible] def oJit26 : Oper := { dst := some 45, op := Op.pick (Operand.tmp 34) (Operand.const (Value.bool true)) (Operand.tmp 44), type := 4, pos := "journal.go:78", after := #[{ on := 15, ground := Ground.data }, { on := 25, ground := Ground.data }], guard := none }
@[reducible] def oJit27 : Oper := { dst := some 46, op := Op.move (Operand.tmp 45), type := 4, pos := "journal.go:78", after := #[{ on := 26, ground := Ground.data }, { on := 24, ground := Ground.chain }], guard := none }
@[reducible] def oJit28 : Oper := { dst := some 47, op := Op.move (Operand.tmp 7), type := 35, pos := "journal.go:78", after := #[{ on := 27, ground := Ground.guard }], guard := some (27, false) }
@[reducible] def oJit29 : Oper := { dst := some 48, op := Op.slice 35 (Operand.tmp 47) none (some (Operand.const (Value.int IntKind.i64 4))) none, type := 35, pos := "journal.go:78", after := #[{ on := 28, ground := Ground.data }, { on := 27, ground := Ground.guard }], guard := some (27, false) }
@[reducible] def oJit30 : Oper := { dst := some 49, op := Op.call { callee := Callee.value (Operand.func 88), args := #[Operand.tmp 48], argTypes := #[35] }, type := 109, pos := "journal.go:78", after := #[{ on := 29, ground := Ground.data }, { on := 27, ground := Ground.chain }, { on := 27, ground := Ground.guard }], guard := some (27, false) }
@[reducible] def oJit31 : Oper := { dst := some 50, op := Op.move (Operand.tmp 4), type := 109, pos := "journal.go:78", after := #[{ on := 27, ground := Ground.guard }], guard := some (27, false) }
@[reducible] def oJit32 : Oper := { dst := some 51, op := Op.binOp BinOp.lss 109 (Operand.tmp 49) (Operand.tmp 50) 109, type := 4, pos := "journal.go:78", after := #[{ on := 30, ground := Ground.data }, { on := 31, ground := Ground.data }, { on := 27, ground := Ground.guard }], guard := some (27, false) }
@[reducible] def oJit33 : Oper := { dst := some 52, op := Op.pick (Operand.tmp 46) (Operand.const (Value.bool true)) (Operand.tmp 51), type := 4, pos := "journal.go:78", after := #[{ on := 27, ground := Ground.data }, { on := 32, ground := Ground.data }], guard := none }
attribute [local go_sem] oJit0 oJit1 oJit2 oJit3 oJit4 oJit5 oJit6 oJit7 oJit8 oJit9 oJit10 oJit11 oJit12 oJit13 oJit14 oJit15 oJit16 oJit17 oJit18 oJit19 oJit20 oJit21 oJit22 oJit23 oJit24 oJit25 oJit26 oJit27 oJit28 oJit29 oJit30 oJit31 oJit32 oJit33

section
variable {w w' : World} {may : Nat → Prop}
/-- A step that leaves alone all blocks in which rows may lie. -/
theorem Lies.ros {b : Nat} (h : Lies n₀ w b) (hk : Keep may w w') (hm : ∀ r, may r → ¬ Lies n₀ w r) : Lies n₀ w' b := by
  have e := hk.block b h.lt (fun hn => hm b hn h)
  refine ⟨Nat.lt_of_lt_of_le h.lt hk.size, ?_⟩
  rcases h.off with h1 | ⟨cs, t, f, h1, h2⟩
  · exact .inl h1
  · exact .inr ⟨cs, t, f, e.trans h1, h2⟩
theorem BsAt.ros {A : Option Addr} {bs : Bs} (h : BsAt n₀ w A bs) (hk : Keep may w w') (hm : ∀ r, may r → ¬ Lies n₀ w r) : BsAt n₀ w' A bs := fun h0 => by
  obtain ⟨b, o, e, hlt, hc⟩ := h h0
  exact ⟨b, o, e, hlt.ros hk hm, fun i hi => (hk.cell (p := ⟨b, _, none⟩) hlt.lt (fun hn => hm b hn hlt)).trans (hc i hi)⟩
theorem BsV.ros {v : Value} {bs : Bs} (h : BsV n₀ w v bs) (hk : Keep may w w') (hm : ∀ r, may r → ¬ Lies n₀ w r) : BsV n₀ w' v bs := by
  obtain ⟨A, c, e, hc, h⟩ := h
  exact ⟨A, c, e, hc, h.ros hk hm⟩
theorem Rws.ros {vs : List Value} {rs : List Bs} (h : Rws n₀ w vs rs) (hk : Keep may w w') (hm : ∀ r, may r → ¬ Lies n₀ w r) : Rws n₀ w' vs rs := ⟨h.1, fun i hi => (h.2 i hi).ros hk hm⟩
theorem ValsAt.ros {A : Option Addr} {vs : List Value} (h : ValsAt n₀ w A vs) (hk : Keep may w w') (hm : ∀ r, may r → ¬ Lies n₀ w r) : ValsAt n₀ w' A vs := fun h0 => by
  obtain ⟨b, o, e, hlt, hc⟩ := h h0
  exact ⟨b, o, e, hlt.ros hk hm, fun i hi => (hk.cell (p := ⟨b, _, none⟩) hlt.lt (fun hn => hm b hn hlt)).trans (hc i hi)⟩
theorem RowsAt.ros {A : Option Addr} {rs : List Bs} (h : RowsAt n₀ w A rs) (hk : Keep may w w') (hm : ∀ r, may r → ¬ Lies n₀ w r) : RowsAt n₀ w' A rs := by
  obtain ⟨vs, h1, h2⟩ := h
  exact ⟨vs, h1.ros hk hm, h2.ros hk hm⟩
end
/-- New blocks are nobody's. -/
def Col.old (c : Col) (n : Nat) : Col := ⟨fun r => r < n ∧ c.it r, fun r => r < n ∧ c.cl r⟩
theorem Col.same_old (c : Col) (n : Nat) : Col.Same n c (c.old n) := fun _ hr => ⟨⟨fun h => h.2, fun h => ⟨hr, h⟩⟩, ⟨fun h => h.2, fun h => ⟨hr, h⟩⟩⟩

/-- A record that is handed on: the number of sectors up to its end, its bytes, its value, its block. -/
structure Rc where
  n : Nat
  b : Bs
  v : Value
  bl : Option (Nat × TypeId × Array Value)
def rcKey (x : Rc) : Nat × Bs := (x.n, x.b)
def rcE (x : Rc) : Array Value := #[.int .i64 (x.n : Nat), x.v]
def RcOk (x : Rc) : Prop := (x.b = [] ∧ x.v = .slice none 0 0 ∧ x.bl = none) ∨ ∃ g cap cur, x.v = .slice (some ⟨g, 0, none⟩) x.b.length cap ∧ x.b.length ≤ cap ∧ x.bl = some (g, 5, cur) ∧ cur.toList.take x.b.length = bcells x.b
def RcS (l : List Bs) (xs : List Rc) : Prop := (∀ x ∈ xs, RcOk x) ∧ xs.map rcKey = recs l.length l 0 0
def RcP (l : List Bs) (pre : List Rc) : Prop := (∀ x ∈ pre, RcOk x) ∧ pre.map rcKey <+: recs l.length l 0 0
/-- The call's own bytes as a record to hand on. -/
theorem own_rc {w : World} {base n : Nat} {v : Value} {bs : Bs} (h : w.ownsRow base 5 1 v n (bcells bs)) (k : Nat) : ∃ bl, RcOk ⟨k, bs, v, bl⟩ ∧ ∀ g t cs, bl = some (g, t, cs) → w.heap[g]? = some (.cells cs t (0, 0)) ∧ base ≤ g := by
  have hl : n = bs.length := by have h1 := h.1; rw [bcells_len, Nat.mul_one] at h1; exact h1.symm
  rcases h.2 with ⟨rfl, h0⟩ | ⟨g, cap, cur, rfl, hb, hh, hnc, _, _, ht⟩
  · refine ⟨none, .inl ⟨List.eq_nil_of_length_eq_zero (show bs.length = 0 by omega), rfl, rfl⟩, fun g t cs h => by cases h⟩
  · rw [Nat.mul_one] at ht
    subst hl
    refine ⟨some (g, 5, cur), .inr ⟨g, cap, cur, rfl, hnc, rfl, ht⟩, fun g' t cs h => ?_⟩
    cases h
    exact ⟨hh, hb⟩
/-- What holds when a record begins to be read. -/
def RcI (n₀ : Nat) (l : List Bs) (Bl : Nat) (w : World) (at_ last f : Nat) (pre : List Rc) (cc : Col) (wr : World) : Prop :=
  (∀ x ∈ pre, RcOk x) ∧ recs l.length l 0 0 = pre.map rcKey ++ recs f l at_ last ∧ l.length ≤ at_ + f ∧ Keep (fun r => ¬ Lies n₀ w r ∧ r ≠ Bl) w wr ∧ ∀ r, Lies n₀ w r ∨ r = Bl → ¬ cc.cl r
theorem scan_no {g0 last at_ n : Nat} {s : Bs} {r : List Bs} {b : Bs} (h : ¬ (gGood s n = true ∧ sBeg s = decide (n = at_) ∧ sGen s = g0 ∧ last ≤ sGen s)) : scan g0 last at_ (s :: r) n b = none := by
  unfold scan
  rw [if_neg h]
theorem scan_fin {g0 last at_ n : Nat} {s : Bs} {r : List Bs} {b : Bs} (h : gGood s n = true ∧ sBeg s = decide (n = at_) ∧ sGen s = g0 ∧ last ≤ sGen s) (hf : sFin s = true) : scan g0 last at_ (s :: r) n b = some (n + 1, b ++ sData s) := by
  unfold scan
  rw [if_pos h, if_pos hf]
theorem scan_on {g0 last at_ n : Nat} {s : Bs} {r : List Bs} {b : Bs} (h : gGood s n = true ∧ sBeg s = decide (n = at_) ∧ sGen s = g0 ∧ last ≤ sGen s) (hf : sFin s = false) : scan g0 last at_ (s :: r) n b = scan g0 last at_ r (n + 1) (b ++ sData s) := by
  rw [scan, if_pos h, hf]
  rfl
theorem drop_at (l : List Bs) (n : Nat) (h : n < l.length) : l.drop n = l.getD n [] :: l.drop (n + 1) := by
  rw [List.drop_eq_getElem_cons h]
  simp [List.getD, h]
theorem rc_whole {l : List Bs} {pre : List Rc} {at_ last f : Nat} (h1 : ∀ x ∈ pre, RcOk x) (h2 : recs l.length l 0 0 = pre.map rcKey ++ recs f l at_ last) (h : recAt l at_ last = none) : RcS l pre := ⟨h1, by rw [h2, recs_none h, List.append_nil]⟩
theorem rc_snoc {l : List Bs} {pre : List Rc} {at_ last f n : Nat} {x : Rc} (h1 : ∀ x ∈ pre, RcOk x) (h2 : recs l.length l 0 0 = pre.map rcKey ++ recs f l at_ last) (hf : l.length ≤ at_ + f) (hlt : at_ < l.length) (h : recAt l at_ last = some (n, x.b)) (hx : RcOk x) (hn : x.n = n) :
    ∃ f', (∀ y ∈ pre ++ [x], RcOk y) ∧ recs l.length l 0 0 = (pre ++ [x]).map rcKey ++ recs f' l n (sGen (l.getD at_ [])) ∧ l.length ≤ n + f' ∧ RcP l (pre ++ [x]) := by
  obtain ⟨f', rfl⟩ : ∃ f', f = f' + 1 := ⟨f - 1, by omega⟩
  have hl := recAt_lt h
  have hall : ∀ y ∈ pre ++ [x], RcOk y := fun y hy => by
    rcases List.mem_append.1 hy with hy | hy
    · exact h1 y hy
    · rw [List.mem_singleton.1 hy]; exact hx
  have e : recs l.length l 0 0 = (pre ++ [x]).map rcKey ++ recs f' l n (sGen (l.getD at_ [])) := by
    rw [h2, recs_some h, List.map_append, List.append_assoc]
    subst hn
    rfl
  exact ⟨f', hall, e, by omega, hall, ⟨_, e.symm⟩⟩

set_option maxRecDepth 20000 in
set_option maxHeartbeats 16000000 in
theorem records_iter (n0 Bl : Nat) (A : Option Addr) (c : Nat) (l : List Bs) (w : World) (h128 : ∀ b ∈ l, b.length = 128) (hll : l.length ≤ 4096) (hBl : Blk w Bl 22 #[.slice A l.length c]) (hrow : RowsAt n₀ w A l) :
    IterV Rc.bl n0 Try.prog 104 #[.pointer (some ⟨Bl, 0, none⟩)] rcE (RcS l) (RcP l) w (fun _ => False) (fun r => Lies n₀ w r ∨ r = Bl) := by
  intro lp J Jx c0 W hW hJ hJx _ hros hY h0
  refine callsIn_of_wp Try.func104 rfl trivial (wpIn_wide.2 ?_) rfl
  obtain ⟨i0, hi0, hz0, hz1, hz2⟩ := info_parts info5
  simp only [Try.ntmps104, List.size_toArray, List.length_cons, List.length_nil, Nat.reduceAdd, Nat.reduceSub, Array.replicate_succ, Array.replicate_zero, List.push_toArray, List.append_toArray, List.nil_append, List.cons_append]
  go_wp2_with (fail)
  go_step3
  go_wp2_with (fail)
  go_step3
  go_wp2_with (fail)
  go_loopw [3, 4] (fun v3 v4 wr => ∃ (at_ last f : Nat) (cc : Col) (pre : List Rc), v3 = .int .i64 (at_ : Nat) ∧ v4 = .int .u64 (last : Nat) ∧ at_ ≤ l.length ∧ last < 4294967296 ∧ Hid (RcI n₀ l Bl w at_ last f pre cc wr) ∧ J cc pre wr) (fun v3 _ _ => l.length - (intOf v3).toNat)
  case atStart =>
    refine ⟨0, 0, l.length, c0, [], rfl, rfl, by omega, by omega, Lib.hid ⟨fun x hx => (by cases hx), (by simp), by omega, Keep.of_same hW _, fun r hr => hros r (.inr hr)⟩, h0⟩
  case round =>
    obtain ⟨at_, last, f, cc, pre, rfl, rfl, hat, hlast, HI, hj⟩ := hrel
    rename World => wo
    have lBl := hBl.lt
    have hws := HI.out.2.2.2.1.size
    have xBl0 : Blk wo Bl 22 #[.slice A l.length c] := hBl.keep HI.out.2.2.2.1 (fun h => h.2 rfl)
    have hrow0 : RowsAt n₀ wo A l := hrow.ros HI.out.2.2.2.1 (fun r hr => hr.1)
    have HR0 := Lib.hid hrow0
    clear hrow0
    go_wp2_with (fail)
    go_loopw [3, 4, 5, 6] (fun v3 v4 v5 v6 wr => ∃ (n : Nat) (acc : Bs), v3 = .int .i64 (at_ : Nat) ∧ v4 = .int .u64 (last : Nat) ∧ v6 = .int .i64 (n : Nat) ∧ at_ ≤ n ∧ n ≤ l.length ∧ acc.length ≤ 112 * (n - at_) ∧ wr.ownsRow wo.heap.size 5 1 v5 acc.length (bcells acc) ∧ Below wo.heap.size wo wr ∧ Hid (recAt l at_ last = scan (sGen (l.getD at_ [])) last at_ (l.drop n) n acc)) (fun _ _ _ v6 _ => l.length - (intOf v6).toNat)
    case atStart => exact ⟨at_, [], rfl, rfl, rfl, by omega, hat, by simp, World.ownsRow_nil _ _ _ _, Below.refl _ _, Lib.hid rfl⟩
    case round =>
      obtain ⟨n, acc, rfl, rfl, rfl, han, hnl, hacc, hown, hb2, HSC⟩ := hrel
      have xBl := xBl0.below hb2 xBl0.lt
      have lBl2 := xBl.lt
      have yBl := xBl.cell0
      have hws2 := hb2.size
      have RETN : ∀ W', Below wo.heap.size wo W' → recAt l at_ last = none → (∃ v, Ending.returned (.tuple #[]) = Ending.returned v) ∧ ((∃ c xs, RcS l xs ∧ J c xs W') ∨ (∃ c pre, RcP l pre ∧ Jx c pre W')) := fun W' hb hn => ⟨⟨_, rfl⟩, .inl ⟨_, pre, rc_whole HI.out.1 HI.out.2.1 hn, hJ _ _ _ _ _ hj (Keep.of_same hb _) (cc.same_own _)⟩⟩
      have HRET := Lib.hid RETN
      clear RETN
      by_cases hlt : n < l.length
      case neg =>
        obtain rfl : n = l.length := by omega
        have hn : recAt l at_ last = none := by rw [HSC.out, List.drop_length]; rfl
        go_wp2_with (fail)
        (try rw [Exit.noGoto_ret])
        refine bodyPost_ret (results_none rfl _ _ _) rfl ?_
        exact HRET.out _ (by first | exact hb2 | exact hb2.drew) hn
      obtain ⟨b, o, rfl, lb0, hget⟩ := HR0.out.get (by omega)
      have lb : b < wr.heap.size := by omega
      obtain ⟨A1, c1, z1, hc1, hbs1⟩ := hget n hlt
      obtain ⟨A0, c0', zat0, hc0, hbs0⟩ := hget at_ (by omega)
      have hs1 := h128 _ (mem_getD hlt)
      have hs0 := h128 _ (mem_getD (show at_ < l.length by omega))
      have hdrop := drop_at l n hlt
      obtain ⟨s, hs⟩ : ∃ s, s = l.getD n [] := ⟨_, rfl⟩
      obtain ⟨s0, hs0e⟩ : ∃ s, s = l.getD at_ [] := ⟨_, rfl⟩
      rw [← hs] at z1 hc1 hbs1 hs1 hdrop
      have HS0E := Lib.hid hs0e
      rw [← hs0e] at zat0 hc0 hbs0 hs0
      rw [hs1] at z1 hc1
      rw [hs0] at zat0 hc0
      obtain ⟨b1, o1, rfl, hbl1, hcell1⟩ := hbs1 (by omega)
      obtain ⟨b0, o0, rfl, hbl0, -⟩ := id hbs0 (by omega)
      obtain ⟨c0, hc0e⟩ : ∃ x, x = c0' := ⟨_, rfl⟩
      rw [← hc0e] at zat0 hc0
      have hsc := HSC.out
      rw [hdrop, ← hs0e] at hsc
      have z1' := (hb2.cell (p := ⟨b, _, none⟩) lb0).trans z1
      have zat := (hb2.cell (p := ⟨b, _, none⟩) lb0).trans zat0
      have lb1 : b1 < wr.heap.size := Nat.lt_of_lt_of_le hbl1.lt hws2
      have hb1 := BsAt.below hbs1 hb2
      have hb0 := BsAt.below hbs0 hb2
      have z10 := (hb2.cell (p := ⟨b1, _, none⟩) hbl1.lt).trans (hcell1 10 (by omega))
      have z11 := (hb2.cell (p := ⟨b1, _, none⟩) hbl1.lt).trans (hcell1 11 (by omega))
      unfold u8v at z10 z11
      have lb10 := hbl1.lt
      obtain ⟨k, hk⟩ : ∃ k, k = (s.getD 10 0).toNat := ⟨_, rfl⟩
      obtain ⟨m, hm⟩ : ∃ k, k = (s.getD 11 0).toNat := ⟨_, rfl⟩
      rw [← hk] at z10
      rw [← hm] at z11
      have hkl : k < 256 := by rw [hk]; exact (s.getD 10 0).toNat_lt
      have hml : m < 256 := by rw [hm]; exact (s.getD 11 0).toNat_lt
      have HGD := Lib.hid (show ∀ W, Below wr.heap.size wr W → Calls Try.prog 105 #[.slice (some ⟨b1, o1, none⟩) 128 c1, .int .i64 (n : Nat)] W fun e w' => e = .returned (.bool (gGood s n)) ∧ Below W.heap.size W w' from fun W hW => good_t (n₀ := n₀) (some ⟨b1, o1, none⟩) c1 n s W hs1 (by omega) (by omega) (hb1.below hW))
      have get4 : ∀ (bb oo cx : Nat) (x : Bs), x.length = 128 → BsAt n₀ wo (some ⟨bb, oo, none⟩) x → ∀ W, Below wo.heap.size wo W → Calls Try.prog 88 #[.slice (some ⟨bb, oo, none⟩) 4 cx] W fun e w' => e = .returned (.int .u64 (sGen x : Nat)) ∧ w' = W := fun bb oo cx x hx hbx W hW => by
        have h4 : (x.take 4).length = 4 := by rw [List.length_take, hx]; rfl
        have g4 : BsAt n₀ W (some ⟨bb, oo, none⟩) (x.take 4) := by have h := bs_part (hbx.below hW) 0 4 (by omega); simpa using h
        have K := get_t (some ⟨bb, oo, none⟩) cx (x.take 4) W (by rw [h4]; decide) g4
        rw [h4] at K
        exact K
      have hga := get4 b1 o1 c1 s hs1 hbs1
      have hgb := get4 b0 o0 c0 s0 hs0 hbs0
      have hgl : sGen s < 4294967296 := getL_lt4 (by rw [List.length_take, hs1]; rfl)
      have hg0l : sGen s0 < 4294967296 := getL_lt4 (by rw [List.length_take, hs0]; rfl)
      obtain ⟨gn, hgn⟩ : ∃ x, x = sGen s := ⟨_, rfl⟩
      obtain ⟨g0, hg0⟩ : ∃ x, x = sGen s0 := ⟨_, rfl⟩
      rw [← hgn] at hga hgl
      rw [← hg0] at hgb hg0l hsc
      have HGA := Lib.hid hga
      have HGB := Lib.hid hgb
      obtain ⟨gd, hgd⟩ : ∃ y, y = gGood s n := ⟨_, rfl⟩
      rw [← hgd] at HGD
      obtain ⟨m2, hm2⟩ : ∃ m : Nat, m = k / 2 % 2 * 2 := ⟨_, rfl⟩
      obtain ⟨m1, hm1⟩ : ∃ m : Nat, m = k % 2 := ⟨_, rfl⟩
      have a2 : bits .and .u8 (k : Int) 2 = (m2 : Int) := by rw [hm2]; exact and_two hkl
      have a1 : bits .and .u8 (k : Int) 1 = (m1 : Int) := by rw [hm1]; exact and_one hkl
      obtain ⟨bb, hbb⟩ : ∃ y, y = sBeg s := ⟨_, rfl⟩
      have d1 : ((m1 : Int) != 0) = bb := by
        rw [hbb, hm1]
        unfold sBeg sKind
        rw [← hk]
        rcases Nat.mod_two_eq_zero_or_one k with e | e <;> rw [e] <;> rfl
      obtain ⟨qq, hqq⟩ : ∃ y, y = decide (n = at_) := ⟨_, rfl⟩
      have d2 : ((n : Int) == (at_ : Int)) = qq := by
        rw [hqq]
        by_cases e : n = at_
        · rw [e]; simp
        · rw [decide_eq_false e]; exact beq_eq_false_iff_ne.2 (by omega)
      have c128 : (128 : Int) ≤ (c1 : Int) := by omega
      have c4 : (4 : Int) ≤ (c1 : Int) := by omega
      have c04 : (4 : Int) ≤ (c0 : Int) := by omega
      have hnl2 : (n : Int) < (l.length : Int) := by omega
      have hal2 : (at_ : Int) < (l.length : Int) := by omega
      have n0' : (0 : Int) ≤ (n : Int) := by omega
      have at0' : (0 : Int) ≤ (at_ : Int) := by omega
      have HK := Lib.hid (And.intro hk (And.intro hm (And.intro hm2 hm1)))
      have HQ := Lib.hid (And.intro hbb hqq)
      have HG := Lib.hid (And.intro hgn (And.intro hg0 hgd))
      have HC := Lib.hid (And.intro hsc trivial)
      have HHS := Lib.hid hs
      have HBS := Lib.hid (And.intro hb1 hb0)
      clear hget hcell1 hb1 hb0 hbs1 hbs0 hs0e hs hdrop hsc hk hm hm2 hm1 hbb hqq hgn hg0 hgd hga hgb get4 hc0e
      go_upto_region 6 with (fail)
      cases gd
      case false =>
        refine wp_region_held_drew (S := (fun W => W.cell? ⟨Bl, 0, none⟩ = some (.slice (some ⟨b, o, none⟩) l.length c) ∧ W.cell? ⟨b, o + at_, none⟩ = some (.slice (some ⟨b0, o0, none⟩) 128 c0) ∧ W.cell? ⟨b1, o1 + 10, none⟩ = some (.int .u8 (k : Int)) ∧ Below wr.heap.size wr W)) (by kernel_rfl) ⟨xBl.cell0, zat, z10, (Below.refl _ _).drew⟩ (fun hHeld => ?_)
        refine tkA 0 oJit0 ?_
        refine tkA 1 oJit1 ?_
        refine wpAnyH_ready (rs := [2]) (by kernel_rfl) (by simp) ?_
        refine AllReadyH.cons (o := oJit2) rfl (fun K hK => ?_) AllReadyH.nil
        go_simp
        go_at_call 105; refine (HGD.out _ hHeld.2.2.2).mono ?_; rintro e w9 ⟨rfl, hb9⟩
        refine hK.out _ _ ?_ (fun hHeld => ?_)
        · exact ⟨(hb9.cell (p := ⟨Bl, 0, none⟩) (Nat.lt_of_lt_of_le xBl.lt hHeld.2.2.2.size)).trans hHeld.1, (hb9.cell (p := ⟨b, o + at_, none⟩) (Nat.lt_of_lt_of_le lb hHeld.2.2.2.size)).trans hHeld.2.1, (hb9.cell (p := ⟨b1, o1 + 10, none⟩) (Nat.lt_of_lt_of_le lb1 hHeld.2.2.2.size)).trans hHeld.2.2.1, hHeld.2.2.2.trans (hb9.mono hHeld.2.2.2.size)⟩
        clear hK K
        try simp only [Act.put, List.setIfInBounds_toArray, List.set_cons_zero, List.set_cons_succ]
        refine tkA 3 oJit3 ?_
        refine tkA 4 oJit4 ?_
        refine tkB 5 oJit5 ?_
        refine tkB 6 oJit6 ?_
        refine tkB 7 oJit7 ?_
        refine tkB 8 oJit8 ?_
        refine tkB 9 oJit9 ?_
        refine tkB 10 oJit10 ?_
        refine tkB 11 oJit11 ?_
        refine tkB 12 oJit12 ?_
        refine tkB 13 oJit13 ?_
        refine tkA 14 oJit14 ?_
        refine tkA 15 oJit15 ?_
        refine tkB 16 oJit16 ?_
        refine tkB 17 oJit17 ?_
        refine tkB 18 oJit18 ?_
        refine tkB 19 oJit19 ?_
        refine tkB 20 oJit20 ?_
        refine tkB 21 oJit21 ?_
        refine tkB 22 oJit22 ?_
        refine tkB 23 oJit23 ?_
        refine tkB 24 oJit24 ?_
        refine tkB 25 oJit25 ?_
        refine tkA 26 oJit26 ?_
        refine tkA 27 oJit27 ?_
        refine tkB 28 oJit28 ?_
        refine tkB 29 oJit29 ?_
        refine tkB 30 oJit30 ?_
        refine tkB 31 oJit31 ?_
        refine tkB 32 oJit32 ?_
        refine tkA 33 oJit33 ?_
        refine wpAnyH_done (by kernel_rfl) ?_ _

        go_wp2_with (fail)
        (try rw [Exit.noGoto_ret])
        refine bodyPost_ret (results_none rfl _ _ _) rfl ?_
        exact HRET.out _ (hb2.trans (hHeld.2.2.2.mono hws2)) (by rw [HC.out.1]; exact scan_no (fun h => by rw [← HG.out.2.2] at h; cases h.1))
      by_cases hy2 : bb = qq
      case neg =>
        refine wp_region_held_drew (S := (fun W => W.cell? ⟨Bl, 0, none⟩ = some (.slice (some ⟨b, o, none⟩) l.length c) ∧ W.cell? ⟨b, o + at_, none⟩ = some (.slice (some ⟨b0, o0, none⟩) 128 c0) ∧ W.cell? ⟨b1, o1 + 10, none⟩ = some (.int .u8 (k : Int)) ∧ Below wr.heap.size wr W)) (by kernel_rfl) ⟨xBl.cell0, zat, z10, (Below.refl _ _).drew⟩ (fun hHeld => ?_)
        refine tkA 0 oJit0 ?_
        refine tkA 1 oJit1 ?_
        refine wpAnyH_ready (rs := [2]) (by kernel_rfl) (by simp) ?_
        refine AllReadyH.cons (o := oJit2) rfl (fun K hK => ?_) AllReadyH.nil
        go_simp
        go_at_call 105; refine (HGD.out _ hHeld.2.2.2).mono ?_; rintro e w9 ⟨rfl, hb9⟩
        refine hK.out _ _ ?_ (fun hHeld => ?_)
        · exact ⟨(hb9.cell (p := ⟨Bl, 0, none⟩) (Nat.lt_of_lt_of_le xBl.lt hHeld.2.2.2.size)).trans hHeld.1, (hb9.cell (p := ⟨b, o + at_, none⟩) (Nat.lt_of_lt_of_le lb hHeld.2.2.2.size)).trans hHeld.2.1, (hb9.cell (p := ⟨b1, o1 + 10, none⟩) (Nat.lt_of_lt_of_le lb1 hHeld.2.2.2.size)).trans hHeld.2.2.1, hHeld.2.2.2.trans (hb9.mono hHeld.2.2.2.size)⟩
        clear hK K
        try simp only [Act.put, List.setIfInBounds_toArray, List.set_cons_zero, List.set_cons_succ]
        refine tkA 3 oJit3 ?_
        refine tkA 4 oJit4 ?_
        refine tkA 5 oJit5 ?_
        refine tkA 6 oJit6 ?_
        refine tkA 7 oJit7 ?_
        refine tkA 8 oJit8 ?_
        refine tkA 9 oJit9 ?_
        refine tkA 10 oJit10 ?_
        refine tkA 11 oJit11 ?_
        refine tkA 12 oJit12 ?_
        refine wpAnyH_take (i := 13) (oi := oJit13) (v := .bool true) rfl (by kernel_rfl) (by kernel_rfl) (by kernel_rfl) (fun _ _ _ h => h) (Or.inl ⟨by rfl, ?_⟩) (by assumption) ?_
        · intro wS hSw; go_split_ands; go_simp; first | done | with_reducible rfl | simp [hy2]
        simp only [Act.put, List.setIfInBounds_toArray, List.set_cons_zero, List.set_cons_succ]
        refine tkA 14 oJit14 ?_
        refine tkA 15 oJit15 ?_
        refine tkB 16 oJit16 ?_
        refine tkB 17 oJit17 ?_
        refine tkB 18 oJit18 ?_
        refine tkB 19 oJit19 ?_
        refine tkB 20 oJit20 ?_
        refine tkB 21 oJit21 ?_
        refine tkB 22 oJit22 ?_
        refine tkB 23 oJit23 ?_
        refine tkB 24 oJit24 ?_
        refine tkB 25 oJit25 ?_
        refine tkA 26 oJit26 ?_
        refine tkA 27 oJit27 ?_
        refine tkB 28 oJit28 ?_
        refine tkB 29 oJit29 ?_
        refine tkB 30 oJit30 ?_
        refine tkB 31 oJit31 ?_
        refine tkB 32 oJit32 ?_
        refine tkA 33 oJit33 ?_
        refine wpAnyH_done (by kernel_rfl) ?_ _

        go_wp2_with (fail)
        (try rw [Exit.noGoto_ret])
        refine bodyPost_ret (results_none rfl _ _ _) rfl ?_
        exact HRET.out _ (hb2.trans (hHeld.2.2.2.mono hws2)) (by rw [HC.out.1]; exact scan_no (fun h => by rw [← HQ.out.1, ← HQ.out.2] at h; exact hy2 h.2.1))
      subst hy2
      cases hy3 : ((gn : Int) != (g0 : Int))
      case true =>
        refine wp_region_held_drew (S := (fun W => W.cell? ⟨Bl, 0, none⟩ = some (.slice (some ⟨b, o, none⟩) l.length c) ∧ W.cell? ⟨b, o + at_, none⟩ = some (.slice (some ⟨b0, o0, none⟩) 128 c0) ∧ W.cell? ⟨b1, o1 + 10, none⟩ = some (.int .u8 (k : Int)) ∧ Below wr.heap.size wr W)) (by kernel_rfl) ⟨xBl.cell0, zat, z10, (Below.refl _ _).drew⟩ (fun hHeld => ?_)
        refine tkA 0 oJit0 ?_
        refine tkA 1 oJit1 ?_
        refine wpAnyH_ready (rs := [2]) (by kernel_rfl) (by simp) ?_
        refine AllReadyH.cons (o := oJit2) rfl (fun K hK => ?_) AllReadyH.nil
        go_simp
        go_at_call 105; refine (HGD.out _ hHeld.2.2.2).mono ?_; rintro e w9 ⟨rfl, hb9⟩
        refine hK.out _ _ ?_ (fun hHeld => ?_)
        · exact ⟨(hb9.cell (p := ⟨Bl, 0, none⟩) (Nat.lt_of_lt_of_le xBl.lt hHeld.2.2.2.size)).trans hHeld.1, (hb9.cell (p := ⟨b, o + at_, none⟩) (Nat.lt_of_lt_of_le lb hHeld.2.2.2.size)).trans hHeld.2.1, (hb9.cell (p := ⟨b1, o1 + 10, none⟩) (Nat.lt_of_lt_of_le lb1 hHeld.2.2.2.size)).trans hHeld.2.2.1, hHeld.2.2.2.trans (hb9.mono hHeld.2.2.2.size)⟩
        clear hK K
        try simp only [Act.put, List.setIfInBounds_toArray, List.set_cons_zero, List.set_cons_succ]
        refine tkA 3 oJit3 ?_
        refine tkA 4 oJit4 ?_
        refine tkA 5 oJit5 ?_
        refine tkA 6 oJit6 ?_
        refine tkA 7 oJit7 ?_
        refine tkA 8 oJit8 ?_
        refine tkA 9 oJit9 ?_
        refine tkA 10 oJit10 ?_
        refine tkA 11 oJit11 ?_
        refine tkA 12 oJit12 ?_
        refine tkA 13 oJit13 ?_
        refine tkA 14 oJit14 ?_
        refine tkA 15 oJit15 ?_
        refine tkA 16 oJit16 ?_
        refine tkA 17 oJit17 ?_
        refine tkA 19 oJit19 ?_
        refine tkA 20 oJit20 ?_
        refine tkA 21 oJit21 ?_
        refine tkA 22 oJit22 ?_
        refine tkA 23 oJit23 ?_
        refine wpAnyH_ready (rs := [18]) (by kernel_rfl) (by simp) ?_
        refine AllReadyH.cons (o := oJit18) rfl (fun K hK => ?_) AllReadyH.nil
        go_simp
        go_at_call 88; refine (HGA.out _ (hb2.trans (hHeld.2.2.2.mono hws2))).mono ?_; rintro e w8 ⟨rfl, hw8⟩; have hw8 := hw8.symm; subst hw8
        refine hK.out _ _ ?_ (fun hHeld => ?_)
        · exact hHeld
        clear hK K
        try simp only [Act.put, List.setIfInBounds_toArray, List.set_cons_zero, List.set_cons_succ]
        refine wpAnyH_ready (rs := [24]) (by kernel_rfl) (by simp) ?_
        refine AllReadyH.cons (o := oJit24) rfl (fun K hK => ?_) AllReadyH.nil
        go_simp
        go_at_call 88; refine (HGB.out _ (hb2.trans (hHeld.2.2.2.mono hws2))).mono ?_; rintro e w8 ⟨rfl, hw8⟩; have hw8 := hw8.symm; subst hw8
        refine hK.out _ _ ?_ (fun hHeld => ?_)
        · exact hHeld
        clear hK K
        try simp only [Act.put, List.setIfInBounds_toArray, List.set_cons_zero, List.set_cons_succ]
        refine tkA 25 oJit25 ?_
        refine tkA 26 oJit26 ?_
        refine tkA 27 oJit27 ?_
        refine tkB 28 oJit28 ?_
        refine tkB 29 oJit29 ?_
        refine tkB 30 oJit30 ?_
        refine tkB 31 oJit31 ?_
        refine tkB 32 oJit32 ?_
        refine tkA 33 oJit33 ?_
        refine wpAnyH_done (by kernel_rfl) ?_ _

        go_wp2_with (fail)
        (try rw [Exit.noGoto_ret])
        refine bodyPost_ret (results_none rfl _ _ _) rfl ?_
        exact HRET.out _ (hb2.trans (hHeld.2.2.2.mono hws2)) (by rw [HC.out.1]; exact scan_no (fun h => by rw [← HG.out.1] at h; exact (bne_iff_ne.1 hy3) (by rw [h.2.2.1])))
      obtain ⟨yy, hyy⟩ : ∃ y, y = decide ((gn : Int) < (last : Int)) := ⟨_, rfl⟩
      have hy4 := hyy.symm
      have hy4n : decide (gn < last) = yy := by rw [hyy]; exact decide_eq_decide.2 (by omega)
      have HY4 := Lib.hid hyy
      clear hyy
      refine wp_region_held_drew (S := (fun W => W.cell? ⟨Bl, 0, none⟩ = some (.slice (some ⟨b, o, none⟩) l.length c) ∧ W.cell? ⟨b, o + at_, none⟩ = some (.slice (some ⟨b0, o0, none⟩) 128 c0) ∧ W.cell? ⟨b1, o1 + 10, none⟩ = some (.int .u8 (k : Int)) ∧ Below wr.heap.size wr W)) (by kernel_rfl) ⟨xBl.cell0, zat, z10, (Below.refl _ _).drew⟩ (fun hHeld => ?_)
      refine tkA 0 oJit0 ?_
      refine tkA 1 oJit1 ?_
      refine wpAnyH_ready (rs := [2]) (by kernel_rfl) (by simp) ?_
      refine AllReadyH.cons (o := oJit2) rfl (fun K hK => ?_) AllReadyH.nil
      go_simp
      go_at_call 105; refine (HGD.out _ hHeld.2.2.2).mono ?_; rintro e w9 ⟨rfl, hb9⟩
      refine hK.out _ _ ?_ (fun hHeld => ?_)
      · exact ⟨(hb9.cell (p := ⟨Bl, 0, none⟩) (Nat.lt_of_lt_of_le xBl.lt hHeld.2.2.2.size)).trans hHeld.1, (hb9.cell (p := ⟨b, o + at_, none⟩) (Nat.lt_of_lt_of_le lb hHeld.2.2.2.size)).trans hHeld.2.1, (hb9.cell (p := ⟨b1, o1 + 10, none⟩) (Nat.lt_of_lt_of_le lb1 hHeld.2.2.2.size)).trans hHeld.2.2.1, hHeld.2.2.2.trans (hb9.mono hHeld.2.2.2.size)⟩
      clear hK K
      try simp only [Act.put, List.setIfInBounds_toArray, List.set_cons_zero, List.set_cons_succ]
      refine tkA 3 oJit3 ?_
      refine tkA 4 oJit4 ?_
      refine tkA 5 oJit5 ?_
      refine tkA 6 oJit6 ?_
      refine tkA 7 oJit7 ?_
      refine tkA 8 oJit8 ?_
      refine tkA 9 oJit9 ?_
      refine tkA 10 oJit10 ?_
      refine tkA 11 oJit11 ?_
      refine tkA 12 oJit12 ?_
      refine tkA 13 oJit13 ?_
      refine tkA 14 oJit14 ?_
      refine tkA 15 oJit15 ?_
      refine tkA 16 oJit16 ?_
      refine tkA 17 oJit17 ?_
      refine tkA 19 oJit19 ?_
      refine tkA 20 oJit20 ?_
      refine tkA 21 oJit21 ?_
      refine tkA 22 oJit22 ?_
      refine tkA 23 oJit23 ?_
      refine wpAnyH_ready (rs := [18]) (by kernel_rfl) (by simp) ?_
      refine AllReadyH.cons (o := oJit18) rfl (fun K hK => ?_) AllReadyH.nil
      go_simp
      go_at_call 88; refine (HGA.out _ (hb2.trans (hHeld.2.2.2.mono hws2))).mono ?_; rintro e w8 ⟨rfl, hw8⟩; have hw8 := hw8.symm; subst hw8
      refine hK.out _ _ ?_ (fun hHeld => ?_)
      · exact hHeld
      clear hK K
      try simp only [Act.put, List.setIfInBounds_toArray, List.set_cons_zero, List.set_cons_succ]
      refine wpAnyH_ready (rs := [24]) (by kernel_rfl) (by simp) ?_
      refine AllReadyH.cons (o := oJit24) rfl (fun K hK => ?_) AllReadyH.nil
      go_simp
      go_at_call 88; refine (HGB.out _ (hb2.trans (hHeld.2.2.2.mono hws2))).mono ?_; rintro e w8 ⟨rfl, hw8⟩; have hw8 := hw8.symm; subst hw8
      refine hK.out _ _ ?_ (fun hHeld => ?_)
      · exact hHeld
      clear hK K
      try simp only [Act.put, List.setIfInBounds_toArray, List.set_cons_zero, List.set_cons_succ]
      refine tkA 25 oJit25 ?_
      refine tkA 26 oJit26 ?_
      refine tkA 27 oJit27 ?_
      refine tkA 28 oJit28 ?_
      refine tkA 29 oJit29 ?_
      refine tkA 31 oJit31 ?_
      refine wpAnyH_ready (rs := [30]) (by kernel_rfl) (by simp) ?_
      refine AllReadyH.cons (o := oJit30) rfl (fun K hK => ?_) AllReadyH.nil
      go_simp
      go_at_call 88; refine (HGA.out _ (hb2.trans (hHeld.2.2.2.mono hws2))).mono ?_; rintro e w8 ⟨rfl, hw8⟩; have hw8 := hw8.symm; subst hw8
      refine hK.out _ _ ?_ (fun hHeld => ?_)
      · exact hHeld
      clear hK K
      try simp only [Act.put, List.setIfInBounds_toArray, List.set_cons_zero, List.set_cons_succ]
      refine tkA 32 oJit32 ?_
      refine tkA 33 oJit33 ?_
      refine wpAnyH_done (by kernel_rfl) ?_ _

      cases yy
      case true =>
        go_wp2_with (fail)
        (try rw [Exit.noGoto_ret])
        refine bodyPost_ret (results_none rfl _ _ _) rfl ?_
        exact HRET.out _ (hb2.trans (hHeld.2.2.2.mono hws2)) (by rw [HC.out.1]; exact scan_no (fun h => by rw [← HG.out.1] at h; have := of_decide_eq_true hy4; omega))
      have hcond : gGood s n = true ∧ sBeg s = decide (n = at_) ∧ sGen s = g0 ∧ last ≤ sGen s := by
        rw [← HG.out.1, ← HG.out.2.2, ← HQ.out.1, ← HQ.out.2]
        have e3 := bne_eq_false_iff_eq.1 hy3
        have e4 := of_decide_eq_false hy4
        exact ⟨rfl, rfl, by omega, by omega⟩
      have HCO := Lib.hid hcond
      have hm112 : m ≤ 112 := by
        have h := (good_parts hcond.1).1
        unfold sLen at h
        rw [HK.out.2.1]
        exact h
      clear hcond hy3 hy4 hy4n
      have hsd : sData s = (s.drop 12).take m := by rw [HK.out.2.1]; rfl
      have hdl : ((s.drop 12).take m).length = m := by rw [List.length_take, List.length_drop, hs1]; omega
      obtain ⟨dt, hdt⟩ : ∃ d, d = sData s := ⟨_, rfl⟩
      rw [← hdt] at hsd
      have hdtl : dt.length = m := by rw [hsd, hdl]
      have hgd : BsAt n₀ wr (some ⟨b1, o1 + 12, none⟩) dt := by rw [hsd]; exact bs_part HBS.out.1 12 m (by omega)
      obtain ⟨W9, hW9⟩ : ∃ W, W = w9 := ⟨_, rfl⟩
      rw [← hW9] at hHeld
      rw [← hW9]
      clear hW9
      obtain ⟨-, -, z10', hb9⟩ := hHeld
      have z11' := (hb9.cell (p := ⟨b1, _, none⟩) lb1).trans z11
      have hsrc : 0 < m → ∃ ad, some (⟨b1, o1 + 12, none⟩ : Addr) = some ad ∧ ∀ j u, (bcells dt)[j]? = some u → W9.cell? (ad.add j) = some u := fun h0 => bs_src hgd hb9 (by omega)
      have hbcl : (bcells dt).length = m * 1 := by rw [bcells_len]; omega
      have hown9 : W9.ownsRow wo.heap.size 5 1 u5 acc.length (bcells acc) := row_keep hown hb9
      have hb29 : Below wo.heap.size wo W9 := hb2.trans (hb9.mono hws2)
      have hs9 := hb29.size
      obtain ⟨fin, hfin⟩ : ∃ y, y = sFin s := ⟨_, rfl⟩
      have d5 : ((m2 : Int) != 0) = fin := by
        rw [hfin, HK.out.2.2.1]
        unfold sFin sKind
        rw [← HK.out.1]
        rcases Nat.mod_two_eq_zero_or_one (k / 2) with e | e <;> rw [e] <;> rfl
      have HFIN := Lib.hid hfin
      have z10o := (hb2.cell (p := ⟨b1, _, none⟩) lb10).symm.trans z10
      have HSR := Lib.hid hsrc
      have HBC := Lib.hid hbcl
      have HDT := Lib.hid (And.intro hdt hdtl)
      have hal : acc.length + m ≤ 1000000 := by omega
      have i12 : IntKind.i64.wrap (12 + (m : Int)) = 12 + m := IntWalk.i64_in _ (by omega)
      have n1 : (m : Int) ≤ 112 := by omega
      have n2 : (12 : Int) + m ≤ c1 := by omega
      have n3 : (0 : Int) ≤ (m : Int) := by omega
      have n5 : (12 : Int) ≤ 12 + m := by omega
      have n6 : ¬ c1 = 12 := by omega
      clear hsrc hbcl hdt hdtl hgd hsd hdl a1 d1 d2 hfin
      go_upto_region 8 with (at_builtin; refine wpList_append_any (by rfl) (.tmp 53) (.tmp 60) 35 rfl wo.heap.size 5 i0 (.int .u8 0) 1 1 Try.underlying35 hi0 hz0 hz1 hz2 rfl (by decide) u5 acc.length (bcells acc) rfl hown9 (some ⟨b1, o1 + 12, none⟩) ((12 + (m : Int)).toNat - 12) (c1 - 12) (bcells dt) rfl (by rw [HBC.out]; omega) (fun h => HSR.out (by omega)) (bcells_one _) (by simp [maxLen]; omega) (by omega) (by omega) ?_; intro v7 w7 hown7 hgrow7; have b7 : Below wo.heap.size wo w7 := hb29.grown hgrow7 hs9 (own_base hown9))
      have y10 := (b7.cell (p := ⟨b1, _, none⟩) lb10).trans z10o
      have e7 : acc.length + ((12 + (m : Int)).toNat - 12) = (acc ++ dt).length := by rw [List.length_append, HDT.out.2]; omega
      have e8 : bcells acc ++ bcells dt = bcells (acc ++ dt) := by simp [bcells]
      rw [e7, e8] at hown7
      have hlen7 : (acc ++ dt).length ≤ 112 * (n + 1 - at_) := by rw [List.length_append, HDT.out.2]; omega
      have hsc8 := HC.out.1
      clear z10 z11 z10' z11' z10o xBl yBl hown9 hown hgrow7 e7 e8 z1' zat i12 n1 n2 n5 n6 hb29 hb9
      cases fin
      case false =>
        rw [scan_on HCO.out HFIN.out.symm, ← HDT.out.1, HG.out.2.1, HS0E.out] at hsc8
        have HSC8 := Lib.hid hsc8
        clear hsc8
        go_wp2_with (fail)
        go_roundw
        case rel => exact ⟨n + 1, acc ++ dt, rfl, rfl, by go_num, by omega, by omega, hlen7, hown7, b7, HSC8⟩
        case measure => simp [intOf]; omega
      rw [scan_fin HCO.out HFIN.out.symm, ← HDT.out.1] at hsc8
      obtain ⟨bl, hok, hbl⟩ := own_rc hown7 (n + 1)
      obtain ⟨f', hall, hrec, hf', hP⟩ := rc_snoc (x := ⟨n + 1, acc ++ dt, v7, bl⟩) HI.out.1 HI.out.2.1 HI.out.2.2.1 (by omega) hsc8 hok rfl
      have hj7 := hJ _ _ _ _ _ hj (Keep.of_same b7 cc.it) (cc.same_old wo.heap.size)
      have hyv : YV Rc.bl (cc.old wo.heap.size) ⟨n + 1, acc ++ dt, v7, bl⟩ w7 := fun g t cs hg => by
        obtain ⟨q1, q2⟩ := hbl g t cs hg
        exact ⟨q1, fun h => by have := h.1; omega⟩
      obtain ⟨fn, tmps, assign, bodyc, hy, hR⟩ := hY _ _ ⟨n + 1, acc ++ dt, v7, bl⟩ _ hj7 hyv hP
      have hnx : ((n + 1 : Nat) : Int) = (n : Int) + 1 := by omega
      simp only [rcE, hnx] at hy
      have HN := Lib.hid (And.intro hall (And.intro hrec (And.intro hf' hP)))
      have e9 : sGen (l.getD at_ []) = gn := by rw [← HS0E.out, ← HG.out.2.1, HG.out.1, HCO.out.2.2.1]
      have HE9 := Lib.hid e9
      have b7s := b7.size
      clear hall hrec hf' hP hsc8 hyv hbl hok hnx e9
      go_upto_region 10 with (go_at_call 88; refine (HGA.out _ b7).mono ?_; rintro e w8 ⟨rfl, hw8⟩; have hw8 := hw8.symm; subst hw8)
      refine (wpIn_wide (n := n0)).1 ?_
      gi_wp2
      refine hR.mono ?_
      rintro e W' ⟨hkp2, (⟨rfl, hj'⟩ | ⟨rfl, hjx⟩)⟩
      · clear hR hy
        have HJ := Lib.hid hj'
        have HKP := Lib.hid hkp2
        clear hj' hkp2
        (try gi_wp2_with (fail))
        (try go_wp2_with (fail))
        go_roundw
        case rel =>
          have hkp2 := HKP.out
          refine ⟨n + 1, gn, f', (cc.old wo.heap.size).by w7.heap.size, pre ++ [⟨n + 1, acc ++ dt, v7, bl⟩], by go_num, rfl, by omega, hgl, Lib.hid ⟨HN.out.1, ?_, HN.out.2.2.1, ?_, ?_⟩, HJ.out⟩
          · rw [← HE9.out]; exact HN.out.2.1
          · exact (HI.out.2.2.2.1.trans (Keep.of_same b7 _)).then hkp2 (fun r hr hx => ⟨fun hl => HI.out.2.2.2.2 r (.inl hl) hx.2, fun e => HI.out.2.2.2.2 r (.inr e) hx.2⟩)
          · rintro r hr (hx | hx)
            · have h1 : r < w.heap.size := by
                rcases hr with hr | hr
                · exact hr.lt
                · rw [hr]; exact lBl
              omega
            · exact HI.out.2.2.2.2 r hr hx.2
        case measure => simp [intOf]; omega
      · clear hR hy
        have HJ := Lib.hid hjx
        clear hjx hkp2
        (try gi_wp2_with (fail))
        (try go_wp2_with (fail))
        (try rw [Exit.noGoto_ret])
        refine bodyPost_ret (results_none rfl _ _ _) rfl ?_
        exact ⟨⟨_, rfl⟩, .inr ⟨_, _, HN.out.2.2.2, HJ.out⟩⟩
end Go.Proofs.Ytckeopidedoohaa
