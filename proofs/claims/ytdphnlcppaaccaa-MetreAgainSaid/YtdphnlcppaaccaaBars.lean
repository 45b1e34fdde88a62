/-
  The program's Bars answers what the reference's Bars says. Conditions: valid changes.
-/
import Derived.Test.YtdphnlcppaaccaaAdd
import Derived.Test.YtdphnlcppaaccaaPlace
import Derived.Laws.EntriesVeiled
namespace Go.Proofs.Ytdphnlcppaaccaa
open Go.RowKit
attribute [local go_sem] Oper.semAt_some

theorem tdiv_bd {x y A : Int} (h0 : -A ≤ x) (h1 : x ≤ A) (hy : 1 ≤ y) : -A ≤ x.tdiv y ∧ x.tdiv y ≤ A := by
  by_cases hx : 0 ≤ x
  · rw [Int.tdiv_eq_ediv_of_nonneg hx]
    have := quot_bd hx hy
    omega
  · have e : x.tdiv y = - ((-x).tdiv y) := by rw [Int.neg_tdiv]; omega
    rw [e, Int.tdiv_eq_ediv_of_nonneg (by omega)]
    have := quot_bd (x := -x) (by omega) hy
    omega

/-- The bars collected over parts that have come. -/
def pbFold (ms : List Met) (lo hi : Int) (pre : List (Ix ms)) : List Int := pre.foldl (fun acc x => pbPart ms lo hi x.1 acc) []
theorem pbFold_snoc (ms : List Met) (lo hi : Int) (pre : List (Ix ms)) (x : Ix ms) : pbFold ms lo hi (pre ++ [x]) = pbPart ms lo hi x.1 (pbFold ms lo hi pre) := by simp [pbFold]
theorem pbFold_all (ms : List Met) (lo hi : Int) (k : Nat) (hk : k ≤ ms.length) : pbFold ms lo hi ((upto ms).take k) = pbAll ms lo hi k := by
  induction k with
  | zero => simp [pbFold, pbAll]
  | succ k ih => rw [upto_take ms k hk, pbFold_snoc, ih (by omega)]; rfl
theorem pbIn_few (ms : List Met) (hi : Int) (f : Nat) : ∀ (b last : Int) (acc : List Int), acc.length ≤ 4097 → (pbIn ms hi f b last acc).length ≤ 4097 := by
  induction f with
  | zero => exact fun _ _ _ h => h
  | succ f ih =>
    intro b last acc h
    unfold pbIn
    split
    · rename_i hc
      exact ih _ _ _ (by simp; omega)
    · exact h
theorem pbFold_few (ms : List Met) (lo hi : Int) (pre : List (Ix ms)) : (pbFold ms lo hi pre).length ≤ 4097 := by
  have key : ∀ (l : List (Ix ms)) (acc : List Int), acc.length ≤ 4097 → (l.foldl (fun acc x => pbPart ms lo hi x.1 acc) acc).length ≤ 4097 := by
    intro l
    induction l with
    | nil => exact fun _ h => h
    | cons x l ih => exact fun acc h => ih _ (pbIn_few _ _ _ _ _ _ h)
  exact key pre [] (by simp)

/-- The variable 'ticks' of Bars, and the row that it holds. -/
def TicksAt (base : Nat) (cc : Col) (Bt : Nat) (acc : List Int) (W : World) : Prop :=
  ∃ v, Mine cc Bt ∧ Blk W Bt 31 #[v] ∧ W.ownsRow base 3 1 v acc.length (acc.map (Value.int .i64)) ∧ ∀ k, v.ownBlock = some k → Mine cc k
theorem TicksAt.stable {α : Type} (base Bt : Nat) (f : List α → List Int) : Stable (fun cc s W => TicksAt base cc Bt (f s) W) := by
  rintro c c' s W W' ⟨v, hm, hb, ho, hv⟩ hk hc
  refine ⟨v, hm.same hc hb.lt, hb.keep hk hm.2, ?_, fun k e => (hv k e).same hc (ho.lt k e).2⟩
  obtain ⟨h1, h2⟩ := ho
  refine ⟨h1, ?_⟩
  rcases h2 with h2 | ⟨g, cap, cur, rfl, hg, hh, r⟩
  · exact .inl h2
  · have hlt : g < W.heap.size := (Array.getElem?_eq_some_iff.1 hh).1
    exact .inr ⟨g, cap, cur, rfl, hg, (hk.block g hlt (hv g rfl).2).trans hh, r⟩

theorem ownsRow_move {W W' : World} {base : Nat} {e : TypeId} {v : Value} {n : Nat} {xs : List Value} (h : W.ownsRow base e 1 v n xs) (hg : ∀ g, v.ownBlock = some g → W'.heap[g]? = W.heap[g]?) : W'.ownsRow base e 1 v n xs := by
  refine ⟨h.1, ?_⟩
  rcases h.2 with h2 | ⟨g, cap, cur, rfl, hb, hh, r⟩
  · exact .inl h2
  · exact .inr ⟨g, cap, cur, rfl, hb, (hg g rfl).trans hh, r⟩

theorem TicksAt.by {base : Nat} {cc : Col} {Bt : Nat} {acc : List Int} {W : World} (h : TicksAt base cc Bt acc W) (n : Nat) : TicksAt base (cc.by n) Bt acc W := by
  obtain ⟨v, h1, h2, h3, h4⟩ := h
  exact ⟨v, h1.by n, h2, h3, fun k hk => (h4 k hk).by n⟩

/-- Between two rounds of Bars' loop. -/
def BarsI (ms : List Met) (lo hi : Int) (w : World) (Fb : Nat) (cc : Col) (pre : List (Ix ms)) (W : World) : Prop :=
  ((Mine cc (w.heap.size) ∧ Blk W (w.heap.size) 3 #[.int .i64 lo]) ∧ (Mine cc (w.heap.size + 1) ∧ Blk W (w.heap.size + 1) 3 #[.int .i64 hi]) ∧ TicksAt (w.heap.size + 1 + 1 + 1) cc (w.heap.size + 1 + 1) (pbFold ms lo hi pre) W ∧ (Mine cc Fb ∧ Blk W Fb 51 #[.func (.func 28) #[] #[.pointer (some ⟨w.heap.size + 1, 0, none⟩), .pointer (some ⟨w.heap.size + 1 + 1, 0, none⟩)]])) ∧ Old w.heap.size w cc W
theorem BarsI.stable (ms : List Met) (lo hi : Int) (w : World) (Fb : Nat) : Stable (BarsI ms lo hi w Fb) :=
  Stable.and (.and (Stable.blk _ _ _) (.and (Stable.blk _ _ _) (.and (TicksAt.stable _ _ _) (Stable.blk _ _ _)))) (Stable.old (Nat.le_refl _))

/-- In the inner loop: what has been collected; all else as the round found it. -/
structure InRound (ms : List Met) (lo hi : Int) (w : World) (Fb B : Nat) (cc : Col) (k : Nat) (res : List Int) (W0 : World) (bar : Int) (acc : List Int) (wr : World) : Prop where
  few : acc.length ≤ 4097
  go : res = pbIn ms hi (lastN ms k + 1 - bar).toNat bar (lastN ms k) acc
  ticks : TicksAt (w.heap.size + 1 + 1 + 1) (cc.by W0.heap.size) (w.heap.size + 1 + 1) acc wr
  b0 : Blk wr (w.heap.size) 3 #[.int .i64 lo]
  b1 : Blk wr (w.heap.size + 1) 3 #[.int .i64 hi]
  bf : Blk wr Fb 51 #[.func (.func 28) #[] #[.pointer (some ⟨w.heap.size + 1, 0, none⟩), .pointer (some ⟨w.heap.size + 1 + 1, 0, none⟩)]]
  p : Blk wr B 45 #[.int .i64 (mb ms k), .int .i64 (mt ms k), .int .i64 (mu ms k), .int .i64 (lastN ms k), .int .i64 (tickN ms k)]
  keep : Keep cc.cl W0 wr
  old : Below w.heap.size W0 wr

theorem TicksAt.below {base : Nat} {cc : Col} {Bt : Nat} {acc : List Int} {W W' : World} (h : TicksAt base cc Bt acc W) (hb : Below W.heap.size W W') : TicksAt base cc Bt acc W' :=
  TicksAt.stable (α := Nat) base Bt (fun _ => acc) cc cc [] W W' h (Keep.of_same hb _) (Col.same_refl _ _)

section
variable {ms : List Met} {lo hi : Int} {w : World} {Fb B : Nat} {cc : Col} {k : Nat} {res : List Int} {W0 : World} {bar : Int} {acc : List Int} {wr : World}
theorem InRound.below (h : InRound ms lo hi w Fb B cc k res W0 bar acc wr) {w4 : World} (hb : Below wr.heap.size wr w4) (hw : w.heap.size ≤ W0.heap.size) : InRound ms lo hi w Fb B cc k res W0 bar acc w4 :=
  ⟨h.few, h.go, h.ticks.below hb, h.b0.below hb h.b0.lt, h.b1.below hb h.b1.lt, h.bf.below hb h.bf.lt, h.p.below hb h.p.lt, h.keep.then (Keep.of_same hb (fun _ => False)) (fun _ _ h => h.elim), h.old.trans (hb.mono (Nat.le_trans hw h.keep.size))⟩

theorem InRound.halt (h : InRound ms lo hi w Fb B cc k res W0 bar acc wr) (hn : ¬ (bar ≤ lastN ms k ∧ bg ms bar < hi ∧ acc.length ≤ 4096)) : res = acc := by
  rw [h.go]
  cases (lastN ms k + 1 - bar).toNat with
  | zero => rfl
  | succ f => unfold pbIn; rw [if_neg hn]

theorem InRound.added (h : InRound ms lo hi w Fb B cc k res W0 bar acc wr) (_ : w.heap.size ≤ W0.heap.size) (hn : bar ≤ lastN ms k ∧ bg ms bar < hi ∧ acc.length ≤ 4096) {v : Value} (hm : Mine cc (w.heap.size + 1 + 1)) (hs : w.heap.size + 1 + 1 < W0.heap.size)
    (hb : Blk wr (w.heap.size + 1 + 1) 31 #[v]) (ho : wr.ownsRow (w.heap.size + 1 + 1 + 1) 3 1 v acc.length (acc.map (Value.int .i64))) (hv : ∀ k, v.ownBlock = some k → Mine (cc.by W0.heap.size) k)
    {w5 : World} (hA : Added wr (w.heap.size + 1 + 1 + 1) (w.heap.size + 1 + 1) v (acc ++ [bg ms bar]) w5) : InRound ms lo hi w Fb B cc k res W0 (bar + 1) (acc ++ [bg ms bar]) w5 := by
  obtain ⟨v', hb', ho', hv', hk⟩ := hA
  have hrow : ∀ r, v.ownBlock = some r → w.heap.size + 1 + 1 + 1 ≤ r := fun r hr => by
    rcases ho.2 with ⟨h2, _⟩ | ⟨g, cap, cur, h2, hg, _⟩
    · rw [h2] at hr; simp [Value.ownBlock] at hr
    · rw [h2] at hr; simp [Value.ownBlock] at hr; omega
  have hz := h.keep.size
  have hno : ∀ {D t cs}, Blk wr D t cs → t ≠ 31 → t ≠ 3 → ¬ (D = w.heap.size + 1 + 1 ∨ v.ownBlock = some D) := fun hD h1 h2 => by
    rintro (rfl | he)
    · exact Blk.ne hD hb h1 rfl
    · exact row_ne ho hD (fun e => h2 e.symm) he
  have hlow : ∀ {D : Nat}, D < w.heap.size + 1 + 1 → ¬ (D = w.heap.size + 1 + 1 ∨ v.ownBlock = some D) := fun hD => by
    rintro (rfl | he)
    · omega
    · have := hrow _ he; omega
  refine ⟨by simp; omega, ?_, ⟨v', Mine.by hm _, hb', ho', fun r hr => ?_⟩, h.b0.keep hk (hlow (by omega)), h.b1.keep hk (hlow (by omega)), h.bf.keep hk (hno h.bf (by decide) (by decide)), h.p.keep hk (hno h.p (by decide) (by decide)), h.keep.then hk ?_, h.old.trans (hk.below (by omega) ?_)⟩
  · rw [h.go]
    have e : (lastN ms k + 1 - bar).toNat = (lastN ms k + 1 - (bar + 1)).toNat + 1 := by omega
    rw [e, pbIn, if_pos hn]
  · rcases hv' with h' | ⟨g, h', hg⟩
    · exact hv r (h' ▸ hr)
    · rw [h'] at hr
      obtain rfl := Option.some.inj hr
      exact Mine.new _ (by omega)
  · rintro r hr (rfl | he)
    · exact hm.1
    · exact (hv r he).1.elim (fun h => by omega) id
  · rintro r hr (rfl | he)
    · omega
    · have := hrow _ he; omega
end

set_option maxHeartbeats 4000000 in
theorem pbars_t (b o c : Nat) (ms : List Met) (lo hi : Int) (w : World) (hv : Valid ms) (hm : MetAt w b o ms) :
    Calls Try.prog 17 #[.slice (some ⟨b, o, none⟩) ms.length c, .int .i64 lo, .int .i64 hi] w (IntsErr w (rBars ms lo hi)) := by
  have hb := hm.lt
  have hmf : ∀ (fn : Fn) (first cap : Array Value) (w : World), (Instr.makeFunc fn first cap).run Try.prog w = .ok (.func fn first cap) w := fun _ _ _ _ => rfl
  have hb0 := ((Below.refl w.heap.size w).alloc (Nat.le_refl _) (.cells #[.int .i64 lo] 3)).alloc (by simp) (.cells #[.int .i64 hi] 3) |>.alloc (by simp; omega) (.cells #[.slice none 0 0] 31)
  refine (callsIn_wide (n := 5)).1 ?_
  refine callsIn_of_wp_marks Try.func17 rfl trivial (wpIn_wide.2 ?_) rfl
  simp only [Try.ntmps17, List.size_toArray, List.length_cons, List.length_nil, Nat.reduceAdd, Nat.reduceSub, Array.replicate_succ, Array.replicate_zero, List.push_toArray, List.append_toArray, List.nil_append, List.cons_append]
  by_cases hr : lo < 0 ∨ hi < lo ∨ 16777216 < hi
  · have E := Lib.hid (show rBars ms lo hi = ([], 1) by unfold rBars; rw [if_pos hr])
    rcases hr with hr | hr | hr
    all_goals
      go_wp2_with (go_at_call 13; refine (pcheck_yes _ _ _ _ _ hv (hm.below hb0)).mono ?_; rintro e w1 ⟨rfl, hw1⟩; obtain ⟨hc1, hf1⟩ := bcell hw1; have hz1 : w.heap.size + 1 + 1 < w1.heap.size := (by have := hw1.size; simp at this; omega))
    all_goals
      have y2 : Blk w1 (w.heap.size + 1 + 1) 31 #[.slice none 0 0] := (Blk.newAt (W := (w.alloc _).alloc _) (by simp) 31 _).below hw1 (by simp)
      have e2 := (y2.set0 (.slice none 0 0)).cell0
      clear hc1 hf1
      refine ⟨.tuple #[.slice none 0 0, .int .i64 1], ?_, ?_⟩
      · simp [results, Try.results17, go_sem, e2]
      · rw [E.out]
        exact ⟨none, 0, rfl, IntsAt.nil _ _ _, (hb0.trans (hw1.mono (by simp <;> omega))).setCell (by simp <;> omega) _⟩
  have h0 : 0 ≤ lo := by omega
  have h1 : lo ≤ hi := by omega
  have h2 : hi ≤ 16777216 := by omega
  clear hr
  go_wp2_with (first
    | (go_at_call 13; refine (pcheck_yes _ _ _ _ _ hv (hm.below hb0)).mono ?_; rintro e w1 ⟨rfl, hw1⟩; obtain ⟨hc1, hf1⟩ := bcell hw1; have hz1 : w.heap.size + 1 + 1 < w1.heap.size := (by have := hw1.size; simp at this; omega))
    | (go_at_call 21; refine (parts_t _ _ _ _ _).mono ?_; rintro e w2 ⟨rfl, rfl⟩))
  have hsz := hw1.size
  simp only [World.size_alloc] at hsz
  have y0 : Blk w1 (w.heap.size) 3 #[.int .i64 lo] := (Blk.alloc (Blk.alloc (Blk.newAt (W := w) rfl 3 _) _) _).below hw1 (by simp; omega)
  have y1 : Blk w1 (w.heap.size + 1) 3 #[.int .i64 hi] := (Blk.alloc (Blk.newAt (W := w.alloc _) (by simp) 3 _) _).below hw1 (by simp)
  have y2 : Blk w1 (w.heap.size + 1 + 1) 31 #[.slice none 0 0] := (Blk.newAt (W := (w.alloc _).alloc _) (by simp) 31 _).below hw1 (by simp)
  have hbl : Below w.heap.size w w1 := hb0.trans (hw1.mono (by simp <;> omega))
  obtain ⟨Wl, hWl⟩ : ∃ Wl, (w1.alloc (.cells #[.func (.func 28) #[] #[.pointer (some ⟨w.heap.size + 1, 0, none⟩), .pointer (some ⟨w.heap.size + 1 + 1, 0, none⟩)]] 51)).alloc (.cells #[.slice (some ⟨b, o, none⟩) ms.length c] 22) = Wl := ⟨_, rfl⟩
  have hbl : Below w.heap.size w Wl := by rw [← hWl]; exact (hbl.alloc hbl.size _).alloc (by simp; omega) _
  have hmw : MetAt Wl b o ms := hm.below hbl
  have hsl : Wl.heap.size = w1.heap.size + 1 + 1 := by rw [← hWl]; simp
  have hBn : Wl.cell? ⟨w1.heap.size + 1, 0, none⟩ = some (.slice (some ⟨b, o, none⟩) ms.length c) := by
    rw [← hWl]
    exact (Blk.newAt (B := w1.heap.size + 1) (by simp) 22 #[.slice (some ⟨b, o, none⟩) ms.length c]).cell0
  have x0 : Blk Wl (w.heap.size) 3 #[.int .i64 lo] := by rw [← hWl]; exact (y0.alloc _).alloc _
  have x1 : Blk Wl (w.heap.size + 1) 3 #[.int .i64 hi] := by rw [← hWl]; exact (y1.alloc _).alloc _
  have x2 : Blk Wl (w.heap.size + 1 + 1) 31 #[.slice none 0 0] := by rw [← hWl]; exact (y2.alloc _).alloc _
  have xf : Blk Wl w1.heap.size 51 #[.func (.func 28) #[] #[.pointer (some ⟨w.heap.size + 1, 0, none⟩), .pointer (some ⟨w.heap.size + 1 + 1, 0, none⟩)]] := by rw [← hWl]; exact (Blk.new _ _ _).alloc _
  rw [hWl]
  clear hWl y0 y1 y2 hc1 hf1
  obtain ⟨Fb, hFb, hFl⟩ : ∃ Fb, Fb = w1.heap.size ∧ w.heap.size + 1 + 1 < Fb := ⟨_, rfl, hz1⟩
  rw [← hFb] at xf
  refine (wpIn_wide (n := 5)).1 ?_
  refine wpIn_range (by omega) rfl (enters_of Try.func29 (by kernel_rfl) rfl) (parts_iter _ (w1.heap.size + 1) b o c (by omega) ms Wl hv hBn (by omega) hmw) (fun _ => rfl)
    (BarsI ms lo hi w Fb) (fun _ _ _ _ => False)
    ?hI ?hIx ⟨fun _ => False, fun r => (w.heap.size ≤ r ∧ r < w.heap.size + 3) ∨ r = Fb⟩ ?hc1 ?hc2 ?hc3 ?h0
    (fun a x B => (a.put (some 31) (partN ms x.1)).put (some 9) (.pointer (some ⟨B, 0, none⟩)))
    (fun x B W => Blk W B 45 #[.int .i64 (mb ms x.1), .int .i64 (mt ms x.1), .int .i64 (mu ms x.1), .int .i64 (lastN ms x.1), .int .i64 (tickN ms x.1)]) ?hAx ?assign ?body ?done ?stop
  case hI => exact BarsI.stable _ _ _ _ _
  case hIx => exact fun _ _ _ _ _ _ h _ _ => h.elim
  case hc1 => exact fun r h => h.elim
  case hc2 =>
    rintro r hr hq
    have := hmw.lt
    dsimp only at hr hq
    rcases hr with hr | hr | hr
    · exact hr
    · omega
    · omega
  case hc3 =>
    rintro r (h | rfl | rfl)
    · exact h.elim
    · exact hmw.lt
    · omega
  case h0 => exact ⟨⟨⟨⟨.inl ⟨by omega, by omega⟩, id⟩, x0⟩, ⟨⟨.inl ⟨by omega, by omega⟩, id⟩, x1⟩, ⟨_, ⟨.inl ⟨by omega, by omega⟩, id⟩, x2, ⟨rfl, .inl ⟨rfl, rfl⟩⟩, fun k hk => by simp [Value.ownBlock] at hk⟩, ⟨⟨.inr rfl, id⟩, xf⟩⟩, ⟨fun _ _ => id, hbl⟩⟩
  case hAx => exact fun x B W1 W2 h hk => h.keep hk (Nat.lt_irrefl _)
  case assign =>
    intro l x W K hK
    unfold partN
    gi_wp2
    exact hK _ ((Below.refl _ _).alloc (Nat.le_refl _) _) (Blk.new _ _ _)
  case body =>
    clear x0 x1 x2 xf hBn hmw hbl hw1 hz1 hsz hsl
    subst hFb
    rintro l cc pre ⟨k, hk⟩ B W ⟨⟨⟨m0, b0⟩, ⟨m1, b1⟩, hT, ⟨mf, bf⟩⟩, hold⟩ hA hBle hcol hsp
    have c0 := b0.cell0
    have cf := bf.cell0
    have a0 : W.cell? ⟨B, 0, none⟩ = some (.int .i64 (mb ms k)) := hA.cell 0
    have a1 : W.cell? ⟨B, 1, none⟩ = some (.int .i64 (mt ms k)) := hA.cell 1
    have a2 : W.cell? ⟨B, 2, none⟩ = some (.int .i64 (mu ms k)) := hA.cell 2
    have a3 : W.cell? ⟨B, 3, none⟩ = some (.int .i64 (lastN ms k)) := hA.cell 3
    have a4 : W.cell? ⟨B, 4, none⟩ = some (.int .i64 (tickN ms k)) := hA.cell 4
    simp only [partN, Act.put, List.setIfInBounds_toArray, List.set_cons_zero, List.set_cons_succ] at *
    have bs0 := b0.lt
    have bs := hA.lt
    have hlast := lastN_le hv hk
    have hf := hv.fine k hk
    have HF := Lib.hid hf
    obtain ⟨e0, e1, e2, e3, e4, e5⟩ := hf
    have hlg := long_bd HF.out
    have htb := tickN_bd hv k hk
    have hfew := hv.few
    have s0 : ¬ mt ms k * mu ms k = 0 := by omega
    have htd := tdiv_bd (x := lo - tickN ms k + mt ms k * mu ms k - 1) (y := mt ms k * mu ms k) (A := 1000000000000000) (by omega) (by omega) hlg.1
    have i1 : IntKind.i64.wrap (lo - tickN ms k) = lo - tickN ms k := IntWalk.i64_in _ (by omega)
    have i2 : IntKind.i64.wrap (lo - tickN ms k + mt ms k * mu ms k) = lo - tickN ms k + mt ms k * mu ms k := IntWalk.i64_in _ (by omega)
    have i3 : IntKind.i64.wrap (lo - tickN ms k + mt ms k * mu ms k - 1) = lo - tickN ms k + mt ms k * mu ms k - 1 := IntWalk.i64_in _ (by omega)
    have i4 : IntKind.i64.wrap ((lo - tickN ms k + mt ms k * mu ms k - 1).tdiv (mt ms k * mu ms k)) = (lo - tickN ms k + mt ms k * mu ms k - 1).tdiv (mt ms k * mu ms k) := IntWalk.i64_in _ (by omega)
    gi_wp2
    refine wpIn_region_heldR (fun W => W.cell? ⟨B, 0, none⟩ = some (.int .i64 (mb ms k)) ∧ W.cell? ⟨B, 1, none⟩ = some (.int .i64 (mt ms k)) ∧ W.cell? ⟨B, 2, none⟩ = some (.int .i64 (mu ms k)) ∧ W.cell? ⟨B, 3, none⟩ = some (.int .i64 (lastN ms k)) ∧ W.cell? ⟨B, 4, none⟩ = some (.int .i64 (tickN ms k)) ∧ W.cell? ⟨w.heap.size, 0, none⟩ = some (.int .i64 lo)) (by kernel_rfl) (by kernel_rfl) ?_ ?_ (fun hHeld => ?_)
    · rintro ⟨a, w, h⟩; exact h
    · go_keep
    refine wpAnyH_take (i := 0) (oi := { dst := some 32, op := Op.fieldAddr 45 (Operand.tmp 9) 0, type := 0, pos := "metre.go:116", after := #[], guard := none }) (v := ?_) rfl (by kernel_rfl) (by kernel_rfl) (by kernel_rfl) (fun _ _ _ h => h) (Or.inl ⟨by rfl, ?_⟩) (by assumption) ?_
    rotate_left
    · intro wS hSw; go_split_ands; go_simp; first | done | with_reducible rfl
    simp only [Act.put, List.setIfInBounds_toArray, List.set_cons_zero, List.set_cons_succ]
    refine wpAnyH_take (i := 1) (oi := { dst := some 33, op := Op.fieldAddr 38 (Operand.tmp 32) 0, type := 0, pos := "metre.go:116", after := #[{ on := 0, ground := Ground.data }], guard := none }) (v := ?_) rfl (by kernel_rfl) (by kernel_rfl) (by kernel_rfl) (fun _ _ _ h => h) (Or.inl ⟨by rfl, ?_⟩) (by assumption) ?_
    rotate_left
    · intro wS hSw; go_split_ands; go_simp; first | done | with_reducible rfl
    simp only [Act.put, List.setIfInBounds_toArray, List.set_cons_zero, List.set_cons_succ]
    refine wpAnyH_take (i := 2) (oi := { dst := some 34, op := Op.load 3 (Operand.tmp 33), type := 3, pos := "metre.go:116", after := #[{ on := 1, ground := Ground.data }], guard := none }) (v := ?_) rfl (by kernel_rfl) (by kernel_rfl) (by kernel_rfl) (fun _ _ _ h => h) (Or.inl ⟨by rfl, ?_⟩) (by assumption) ?_
    rotate_left
    · intro wS hSw; go_split_ands; go_simp; first | done | with_reducible rfl
    simp only [Act.put, List.setIfInBounds_toArray, List.set_cons_zero, List.set_cons_succ]
    refine wpAnyH_take (i := 3) (oi := { dst := some 35, op := Op.load 3 (Operand.tmp 4), type := 3, pos := "metre.go:116", after := #[], guard := none }) (v := ?_) rfl (by kernel_rfl) (by kernel_rfl) (by kernel_rfl) (fun _ _ _ h => h) (Or.inl ⟨by rfl, ?_⟩) (by assumption) ?_
    rotate_left
    · intro wS hSw; go_split_ands; go_simp; first | done | with_reducible rfl
    simp only [Act.put, List.setIfInBounds_toArray, List.set_cons_zero, List.set_cons_succ]
    refine wpAnyH_take (i := 4) (oi := { dst := some 36, op := Op.fieldAddr 45 (Operand.tmp 9) 2, type := 0, pos := "metre.go:116", after := #[], guard := none }) (v := ?_) rfl (by kernel_rfl) (by kernel_rfl) (by kernel_rfl) (fun _ _ _ h => h) (Or.inl ⟨by rfl, ?_⟩) (by assumption) ?_
    rotate_left
    · intro wS hSw; go_split_ands; go_simp; first | done | with_reducible rfl
    simp only [Act.put, List.setIfInBounds_toArray, List.set_cons_zero, List.set_cons_succ]
    refine wpAnyH_take (i := 5) (oi := { dst := some 37, op := Op.load 3 (Operand.tmp 36), type := 3, pos := "metre.go:116", after := #[{ on := 4, ground := Ground.data }], guard := none }) (v := ?_) rfl (by kernel_rfl) (by kernel_rfl) (by kernel_rfl) (fun _ _ _ h => h) (Or.inl ⟨by rfl, ?_⟩) (by assumption) ?_
    rotate_left
    · intro wS hSw; go_split_ands; go_simp; first | done | with_reducible rfl
    simp only [Act.put, List.setIfInBounds_toArray, List.set_cons_zero, List.set_cons_succ]
    refine wpAnyH_take (i := 6) (oi := { dst := some 38, op := Op.binOp BinOp.sub 3 (Operand.tmp 35) (Operand.tmp 37) 3, type := 3, pos := "metre.go:116", after := #[{ on := 3, ground := Ground.data }, { on := 5, ground := Ground.data }], guard := none }) (v := ?_) rfl (by kernel_rfl) (by kernel_rfl) (by kernel_rfl) (fun _ _ _ h => h) (Or.inl ⟨by rfl, ?_⟩) (by assumption) ?_
    rotate_left
    · intro wS hSw; go_split_ands; go_simp; first | done | with_reducible rfl
    simp only [Act.put, List.setIfInBounds_toArray, List.set_cons_zero, List.set_cons_succ]
    refine wpAnyH_take (i := 7) (oi := { dst := some 39, op := Op.load 45 (Operand.tmp 9), type := 45, pos := "metre.go:116", after := #[], guard := none }) (v := ?_) rfl (by kernel_rfl) (by kernel_rfl) (by kernel_rfl) (fun _ _ _ h => h) (Or.inl ⟨by rfl, ?_⟩) (by assumption) ?_
    rotate_left
    · intro wS hSw; go_split_ands; go_simp; first | done | with_reducible rfl
    simp only [Act.put, List.setIfInBounds_toArray, List.set_cons_zero, List.set_cons_succ]
    refine wpAnyH_take (i := 11) (oi := { dst := some 43, op := Op.load 45 (Operand.tmp 9), type := 45, pos := "metre.go:116", after := #[], guard := none }) (v := ?_) rfl (by kernel_rfl) (by kernel_rfl) (by kernel_rfl) (fun _ _ _ h => h) (Or.inl ⟨by rfl, ?_⟩) (by assumption) ?_
    rotate_left
    · intro wS hSw; go_split_ands; go_simp; first | done | with_reducible rfl
    simp only [Act.put, List.setIfInBounds_toArray, List.set_cons_zero, List.set_cons_succ]
    refine wpAnyH_ready (rs := [8]) (by kernel_rfl) (by simp) ?_
    refine AllReadyH.cons (o := { dst := some 40, op := Op.call { callee := Callee.value (Operand.func 26), args := #[Operand.tmp 39], argTypes := #[45] }, type := 3, pos := "metre.go:116", after := #[{ on := 7, ground := Ground.data }], guard := none }) rfl (fun K hK => ?_) AllReadyH.nil
    go_simp
    go_at_call 26; refine (long_t _ _ _ _ _ _ (by omega) (by omega)).mono ?_; rintro e w2 ⟨rfl, hw2⟩; have hz2 : W.heap.size ≤ w2.heap.size := hw2.size
    refine hK.out _ _ ?_ (fun hHeld => ?_)
    · exact ⟨(hw2.cell (p := ⟨B, 0, none⟩) (by simp; omega)).trans (by go_keep), (hw2.cell (p := ⟨B, 1, none⟩) (by simp; omega)).trans (by go_keep), (hw2.cell (p := ⟨B, 2, none⟩) (by simp; omega)).trans (by go_keep), (hw2.cell (p := ⟨B, 3, none⟩) (by simp; omega)).trans (by go_keep), (hw2.cell (p := ⟨B, 4, none⟩) (by simp; omega)).trans (by go_keep), (hw2.cell (p := ⟨w.heap.size, 0, none⟩) (by simp; omega)).trans (by go_keep)⟩
    clear hK K
    try simp only [Act.put, List.setIfInBounds_toArray, List.set_cons_zero, List.set_cons_succ]
    refine wpAnyH_take (i := 9) (oi := { dst := some 41, op := Op.binOp BinOp.add 3 (Operand.tmp 38) (Operand.tmp 40) 3, type := 3, pos := "metre.go:116", after := #[{ on := 6, ground := Ground.data }, { on := 8, ground := Ground.data }], guard := none }) (v := ?_) rfl (by kernel_rfl) (by kernel_rfl) (by kernel_rfl) (fun _ _ _ h => h) (Or.inl ⟨by rfl, ?_⟩) (by assumption) ?_
    rotate_left
    · intro wS hSw; go_split_ands; go_simp; first | done | with_reducible rfl
    simp only [Act.put, List.setIfInBounds_toArray, List.set_cons_zero, List.set_cons_succ]
    refine wpAnyH_take (i := 10) (oi := { dst := some 42, op := Op.binOp BinOp.sub 3 (Operand.tmp 41) (Operand.const (Value.int IntKind.i64 1)) 3, type := 3, pos := "metre.go:116", after := #[{ on := 9, ground := Ground.data }], guard := none }) (v := ?_) rfl (by kernel_rfl) (by kernel_rfl) (by kernel_rfl) (fun _ _ _ h => h) (Or.inl ⟨by rfl, ?_⟩) (by assumption) ?_
    rotate_left
    · intro wS hSw; go_split_ands; go_simp; first | done | with_reducible rfl
    simp only [Act.put, List.setIfInBounds_toArray, List.set_cons_zero, List.set_cons_succ]
    refine wpAnyH_ready (rs := [12]) (by kernel_rfl) (by simp) ?_
    refine AllReadyH.cons (o := { dst := some 44, op := Op.call { callee := Callee.value (Operand.func 26), args := #[Operand.tmp 43], argTypes := #[45] }, type := 3, pos := "metre.go:116", after := #[{ on := 11, ground := Ground.data }, { on := 8, ground := Ground.chain }], guard := none }) rfl (fun K hK => ?_) AllReadyH.nil
    go_simp
    go_at_call 26; refine (long_t _ _ _ _ _ _ (by omega) (by omega)).mono ?_; rintro e w3 ⟨rfl, hw3⟩; have hz3 : w2.heap.size ≤ w3.heap.size := hw3.size
    refine hK.out _ _ ?_ (fun hHeld => ?_)
    · exact ⟨(hw3.cell (p := ⟨B, 0, none⟩) (by simp; omega)).trans (by go_keep), (hw3.cell (p := ⟨B, 1, none⟩) (by simp; omega)).trans (by go_keep), (hw3.cell (p := ⟨B, 2, none⟩) (by simp; omega)).trans (by go_keep), (hw3.cell (p := ⟨B, 3, none⟩) (by simp; omega)).trans (by go_keep), (hw3.cell (p := ⟨B, 4, none⟩) (by simp; omega)).trans (by go_keep), (hw3.cell (p := ⟨w.heap.size, 0, none⟩) (by simp; omega)).trans (by go_keep)⟩
    clear hK K
    try simp only [Act.put, List.setIfInBounds_toArray, List.set_cons_zero, List.set_cons_succ]
    refine wpAnyH_take (i := 13) (oi := { dst := some 45, op := Op.binOp BinOp.quo 3 (Operand.tmp 42) (Operand.tmp 44) 3, type := 3, pos := "metre.go:116", after := #[{ on := 10, ground := Ground.data }, { on := 12, ground := Ground.data }], guard := none }) (v := ?_) rfl (by kernel_rfl) (by kernel_rfl) (by kernel_rfl) (fun _ _ _ h => h) (Or.inl ⟨by rfl, ?_⟩) (by assumption) ?_
    rotate_left
    · intro wS hSw; go_split_ands; go_simp; first | done | with_reducible rfl
    simp only [Act.put, List.setIfInBounds_toArray, List.set_cons_zero, List.set_cons_succ]
    refine wpAnyH_ready (rs := [14]) (by kernel_rfl) (by simp) ?_
    refine AllReadyH.cons (o := { dst := some 46, op := Op.call { callee := Callee.builtin Builtin.max, args := #[Operand.const (Value.int IntKind.i64 0), Operand.tmp 45], argTypes := #[3, 3] }, type := 3, pos := "metre.go:116", after := #[{ on := 13, ground := Ground.data }], guard := none }) rfl (fun K hK => ?_) AllReadyH.nil
    go_simp
    refine hK.out _ _ ?_ (fun hHeld => ?_)
    · ((try dsimp only at hHeld); go_split_ands; go_simp)
    clear hK K
    try simp only [Act.put, List.setIfInBounds_toArray, List.set_cons_zero, List.set_cons_succ]
    refine wpAnyH_take (i := 15) (oi := { dst := some 47, op := Op.binOp BinOp.add 3 (Operand.tmp 34) (Operand.tmp 46) 3, type := 3, pos := "metre.go:116", after := #[{ on := 2, ground := Ground.data }, { on := 14, ground := Ground.data }], guard := none }) (v := ?_) rfl (by kernel_rfl) (by kernel_rfl) (by kernel_rfl) (fun _ _ _ h => h) (Or.inl ⟨by rfl, ?_⟩) (by assumption) ?_
    rotate_left
    · intro wS hSw; go_split_ands; go_simp; first | done | with_reducible rfl
    simp only [Act.put, List.setIfInBounds_toArray, List.set_cons_zero, List.set_cons_succ]
    refine wpAnyH_ready (rs := [16]) (by kernel_rfl) (by simp) ?_
    refine AllReadyH.cons (o := { dst := some 10, op := Op.assign (Operand.tmp 47), type := 3, pos := "metre.go:116", after := #[{ on := 15, ground := Ground.data }, { on := 12, ground := Ground.chain }, { on := 0, ground := Ground.phase }, { on := 1, ground := Ground.phase }, { on := 2, ground := Ground.phase }, { on := 3, ground := Ground.phase }, { on := 4, ground := Ground.phase }, { on := 5, ground := Ground.phase }, { on := 6, ground := Ground.phase }, { on := 7, ground := Ground.phase }, { on := 8, ground := Ground.phase }, { on := 9, ground := Ground.phase }, { on := 10, ground := Ground.phase }, { on := 11, ground := Ground.phase }, { on := 12, ground := Ground.phase }, { on := 13, ground := Ground.phase }, { on := 14, ground := Ground.phase }, { on := 15, ground := Ground.phase }], guard := none }) rfl (fun K hK => ?_) AllReadyH.nil
    go_simp
    refine hK.out _ _ ?_ (fun hHeld => ?_)
    · ((try dsimp only at hHeld); go_split_ands; go_simp)
    clear hK K
    try simp only [Act.put, List.setIfInBounds_toArray, List.set_cons_zero, List.set_cons_succ]
    refine wpAnyH_done (by kernel_rfl) ?_ _
    gi_wp2
    all_goals
      have hb3 : Below W.heap.size W w3 := (Below.trans (Below.refl _ W).drew hw2).trans (hw3.mono hz2)
      have hws : w.heap.size ≤ W.heap.size := by omega
      have hTs : w.heap.size + 1 + 1 < W.heap.size := by obtain ⟨v, _, hvb, _, _⟩ := hT; exact hvb.lt
      have mT : Mine cc (w.heap.size + 1 + 1) := by obtain ⟨v, h, _, _, _⟩ := hT; exact h
      gi_loopw [11] (fun i wr => ∃ (bar : Int) (acc : List Int), i = .int .i64 bar ∧ mb ms k ≤ bar ∧ bar ≤ 2000000000000000 ∧ InRound ms lo hi w w1.heap.size B cc k (pbFold ms lo hi (pre ++ [⟨k, hk⟩])) W bar acc wr) (fun i _ => (lastN ms k + 1 - intOf i).toNat)
      case atStart =>
        have hF : mb ms k ≤ fstN ms lo k ∧ fstN ms lo k ≤ 2000000000000000 := by unfold fstN; omega
        refine ⟨fstN ms lo k, pbFold ms lo hi pre, ?_, hF.1, hF.2, pbFold_few _ _ _ _, pbFold_snoc _ _ _ _ _, hT.below hb3 |>.by _, b0.below hb3 b0.lt, b1.below hb3 b1.lt, bf.below hb3 bf.lt, hA.below hb3 hA.lt, Keep.of_same hb3 _, hb3.mono hws⟩
        have : IntKind.i64.wrap (fstN ms lo k) = fstN ms lo k := IntWalk.i64_in _ (by omega)
        rw [← this]
        congr 2
        unfold fstN
        omega
      case round =>
        obtain ⟨bar, acc, rfl, hlo, hhi, hI⟩ := hrel
        clear hw2 hw3 hHeld c0 cf a0 a1 a2 a3 a4 i1 i2 i3 i4 htd s0 bs0 bs hb3 b0 b1 bf hA hT
        have bs := hI.p.lt
        by_cases hle : bar ≤ lastN ms k
        · have d : decide (bar ≤ lastN ms k) = true := decide_eq_true hle
          have hbg := bg_part hv hk hlo (by omega)
          have q1 := mul_bd (a := bar - mb ms k) (A := 1048577) (by omega) (by omega) (by omega : 0 ≤ mt ms k * mu ms k) hlg.2
          have hks := hI.keep.size
          by_cases hadd : tickN ms k + (bar - mb ms k) * (mt ms k * mu ms k) < hi ∧ acc.length ≤ 4096
          · gi_wp2
            refine wpIn_region_heldR (fun W => W.cell? ⟨B, 0, none⟩ = some (.int .i64 (mb ms k)) ∧ W.cell? ⟨B, 1, none⟩ = some (.int .i64 (mt ms k)) ∧ W.cell? ⟨B, 2, none⟩ = some (.int .i64 (mu ms k)) ∧ W.cell? ⟨B, 3, none⟩ = some (.int .i64 (lastN ms k)) ∧ W.cell? ⟨B, 4, none⟩ = some (.int .i64 (tickN ms k)) ∧ W.cell? ⟨w1.heap.size, 0, none⟩ = some (.func (.func 28) #[] #[.pointer (some ⟨w.heap.size + 1, 0, none⟩), .pointer (some ⟨w.heap.size + 1 + 1, 0, none⟩)])) (by kernel_rfl) (by kernel_rfl) ?_ ?_ (fun hHeld => ?_)
            · rintro ⟨a, w, h⟩; exact h
            · exact ⟨hI.p.cell 0, hI.p.cell 1, hI.p.cell 2, hI.p.cell 3, hI.p.cell 4, hI.bf.cell0⟩
            refine wpAnyH_take (i := 0) (oi := { dst := some 49, op := Op.move (Operand.tmp 11), type := 3, pos := "metre.go:117", after := #[], guard := none }) (v := ?_) rfl (by kernel_rfl) (by kernel_rfl) (by kernel_rfl) (fun _ _ _ h => h) (Or.inl ⟨by rfl, ?_⟩) (by assumption) ?_
            rotate_left
            · intro wS hSw; go_split_ands; go_simp; first | done | with_reducible rfl
            simp only [Act.put, List.setIfInBounds_toArray, List.set_cons_zero, List.set_cons_succ]
            refine wpAnyH_take (i := 1) (oi := { dst := some 50, op := Op.fieldAddr 45 (Operand.tmp 9) 1, type := 0, pos := "metre.go:117", after := #[], guard := none }) (v := ?_) rfl (by kernel_rfl) (by kernel_rfl) (by kernel_rfl) (fun _ _ _ h => h) (Or.inl ⟨by rfl, ?_⟩) (by assumption) ?_
            rotate_left
            · intro wS hSw; go_split_ands; go_simp; first | done | with_reducible rfl
            simp only [Act.put, List.setIfInBounds_toArray, List.set_cons_zero, List.set_cons_succ]
            refine wpAnyH_take (i := 2) (oi := { dst := some 51, op := Op.load 3 (Operand.tmp 50), type := 3, pos := "metre.go:117", after := #[{ on := 1, ground := Ground.data }], guard := none }) (v := ?_) rfl (by kernel_rfl) (by kernel_rfl) (by kernel_rfl) (fun _ _ _ h => h) (Or.inl ⟨by rfl, ?_⟩) (by assumption) ?_
            rotate_left
            · intro wS hSw; go_split_ands; go_simp; first | done | with_reducible rfl
            simp only [Act.put, List.setIfInBounds_toArray, List.set_cons_zero, List.set_cons_succ]
            refine wpAnyH_take (i := 3) (oi := { dst := some 52, op := Op.binOp BinOp.leq 3 (Operand.tmp 49) (Operand.tmp 51) 3, type := 4, pos := "metre.go:117", after := #[{ on := 0, ground := Ground.data }, { on := 2, ground := Ground.data }], guard := none }) (v := ?_) rfl (by kernel_rfl) (by kernel_rfl) (by kernel_rfl) (fun _ _ _ h => h) (Or.inl ⟨by rfl, ?_⟩) (by assumption) ?_
            rotate_left
            · intro wS hSw; go_split_ands; go_simp; first | done | with_reducible rfl
            simp only [Act.put, List.setIfInBounds_toArray, List.set_cons_zero, List.set_cons_succ]
            refine wpAnyH_take (i := 4) (oi := { dst := some 53, op := Op.move (Operand.tmp 52), type := 4, pos := "metre.go:117", after := #[{ on := 3, ground := Ground.data }], guard := none }) (v := ?_) rfl (by kernel_rfl) (by kernel_rfl) (by kernel_rfl) (fun _ _ _ h => h) (Or.inl ⟨by rfl, ?_⟩) (by assumption) ?_
            rotate_left
            · intro wS hSw; go_split_ands; go_simp; first | done | with_reducible rfl
            simp only [Act.put, List.setIfInBounds_toArray, List.set_cons_zero, List.set_cons_succ]
            refine wpAnyH_take (i := 5) (oi := { dst := some 54, op := Op.load 51 (Operand.tmp 8), type := 51, pos := "metre.go:117", after := #[{ on := 4, ground := Ground.guard }], guard := some (4, true) }) (v := ?_) rfl (by kernel_rfl) (by kernel_rfl) (by kernel_rfl) (fun _ _ _ h => h) (Or.inl ⟨by rfl, ?_⟩) (by assumption) ?_
            rotate_left
            · intro wS hSw; go_split_ands; go_simp; first | done | with_reducible rfl
            simp only [Act.put, List.setIfInBounds_toArray, List.set_cons_zero, List.set_cons_succ]
            refine wpAnyH_take (i := 6) (oi := { dst := some 55, op := Op.load 45 (Operand.tmp 9), type := 45, pos := "metre.go:117", after := #[{ on := 4, ground := Ground.guard }], guard := some (4, true) }) (v := ?_) rfl (by kernel_rfl) (by kernel_rfl) (by kernel_rfl) (fun _ _ _ h => h) (Or.inl ⟨by rfl, ?_⟩) (by assumption) ?_
            rotate_left
            · intro wS hSw; go_split_ands; go_simp; first | done | with_reducible rfl
            simp only [Act.put, List.setIfInBounds_toArray, List.set_cons_zero, List.set_cons_succ]
            refine wpAnyH_take (i := 7) (oi := { dst := some 56, op := Op.move (Operand.tmp 11), type := 3, pos := "metre.go:117", after := #[{ on := 4, ground := Ground.guard }], guard := some (4, true) }) (v := ?_) rfl (by kernel_rfl) (by kernel_rfl) (by kernel_rfl) (fun _ _ _ h => h) (Or.inl ⟨by rfl, ?_⟩) (by assumption) ?_
            rotate_left
            · intro wS hSw; go_split_ands; go_simp; first | done | with_reducible rfl
            simp only [Act.put, List.setIfInBounds_toArray, List.set_cons_zero, List.set_cons_succ]
            refine wpAnyH_ready (rs := [8]) (by kernel_rfl) (by simp) ?_
            refine AllReadyH.cons (o := { dst := some 57, op := Op.call { callee := Callee.value (Operand.func 22), args := #[Operand.tmp 55, Operand.tmp 56], argTypes := #[45, 3] }, type := 3, pos := "metre.go:117", after := #[{ on := 6, ground := Ground.data }, { on := 7, ground := Ground.data }, { on := 4, ground := Ground.chain }, { on := 4, ground := Ground.guard }], guard := some (4, true) }) rfl (fun K hK => ?_) AllReadyH.nil
            go_simp
            go_at_call 22; refine (pbegin_t _ _ _ _ _ _ _ (by omega) (by omega) (by omega) (by omega) q1.1 (by omega) (by omega) (by omega)).mono ?_; rintro e w4 ⟨rfl, hw4⟩; have hz4 : wr.heap.size ≤ w4.heap.size := hw4.size; have hI4 := hI.below (Below.trans (Below.refl _ wr).drew hw4) hws; obtain ⟨v, hvm, hvb, hvo, hvc⟩ := hI4.ticks
            refine hK.out _ _ ?_ (fun hHeld => ?_)
            · exact ⟨hI4.p.cell 0, hI4.p.cell 1, hI4.p.cell 2, hI4.p.cell 3, hI4.p.cell 4, hI4.bf.cell0⟩
            clear hK K
            try simp only [Act.put, List.setIfInBounds_toArray, List.set_cons_zero, List.set_cons_succ]
            refine wpAnyH_ready (rs := [9]) (by kernel_rfl) (by simp) ?_
            refine AllReadyH.cons (o := { dst := some 58, op := Op.call { callee := Callee.value (Operand.tmp 54), args := #[Operand.tmp 57], argTypes := #[3] }, type := 4, pos := "metre.go:117", after := #[{ on := 5, ground := Ground.data }, { on := 8, ground := Ground.data }, { on := 8, ground := Ground.chain }, { on := 4, ground := Ground.guard }], guard := some (4, true) }) rfl (fun K hK => ?_) AllReadyH.nil
            go_simp
            go_at_call 28; refine (add_yes _ _ _ _ _ _ _ _ hadd.1 hadd.2 hI4.b1 hvb hvo (by omega)).mono ?_; rintro e w5 ⟨rfl, hA5⟩; have hI5 := hI4.added hws (hbg ▸ ⟨hle, hadd⟩) mT hTs hvb hvo hvc (hbg ▸ hA5); have hz5 : w4.heap.size ≤ w5.heap.size := (by obtain ⟨_, _, _, _, hk⟩ := hA5; exact hk.size)
            refine hK.out _ _ ?_ (fun hHeld => ?_)
            · exact ⟨hI5.p.cell 0, hI5.p.cell 1, hI5.p.cell 2, hI5.p.cell 3, hI5.p.cell 4, hI5.bf.cell0⟩
            clear hK K
            try simp only [Act.put, List.setIfInBounds_toArray, List.set_cons_zero, List.set_cons_succ]
            refine wpAnyH_take (i := 10) (oi := { dst := some 59, op := Op.pick (Operand.tmp 53) (Operand.tmp 58) (Operand.const (Value.bool false)), type := 4, pos := "metre.go:117", after := #[{ on := 4, ground := Ground.data }, { on := 9, ground := Ground.data }], guard := none }) (v := ?_) rfl (by kernel_rfl) (by kernel_rfl) (by kernel_rfl) (fun _ _ _ h => h) (Or.inl ⟨by rfl, ?_⟩) (by assumption) ?_
            rotate_left
            · intro wS hSw; go_split_ands; go_simp; first | done | with_reducible rfl
            simp only [Act.put, List.setIfInBounds_toArray, List.set_cons_zero, List.set_cons_succ]
            refine wpAnyH_done (by kernel_rfl) ?_ _
            gi_wp2
            go_roundw
            case rel => exact ⟨bar + 1, acc ++ [bg ms bar], by go_num, by omega, by omega, hI5⟩
            case measure => simp [intOf]; omega
          · gi_wp2
            refine wpIn_region_heldR (fun W => W.cell? ⟨B, 0, none⟩ = some (.int .i64 (mb ms k)) ∧ W.cell? ⟨B, 1, none⟩ = some (.int .i64 (mt ms k)) ∧ W.cell? ⟨B, 2, none⟩ = some (.int .i64 (mu ms k)) ∧ W.cell? ⟨B, 3, none⟩ = some (.int .i64 (lastN ms k)) ∧ W.cell? ⟨B, 4, none⟩ = some (.int .i64 (tickN ms k)) ∧ W.cell? ⟨w1.heap.size, 0, none⟩ = some (.func (.func 28) #[] #[.pointer (some ⟨w.heap.size + 1, 0, none⟩), .pointer (some ⟨w.heap.size + 1 + 1, 0, none⟩)])) (by kernel_rfl) (by kernel_rfl) ?_ ?_ (fun hHeld => ?_)
            · rintro ⟨a, w, h⟩; exact h
            · exact ⟨hI.p.cell 0, hI.p.cell 1, hI.p.cell 2, hI.p.cell 3, hI.p.cell 4, hI.bf.cell0⟩
            refine wpAnyH_take (i := 0) (oi := { dst := some 49, op := Op.move (Operand.tmp 11), type := 3, pos := "metre.go:117", after := #[], guard := none }) (v := ?_) rfl (by kernel_rfl) (by kernel_rfl) (by kernel_rfl) (fun _ _ _ h => h) (Or.inl ⟨by rfl, ?_⟩) (by assumption) ?_
            rotate_left
            · intro wS hSw; go_split_ands; go_simp; first | done | with_reducible rfl
            simp only [Act.put, List.setIfInBounds_toArray, List.set_cons_zero, List.set_cons_succ]
            refine wpAnyH_take (i := 1) (oi := { dst := some 50, op := Op.fieldAddr 45 (Operand.tmp 9) 1, type := 0, pos := "metre.go:117", after := #[], guard := none }) (v := ?_) rfl (by kernel_rfl) (by kernel_rfl) (by kernel_rfl) (fun _ _ _ h => h) (Or.inl ⟨by rfl, ?_⟩) (by assumption) ?_
            rotate_left
            · intro wS hSw; go_split_ands; go_simp; first | done | with_reducible rfl
            simp only [Act.put, List.setIfInBounds_toArray, List.set_cons_zero, List.set_cons_succ]
            refine wpAnyH_take (i := 2) (oi := { dst := some 51, op := Op.load 3 (Operand.tmp 50), type := 3, pos := "metre.go:117", after := #[{ on := 1, ground := Ground.data }], guard := none }) (v := ?_) rfl (by kernel_rfl) (by kernel_rfl) (by kernel_rfl) (fun _ _ _ h => h) (Or.inl ⟨by rfl, ?_⟩) (by assumption) ?_
            rotate_left
            · intro wS hSw; go_split_ands; go_simp; first | done | with_reducible rfl
            simp only [Act.put, List.setIfInBounds_toArray, List.set_cons_zero, List.set_cons_succ]
            refine wpAnyH_take (i := 3) (oi := { dst := some 52, op := Op.binOp BinOp.leq 3 (Operand.tmp 49) (Operand.tmp 51) 3, type := 4, pos := "metre.go:117", after := #[{ on := 0, ground := Ground.data }, { on := 2, ground := Ground.data }], guard := none }) (v := ?_) rfl (by kernel_rfl) (by kernel_rfl) (by kernel_rfl) (fun _ _ _ h => h) (Or.inl ⟨by rfl, ?_⟩) (by assumption) ?_
            rotate_left
            · intro wS hSw; go_split_ands; go_simp; first | done | with_reducible rfl
            simp only [Act.put, List.setIfInBounds_toArray, List.set_cons_zero, List.set_cons_succ]
            refine wpAnyH_take (i := 4) (oi := { dst := some 53, op := Op.move (Operand.tmp 52), type := 4, pos := "metre.go:117", after := #[{ on := 3, ground := Ground.data }], guard := none }) (v := ?_) rfl (by kernel_rfl) (by kernel_rfl) (by kernel_rfl) (fun _ _ _ h => h) (Or.inl ⟨by rfl, ?_⟩) (by assumption) ?_
            rotate_left
            · intro wS hSw; go_split_ands; go_simp; first | done | with_reducible rfl
            simp only [Act.put, List.setIfInBounds_toArray, List.set_cons_zero, List.set_cons_succ]
            refine wpAnyH_take (i := 5) (oi := { dst := some 54, op := Op.load 51 (Operand.tmp 8), type := 51, pos := "metre.go:117", after := #[{ on := 4, ground := Ground.guard }], guard := some (4, true) }) (v := ?_) rfl (by kernel_rfl) (by kernel_rfl) (by kernel_rfl) (fun _ _ _ h => h) (Or.inl ⟨by rfl, ?_⟩) (by assumption) ?_
            rotate_left
            · intro wS hSw; go_split_ands; go_simp; first | done | with_reducible rfl
            simp only [Act.put, List.setIfInBounds_toArray, List.set_cons_zero, List.set_cons_succ]
            refine wpAnyH_take (i := 6) (oi := { dst := some 55, op := Op.load 45 (Operand.tmp 9), type := 45, pos := "metre.go:117", after := #[{ on := 4, ground := Ground.guard }], guard := some (4, true) }) (v := ?_) rfl (by kernel_rfl) (by kernel_rfl) (by kernel_rfl) (fun _ _ _ h => h) (Or.inl ⟨by rfl, ?_⟩) (by assumption) ?_
            rotate_left
            · intro wS hSw; go_split_ands; go_simp; first | done | with_reducible rfl
            simp only [Act.put, List.setIfInBounds_toArray, List.set_cons_zero, List.set_cons_succ]
            refine wpAnyH_take (i := 7) (oi := { dst := some 56, op := Op.move (Operand.tmp 11), type := 3, pos := "metre.go:117", after := #[{ on := 4, ground := Ground.guard }], guard := some (4, true) }) (v := ?_) rfl (by kernel_rfl) (by kernel_rfl) (by kernel_rfl) (fun _ _ _ h => h) (Or.inl ⟨by rfl, ?_⟩) (by assumption) ?_
            rotate_left
            · intro wS hSw; go_split_ands; go_simp; first | done | with_reducible rfl
            simp only [Act.put, List.setIfInBounds_toArray, List.set_cons_zero, List.set_cons_succ]
            refine wpAnyH_ready (rs := [8]) (by kernel_rfl) (by simp) ?_
            refine AllReadyH.cons (o := { dst := some 57, op := Op.call { callee := Callee.value (Operand.func 22), args := #[Operand.tmp 55, Operand.tmp 56], argTypes := #[45, 3] }, type := 3, pos := "metre.go:117", after := #[{ on := 6, ground := Ground.data }, { on := 7, ground := Ground.data }, { on := 4, ground := Ground.chain }, { on := 4, ground := Ground.guard }], guard := some (4, true) }) rfl (fun K hK => ?_) AllReadyH.nil
            go_simp
            go_at_call 22; refine (pbegin_t _ _ _ _ _ _ _ (by omega) (by omega) (by omega) (by omega) q1.1 (by omega) (by omega) (by omega)).mono ?_; rintro e w4 ⟨rfl, hw4⟩; have hz4 : wr.heap.size ≤ w4.heap.size := hw4.size; have hI4 := hI.below (Below.trans (Below.refl _ wr).drew hw4) hws; obtain ⟨v, hvm, hvb, hvo, hvc⟩ := hI4.ticks
            refine hK.out _ _ ?_ (fun hHeld => ?_)
            · exact ⟨hI4.p.cell 0, hI4.p.cell 1, hI4.p.cell 2, hI4.p.cell 3, hI4.p.cell 4, hI4.bf.cell0⟩
            clear hK K
            try simp only [Act.put, List.setIfInBounds_toArray, List.set_cons_zero, List.set_cons_succ]
            refine wpAnyH_ready (rs := [9]) (by kernel_rfl) (by simp) ?_
            refine AllReadyH.cons (o := { dst := some 58, op := Op.call { callee := Callee.value (Operand.tmp 54), args := #[Operand.tmp 57], argTypes := #[3] }, type := 4, pos := "metre.go:117", after := #[{ on := 5, ground := Ground.data }, { on := 8, ground := Ground.data }, { on := 8, ground := Ground.chain }, { on := 4, ground := Ground.guard }], guard := some (4, true) }) rfl (fun K hK => ?_) AllReadyH.nil
            go_simp
            go_at_call 28; refine (add_no _ _ _ _ _ _ _ _ hadd hI.few hI4.b1 hvb hvo).mono ?_; rintro e w5 ⟨rfl, rfl⟩
            refine hK.out _ _ ?_ (fun hHeld => ?_)
            · exact ⟨hI4.p.cell 0, hI4.p.cell 1, hI4.p.cell 2, hI4.p.cell 3, hI4.p.cell 4, hI4.bf.cell0⟩
            clear hK K
            try simp only [Act.put, List.setIfInBounds_toArray, List.set_cons_zero, List.set_cons_succ]
            refine wpAnyH_take (i := 10) (oi := { dst := some 59, op := Op.pick (Operand.tmp 53) (Operand.tmp 58) (Operand.const (Value.bool false)), type := 4, pos := "metre.go:117", after := #[{ on := 4, ground := Ground.data }, { on := 9, ground := Ground.data }], guard := none }) (v := ?_) rfl (by kernel_rfl) (by kernel_rfl) (by kernel_rfl) (fun _ _ _ h => h) (Or.inl ⟨by rfl, ?_⟩) (by assumption) ?_
            rotate_left
            · intro wS hSw; go_split_ands; go_simp; first | done | with_reducible rfl
            simp only [Act.put, List.setIfInBounds_toArray, List.set_cons_zero, List.set_cons_succ]
            refine wpAnyH_done (by kernel_rfl) ?_ _
            have hres := hI4.halt (by rw [hbg]; exact fun h => hadd h.2)
            gi_wp2
            exact ⟨hI4.keep, ⟨⟨m0.by _, hI4.b0⟩, ⟨m1.by _, hI4.b1⟩, hres ▸ hI4.ticks, ⟨mf.by _, hI4.bf⟩⟩, hold.by _ hI4.old⟩
        · have d : decide (bar ≤ lastN ms k) = false := decide_eq_false hle
          gi_wp2
          refine wpIn_region_heldR (fun W => W.cell? ⟨B, 0, none⟩ = some (.int .i64 (mb ms k)) ∧ W.cell? ⟨B, 1, none⟩ = some (.int .i64 (mt ms k)) ∧ W.cell? ⟨B, 2, none⟩ = some (.int .i64 (mu ms k)) ∧ W.cell? ⟨B, 3, none⟩ = some (.int .i64 (lastN ms k)) ∧ W.cell? ⟨B, 4, none⟩ = some (.int .i64 (tickN ms k)) ∧ W.cell? ⟨w1.heap.size, 0, none⟩ = some (.func (.func 28) #[] #[.pointer (some ⟨w.heap.size + 1, 0, none⟩), .pointer (some ⟨w.heap.size + 1 + 1, 0, none⟩)])) (by kernel_rfl) (by kernel_rfl) ?_ ?_ (fun hHeld => ?_)
          · rintro ⟨a, w, h⟩; exact h
          · exact ⟨hI.p.cell 0, hI.p.cell 1, hI.p.cell 2, hI.p.cell 3, hI.p.cell 4, hI.bf.cell0⟩
          refine wpAnyH_take (i := 0) (oi := { dst := some 49, op := Op.move (Operand.tmp 11), type := 3, pos := "metre.go:117", after := #[], guard := none }) (v := ?_) rfl (by kernel_rfl) (by kernel_rfl) (by kernel_rfl) (fun _ _ _ h => h) (Or.inl ⟨by rfl, ?_⟩) (by assumption) ?_
          rotate_left
          · intro wS hSw; go_split_ands; go_simp; first | done | with_reducible rfl
          simp only [Act.put, List.setIfInBounds_toArray, List.set_cons_zero, List.set_cons_succ]
          refine wpAnyH_take (i := 1) (oi := { dst := some 50, op := Op.fieldAddr 45 (Operand.tmp 9) 1, type := 0, pos := "metre.go:117", after := #[], guard := none }) (v := ?_) rfl (by kernel_rfl) (by kernel_rfl) (by kernel_rfl) (fun _ _ _ h => h) (Or.inl ⟨by rfl, ?_⟩) (by assumption) ?_
          rotate_left
          · intro wS hSw; go_split_ands; go_simp; first | done | with_reducible rfl
          simp only [Act.put, List.setIfInBounds_toArray, List.set_cons_zero, List.set_cons_succ]
          refine wpAnyH_take (i := 2) (oi := { dst := some 51, op := Op.load 3 (Operand.tmp 50), type := 3, pos := "metre.go:117", after := #[{ on := 1, ground := Ground.data }], guard := none }) (v := ?_) rfl (by kernel_rfl) (by kernel_rfl) (by kernel_rfl) (fun _ _ _ h => h) (Or.inl ⟨by rfl, ?_⟩) (by assumption) ?_
          rotate_left
          · intro wS hSw; go_split_ands; go_simp; first | done | with_reducible rfl
          simp only [Act.put, List.setIfInBounds_toArray, List.set_cons_zero, List.set_cons_succ]
          refine wpAnyH_take (i := 3) (oi := { dst := some 52, op := Op.binOp BinOp.leq 3 (Operand.tmp 49) (Operand.tmp 51) 3, type := 4, pos := "metre.go:117", after := #[{ on := 0, ground := Ground.data }, { on := 2, ground := Ground.data }], guard := none }) (v := ?_) rfl (by kernel_rfl) (by kernel_rfl) (by kernel_rfl) (fun _ _ _ h => h) (Or.inl ⟨by rfl, ?_⟩) (by assumption) ?_
          rotate_left
          · intro wS hSw; go_split_ands; go_simp; first | done | with_reducible rfl
          simp only [Act.put, List.setIfInBounds_toArray, List.set_cons_zero, List.set_cons_succ]
          refine wpAnyH_take (i := 4) (oi := { dst := some 53, op := Op.move (Operand.tmp 52), type := 4, pos := "metre.go:117", after := #[{ on := 3, ground := Ground.data }], guard := none }) (v := ?_) rfl (by kernel_rfl) (by kernel_rfl) (by kernel_rfl) (fun _ _ _ h => h) (Or.inl ⟨by rfl, ?_⟩) (by assumption) ?_
          rotate_left
          · intro wS hSw; go_split_ands; go_simp; first | done | with_reducible rfl
          simp only [Act.put, List.setIfInBounds_toArray, List.set_cons_zero, List.set_cons_succ]
          refine wpAnyH_take (i := 5) (oi := { dst := some 54, op := Op.load 51 (Operand.tmp 8), type := 51, pos := "metre.go:117", after := #[{ on := 4, ground := Ground.guard }], guard := some (4, true) }) (v := undef) rfl (by kernel_rfl) (by kernel_rfl) (by kernel_rfl) (fun _ _ _ h => h) (Or.inr ⟨by rfl, rfl⟩) (by assumption) ?_
          simp only [Act.put, List.setIfInBounds_toArray, List.set_cons_zero, List.set_cons_succ]
          refine wpAnyH_take (i := 6) (oi := { dst := some 55, op := Op.load 45 (Operand.tmp 9), type := 45, pos := "metre.go:117", after := #[{ on := 4, ground := Ground.guard }], guard := some (4, true) }) (v := undef) rfl (by kernel_rfl) (by kernel_rfl) (by kernel_rfl) (fun _ _ _ h => h) (Or.inr ⟨by rfl, rfl⟩) (by assumption) ?_
          simp only [Act.put, List.setIfInBounds_toArray, List.set_cons_zero, List.set_cons_succ]
          refine wpAnyH_take (i := 7) (oi := { dst := some 56, op := Op.move (Operand.tmp 11), type := 3, pos := "metre.go:117", after := #[{ on := 4, ground := Ground.guard }], guard := some (4, true) }) (v := undef) rfl (by kernel_rfl) (by kernel_rfl) (by kernel_rfl) (fun _ _ _ h => h) (Or.inr ⟨by rfl, rfl⟩) (by assumption) ?_
          simp only [Act.put, List.setIfInBounds_toArray, List.set_cons_zero, List.set_cons_succ]
          refine wpAnyH_take (i := 8) (oi := { dst := some 57, op := Op.call { callee := Callee.value (Operand.func 22), args := #[Operand.tmp 55, Operand.tmp 56], argTypes := #[45, 3] }, type := 3, pos := "metre.go:117", after := #[{ on := 6, ground := Ground.data }, { on := 7, ground := Ground.data }, { on := 4, ground := Ground.chain }, { on := 4, ground := Ground.guard }], guard := some (4, true) }) (v := undef) rfl (by kernel_rfl) (by kernel_rfl) (by kernel_rfl) (fun _ _ _ h => h) (Or.inr ⟨by rfl, rfl⟩) (by assumption) ?_
          simp only [Act.put, List.setIfInBounds_toArray, List.set_cons_zero, List.set_cons_succ]
          refine wpAnyH_take (i := 9) (oi := { dst := some 58, op := Op.call { callee := Callee.value (Operand.tmp 54), args := #[Operand.tmp 57], argTypes := #[3] }, type := 4, pos := "metre.go:117", after := #[{ on := 5, ground := Ground.data }, { on := 8, ground := Ground.data }, { on := 8, ground := Ground.chain }, { on := 4, ground := Ground.guard }], guard := some (4, true) }) (v := undef) rfl (by kernel_rfl) (by kernel_rfl) (by kernel_rfl) (fun _ _ _ h => h) (Or.inr ⟨by rfl, rfl⟩) (by assumption) ?_
          simp only [Act.put, List.setIfInBounds_toArray, List.set_cons_zero, List.set_cons_succ]
          refine wpAnyH_take (i := 10) (oi := { dst := some 59, op := Op.pick (Operand.tmp 53) (Operand.tmp 58) (Operand.const (Value.bool false)), type := 4, pos := "metre.go:117", after := #[{ on := 4, ground := Ground.data }, { on := 9, ground := Ground.data }], guard := none }) (v := ?_) rfl (by kernel_rfl) (by kernel_rfl) (by kernel_rfl) (fun _ _ _ h => h) (Or.inl ⟨by rfl, ?_⟩) (by assumption) ?_
          rotate_left
          · intro wS hSw; go_split_ands; go_simp; first | done | with_reducible rfl
          simp only [Act.put, List.setIfInBounds_toArray, List.set_cons_zero, List.set_cons_succ]
          refine wpAnyH_done (by kernel_rfl) ?_ _
          have hI4 := hI.below (Below.refl _ wr).drew hws
          have hres := hI4.halt (fun h => by omega)
          gi_wp2
          exact ⟨hI4.keep, ⟨⟨m0.by _, hI4.b0⟩, ⟨m1.by _, hI4.b1⟩, hres ▸ hI4.ticks, ⟨mf.by _, hI4.bf⟩⟩, hold.by _ hI4.old⟩
  case done =>
    clear x0 x1 x2 xf hBn hmw hbl hw1
    rintro D cc xs W hD rfl ⟨⟨⟨m0, b0⟩, ⟨m1, b1⟩, ⟨v, m2, b2, ho, hv2⟩, ⟨mf, bf⟩⟩, hold⟩ hK
    have hall : pbFold ms lo hi (upto ms) = pbAll ms lo hi ms.length := by
      have := pbFold_all ms lo hi ms.length (Nat.le_refl _)
      rwa [upto_all] at this
    have HR := Lib.hid (rBars_prog hv h0 h1 h2)
    rw [hall] at ho
    obtain ⟨acc, hacc⟩ : ∃ acc, acc = pbAll ms lo hi ms.length := ⟨_, rfl⟩
    rw [← hacc] at ho HR
    have hg : ∀ g, v.ownBlock = some g → w.heap.size + 1 + 1 + 1 ≤ g ∧ g ≠ D := fun g hg => by
      rcases ho.2 with ⟨h2, _⟩ | ⟨g', cap, cur, h2, hb, hh, _⟩
      · rw [h2] at hg; simp [Value.ownBlock] at hg
      · rw [h2] at hg
        obtain rfl : g' = g := by simpa [Value.ownBlock] using hg
        refine ⟨hb, ?_⟩
        rintro rfl
        rw [hK] at hh
        cases hh
    obtain ⟨A, cp, rfl⟩ := own_slice ho
    clear hall hacc
    have c2 := b2.cell0
    have f2 := b2.frozen 0
    have hDb : D ≠ w.heap.size + 1 + 1 := by omega
    by_cases hl : 4096 < acc.length
    · have d : decide (4096 < (acc.length : Int)) = true := decide_eq_true (by omega)
      have hk2 : (W.setCell ⟨w.heap.size + 1 + 1, 0, none⟩ (.slice none 0 0)).heap[D]? = some (.deferred (some [])) := (Below.heap_setCell _ _ _ _ hDb).trans hK
      have e2 := ((b2.set0 (.slice none 0 0)).putObj (D := D) (by omega) (.deferred none)).cell0
      go_wp2
      refine ⟨by simp, .inl ⟨_, _, rfl, run_takeDeferred hk2, ?_⟩⟩
      refine ⟨.tuple #[.slice none 0 0, .int .i64 2], ?_, ?_⟩
      · simp [results, Try.results17, go_sem, e2]
      · rw [HR.out, if_pos hl]
        exact ⟨none, 0, rfl, IntsAt.nil _ _ _, below_putObj (hold.2.setCell (by simp; omega) _) (by omega) _⟩
    · have d : decide (4096 < (acc.length : Int)) = false := decide_eq_false (by omega)
      have hk2 : (W.setCell ⟨w.heap.size + 1 + 1, 0, none⟩ (.slice A acc.length cp)).heap[D]? = some (.deferred (some [])) := (Below.heap_setCell _ _ _ _ hDb).trans hK
      have e2 := ((b2.set0 (.slice A acc.length cp)).putObj (D := D) (by omega) (.deferred none)).cell0
      go_wp2
      refine ⟨by simp, .inl ⟨_, _, rfl, run_takeDeferred hk2, ?_⟩⟩
      refine ⟨.tuple #[.slice A acc.length cp, .int .i64 0], ?_, ?_⟩
      · simp [results, Try.results17, go_sem, e2]
      · rw [HR.out, if_neg hl]
        have ho2 := ownsRow_move ho (W' := (W.setCell ⟨w.heap.size + 1 + 1, 0, none⟩ (.slice A acc.length cp)).putObj D (.deferred none)) (fun g h => (World.putObj_heap_other (hg g h).2).trans (Below.heap_setCell _ _ _ _ (by have := (hg g h).1; simp; omega)))
        exact ⟨A, cp, rfl, (IntsAt.of_own ho2).2, below_putObj (hold.2.setCell (by simp; omega) _) (by omega) _⟩
  case stop => exact fun D j cc pre W _ _ h => h.elim
end Go.Proofs.Ytdphnlcppaaccaa
