/-
  The program's Spans answers what the pieces put together say. Conditions: the orders lie as a list whose slice has no less room.
-/
import Derived.Test.YtjkclplnflaplaaAcc
import Derived.Deep.OwnRows
import Derived.WalkMore
import Derived.Maps.AppendAt
import Derived.Laws.EntriesVeiled
namespace Go.Proofs.Ytjkclplnflaplaa
open Go.RowKit
attribute [local go_sem] Oper.semAt_some

def flat5 : List Sp → List Value
  | [] => []
  | p :: ps => (spc p).toList ++ flat5 ps
theorem flat5_len (ps : List Sp) : (flat5 ps).length = ps.length * 5 := by
  induction ps with
  | nil => rfl
  | cons p ps ih => simp only [flat5, spc, List.length_append, List.length_cons, List.length_nil, ih]; omega
theorem flat5_append (a b : List Sp) : flat5 (a ++ b) = flat5 a ++ flat5 b := by
  induction a with
  | nil => rfl
  | cons p ps ih => simp only [List.cons_append, flat5, ih, List.append_assoc]
theorem flat5_get (ps : List Sp) (i : Nat) (hi : i < ps.length) (c : Nat) (hc : c < 5) : (flat5 ps)[i * 5 + c]? = (spc (ps.getD i p0))[c]? := by
  induction ps generalizing i with
  | nil => simp at hi
  | cons p ps ih =>
    cases i with
    | zero =>
      simp only [flat5, Nat.zero_mul, Nat.zero_add, List.getD_cons_zero]
      rw [List.getElem?_append_left (by simp [spc]; omega)]
      simp
    | succ i =>
      have := ih i (by simpa using hi)
      simp only [flat5, List.getD_cons_succ]
      rw [List.getElem?_append_right (by simp [spc]; omega), show (i + 1) * 5 + c - (spc p).toList.length = i * 5 + c by simp [spc]; omega]
      exact this
/-- A slice of spans, as it lies. -/
def SpAt (w : World) (A : Option Addr) (ps : List Sp) : Prop := 0 < ps.length → ∃ b o, A = some ⟨b, o, none⟩ ∧ b < w.heap.size ∧ ∀ i, i < ps.length → ∀ c, c < 5 → w.cell? ⟨b, o + i * 5 + c, none⟩ = (spc (ps.getD i p0))[c]?
theorem SpAt.below {w w' : World} {A : Option Addr} {ps : List Sp} (h : SpAt w A ps) (hb : Below w.heap.size w w') : SpAt w' A ps := fun h0 => by
  obtain ⟨b, o, e, hlt, hc⟩ := h h0
  exact ⟨b, o, e, Nat.lt_of_lt_of_le hlt hb.size, fun i hi c hc' => (hb.cell (p := ⟨b, _, none⟩) hlt).trans (hc i hi c hc')⟩
theorem own_SpAt {w : World} {base : Nat} {A : Option Addr} {n c : Nat} {ps : List Sp} (h : w.ownsRow base 36 5 (.slice A n c) n (flat5 ps)) : n = ps.length ∧ SpAt w A ps := by
  have hl : n = ps.length := by
    have := h.1
    rw [flat5_len] at this
    omega
  refine ⟨hl, fun h0 => ?_⟩
  rcases h.2 with ⟨_, hn⟩ | ⟨g, cap, cur, hv, hb, hh, _⟩
  · omega
  · have hA : A = some ⟨g, 0, none⟩ := by injection hv
    subst hA
    refine ⟨g, 0, rfl, (Array.getElem?_eq_some_iff.1 hh).1, fun i hi c' hc => ?_⟩
    have := h.cellAt (i * 5 + c') (by omega)
    rw [Nat.zero_add, this, flat5_get ps i hi c' hc]

def SpansIs (w : World) (r : List Sp × Int) (e : Ending) (w' : World) : Prop :=
  ∃ A c, e = .returned (.tuple #[.slice A r.1.length c, .int .i64 r.2]) ∧ SpAt w' A r.1 ∧ Below w.heap.size w w'

/-- The result's box, and the row that it holds. -/
def SpansAt (base : Nat) (cc : Col) (X : Nat) (acc : List Sp) (W : World) : Prop :=
  ∃ v, Mine cc X ∧ Blk W X 29 #[v] ∧ W.ownsRow base 36 5 v acc.length (flat5 acc) ∧ ∀ k, v.ownBlock = some k → Mine cc k
theorem SpansAt.move {base X : Nat} {cc cc' : Col} {acc : List Sp} {W W' : World} (h : SpansAt base cc X acc W) (hc : Col.Same W.heap.size cc cc') (hk : ∀ r, r < W.heap.size → Mine cc r → W'.heap[r]? = W.heap[r]?) : SpansAt base cc' X acc W' := by
  obtain ⟨v, hm, hb, ho, hv⟩ := h
  refine ⟨v, hm.same hc hb.lt, (hk X hb.lt hm).trans hb, ?_, fun k e => (hv k e).same hc (ho.lt k e).2⟩
  obtain ⟨h1, h2⟩ := ho
  refine ⟨h1, ?_⟩
  rcases h2 with h2 | ⟨g, cap, cur, rfl, hg, hh, r⟩
  · exact .inl h2
  · have hlt : g < W.heap.size := (Array.getElem?_eq_some_iff.1 hh).1
    exact .inr ⟨g, cap, cur, rfl, hg, (hk g hlt (hv g rfl)).trans hh, r⟩
def SpI (X F base : Nat) (w : World) (cc : Col) (pre : List Sp) (W : World) : Prop :=
  (∃ acc, accOf pre = some acc ∧ SpansAt base cc X acc W) ∧ (Mine cc F ∧ Blk W F 4 #[.bool false]) ∧ Old w.heap.size w cc W
def SpX (X F : Nat) (w : World) (j : Code) (cc : Col) (pre : List Sp) (W : World) : Prop :=
  j = .exit 0 ∧ accOf pre = none ∧ (∃ v, Mine cc X ∧ Blk W X 29 #[v]) ∧ (Mine cc F ∧ Blk W F 4 #[.bool true]) ∧ Old w.heap.size w cc W
theorem SpI.stable (X F base : Nat) (w : World) : Stable (SpI X F base w) :=
  Stable.and (fun c c' s W W' ⟨acc, h1, h2⟩ hk hc => ⟨acc, h1, h2.move hc fun r hr hm => hk.block r hr hm.2⟩) (.and (Stable.blk _ _ _) (Stable.old (Nat.le_refl _)))
theorem SpX.stable (X F : Nat) (w : World) (j : Code) : Stable (SpX X F w j) :=
  Stable.and (Stable.pure _) (.and (Stable.pure (fun pre => accOf pre = none)) (.and (Stable.ex fun v => Stable.blk _ _ _) (.and (Stable.blk _ _ _) (Stable.old (Nat.le_refl _)))))

theorem own_slice {w : World} {base : Nat} {e : TypeId} {size : Nat} {v : Value} {n : Nat} {xs : List Value} (h : w.ownsRow base e size v n xs) : ∃ A c, v = .slice A n c := by
  rcases h.2 with ⟨rfl, rfl⟩ | ⟨g, cap, cur, rfl, _⟩
  · exact ⟨_, _, rfl⟩
  · exact ⟨_, _, rfl⟩
theorem row_keep5 {w w' : World} {base : Nat} {e : TypeId} {size : Nat} {v : Value} {n : Nat} {xs : List Value} (h : w.ownsRow base e size v n xs) (hb : Below w.heap.size w w') : w'.ownsRow base e size v n xs := by
  refine ⟨h.1, ?_⟩
  rcases h.2 with h2 | ⟨g, cap, cur, rfl, hg, hh, r⟩
  · exact .inl h2
  · exact .inr ⟨g, cap, cur, rfl, hg, (hb.block g (Array.getElem?_eq_some_iff.1 hh).1).trans hh, r⟩
theorem info36 : (Try.prog.info? 36).map (fun i => (i.zero, i.size, i.bytes)) = some (some (.agg #[.int .i64 0, .int .i64 0, .int .i64 0, .bool false, .bool false]), 5, 32) := by kernel_rfl
theorem cell_new5 {W : World} {g : Nat} (p : Sp) (hg : W.heap.size = g) : ∀ j u, (spc p).toList[j]? = some u → (W.alloc (.cells (spc p) 36)).cell? ((⟨g, 0, none⟩ : Addr).add j) = some u := fun j u h => by
  subst hg
  have e := (Blk.new W 36 (spc p)).cell j
  have : (⟨W.heap.size, 0, none⟩ : Addr).add j = ⟨W.heap.size, j, none⟩ := by
    unfold Addr.add
    split
    · rename_i h0; rw [h0]
    · simp
  rw [this, e]
  simpa using h
theorem spc_one (p : Sp) : ∀ u ∈ (spc p).toList, u.oneCell' = true := fun u hu => by
  simp only [spc, List.mem_cons, List.not_mem_nil, or_false] at hu
  rcases hu with rfl | rfl | rfl | rfl | rfl <;> rfl
theorem wpListIn_append_at {F : Fence} {n : Nat} {P : Program} {w : World} {ops : Array Oper} {rest : List Oper} {o : Oper} {a : Act} {Q : Exit → Act → World → Prop} (hgd : o.guard = none) (s x : Operand) (t : TypeId)
    (ho : o.op = .call { callee := .builtin .append, args := #[s, x], argTypes := #[t, t] })
    (base : Nat) (e : TypeId) (i : TypeInfo) (z : Value) (size bytes : Nat) (ht : P.underlying t = some (.slice e)) (hi : P.info? e = some i) (hz : i.zero = some z)
    (hsize : i.size = size) (hby : i.bytes = bytes) (hzs : z.cells.size = size) (hsz : 0 < size)
    (v : Value) (k : Nat) (xs : List Value) (hs : a.eval s = v) (hown : w.ownsRow base e size v k xs)
    (ad : Addr) (m c : Nat) (news : List Value) (hx : a.eval x = .slice (some ad) m c) (hl : news.length = m * size) (hnews : ∀ j u, news[j]? = some u → w.cell? (ad.add j) = some u) (h1 : ∀ u ∈ news, u.oneCell' = true)
    (h63 : k + m ≤ maxLen) (hbytes : (k + m) * bytes ≤ 140737488355328) (hbase : base ≤ w.heap.size)
    (h : ∀ v' w', w'.ownsRow base e size v' (k + m) (xs ++ news) → w.grownBy w' v.ownBlock → (v'.ownBlock = v.ownBlock ∨ v'.ownBlock = some w.heap.size) → wpListIn F n P ops Q rest (a.put o.dst v') w') :
    wpListIn F n P ops Q (o :: rest) a w := by
  refine wpListIn_plain hgd fun K hK => ?_
  obtain ⟨v', w', hr, h2, h3, _, h5⟩ := run_append_own_at (P := P) w base t o.type e i z size bytes ht hi hz hsize hby hzs hsz v k xs hown ad m c news hl hnews h1 h63 hbytes hbase
  unfold Oper.wpIn
  constructor
  · simp [Oper.about, ho, resolve, Target.leads, Sem.run_pure]
  · rw [Oper.semAt_plain F _ _ (by rw [ho]; intro c hc; cases hc)]
    simp [execOp, ho, resolve, invoke, builtin, hs, hx, hr, Result.andThen]
    exact hK _ _ (h v' w' h2 h3 h5)
theorem row_ne5 {w : World} {base : Nat} {e t : TypeId} {size : Nat} {v : Value} {n B : Nat} {xs : List Value} {cs : Array Value} (h : w.ownsRow base e size v n xs) (hb : Blk w B t cs) (hne : e ≠ t) : v.ownBlock ≠ some B := fun hv => by
  rcases h.2 with ⟨rfl, _⟩ | ⟨g, cap, cur, rfl, _, hh, _⟩
  · cases hv
  · simp [Value.ownBlock] at hv
    subst hv
    exact (Blk.ne (t := e) (t' := t) hh hb hne) rfl

theorem ownsRow_move {W W' : World} {base : Nat} {e : TypeId} {s : Nat} {v : Value} {n : Nat} {xs : List Value} (h : W.ownsRow base e s v n xs) (hg : ∀ g, v.ownBlock = some g → W'.heap[g]? = W.heap[g]?) : W'.ownsRow base e s v n xs := by
  refine ⟨h.1, ?_⟩
  rcases h.2 with h2 | ⟨g, cap, cur, rfl, hb, hh, r⟩
  · exact .inl h2
  · exact .inr ⟨g, cap, cur, rfl, hb, (hg g rfl).trans hh, r⟩

set_option maxRecDepth 20000 in
set_option maxHeartbeats 4000000 in
theorem spans_t (A : Option Addr) (c : Nat) (l : List Ord) (n : Int) (w : World) (hn : l.length ≤ 1000000000) (hc : l.length ≤ c) (h : SlAt w A l) :
    Calls Try.prog 16 #[.slice A l.length c, .int .i64 n] w (SpansIs w (gSpans l n)) := by
  have hb0 := (Below.refl w.heap.size w).alloc (Nat.le_refl _) (.cells #[.slice none 0 0] 29)
  have KC := pcheck_t A c l _ hn (h.below hb0)
  unfold SpansIs
  have x0 : Blk (w.alloc (.cells #[.slice none 0 0] 29)) w.heap.size 29 #[.slice none 0 0] := Blk.new w 29 _
  by_cases hc0 : gCheck l = 0
  case neg =>
    have E := Lib.hid (show gSpans l n = ([], gCheck l) by unfold gSpans; rw [if_pos hc0])
    have d : (gCheck l != 0) = true := bne_iff_ne.2 hc0
    clear hc0
    go_enter Try.func16, Try.ntmps16
    go_wp2_with fail
    go_step3
    go_wp2_with (go_at_call 12; refine KC.mono ?_; rintro e w1 ⟨rfl, hw1⟩; have x1 := x0.below hw1 x0.lt; have y1 := x1.cell0; have f1 := x1.frozen 0; have e1 := (x1.set0 (.slice none 0 0)).cell0)
    rw [Exit.noGoto_ret]
    refine bodyPost_ret (v := .tuple #[.slice none 0 0, .int .i64 (gCheck l)]) (by simp [results, Try.results16, go_sem, e1]) rfl ?_
    exact ⟨none, 0, by rw [E.out]; rfl, by rw [E.out]; exact fun h0 => absurd h0 (by simp), (hb0.trans (hw1.mono (by simp))).setCell (p := ⟨w.heap.size, 0, none⟩) (Nat.le_refl _) _⟩
  have hg : GoodTo l l.length ∧ l.length ≤ 256 := by
    unfold gCheck at hc0
    split at hc0
    · simp at hc0
    · split at hc0
      · exact ⟨by assumption, by omega⟩
      · simp at hc0
  rw [hc0] at KC
  by_cases r1 : n < 0
  case pos =>
    have E := Lib.hid (show gSpans l n = ([], 1) by unfold gSpans; rw [if_neg (not_not_intro hc0), if_pos (.inl r1)])
    have d : decide (n < 0) = true := decide_eq_true r1
    clear hc0
    go_enter Try.func16, Try.ntmps16
    go_wp2_with fail
    go_step3
    go_wp2_with (go_at_call 12; refine KC.mono ?_; rintro e w1 ⟨rfl, hw1⟩; have x1 := x0.below hw1 x0.lt; have y1 := x1.cell0; have f1 := x1.frozen 0; have e1 := (x1.set0 (.slice none 0 0)).cell0)
    rw [Exit.noGoto_ret]
    refine bodyPost_ret (v := .tuple #[.slice none 0 0, .int .i64 1]) (by simp [results, Try.results16, go_sem, e1]) rfl ?_
    exact ⟨none, 0, by rw [E.out]; rfl, by rw [E.out]; exact fun h0 => absurd h0 (by simp), (hb0.trans (hw1.mono (by simp))).setCell (p := ⟨w.heap.size, 0, none⟩) (Nat.le_refl _) _⟩
  have d : decide (n < 0) = false := decide_eq_false r1
  by_cases r2 : 1099511627776 < n
  case pos =>
    have E := Lib.hid (show gSpans l n = ([], 1) by unfold gSpans; rw [if_neg (not_not_intro hc0), if_pos (.inr r2)])
    have d2 : decide (1099511627776 < n) = true := decide_eq_true r2
    clear hc0
    go_enter Try.func16, Try.ntmps16
    go_wp2_with fail
    go_step3
    go_wp2_with (go_at_call 12; refine KC.mono ?_; rintro e w1 ⟨rfl, hw1⟩; have x1 := x0.below hw1 x0.lt; have y1 := x1.cell0; have f1 := x1.frozen 0; have e1 := (x1.set0 (.slice none 0 0)).cell0)
    rw [Exit.noGoto_ret]
    refine bodyPost_ret (v := .tuple #[.slice none 0 0, .int .i64 1]) (by simp [results, Try.results16, go_sem, e1]) rfl ?_
    exact ⟨none, 0, by rw [E.out]; rfl, by rw [E.out]; exact fun h0 => absurd h0 (by simp), (hb0.trans (hw1.mono (by simp))).setCell (p := ⟨w.heap.size, 0, none⟩) (Nat.le_refl _) _⟩
  have d2 : decide (1099511627776 < n) = false := decide_eq_false r2
  have E := Lib.hid (show gSpans l n = ansOf (accOf (pcsL l n)) by unfold gSpans; rw [if_neg (not_not_intro hc0), if_neg (by omega)])
  have HG := Lib.hid hg.1
  have hle := hg.2
  have hch := pcsL_chain hg.1 (n := n) (by omega) (by omega)
  have HCH := Lib.hid hch
  clear hc0 hg hch
  refine (callsIn_wide (n := 5)).1 ?_
  refine callsIn_of_wp_marks Try.func16 rfl trivial (wpIn_wide.2 ?_) rfl
  simp only [Try.ntmps16, List.size_toArray, List.length_cons, List.length_nil, Nat.reduceAdd, Nat.reduceSub, Array.replicate_succ, Array.replicate_zero, List.push_toArray, List.append_toArray, List.nil_append, List.cons_append]
  go_wp2_with fail
  go_step3
  go_wp2_with (go_at_call 12; refine KC.mono ?_; rintro e w1 ⟨rfl, hw1⟩)
  go_step3
  go_wp2_with (go_at_call 26; refine (pieces_t _ _ _ _ _).mono ?_; rintro e w2 ⟨rfl, rfl⟩)
  have hs1 := hw1.size
  simp only [World.size_alloc] at hs1
  obtain ⟨Wl, hWl⟩ : ∃ Wl, ((w1.alloc (.cells #[.bool false] 4)).alloc (.cells #[.slice A l.length c] 22)).alloc (.cells #[.int .i64 n] 3) = Wl := ⟨_, rfl⟩
  have hl1 : Below w1.heap.size w1 Wl := by rw [← hWl]; exact (((Below.refl _ w1).alloc (Nat.le_refl _) _).alloc (by simp) _).alloc (by simp; omega) _
  have hbl : Below w.heap.size w Wl := (hb0.trans (hw1.mono (by simp))).trans (hl1.mono (by omega))
  have hsl : Wl.heap.size = w1.heap.size + 1 + 1 + 1 := by rw [← hWl]; simp
  have xX : Blk Wl w.heap.size 29 #[.slice none 0 0] := (x0.below hw1 x0.lt).below hl1 (by omega)
  have xF : Blk Wl w1.heap.size 4 #[.bool false] := by rw [← hWl]; exact ((Blk.new w1 4 _).alloc _).alloc _
  have xL : Blk Wl (w1.heap.size + 1) 22 #[.slice A l.length c] := by rw [← hWl]; exact (Blk.newAt (by simp) 22 _).alloc _
  have xN : Blk Wl (w1.heap.size + 1 + 1) 3 #[.int .i64 n] := by rw [← hWl]; exact Blk.newAt (by simp) 3 _
  rw [hWl]
  clear hWl
  obtain ⟨b, o, hb1, hb2, hb3, hb4, hbs⟩ : ∃ b o, b ≠ w1.heap.size + 1 ∧ b ≠ w.heap.size ∧ b ≠ w1.heap.size ∧ (LeftAt l b o 0 A c ∧ (0 < l.length → OrdAt Wl b o l)) ∧ b < Wl.heap.size := by
    rcases Nat.eq_zero_or_pos l.length with h0 | h0
    · exact ⟨w1.heap.size + 1 + 1, 0, by omega, by omega, by omega, ⟨fun h => by omega, fun h => by omega⟩, by omega⟩
    · obtain ⟨b, o, rfl, hm⟩ := h h0
      have := hm.lt
      exact ⟨b, o, by omega, by omega, by omega, ⟨fun _ => ⟨by simp, by omega⟩, fun _ => hm.below hbl⟩, by omega⟩
  refine (wpIn_wide (n := 5)).1 ?_
  refine wpIn_range (by omega) rfl (enters_of Try.func38 (by kernel_rfl) rfl) (pieces_iter _ (w1.heap.size + 1 + 1) (w1.heap.size + 1) b o c A l n Wl HG.out hle (by omega) (by omega) xN xL (by omega) hb1 hbs hb4.1 hb4.2) (fun _ => rfl)
    (SpI w.heap.size w1.heap.size w1.heap.size w) (SpX w.heap.size w1.heap.size w)
    ?hI ?hIx ⟨fun r => r = w1.heap.size + 1, fun r => r = w.heap.size ∨ r = w1.heap.size⟩ ?hc1 ?hc2 ?hc3 ?h0
    (fun a x B => (a.put (some 24) (spv x)).put (some 8) (.pointer (some ⟨B, 0, none⟩)))
    (fun x B W => Blk W B 36 (spc x)) ?hAx ?assign ?body ?done ?stop
  case hI => exact SpI.stable _ _ _ _
  case hIx => exact SpX.stable _ _ _
  case hc1 => exact fun r h => h
  case hc2 =>
    rintro r (rfl | rfl | rfl) h1
    · exact h1.elim (fun h => by omega) (fun h => by omega)
    · exact h1.elim hb2 hb3
    · exact h1.elim (fun h => by omega) (fun h => by omega)
  case hc3 =>
    rintro r (rfl | rfl | rfl)
    · omega
    · exact hbs
    · omega
  case h0 => exact ⟨⟨[], rfl, _, ⟨.inl rfl, fun h => by have : w.heap.size = w1.heap.size + 1 := h; omega⟩, xX, ⟨rfl, .inl ⟨rfl, rfl⟩⟩, fun k hk => by cases hk⟩, ⟨⟨.inr rfl, fun h => by have : w1.heap.size = w1.heap.size + 1 := h; omega⟩, xF⟩, ⟨fun r hr h => by have : r = w1.heap.size + 1 := h; omega, hbl⟩⟩
  case hAx => exact fun x B W1 W2 h hk => h.keep hk (Nat.lt_irrefl _)
  case assign =>
    intro lp x W K hK
    unfold spv spc
    gi_wp2
    exact hK _ ((Below.refl _ _).alloc (Nat.le_refl _) _) (Blk.new _ _ _)
  case body =>
    clear xX xF xL xN hb4
    rintro lp cc pre x B W ⟨⟨acc, hacc, v, mX, bX, hown, hvm⟩, ⟨mF, bF⟩, hold⟩ hA hBle hcol hpre
    obtain ⟨V, cp, rfl⟩ := own_slice hown
    have hch2 : ∃ a, Chain acc 0 a ∧ a ≤ 1099511627776 ∧ x.e = a ∧ 1 ≤ x.len ∧ 0 ≤ x.song ∧ x.song ≤ 2199023255552 ∧ x.e + x.len ≤ 1099511627776 := by
      obtain ⟨ys, hys⟩ := hpre
      have h1 := HCH.out
      rw [← hys] at h1
      obtain ⟨b1, h2, h3⟩ := h1.split
      obtain ⟨b2, h4, h5⟩ := h2.split
      have h6 := h3.le
      have e : b2 + x.len = b1 := h5.2.2.2.2
      have h7 := h5.1
      have h8 := h5.2.1
      exact ⟨b2, accOf_chain h4 hacc, by omega, h7, h8, h5.2.2.1, h5.2.2.2.1, by omega⟩
    obtain ⟨am, hcha, ham, hx1, hx2, hx3, hx4, hx5⟩ := hch2
    have yX := bX.cell0
    have fX := bX.frozen 0
    have yF := bF.cell0
    have fF := bF.frozen 0
    have lX := bX.lt
    have lF := bF.lt
    have lB := hA.lt
    have hXF : w.heap.size ≠ w1.heap.size := by omega
    obtain ⟨xe, xl, xs, xr, xc⟩ := x
    dsimp only at hx1 hx2 hx3 hx4 hx5
    subst hx1
    have a0 : W.cell? ⟨B, 0, none⟩ = some (.int .i64 xe) := hA.cell 0
    have a1 : W.cell? ⟨B, 1, none⟩ = some (.int .i64 xl) := hA.cell 1
    have a2 : W.cell? ⟨B, 2, none⟩ = some (.int .i64 xs) := hA.cell 2
    have a3 : W.cell? ⟨B, 3, none⟩ = some (.bool xr) := hA.cell 3
    have a4 : W.cell? ⟨B, 4, none⟩ = some (.bool xc) := hA.cell 4
    have HACC := Lib.hid hacc
    have HCHA := Lib.hid hcha
    clear hacc hcha
    unfold spv spc at *
    simp only [Act.put, List.setIfInBounds_toArray, List.set_cons_zero, List.set_cons_succ] at *
    obtain ⟨i0, hi0, hz0, hz1, hz2⟩ := info_parts info36
    have hneX := row_ne5 hown bX (by decide)
    have hneF := row_ne5 hown bF (by decide)
    have hgb : ∀ k, (Value.slice V acc.length cp).ownBlock = some k → w1.heap.size ≤ k := fun k hk => (hown.lt k hk).1
    have holds := hold.2.size
    by_cases hz : acc = []
    · subst hz
      have hacc2 : accOf (pre ++ [⟨xe, xl, xs, xr, xc⟩]) = some [⟨xe, xl, xs, xr, xc⟩] := by rw [accOf_snoc, HACC.out]; simp [stepP]
      have HA2 := Lib.hid hacc2
      clear hacc2
      simp only [List.length_nil] at hown hgb hneX hneF hvm
      gi_wp2
      refine wpIn_region_heldR (S := (fun _ => True)) (by kernel_rfl) (by kernel_rfl) ?_ ?_ (fun hHeld => ?_)
      · rintro ⟨a, w, h⟩; exact h
      · trivial
      try dsimp only at hHeld
      refine wpAnyH_take (i := 0) (oi := { dst := some 33, op := Op.move (Operand.tmp 9), type := 3, pos := "transport.go:171", after := #[], guard := none }) (v := ?_) rfl (by kernel_rfl) (by kernel_rfl) (by kernel_rfl) (fun _ _ _ h => h) (Or.inl ⟨by rfl, ?_⟩) (by assumption) ?_
      rotate_left
      · intro wS hSw; go_split_ands; go_simp; first | done | with_reducible rfl
      simp only [Act.put, List.setIfInBounds_toArray, List.set_cons_zero, List.set_cons_succ]
      refine wpAnyH_take (i := 1) (oi := { dst := some 34, op := Op.binOp BinOp.geq 3 (Operand.tmp 33) (Operand.const (Value.int IntKind.i64 0)) 3, type := 4, pos := "transport.go:171", after := #[{ on := 0, ground := Ground.data }], guard := none }) (v := ?_) rfl (by kernel_rfl) (by kernel_rfl) (by kernel_rfl) (fun _ _ _ h => h) (Or.inl ⟨by rfl, ?_⟩) (by assumption) ?_
      rotate_left
      · intro wS hSw; go_split_ands; go_simp; first | done | with_reducible rfl
      simp only [Act.put, List.setIfInBounds_toArray, List.set_cons_zero, List.set_cons_succ]
      refine wpAnyH_take (i := 2) (oi := { dst := some 35, op := Op.move (Operand.tmp 34), type := 4, pos := "transport.go:171", after := #[{ on := 1, ground := Ground.data }], guard := none }) (v := ?_) rfl (by kernel_rfl) (by kernel_rfl) (by kernel_rfl) (fun _ _ _ h => h) (Or.inl ⟨by rfl, ?_⟩) (by assumption) ?_
      rotate_left
      · intro wS hSw; go_split_ands; go_simp; first | done | with_reducible rfl
      simp only [Act.put, List.setIfInBounds_toArray, List.set_cons_zero, List.set_cons_succ]
      refine wpAnyH_take (i := 3) (oi := { dst := some 36, op := Op.load 29 (Operand.tmp 4), type := 29, pos := "transport.go:171", after := #[{ on := 2, ground := Ground.guard }], guard := some (2, true) }) (v := undef) rfl (by kernel_rfl) (by kernel_rfl) (by kernel_rfl) (fun _ _ _ h => h) (Or.inr ⟨by rfl, rfl⟩) (by assumption) ?_
      simp only [Act.put, List.setIfInBounds_toArray, List.set_cons_zero, List.set_cons_succ]
      refine wpAnyH_take (i := 4) (oi := { dst := some 37, op := Op.move (Operand.tmp 9), type := 3, pos := "transport.go:171", after := #[{ on := 2, ground := Ground.guard }], guard := some (2, true) }) (v := undef) rfl (by kernel_rfl) (by kernel_rfl) (by kernel_rfl) (fun _ _ _ h => h) (Or.inr ⟨by rfl, rfl⟩) (by assumption) ?_
      simp only [Act.put, List.setIfInBounds_toArray, List.set_cons_zero, List.set_cons_succ]
      refine wpAnyH_take (i := 5) (oi := { dst := some 38, op := Op.indexAddr 29 (Operand.tmp 36) (Operand.tmp 37), type := 0, pos := "transport.go:171", after := #[{ on := 3, ground := Ground.data }, { on := 4, ground := Ground.data }, { on := 2, ground := Ground.guard }], guard := some (2, true) }) (v := undef) rfl (by kernel_rfl) (by kernel_rfl) (by kernel_rfl) (fun _ _ _ h => h) (Or.inr ⟨by rfl, rfl⟩) (by assumption) ?_
      simp only [Act.put, List.setIfInBounds_toArray, List.set_cons_zero, List.set_cons_succ]
      refine wpAnyH_take (i := 6) (oi := { dst := some 39, op := Op.load 36 (Operand.tmp 38), type := 36, pos := "transport.go:171", after := #[{ on := 5, ground := Ground.data }, { on := 2, ground := Ground.guard }], guard := some (2, true) }) (v := undef) rfl (by kernel_rfl) (by kernel_rfl) (by kernel_rfl) (fun _ _ _ h => h) (Or.inr ⟨by rfl, rfl⟩) (by assumption) ?_
      simp only [Act.put, List.setIfInBounds_toArray, List.set_cons_zero, List.set_cons_succ]
      refine wpAnyH_take (i := 7) (oi := { dst := some 40, op := Op.load 36 (Operand.tmp 8), type := 36, pos := "transport.go:171", after := #[{ on := 2, ground := Ground.guard }], guard := some (2, true) }) (v := undef) rfl (by kernel_rfl) (by kernel_rfl) (by kernel_rfl) (fun _ _ _ h => h) (Or.inr ⟨by rfl, rfl⟩) (by assumption) ?_
      simp only [Act.put, List.setIfInBounds_toArray, List.set_cons_zero, List.set_cons_succ]
      refine wpAnyH_take (i := 8) (oi := { dst := some 41, op := Op.call { callee := Callee.value (Operand.func 27), args := #[Operand.tmp 39, Operand.tmp 40], argTypes := #[36, 36] }, type := 4, pos := "transport.go:171", after := #[{ on := 6, ground := Ground.data }, { on := 7, ground := Ground.data }, { on := 2, ground := Ground.chain }, { on := 2, ground := Ground.guard }], guard := some (2, true) }) (v := undef) rfl (by kernel_rfl) (by kernel_rfl) (by kernel_rfl) (fun _ _ _ h => h) (Or.inr ⟨by rfl, rfl⟩) (by assumption) ?_
      simp only [Act.put, List.setIfInBounds_toArray, List.set_cons_zero, List.set_cons_succ]
      refine wpAnyH_take (i := 9) (oi := { dst := some 42, op := Op.pick (Operand.tmp 35) (Operand.tmp 41) (Operand.const (Value.bool false)), type := 4, pos := "transport.go:171", after := #[{ on := 2, ground := Ground.data }, { on := 8, ground := Ground.data }], guard := none }) (v := ?_) rfl (by kernel_rfl) (by kernel_rfl) (by kernel_rfl) (fun _ _ _ h => h) (Or.inl ⟨by rfl, ?_⟩) (by assumption) ?_
      rotate_left
      · intro wS hSw; go_split_ands; go_simp; first | done | with_reducible rfl
      simp only [Act.put, List.setIfInBounds_toArray, List.set_cons_zero, List.set_cons_succ]
      refine wpAnyH_ready (rs := [10]) (by kernel_rfl) (by simp) ?_
      refine AllReadyH.cons (o := { dst := some 32, op := Op.assign (Operand.tmp 42), type := 4, pos := "transport.go:171", after := #[{ on := 9, ground := Ground.data }, { on := 8, ground := Ground.chain }], guard := none }) rfl (fun K hK => ?_) AllReadyH.nil
      go_simp
      refine hK.out _ _ ?_ (fun hHeld => ?_)
      · trivial
      clear hK K
      try simp only [Act.put, List.setIfInBounds_toArray, List.set_cons_zero, List.set_cons_succ]
      refine wpAnyH_done (by kernel_rfl) ?_ _
      gi_wp2_with (gi_at_builtin; go_loud (refine wpListIn_append_at rfl (.tmp 28) (.tmp 30) 29 rfl w1.heap.size 36 i0 (.agg #[.int .i64 0, .int .i64 0, .int .i64 0, .bool false, .bool false]) 5 32 Try.underlying29 hi0 hz0 hz1 hz2 rfl (by decide) _ 0 [] rfl (hown.drew.alloc _) ⟨W.heap.size, 0, none⟩ 1 1 (spc ⟨xe, xl, xs, xr, xc⟩).toList rfl rfl (fun j u hh => cell_new5 (W := W) ⟨xe, xl, xs, xr, xc⟩ rfl j u hh) (spc_one _) (by simp [maxLen] <;> omega) (by omega) (by simp <;> omega) ?_); intro v' w' hown' hgrow hat; obtain ⟨V', cp', rfl⟩ := own_slice hown'; have bX' : Blk w' w.heap.size 29 _ := (hgrow.block w.heap.size (by simp <;> omega) (by exact fun h => hneX h.symm)).trans (bX.drewN 1 |>.alloc _); have yX' := bX'.cell0; have fX' := bX'.frozen 0; have bF' : Blk w' w1.heap.size 4 _ := (hgrow.block w1.heap.size (by simp <;> omega) (by exact fun h => hneF h.symm)).trans (bF.drewN 1 |>.alloc _))
      have hne' := row_ne5 hown' bX' (by decide)
      refine ⟨((((Keep.refl cc.cl W).drew).alloc _).grown hgrow (fun k hk _ => (hvm k hk).1)).setCell (p := ⟨w.heap.size, 0, none⟩) (fun _ => mX.1) _, ⟨_, HA2.out, _, mX.by _, bX'.set0 _, ?_, ?_⟩, ⟨mF.by _, bF'.other (p := ⟨w.heap.size, 0, none⟩) (fun h => hXF h.symm) _⟩, hold.by _ ((((Below.refl w.heap.size W).drew.alloc (by simp; omega) _).grown hgrow (by simp; omega) (fun k hk => by have := hgb k hk; omega)).setCell (p := ⟨w.heap.size, 0, none⟩) (Nat.le_refl _) _)⟩
      · have := hown'.kept (grownBy_setCell' w' w.heap.size (.slice V' (0 + 1) cp')) (.inr hne')
        simpa [flat5] using this
      · intro k hk
        rcases hat with h | h
        · exact (hvm k (h ▸ hk)).by _
        · rw [h] at hk
          have : W.heap.size + 1 = k := by simpa using hk
          exact Mine.new _ (by omega)

    have hpm : lastP acc ∈ acc := by
      have h1 := last_split hz
      have h2 : lastP acc ∈ acc.dropLast ++ [lastP acc] := by simp
      rw [← h1] at h2
      exact h2
    obtain ⟨q, hq⟩ : ∃ q, acc.length = q + 1 := ⟨acc.length - 1, by have := List.length_pos_iff.2 hz; omega⟩
    have hmem := HCHA.out.mem hpm
    have hcnt := HCHA.out.count
    rw [hq] at hcnt
    have hgd : acc.getD q p0 = lastP acc := by
      unfold lastP
      rw [List.getLastD_eq_getLast?, List.getLast?_eq_getElem?, hq, List.getD_eq_getElem?_getD, Nat.add_sub_cancel]
    obtain ⟨pe, pl, ps, pr, pc, hp⟩ : ∃ pe pl ps pr pc, lastP acc = ⟨pe, pl, ps, pr, pc⟩ := ⟨_, _, _, _, _, rfl⟩
    rw [hp] at hmem hgd
    dsimp only at hmem
    obtain ⟨p1, p2, p3, p4, p5⟩ := hmem
    have hcel : ∃ g, V = some ⟨g, 0, none⟩ ∧ w1.heap.size ≤ g ∧ g < W.heap.size ∧ ∀ c', c' < 5 → W.cell? ⟨g, q * 5 + c', none⟩ = (spc ⟨pe, pl, ps, pr, pc⟩)[c']? := by
      rcases hown.2 with ⟨_, hx0⟩ | ⟨g, cap, cur, hv, hgb2, hgh, _⟩
      · omega
      · obtain rfl : V = some ⟨g, 0, none⟩ := by injection hv
        refine ⟨g, rfl, hgb2, (Array.getElem?_eq_some_iff.1 hgh).1, fun c' hc' => ?_⟩
        have := hown.cellAt (q * 5 + c') (by omega)
        rw [this, flat5_get acc q (by omega) c' hc', hgd]
    obtain ⟨g, rfl, hgw, hgl, hcg⟩ := hcel
    have q0 : W.cell? ⟨g, q * 5, none⟩ = some (.int .i64 pe) := hcg 0 (by omega)
    have q1 : W.cell? ⟨g, q * 5 + 1, none⟩ = some (.int .i64 pl) := hcg 1 (by omega)
    have q2 : W.cell? ⟨g, q * 5 + 2, none⟩ = some (.int .i64 ps) := hcg 2 (by omega)
    have q3 : W.cell? ⟨g, q * 5 + 3, none⟩ = some (.bool pr) := hcg 3 (by omega)
    have q4 : W.cell? ⟨g, q * 5 + 4, none⟩ = some (.bool pc) := hcg 4 (by omega)
    have HQ := Lib.hid hq
    have HP := Lib.hid hp
    have HZ := Lib.hid hz
    rw [hq] at hown hgb hneX hneF hvm bX yX
    clear hcg hgd hp hq hz hpm
    have KJ := fun W0 => joins_t ⟨pe, pl, ps, pr, pc⟩ ⟨xe, xl, xs, xr, xc⟩ W0 (by dsimp only; omega) (by dsimp only; omega) (by dsimp only; omega) (by dsimp only; omega)
    unfold spv spc at KJ
    dsimp only at KJ
    have f1 : (q : Int) + 1 - 1 = (q : Int) := by omega
    have f2 : (q : Int) < (q : Int) + 1 := by omega
    by_cases hJ : joinB ⟨pe, pl, ps, pr, pc⟩ ⟨xe, xl, xs, xr, xc⟩ = true
    · rw [hJ] at KJ
      have hacc2 : accOf (pre ++ [⟨xe, xl, xs, xr, xc⟩]) = some (acc.dropLast ++ [⟨pe, pl + xl, ps, pr, pc⟩]) := by
        rw [accOf_snoc, HACC.out]
        show stepP acc _ = _
        unfold stepP
        rw [HP.out, if_pos ⟨HZ.out, hJ⟩]
        rfl
      have HA2 := Lib.hid hacc2
      clear hacc2 hJ
      gi_wp2
      refine wpIn_region_heldR (S := (fun W0 => W0.cell? ⟨w.heap.size, 0, none⟩ = some (.slice (some ⟨g, 0, none⟩) (q + 1) cp) ∧ W0.cell? ⟨g, q * 5, none⟩ = some (.int .i64 pe) ∧ W0.cell? ⟨g, q * 5 + 1, none⟩ = some (.int .i64 pl) ∧ W0.cell? ⟨g, q * 5 + 2, none⟩ = some (.int .i64 ps) ∧ W0.cell? ⟨g, q * 5 + 3, none⟩ = some (.bool pr) ∧ W0.cell? ⟨g, q * 5 + 4, none⟩ = some (.bool pc) ∧ W0.cell? ⟨B, 0, none⟩ = some (.int .i64 xe) ∧ W0.cell? ⟨B, 1, none⟩ = some (.int .i64 xl) ∧ W0.cell? ⟨B, 2, none⟩ = some (.int .i64 xs) ∧ W0.cell? ⟨B, 3, none⟩ = some (.bool xr) ∧ W0.cell? ⟨B, 4, none⟩ = some (.bool xc))) (by kernel_rfl) (by kernel_rfl) ?_ ?_ (fun hHeld => ?_)
      · rintro ⟨a, w, h⟩; exact h
      · go_keep
      try dsimp only at hHeld
      refine wpAnyH_take (i := 0) (oi := { dst := some 33, op := Op.move (Operand.tmp 9), type := 3, pos := "transport.go:171", after := #[], guard := none }) (v := ?_) rfl (by kernel_rfl) (by kernel_rfl) (by kernel_rfl) (fun _ _ _ h => h) (Or.inl ⟨by rfl, ?_⟩) (by assumption) ?_
      rotate_left
      · intro wS hSw; go_split_ands; go_simp; first | done | with_reducible rfl
      simp only [Act.put, List.setIfInBounds_toArray, List.set_cons_zero, List.set_cons_succ]
      refine wpAnyH_take (i := 1) (oi := { dst := some 34, op := Op.binOp BinOp.geq 3 (Operand.tmp 33) (Operand.const (Value.int IntKind.i64 0)) 3, type := 4, pos := "transport.go:171", after := #[{ on := 0, ground := Ground.data }], guard := none }) (v := ?_) rfl (by kernel_rfl) (by kernel_rfl) (by kernel_rfl) (fun _ _ _ h => h) (Or.inl ⟨by rfl, ?_⟩) (by assumption) ?_
      rotate_left
      · intro wS hSw; go_split_ands; go_simp; first | done | with_reducible rfl
      simp only [Act.put, List.setIfInBounds_toArray, List.set_cons_zero, List.set_cons_succ]
      refine wpAnyH_take (i := 2) (oi := { dst := some 35, op := Op.move (Operand.tmp 34), type := 4, pos := "transport.go:171", after := #[{ on := 1, ground := Ground.data }], guard := none }) (v := ?_) rfl (by kernel_rfl) (by kernel_rfl) (by kernel_rfl) (fun _ _ _ h => h) (Or.inl ⟨by rfl, ?_⟩) (by assumption) ?_
      rotate_left
      · intro wS hSw; go_split_ands; go_simp; first | done | with_reducible rfl
      simp only [Act.put, List.setIfInBounds_toArray, List.set_cons_zero, List.set_cons_succ]
      refine wpAnyH_take (i := 3) (oi := { dst := some 36, op := Op.load 29 (Operand.tmp 4), type := 29, pos := "transport.go:171", after := #[{ on := 2, ground := Ground.guard }], guard := some (2, true) }) (v := ?_) rfl (by kernel_rfl) (by kernel_rfl) (by kernel_rfl) (fun _ _ _ h => h) (Or.inl ⟨by rfl, ?_⟩) (by assumption) ?_
      rotate_left
      · intro wS hSw; go_split_ands; go_simp; first | done | with_reducible rfl
      simp only [Act.put, List.setIfInBounds_toArray, List.set_cons_zero, List.set_cons_succ]
      refine wpAnyH_take (i := 4) (oi := { dst := some 37, op := Op.move (Operand.tmp 9), type := 3, pos := "transport.go:171", after := #[{ on := 2, ground := Ground.guard }], guard := some (2, true) }) (v := ?_) rfl (by kernel_rfl) (by kernel_rfl) (by kernel_rfl) (fun _ _ _ h => h) (Or.inl ⟨by rfl, ?_⟩) (by assumption) ?_
      rotate_left
      · intro wS hSw; go_split_ands; go_simp; first | done | with_reducible rfl
      simp only [Act.put, List.setIfInBounds_toArray, List.set_cons_zero, List.set_cons_succ]
      refine wpAnyH_take (i := 5) (oi := { dst := some 38, op := Op.indexAddr 29 (Operand.tmp 36) (Operand.tmp 37), type := 0, pos := "transport.go:171", after := #[{ on := 3, ground := Ground.data }, { on := 4, ground := Ground.data }, { on := 2, ground := Ground.guard }], guard := some (2, true) }) (v := ?_) rfl (by kernel_rfl) (by kernel_rfl) (by kernel_rfl) (fun _ _ _ h => h) (Or.inl ⟨by rfl, ?_⟩) (by assumption) ?_
      rotate_left
      · intro wS hSw; go_split_ands; go_simp; first | done | with_reducible rfl
      simp only [Act.put, List.setIfInBounds_toArray, List.set_cons_zero, List.set_cons_succ]
      refine wpAnyH_take (i := 6) (oi := { dst := some 39, op := Op.load 36 (Operand.tmp 38), type := 36, pos := "transport.go:171", after := #[{ on := 5, ground := Ground.data }, { on := 2, ground := Ground.guard }], guard := some (2, true) }) (v := ?_) rfl (by kernel_rfl) (by kernel_rfl) (by kernel_rfl) (fun _ _ _ h => h) (Or.inl ⟨by rfl, ?_⟩) (by assumption) ?_
      rotate_left
      · intro wS hSw; go_split_ands; go_simp; first | done | with_reducible rfl
      simp only [Act.put, List.setIfInBounds_toArray, List.set_cons_zero, List.set_cons_succ]
      refine wpAnyH_take (i := 7) (oi := { dst := some 40, op := Op.load 36 (Operand.tmp 8), type := 36, pos := "transport.go:171", after := #[{ on := 2, ground := Ground.guard }], guard := some (2, true) }) (v := ?_) rfl (by kernel_rfl) (by kernel_rfl) (by kernel_rfl) (fun _ _ _ h => h) (Or.inl ⟨by rfl, ?_⟩) (by assumption) ?_
      rotate_left
      · intro wS hSw; go_split_ands; go_simp; first | done | with_reducible rfl
      simp only [Act.put, List.setIfInBounds_toArray, List.set_cons_zero, List.set_cons_succ]
      refine wpAnyH_ready (rs := [8]) (by kernel_rfl) (by simp) ?_
      refine AllReadyH.cons (o := { dst := some 41, op := Op.call { callee := Callee.value (Operand.func 27), args := #[Operand.tmp 39, Operand.tmp 40], argTypes := #[36, 36] }, type := 4, pos := "transport.go:171", after := #[{ on := 6, ground := Ground.data }, { on := 7, ground := Ground.data }, { on := 2, ground := Ground.chain }, { on := 2, ground := Ground.guard }], guard := some (2, true) }) rfl (fun K hK => ?_) AllReadyH.nil
      go_simp
      go_at_call 27; refine (KJ _).mono ?_; rintro e w2 ⟨rfl, hb2⟩
      refine hK.out _ _ ?_ (fun hHeld => ?_)
      · exact ⟨(hb2.cell (p := ⟨w.heap.size, 0, none⟩) (by simp <;> omega)).trans (by go_keep), (hb2.cell (p := ⟨g, q * 5, none⟩) (by simp <;> omega)).trans (by go_keep), (hb2.cell (p := ⟨g, q * 5 + 1, none⟩) (by simp <;> omega)).trans (by go_keep), (hb2.cell (p := ⟨g, q * 5 + 2, none⟩) (by simp <;> omega)).trans (by go_keep), (hb2.cell (p := ⟨g, q * 5 + 3, none⟩) (by simp <;> omega)).trans (by go_keep), (hb2.cell (p := ⟨g, q * 5 + 4, none⟩) (by simp <;> omega)).trans (by go_keep), (hb2.cell (p := ⟨B, 0, none⟩) (by simp <;> omega)).trans (by go_keep), (hb2.cell (p := ⟨B, 1, none⟩) (by simp <;> omega)).trans (by go_keep), (hb2.cell (p := ⟨B, 2, none⟩) (by simp <;> omega)).trans (by go_keep), (hb2.cell (p := ⟨B, 3, none⟩) (by simp <;> omega)).trans (by go_keep), (hb2.cell (p := ⟨B, 4, none⟩) (by simp <;> omega)).trans (by go_keep)⟩
      clear hK K
      try simp only [Act.put, List.setIfInBounds_toArray, List.set_cons_zero, List.set_cons_succ]
      refine wpAnyH_take (i := 9) (oi := { dst := some 42, op := Op.pick (Operand.tmp 35) (Operand.tmp 41) (Operand.const (Value.bool false)), type := 4, pos := "transport.go:171", after := #[{ on := 2, ground := Ground.data }, { on := 8, ground := Ground.data }], guard := none }) (v := ?_) rfl (by kernel_rfl) (by kernel_rfl) (by kernel_rfl) (fun _ _ _ h => h) (Or.inl ⟨by rfl, ?_⟩) (by assumption) ?_
      rotate_left
      · intro wS hSw; go_split_ands; go_simp; first | done | with_reducible rfl
      simp only [Act.put, List.setIfInBounds_toArray, List.set_cons_zero, List.set_cons_succ]
      refine wpAnyH_ready (rs := [10]) (by kernel_rfl) (by simp) ?_
      refine AllReadyH.cons (o := { dst := some 32, op := Op.assign (Operand.tmp 42), type := 4, pos := "transport.go:171", after := #[{ on := 9, ground := Ground.data }, { on := 8, ground := Ground.chain }], guard := none }) rfl (fun K hK => ?_) AllReadyH.nil
      go_simp
      refine hK.out _ _ ?_ (fun hHeld => ?_)
      · exact ⟨(hb2.cell (p := ⟨w.heap.size, 0, none⟩) (by simp <;> omega)).trans (by go_keep), (hb2.cell (p := ⟨g, q * 5, none⟩) (by simp <;> omega)).trans (by go_keep), (hb2.cell (p := ⟨g, q * 5 + 1, none⟩) (by simp <;> omega)).trans (by go_keep), (hb2.cell (p := ⟨g, q * 5 + 2, none⟩) (by simp <;> omega)).trans (by go_keep), (hb2.cell (p := ⟨g, q * 5 + 3, none⟩) (by simp <;> omega)).trans (by go_keep), (hb2.cell (p := ⟨g, q * 5 + 4, none⟩) (by simp <;> omega)).trans (by go_keep), (hb2.cell (p := ⟨B, 0, none⟩) (by simp <;> omega)).trans (by go_keep), (hb2.cell (p := ⟨B, 1, none⟩) (by simp <;> omega)).trans (by go_keep), (hb2.cell (p := ⟨B, 2, none⟩) (by simp <;> omega)).trans (by go_keep), (hb2.cell (p := ⟨B, 3, none⟩) (by simp <;> omega)).trans (by go_keep), (hb2.cell (p := ⟨B, 4, none⟩) (by simp <;> omega)).trans (by go_keep)⟩
      clear hK K
      try simp only [Act.put, List.setIfInBounds_toArray, List.set_cons_zero, List.set_cons_succ]
      refine wpAnyH_done (by kernel_rfl) ?_ _
      have k2 : Below W.heap.size W w2 := (Below.refl _ W).drew.trans (hb2.mono (by simp))
      have bX2 := bX.below k2 lX
      have bF2 := bF.below k2 lF
      have yX2 := bX2.cell0
      have fX2 := bX2.frozen 0
      have yF2 := bF2.cell0
      have fF2 := bF2.frozen 0
      have hown2 : w2.ownsRow w1.heap.size 36 5 (.slice (some ⟨g, 0, none⟩) (q + 1) cp) (q + 1) (flat5 acc) := row_keep5 hown k2
      have hs2 := k2.size
      have z1 : w2.cell? ⟨B, 0, none⟩ = some (.int .i64 xe) := (k2.cell (p := ⟨B, 0, none⟩) lB).trans a0
      have z2 : w2.cell? ⟨B, 1, none⟩ = some (.int .i64 xl) := (k2.cell (p := ⟨B, 1, none⟩) lB).trans a1
      have z3 : w2.cell? ⟨B, 2, none⟩ = some (.int .i64 xs) := (k2.cell (p := ⟨B, 2, none⟩) lB).trans a2
      have z4 : w2.cell? ⟨B, 3, none⟩ = some (.bool xr) := (k2.cell (p := ⟨B, 3, none⟩) lB).trans a3
      have z5 : w2.cell? ⟨B, 4, none⟩ = some (.bool xc) := (k2.cell (p := ⟨B, 4, none⟩) lB).trans a4
      have v1 : w2.cell? ⟨g, q * 5 + 1, none⟩ = some (.int .i64 pl) := (k2.cell (p := ⟨g, q * 5 + 1, none⟩) hgl).trans q1
      have vf := hown2.frozenAt (q * 5 + 1)
      clear hHeld
      have i7 : IntKind.i64.wrap (pl + xl) = pl + xl := IntWalk.i64_in _ (by omega)
      gi_wp2
      refine splitF_region (pre := #[{ dst := some 43, op := Op.load 29 (Operand.tmp 4), type := 29, pos := "transport.go:172", after := #[], guard := none }, { dst := some 44, op := Op.move (Operand.tmp 9), type := 3, pos := "transport.go:172", after := #[], guard := none }, { dst := some 45, op := Op.indexAddr 29 (Operand.tmp 43) (Operand.tmp 44), type := 0, pos := "transport.go:172", after := #[{ on := 0, ground := Ground.data }, { on := 1, ground := Ground.data }], guard := none }, { dst := some 46, op := Op.fieldAddr 36 (Operand.tmp 45) 1, type := 0, pos := "transport.go:172", after := #[{ on := 2, ground := Ground.data }], guard := none }, { dst := some 47, op := Op.load 3 (Operand.tmp 46), type := 3, pos := "transport.go:172", after := #[{ on := 3, ground := Ground.data }], guard := none }, { dst := some 48, op := Op.fieldAddr 36 (Operand.tmp 8) 1, type := 0, pos := "transport.go:172", after := #[], guard := none }, { dst := some 49, op := Op.load 3 (Operand.tmp 48), type := 3, pos := "transport.go:172", after := #[{ on := 5, ground := Ground.data }], guard := none }, { dst := some 50, op := Op.binOp BinOp.add 3 (Operand.tmp 47) (Operand.tmp 49) 3, type := 3, pos := "transport.go:172", after := #[{ on := 4, ground := Ground.data }, { on := 6, ground := Ground.data }], guard := none }, { dst := some 51, op := Op.indexAddr 29 (Operand.tmp 43) (Operand.tmp 44), type := 0, pos := "transport.go:172", after := #[{ on := 0, ground := Ground.data }, { on := 1, ground := Ground.data }, { on := 0, ground := Ground.phase }, { on := 1, ground := Ground.phase }, { on := 2, ground := Ground.phase }, { on := 3, ground := Ground.phase }, { on := 4, ground := Ground.phase }, { on := 5, ground := Ground.phase }, { on := 6, ground := Ground.phase }, { on := 7, ground := Ground.phase }], guard := none }, { dst := some 52, op := Op.fieldAddr 36 (Operand.tmp 51) 1, type := 0, pos := "transport.go:172", after := #[{ on := 8, ground := Ground.data }, { on := 0, ground := Ground.phase }, { on := 1, ground := Ground.phase }, { on := 2, ground := Ground.phase }, { on := 3, ground := Ground.phase }, { on := 4, ground := Ground.phase }, { on := 5, ground := Ground.phase }, { on := 6, ground := Ground.phase }, { on := 7, ground := Ground.phase }], guard := none }]) (S := (fun W0 => W0.cell? ⟨w.heap.size, 0, none⟩ = some (.slice (some ⟨g, 0, none⟩) (q + 1) cp) ∧ W0.cell? ⟨g, q * 5 + 1, none⟩ = some (.int .i64 pl) ∧ W0.cell? ⟨B, 1, none⟩ = some (.int .i64 xl))) _ 10 1 12 ?_ ?_ ?_ ?_ ?_ ?_ ?_ ?_ ?_ ?_ (fun hHeld => ?_)
      · intro o a w K hd h; exact operIn_round lp _ (by exact restF_shut) (by exact fun _ _ _ h => h) o a w K hd h
      · kernel_rfl
      · kernel_rfl
      · rfl
      · rfl
      · exact fun i hi => by rcases (show i = 0 ∨ i = 1 ∨ i = 2 ∨ i = 3 ∨ i = 4 ∨ i = 5 ∨ i = 6 ∨ i = 7 ∨ i = 8 ∨ i = 9 by omega) with rfl | rfl | rfl | rfl | rfl | rfl | rfl | rfl | rfl | rfl <;> rfl
      · kernel_rfl
      · kernel_rfl
      · kernel_rfl
      · go_keep
      try dsimp only at hHeld
      refine wpAnyH_take (i := 0) (oi := { dst := some 43, op := Op.load 29 (Operand.tmp 4), type := 29, pos := "transport.go:172", after := #[], guard := none }) (v := ?_) rfl (by kernel_rfl) (by kernel_rfl) (by kernel_rfl) (fun _ _ _ h => h) (Or.inl ⟨by rfl, ?_⟩) (by assumption) ?_
      rotate_left
      · intro wS hSw; go_split_ands; go_simp; first | done | with_reducible rfl
      simp only [Act.put, List.setIfInBounds_toArray, List.set_cons_zero, List.set_cons_succ]
      refine wpAnyH_take (i := 1) (oi := { dst := some 44, op := Op.move (Operand.tmp 9), type := 3, pos := "transport.go:172", after := #[], guard := none }) (v := ?_) rfl (by kernel_rfl) (by kernel_rfl) (by kernel_rfl) (fun _ _ _ h => h) (Or.inl ⟨by rfl, ?_⟩) (by assumption) ?_
      rotate_left
      · intro wS hSw; go_split_ands; go_simp; first | done | with_reducible rfl
      simp only [Act.put, List.setIfInBounds_toArray, List.set_cons_zero, List.set_cons_succ]
      refine wpAnyH_take (i := 2) (oi := { dst := some 45, op := Op.indexAddr 29 (Operand.tmp 43) (Operand.tmp 44), type := 0, pos := "transport.go:172", after := #[{ on := 0, ground := Ground.data }, { on := 1, ground := Ground.data }], guard := none }) (v := ?_) rfl (by kernel_rfl) (by kernel_rfl) (by kernel_rfl) (fun _ _ _ h => h) (Or.inl ⟨by rfl, ?_⟩) (by assumption) ?_
      rotate_left
      · intro wS hSw; go_split_ands; go_simp; first | done | with_reducible rfl
      simp only [Act.put, List.setIfInBounds_toArray, List.set_cons_zero, List.set_cons_succ]
      refine wpAnyH_take (i := 3) (oi := { dst := some 46, op := Op.fieldAddr 36 (Operand.tmp 45) 1, type := 0, pos := "transport.go:172", after := #[{ on := 2, ground := Ground.data }], guard := none }) (v := ?_) rfl (by kernel_rfl) (by kernel_rfl) (by kernel_rfl) (fun _ _ _ h => h) (Or.inl ⟨by rfl, ?_⟩) (by assumption) ?_
      rotate_left
      · intro wS hSw; go_split_ands; go_simp; first | done | with_reducible rfl
      simp only [Act.put, List.setIfInBounds_toArray, List.set_cons_zero, List.set_cons_succ]
      refine wpAnyH_take (i := 4) (oi := { dst := some 47, op := Op.load 3 (Operand.tmp 46), type := 3, pos := "transport.go:172", after := #[{ on := 3, ground := Ground.data }], guard := none }) (v := ?_) rfl (by kernel_rfl) (by kernel_rfl) (by kernel_rfl) (fun _ _ _ h => h) (Or.inl ⟨by rfl, ?_⟩) (by assumption) ?_
      rotate_left
      · intro wS hSw; go_split_ands; go_simp; first | done | with_reducible rfl
      simp only [Act.put, List.setIfInBounds_toArray, List.set_cons_zero, List.set_cons_succ]
      refine wpAnyH_take (i := 5) (oi := { dst := some 48, op := Op.fieldAddr 36 (Operand.tmp 8) 1, type := 0, pos := "transport.go:172", after := #[], guard := none }) (v := ?_) rfl (by kernel_rfl) (by kernel_rfl) (by kernel_rfl) (fun _ _ _ h => h) (Or.inl ⟨by rfl, ?_⟩) (by assumption) ?_
      rotate_left
      · intro wS hSw; go_split_ands; go_simp; first | done | with_reducible rfl
      simp only [Act.put, List.setIfInBounds_toArray, List.set_cons_zero, List.set_cons_succ]
      refine wpAnyH_take (i := 6) (oi := { dst := some 49, op := Op.load 3 (Operand.tmp 48), type := 3, pos := "transport.go:172", after := #[{ on := 5, ground := Ground.data }], guard := none }) (v := ?_) rfl (by kernel_rfl) (by kernel_rfl) (by kernel_rfl) (fun _ _ _ h => h) (Or.inl ⟨by rfl, ?_⟩) (by assumption) ?_
      rotate_left
      · intro wS hSw; go_split_ands; go_simp; first | done | with_reducible rfl
      simp only [Act.put, List.setIfInBounds_toArray, List.set_cons_zero, List.set_cons_succ]
      refine wpAnyH_take (i := 7) (oi := { dst := some 50, op := Op.binOp BinOp.add 3 (Operand.tmp 47) (Operand.tmp 49) 3, type := 3, pos := "transport.go:172", after := #[{ on := 4, ground := Ground.data }, { on := 6, ground := Ground.data }], guard := none }) (v := ?_) rfl (by kernel_rfl) (by kernel_rfl) (by kernel_rfl) (fun _ _ _ h => h) (Or.inl ⟨by rfl, ?_⟩) (by assumption) ?_
      rotate_left
      · intro wS hSw; go_split_ands; go_simp; first | done | with_reducible rfl
      simp only [Act.put, List.setIfInBounds_toArray, List.set_cons_zero, List.set_cons_succ]
      refine wpAnyH_take (i := 8) (oi := { dst := some 51, op := Op.indexAddr 29 (Operand.tmp 43) (Operand.tmp 44), type := 0, pos := "transport.go:172", after := #[{ on := 0, ground := Ground.data }, { on := 1, ground := Ground.data }, { on := 0, ground := Ground.phase }, { on := 1, ground := Ground.phase }, { on := 2, ground := Ground.phase }, { on := 3, ground := Ground.phase }, { on := 4, ground := Ground.phase }, { on := 5, ground := Ground.phase }, { on := 6, ground := Ground.phase }, { on := 7, ground := Ground.phase }], guard := none }) (v := ?_) rfl (by kernel_rfl) (by kernel_rfl) (by kernel_rfl) (fun _ _ _ h => h) (Or.inl ⟨by rfl, ?_⟩) (by assumption) ?_
      rotate_left
      · intro wS hSw; go_split_ands; go_simp; first | done | with_reducible rfl
      simp only [Act.put, List.setIfInBounds_toArray, List.set_cons_zero, List.set_cons_succ]
      refine wpAnyH_take (i := 9) (oi := { dst := some 52, op := Op.fieldAddr 36 (Operand.tmp 51) 1, type := 0, pos := "transport.go:172", after := #[{ on := 8, ground := Ground.data }, { on := 0, ground := Ground.phase }, { on := 1, ground := Ground.phase }, { on := 2, ground := Ground.phase }, { on := 3, ground := Ground.phase }, { on := 4, ground := Ground.phase }, { on := 5, ground := Ground.phase }, { on := 6, ground := Ground.phase }, { on := 7, ground := Ground.phase }], guard := none }) (v := ?_) rfl (by kernel_rfl) (by kernel_rfl) (by kernel_rfl) (fun _ _ _ h => h) (Or.inl ⟨by rfl, ?_⟩) (by assumption) ?_
      rotate_left
      · intro wS hSw; go_split_ands; go_simp; first | done | with_reducible rfl
      simp only [Act.put, List.setIfInBounds_toArray, List.set_cons_zero, List.set_cons_succ]
      refine wpAnyH_done (by kernel_rfl) ?_ _
      clear hHeld
      refine wpAnyIn_one (f := 0) (i := 10) (by kernel_rfl) ?_
      refine ⟨fun _ _ => trivial, ?_⟩
      go_simp
      refine wpAnyIn_end (by kernel_rfl) ?_
      gi_wp2
      have hgX : g ≠ w.heap.size := by omega
      have hgF : w1.heap.size ≠ g := fun h => hneF (by rw [h]; rfl)
      have hset : (flat5 acc).set (q * 5 + 1) (.int .i64 (pl + xl)) = flat5 (acc.dropLast ++ [⟨pe, pl + xl, ps, pr, pc⟩]) := by
        have h1 := last_split HZ.out
        rw [HP.out] at h1
        have h2 : acc.dropLast.length = q := by rw [List.length_dropLast, HQ.out]; omega
        conv => lhs; rw [h1]
        rw [flat5_append, flat5_append, List.set_append_right _ _ (by rw [flat5_len, h2]; omega), flat5_len, h2, show q * 5 + 1 - q * 5 = 1 by omega]
        rfl
      have hlen2 : (acc.dropLast ++ [(⟨pe, pl + xl, ps, pr, pc⟩ : Sp)]).length = q + 1 := by
        rw [List.length_append, List.length_dropLast, HQ.out]
        rfl
      refine ⟨((Keep.of_same k2 cc.cl).drew.setCell (p := ⟨g, q * 5 + 1, none⟩) (fun _ => (hvm g rfl).1) _), ⟨_, HA2.out, _, mX.by _, (bX2.drewN 1).other (p := ⟨g, q * 5 + 1, none⟩) (fun h => hgX h.symm) _, ?_, fun k hk => (hvm k hk).by _⟩, ⟨mF.by _, (bF2.drewN 1).other (p := ⟨g, q * 5 + 1, none⟩) hgF _⟩, hold.by _ ((k2.mono holds).drew.setCell (p := ⟨g, q * 5 + 1, none⟩) (by simp; omega) _)⟩
      rw [hlen2, ← hset]
      exact (hown2.drew.stored (q * 5 + 1) (.int .i64 (pl + xl))).1
    have hJ2 : joinB ⟨pe, pl, ps, pr, pc⟩ ⟨xe, xl, xs, xr, xc⟩ = false := by simpa using hJ
    rw [hJ2] at KJ
    by_cases hful : q + 1 = 65536
    · have hacc2 : accOf (pre ++ [⟨xe, xl, xs, xr, xc⟩]) = none := by
        rw [accOf_snoc, HACC.out]
        show stepP acc _ = _
        unfold stepP
        rw [HP.out, if_neg (fun h => hJ h.2), if_pos (by rw [HQ.out]; exact hful)]
      have HA2 := Lib.hid hacc2
      have dq : ((q : Int) + 1 == 65536) = true := beq_iff_eq.2 (by omega)
      clear hacc2 hJ hJ2 hful
      gi_wp2
      refine wpIn_region_heldR (S := (fun W0 => W0.cell? ⟨w.heap.size, 0, none⟩ = some (.slice (some ⟨g, 0, none⟩) (q + 1) cp) ∧ W0.cell? ⟨g, q * 5, none⟩ = some (.int .i64 pe) ∧ W0.cell? ⟨g, q * 5 + 1, none⟩ = some (.int .i64 pl) ∧ W0.cell? ⟨g, q * 5 + 2, none⟩ = some (.int .i64 ps) ∧ W0.cell? ⟨g, q * 5 + 3, none⟩ = some (.bool pr) ∧ W0.cell? ⟨g, q * 5 + 4, none⟩ = some (.bool pc) ∧ W0.cell? ⟨B, 0, none⟩ = some (.int .i64 xe) ∧ W0.cell? ⟨B, 1, none⟩ = some (.int .i64 xl) ∧ W0.cell? ⟨B, 2, none⟩ = some (.int .i64 xs) ∧ W0.cell? ⟨B, 3, none⟩ = some (.bool xr) ∧ W0.cell? ⟨B, 4, none⟩ = some (.bool xc))) (by kernel_rfl) (by kernel_rfl) ?_ ?_ (fun hHeld => ?_)
      · rintro ⟨a, w, h⟩; exact h
      · go_keep
      try dsimp only at hHeld
      refine wpAnyH_take (i := 0) (oi := { dst := some 33, op := Op.move (Operand.tmp 9), type := 3, pos := "transport.go:171", after := #[], guard := none }) (v := ?_) rfl (by kernel_rfl) (by kernel_rfl) (by kernel_rfl) (fun _ _ _ h => h) (Or.inl ⟨by rfl, ?_⟩) (by assumption) ?_
      rotate_left
      · intro wS hSw; go_split_ands; go_simp; first | done | with_reducible rfl
      simp only [Act.put, List.setIfInBounds_toArray, List.set_cons_zero, List.set_cons_succ]
      refine wpAnyH_take (i := 1) (oi := { dst := some 34, op := Op.binOp BinOp.geq 3 (Operand.tmp 33) (Operand.const (Value.int IntKind.i64 0)) 3, type := 4, pos := "transport.go:171", after := #[{ on := 0, ground := Ground.data }], guard := none }) (v := ?_) rfl (by kernel_rfl) (by kernel_rfl) (by kernel_rfl) (fun _ _ _ h => h) (Or.inl ⟨by rfl, ?_⟩) (by assumption) ?_
      rotate_left
      · intro wS hSw; go_split_ands; go_simp; first | done | with_reducible rfl
      simp only [Act.put, List.setIfInBounds_toArray, List.set_cons_zero, List.set_cons_succ]
      refine wpAnyH_take (i := 2) (oi := { dst := some 35, op := Op.move (Operand.tmp 34), type := 4, pos := "transport.go:171", after := #[{ on := 1, ground := Ground.data }], guard := none }) (v := ?_) rfl (by kernel_rfl) (by kernel_rfl) (by kernel_rfl) (fun _ _ _ h => h) (Or.inl ⟨by rfl, ?_⟩) (by assumption) ?_
      rotate_left
      · intro wS hSw; go_split_ands; go_simp; first | done | with_reducible rfl
      simp only [Act.put, List.setIfInBounds_toArray, List.set_cons_zero, List.set_cons_succ]
      refine wpAnyH_take (i := 3) (oi := { dst := some 36, op := Op.load 29 (Operand.tmp 4), type := 29, pos := "transport.go:171", after := #[{ on := 2, ground := Ground.guard }], guard := some (2, true) }) (v := ?_) rfl (by kernel_rfl) (by kernel_rfl) (by kernel_rfl) (fun _ _ _ h => h) (Or.inl ⟨by rfl, ?_⟩) (by assumption) ?_
      rotate_left
      · intro wS hSw; go_split_ands; go_simp; first | done | with_reducible rfl
      simp only [Act.put, List.setIfInBounds_toArray, List.set_cons_zero, List.set_cons_succ]
      refine wpAnyH_take (i := 4) (oi := { dst := some 37, op := Op.move (Operand.tmp 9), type := 3, pos := "transport.go:171", after := #[{ on := 2, ground := Ground.guard }], guard := some (2, true) }) (v := ?_) rfl (by kernel_rfl) (by kernel_rfl) (by kernel_rfl) (fun _ _ _ h => h) (Or.inl ⟨by rfl, ?_⟩) (by assumption) ?_
      rotate_left
      · intro wS hSw; go_split_ands; go_simp; first | done | with_reducible rfl
      simp only [Act.put, List.setIfInBounds_toArray, List.set_cons_zero, List.set_cons_succ]
      refine wpAnyH_take (i := 5) (oi := { dst := some 38, op := Op.indexAddr 29 (Operand.tmp 36) (Operand.tmp 37), type := 0, pos := "transport.go:171", after := #[{ on := 3, ground := Ground.data }, { on := 4, ground := Ground.data }, { on := 2, ground := Ground.guard }], guard := some (2, true) }) (v := ?_) rfl (by kernel_rfl) (by kernel_rfl) (by kernel_rfl) (fun _ _ _ h => h) (Or.inl ⟨by rfl, ?_⟩) (by assumption) ?_
      rotate_left
      · intro wS hSw; go_split_ands; go_simp; first | done | with_reducible rfl
      simp only [Act.put, List.setIfInBounds_toArray, List.set_cons_zero, List.set_cons_succ]
      refine wpAnyH_take (i := 6) (oi := { dst := some 39, op := Op.load 36 (Operand.tmp 38), type := 36, pos := "transport.go:171", after := #[{ on := 5, ground := Ground.data }, { on := 2, ground := Ground.guard }], guard := some (2, true) }) (v := ?_) rfl (by kernel_rfl) (by kernel_rfl) (by kernel_rfl) (fun _ _ _ h => h) (Or.inl ⟨by rfl, ?_⟩) (by assumption) ?_
      rotate_left
      · intro wS hSw; go_split_ands; go_simp; first | done | with_reducible rfl
      simp only [Act.put, List.setIfInBounds_toArray, List.set_cons_zero, List.set_cons_succ]
      refine wpAnyH_take (i := 7) (oi := { dst := some 40, op := Op.load 36 (Operand.tmp 8), type := 36, pos := "transport.go:171", after := #[{ on := 2, ground := Ground.guard }], guard := some (2, true) }) (v := ?_) rfl (by kernel_rfl) (by kernel_rfl) (by kernel_rfl) (fun _ _ _ h => h) (Or.inl ⟨by rfl, ?_⟩) (by assumption) ?_
      rotate_left
      · intro wS hSw; go_split_ands; go_simp; first | done | with_reducible rfl
      simp only [Act.put, List.setIfInBounds_toArray, List.set_cons_zero, List.set_cons_succ]
      refine wpAnyH_ready (rs := [8]) (by kernel_rfl) (by simp) ?_
      refine AllReadyH.cons (o := { dst := some 41, op := Op.call { callee := Callee.value (Operand.func 27), args := #[Operand.tmp 39, Operand.tmp 40], argTypes := #[36, 36] }, type := 4, pos := "transport.go:171", after := #[{ on := 6, ground := Ground.data }, { on := 7, ground := Ground.data }, { on := 2, ground := Ground.chain }, { on := 2, ground := Ground.guard }], guard := some (2, true) }) rfl (fun K hK => ?_) AllReadyH.nil
      go_simp
      go_at_call 27; refine (KJ _).mono ?_; rintro e w2 ⟨rfl, hb2⟩
      refine hK.out _ _ ?_ (fun hHeld => ?_)
      · exact ⟨(hb2.cell (p := ⟨w.heap.size, 0, none⟩) (by simp <;> omega)).trans (by go_keep), (hb2.cell (p := ⟨g, q * 5, none⟩) (by simp <;> omega)).trans (by go_keep), (hb2.cell (p := ⟨g, q * 5 + 1, none⟩) (by simp <;> omega)).trans (by go_keep), (hb2.cell (p := ⟨g, q * 5 + 2, none⟩) (by simp <;> omega)).trans (by go_keep), (hb2.cell (p := ⟨g, q * 5 + 3, none⟩) (by simp <;> omega)).trans (by go_keep), (hb2.cell (p := ⟨g, q * 5 + 4, none⟩) (by simp <;> omega)).trans (by go_keep), (hb2.cell (p := ⟨B, 0, none⟩) (by simp <;> omega)).trans (by go_keep), (hb2.cell (p := ⟨B, 1, none⟩) (by simp <;> omega)).trans (by go_keep), (hb2.cell (p := ⟨B, 2, none⟩) (by simp <;> omega)).trans (by go_keep), (hb2.cell (p := ⟨B, 3, none⟩) (by simp <;> omega)).trans (by go_keep), (hb2.cell (p := ⟨B, 4, none⟩) (by simp <;> omega)).trans (by go_keep)⟩
      clear hK K
      try simp only [Act.put, List.setIfInBounds_toArray, List.set_cons_zero, List.set_cons_succ]
      refine wpAnyH_take (i := 9) (oi := { dst := some 42, op := Op.pick (Operand.tmp 35) (Operand.tmp 41) (Operand.const (Value.bool false)), type := 4, pos := "transport.go:171", after := #[{ on := 2, ground := Ground.data }, { on := 8, ground := Ground.data }], guard := none }) (v := ?_) rfl (by kernel_rfl) (by kernel_rfl) (by kernel_rfl) (fun _ _ _ h => h) (Or.inl ⟨by rfl, ?_⟩) (by assumption) ?_
      rotate_left
      · intro wS hSw; go_split_ands; go_simp; first | done | with_reducible rfl
      simp only [Act.put, List.setIfInBounds_toArray, List.set_cons_zero, List.set_cons_succ]
      refine wpAnyH_ready (rs := [10]) (by kernel_rfl) (by simp) ?_
      refine AllReadyH.cons (o := { dst := some 32, op := Op.assign (Operand.tmp 42), type := 4, pos := "transport.go:171", after := #[{ on := 9, ground := Ground.data }, { on := 8, ground := Ground.chain }], guard := none }) rfl (fun K hK => ?_) AllReadyH.nil
      go_simp
      refine hK.out _ _ ?_ (fun hHeld => ?_)
      · exact ⟨(hb2.cell (p := ⟨w.heap.size, 0, none⟩) (by simp <;> omega)).trans (by go_keep), (hb2.cell (p := ⟨g, q * 5, none⟩) (by simp <;> omega)).trans (by go_keep), (hb2.cell (p := ⟨g, q * 5 + 1, none⟩) (by simp <;> omega)).trans (by go_keep), (hb2.cell (p := ⟨g, q * 5 + 2, none⟩) (by simp <;> omega)).trans (by go_keep), (hb2.cell (p := ⟨g, q * 5 + 3, none⟩) (by simp <;> omega)).trans (by go_keep), (hb2.cell (p := ⟨g, q * 5 + 4, none⟩) (by simp <;> omega)).trans (by go_keep), (hb2.cell (p := ⟨B, 0, none⟩) (by simp <;> omega)).trans (by go_keep), (hb2.cell (p := ⟨B, 1, none⟩) (by simp <;> omega)).trans (by go_keep), (hb2.cell (p := ⟨B, 2, none⟩) (by simp <;> omega)).trans (by go_keep), (hb2.cell (p := ⟨B, 3, none⟩) (by simp <;> omega)).trans (by go_keep), (hb2.cell (p := ⟨B, 4, none⟩) (by simp <;> omega)).trans (by go_keep)⟩
      clear hK K
      try simp only [Act.put, List.setIfInBounds_toArray, List.set_cons_zero, List.set_cons_succ]
      refine wpAnyH_done (by kernel_rfl) ?_ _
      have k2 : Below W.heap.size W w2 := (Below.refl _ W).drew.trans (hb2.mono (by simp))
      have bX2 := bX.below k2 lX
      have bF2 := bF.below k2 lF
      have yX2 := bX2.cell0
      have fX2 := bX2.frozen 0
      have yF2 := bF2.cell0
      have fF2 := bF2.frozen 0
      have hown2 : w2.ownsRow w1.heap.size 36 5 (.slice (some ⟨g, 0, none⟩) (q + 1) cp) (q + 1) (flat5 acc) := row_keep5 hown k2
      have hs2 := k2.size
      have z1 : w2.cell? ⟨B, 0, none⟩ = some (.int .i64 xe) := (k2.cell (p := ⟨B, 0, none⟩) lB).trans a0
      have z2 : w2.cell? ⟨B, 1, none⟩ = some (.int .i64 xl) := (k2.cell (p := ⟨B, 1, none⟩) lB).trans a1
      have z3 : w2.cell? ⟨B, 2, none⟩ = some (.int .i64 xs) := (k2.cell (p := ⟨B, 2, none⟩) lB).trans a2
      have z4 : w2.cell? ⟨B, 3, none⟩ = some (.bool xr) := (k2.cell (p := ⟨B, 3, none⟩) lB).trans a3
      have z5 : w2.cell? ⟨B, 4, none⟩ = some (.bool xc) := (k2.cell (p := ⟨B, 4, none⟩) lB).trans a4
      have v1 : w2.cell? ⟨g, q * 5 + 1, none⟩ = some (.int .i64 pl) := (k2.cell (p := ⟨g, q * 5 + 1, none⟩) hgl).trans q1
      have vf := hown2.frozenAt (q * 5 + 1)
      clear hHeld
      gi_wp2
      exact ⟨((Keep.of_same k2 cc.cl).setCell (p := ⟨w1.heap.size, 0, none⟩) (fun _ => mF.1) _), rfl, HA2.out, ⟨_, mX.by _, bX2.other (p := ⟨w1.heap.size, 0, none⟩) hXF _⟩, ⟨mF.by _, bF2.set0 _⟩, hold.by _ (((k2.mono holds).setCell (p := ⟨w1.heap.size, 0, none⟩) (by simp; omega) _))⟩
    · have hacc2 : accOf (pre ++ [⟨xe, xl, xs, xr, xc⟩]) = some (acc ++ [⟨xe, xl, xs, xr, xc⟩]) := by
        rw [accOf_snoc, HACC.out]
        show stepP acc _ = _
        unfold stepP
        rw [HP.out, if_neg (fun h => hJ h.2), if_neg (by rw [HQ.out]; exact hful)]
      have HA2 := Lib.hid hacc2
      have dq : ((q : Int) + 1 == 65536) = false := beq_eq_false_iff_ne.2 (by omega)
      clear hacc2 hJ hJ2 hful
      gi_wp2
      refine wpIn_region_heldR (S := (fun W0 => W0.cell? ⟨w.heap.size, 0, none⟩ = some (.slice (some ⟨g, 0, none⟩) (q + 1) cp) ∧ W0.cell? ⟨g, q * 5, none⟩ = some (.int .i64 pe) ∧ W0.cell? ⟨g, q * 5 + 1, none⟩ = some (.int .i64 pl) ∧ W0.cell? ⟨g, q * 5 + 2, none⟩ = some (.int .i64 ps) ∧ W0.cell? ⟨g, q * 5 + 3, none⟩ = some (.bool pr) ∧ W0.cell? ⟨g, q * 5 + 4, none⟩ = some (.bool pc) ∧ W0.cell? ⟨B, 0, none⟩ = some (.int .i64 xe) ∧ W0.cell? ⟨B, 1, none⟩ = some (.int .i64 xl) ∧ W0.cell? ⟨B, 2, none⟩ = some (.int .i64 xs) ∧ W0.cell? ⟨B, 3, none⟩ = some (.bool xr) ∧ W0.cell? ⟨B, 4, none⟩ = some (.bool xc))) (by kernel_rfl) (by kernel_rfl) ?_ ?_ (fun hHeld => ?_)
      · rintro ⟨a, w, h⟩; exact h
      · go_keep
      try dsimp only at hHeld
      refine wpAnyH_take (i := 0) (oi := { dst := some 33, op := Op.move (Operand.tmp 9), type := 3, pos := "transport.go:171", after := #[], guard := none }) (v := ?_) rfl (by kernel_rfl) (by kernel_rfl) (by kernel_rfl) (fun _ _ _ h => h) (Or.inl ⟨by rfl, ?_⟩) (by assumption) ?_
      rotate_left
      · intro wS hSw; go_split_ands; go_simp; first | done | with_reducible rfl
      simp only [Act.put, List.setIfInBounds_toArray, List.set_cons_zero, List.set_cons_succ]
      refine wpAnyH_take (i := 1) (oi := { dst := some 34, op := Op.binOp BinOp.geq 3 (Operand.tmp 33) (Operand.const (Value.int IntKind.i64 0)) 3, type := 4, pos := "transport.go:171", after := #[{ on := 0, ground := Ground.data }], guard := none }) (v := ?_) rfl (by kernel_rfl) (by kernel_rfl) (by kernel_rfl) (fun _ _ _ h => h) (Or.inl ⟨by rfl, ?_⟩) (by assumption) ?_
      rotate_left
      · intro wS hSw; go_split_ands; go_simp; first | done | with_reducible rfl
      simp only [Act.put, List.setIfInBounds_toArray, List.set_cons_zero, List.set_cons_succ]
      refine wpAnyH_take (i := 2) (oi := { dst := some 35, op := Op.move (Operand.tmp 34), type := 4, pos := "transport.go:171", after := #[{ on := 1, ground := Ground.data }], guard := none }) (v := ?_) rfl (by kernel_rfl) (by kernel_rfl) (by kernel_rfl) (fun _ _ _ h => h) (Or.inl ⟨by rfl, ?_⟩) (by assumption) ?_
      rotate_left
      · intro wS hSw; go_split_ands; go_simp; first | done | with_reducible rfl
      simp only [Act.put, List.setIfInBounds_toArray, List.set_cons_zero, List.set_cons_succ]
      refine wpAnyH_take (i := 3) (oi := { dst := some 36, op := Op.load 29 (Operand.tmp 4), type := 29, pos := "transport.go:171", after := #[{ on := 2, ground := Ground.guard }], guard := some (2, true) }) (v := ?_) rfl (by kernel_rfl) (by kernel_rfl) (by kernel_rfl) (fun _ _ _ h => h) (Or.inl ⟨by rfl, ?_⟩) (by assumption) ?_
      rotate_left
      · intro wS hSw; go_split_ands; go_simp; first | done | with_reducible rfl
      simp only [Act.put, List.setIfInBounds_toArray, List.set_cons_zero, List.set_cons_succ]
      refine wpAnyH_take (i := 4) (oi := { dst := some 37, op := Op.move (Operand.tmp 9), type := 3, pos := "transport.go:171", after := #[{ on := 2, ground := Ground.guard }], guard := some (2, true) }) (v := ?_) rfl (by kernel_rfl) (by kernel_rfl) (by kernel_rfl) (fun _ _ _ h => h) (Or.inl ⟨by rfl, ?_⟩) (by assumption) ?_
      rotate_left
      · intro wS hSw; go_split_ands; go_simp; first | done | with_reducible rfl
      simp only [Act.put, List.setIfInBounds_toArray, List.set_cons_zero, List.set_cons_succ]
      refine wpAnyH_take (i := 5) (oi := { dst := some 38, op := Op.indexAddr 29 (Operand.tmp 36) (Operand.tmp 37), type := 0, pos := "transport.go:171", after := #[{ on := 3, ground := Ground.data }, { on := 4, ground := Ground.data }, { on := 2, ground := Ground.guard }], guard := some (2, true) }) (v := ?_) rfl (by kernel_rfl) (by kernel_rfl) (by kernel_rfl) (fun _ _ _ h => h) (Or.inl ⟨by rfl, ?_⟩) (by assumption) ?_
      rotate_left
      · intro wS hSw; go_split_ands; go_simp; first | done | with_reducible rfl
      simp only [Act.put, List.setIfInBounds_toArray, List.set_cons_zero, List.set_cons_succ]
      refine wpAnyH_take (i := 6) (oi := { dst := some 39, op := Op.load 36 (Operand.tmp 38), type := 36, pos := "transport.go:171", after := #[{ on := 5, ground := Ground.data }, { on := 2, ground := Ground.guard }], guard := some (2, true) }) (v := ?_) rfl (by kernel_rfl) (by kernel_rfl) (by kernel_rfl) (fun _ _ _ h => h) (Or.inl ⟨by rfl, ?_⟩) (by assumption) ?_
      rotate_left
      · intro wS hSw; go_split_ands; go_simp; first | done | with_reducible rfl
      simp only [Act.put, List.setIfInBounds_toArray, List.set_cons_zero, List.set_cons_succ]
      refine wpAnyH_take (i := 7) (oi := { dst := some 40, op := Op.load 36 (Operand.tmp 8), type := 36, pos := "transport.go:171", after := #[{ on := 2, ground := Ground.guard }], guard := some (2, true) }) (v := ?_) rfl (by kernel_rfl) (by kernel_rfl) (by kernel_rfl) (fun _ _ _ h => h) (Or.inl ⟨by rfl, ?_⟩) (by assumption) ?_
      rotate_left
      · intro wS hSw; go_split_ands; go_simp; first | done | with_reducible rfl
      simp only [Act.put, List.setIfInBounds_toArray, List.set_cons_zero, List.set_cons_succ]
      refine wpAnyH_ready (rs := [8]) (by kernel_rfl) (by simp) ?_
      refine AllReadyH.cons (o := { dst := some 41, op := Op.call { callee := Callee.value (Operand.func 27), args := #[Operand.tmp 39, Operand.tmp 40], argTypes := #[36, 36] }, type := 4, pos := "transport.go:171", after := #[{ on := 6, ground := Ground.data }, { on := 7, ground := Ground.data }, { on := 2, ground := Ground.chain }, { on := 2, ground := Ground.guard }], guard := some (2, true) }) rfl (fun K hK => ?_) AllReadyH.nil
      go_simp
      go_at_call 27; refine (KJ _).mono ?_; rintro e w2 ⟨rfl, hb2⟩
      refine hK.out _ _ ?_ (fun hHeld => ?_)
      · exact ⟨(hb2.cell (p := ⟨w.heap.size, 0, none⟩) (by simp <;> omega)).trans (by go_keep), (hb2.cell (p := ⟨g, q * 5, none⟩) (by simp <;> omega)).trans (by go_keep), (hb2.cell (p := ⟨g, q * 5 + 1, none⟩) (by simp <;> omega)).trans (by go_keep), (hb2.cell (p := ⟨g, q * 5 + 2, none⟩) (by simp <;> omega)).trans (by go_keep), (hb2.cell (p := ⟨g, q * 5 + 3, none⟩) (by simp <;> omega)).trans (by go_keep), (hb2.cell (p := ⟨g, q * 5 + 4, none⟩) (by simp <;> omega)).trans (by go_keep), (hb2.cell (p := ⟨B, 0, none⟩) (by simp <;> omega)).trans (by go_keep), (hb2.cell (p := ⟨B, 1, none⟩) (by simp <;> omega)).trans (by go_keep), (hb2.cell (p := ⟨B, 2, none⟩) (by simp <;> omega)).trans (by go_keep), (hb2.cell (p := ⟨B, 3, none⟩) (by simp <;> omega)).trans (by go_keep), (hb2.cell (p := ⟨B, 4, none⟩) (by simp <;> omega)).trans (by go_keep)⟩
      clear hK K
      try simp only [Act.put, List.setIfInBounds_toArray, List.set_cons_zero, List.set_cons_succ]
      refine wpAnyH_take (i := 9) (oi := { dst := some 42, op := Op.pick (Operand.tmp 35) (Operand.tmp 41) (Operand.const (Value.bool false)), type := 4, pos := "transport.go:171", after := #[{ on := 2, ground := Ground.data }, { on := 8, ground := Ground.data }], guard := none }) (v := ?_) rfl (by kernel_rfl) (by kernel_rfl) (by kernel_rfl) (fun _ _ _ h => h) (Or.inl ⟨by rfl, ?_⟩) (by assumption) ?_
      rotate_left
      · intro wS hSw; go_split_ands; go_simp; first | done | with_reducible rfl
      simp only [Act.put, List.setIfInBounds_toArray, List.set_cons_zero, List.set_cons_succ]
      refine wpAnyH_ready (rs := [10]) (by kernel_rfl) (by simp) ?_
      refine AllReadyH.cons (o := { dst := some 32, op := Op.assign (Operand.tmp 42), type := 4, pos := "transport.go:171", after := #[{ on := 9, ground := Ground.data }, { on := 8, ground := Ground.chain }], guard := none }) rfl (fun K hK => ?_) AllReadyH.nil
      go_simp
      refine hK.out _ _ ?_ (fun hHeld => ?_)
      · exact ⟨(hb2.cell (p := ⟨w.heap.size, 0, none⟩) (by simp <;> omega)).trans (by go_keep), (hb2.cell (p := ⟨g, q * 5, none⟩) (by simp <;> omega)).trans (by go_keep), (hb2.cell (p := ⟨g, q * 5 + 1, none⟩) (by simp <;> omega)).trans (by go_keep), (hb2.cell (p := ⟨g, q * 5 + 2, none⟩) (by simp <;> omega)).trans (by go_keep), (hb2.cell (p := ⟨g, q * 5 + 3, none⟩) (by simp <;> omega)).trans (by go_keep), (hb2.cell (p := ⟨g, q * 5 + 4, none⟩) (by simp <;> omega)).trans (by go_keep), (hb2.cell (p := ⟨B, 0, none⟩) (by simp <;> omega)).trans (by go_keep), (hb2.cell (p := ⟨B, 1, none⟩) (by simp <;> omega)).trans (by go_keep), (hb2.cell (p := ⟨B, 2, none⟩) (by simp <;> omega)).trans (by go_keep), (hb2.cell (p := ⟨B, 3, none⟩) (by simp <;> omega)).trans (by go_keep), (hb2.cell (p := ⟨B, 4, none⟩) (by simp <;> omega)).trans (by go_keep)⟩
      clear hK K
      try simp only [Act.put, List.setIfInBounds_toArray, List.set_cons_zero, List.set_cons_succ]
      refine wpAnyH_done (by kernel_rfl) ?_ _
      have k2 : Below W.heap.size W w2 := (Below.refl _ W).drew.trans (hb2.mono (by simp))
      have bX2 := bX.below k2 lX
      have bF2 := bF.below k2 lF
      have yX2 := bX2.cell0
      have fX2 := bX2.frozen 0
      have yF2 := bF2.cell0
      have fF2 := bF2.frozen 0
      have hown2 : w2.ownsRow w1.heap.size 36 5 (.slice (some ⟨g, 0, none⟩) (q + 1) cp) (q + 1) (flat5 acc) := row_keep5 hown k2
      have hs2 := k2.size
      have z1 : w2.cell? ⟨B, 0, none⟩ = some (.int .i64 xe) := (k2.cell (p := ⟨B, 0, none⟩) lB).trans a0
      have z2 : w2.cell? ⟨B, 1, none⟩ = some (.int .i64 xl) := (k2.cell (p := ⟨B, 1, none⟩) lB).trans a1
      have z3 : w2.cell? ⟨B, 2, none⟩ = some (.int .i64 xs) := (k2.cell (p := ⟨B, 2, none⟩) lB).trans a2
      have z4 : w2.cell? ⟨B, 3, none⟩ = some (.bool xr) := (k2.cell (p := ⟨B, 3, none⟩) lB).trans a3
      have z5 : w2.cell? ⟨B, 4, none⟩ = some (.bool xc) := (k2.cell (p := ⟨B, 4, none⟩) lB).trans a4
      have v1 : w2.cell? ⟨g, q * 5 + 1, none⟩ = some (.int .i64 pl) := (k2.cell (p := ⟨g, q * 5 + 1, none⟩) hgl).trans q1
      have vf := hown2.frozenAt (q * 5 + 1)
      clear hHeld
      gi_wp2_with (gi_at_builtin; go_loud (refine wpListIn_append_at rfl (.tmp 28) (.tmp 30) 29 rfl w1.heap.size 36 i0 (.agg #[.int .i64 0, .int .i64 0, .int .i64 0, .bool false, .bool false]) 5 32 Try.underlying29 hi0 hz0 hz1 hz2 rfl (by decide) _ (q + 1) (flat5 acc) rfl (hown2.alloc _) ⟨w2.heap.size, 0, none⟩ 1 1 (spc ⟨xe, xl, xs, xr, xc⟩).toList rfl rfl (fun j u hh => cell_new5 (W := w2) ⟨xe, xl, xs, xr, xc⟩ rfl j u hh) (spc_one _) (by simp [maxLen] <;> omega) (by omega) (by simp <;> omega) ?_); intro v' w' hown' hgrow hat; obtain ⟨V', cp', rfl⟩ := own_slice hown'; have bX' : Blk w' w.heap.size 29 _ := (hgrow.block w.heap.size (by simp <;> omega) (by exact fun h => hneX h.symm)).trans (bX2.alloc _); have yX' := bX'.cell0; have fX' := bX'.frozen 0; have bF' : Blk w' w1.heap.size 4 _ := (hgrow.block w1.heap.size (by simp <;> omega) (by exact fun h => hneF h.symm)).trans (bF2.alloc _))
      have hne' := row_ne5 hown' bX' (by decide)
      refine ⟨(((Keep.of_same k2 cc.cl).alloc _).grown hgrow (fun k hk _ => (hvm k hk).1)).setCell (p := ⟨w.heap.size, 0, none⟩) (fun _ => mX.1) _, ⟨_, HA2.out, _, mX.by _, bX'.set0 _, ?_, ?_⟩, ⟨mF.by _, bF'.other (p := ⟨w.heap.size, 0, none⟩) (fun h => hXF h.symm) _⟩, hold.by _ ((((k2.mono holds).alloc (by omega) _).grown hgrow (by simp; omega) (fun k hk => by have := hgb k hk; omega)).setCell (p := ⟨w.heap.size, 0, none⟩) (Nat.le_refl _) _)⟩
      · have := hown'.kept (grownBy_setCell' w' w.heap.size (.slice V' (q + 1 + 1) cp')) (.inr hne')
        rw [flat5_append, List.length_append, HQ.out]; simpa [flat5] using this
      · intro k hk
        rcases hat with h | h
        · exact (hvm k (h ▸ hk)).by _
        · rw [h] at hk
          have : w2.heap.size + 1 = k := by simpa using hk
          exact Mine.new _ (by omega)

  case done =>
    clear xX xF xL xN hb4
    rintro D cc xs W hD rfl ⟨⟨acc, hacc, v, mX, bX, hown, hvm⟩, ⟨mF, bF⟩, hold⟩ hK
    obtain ⟨V, cp, rfl⟩ := own_slice hown
    have yX := bX.cell0
    have fX := bX.frozen 0
    have yF := bF.cell0
    have hXF : w.heap.size ≠ w1.heap.size := by omega
    have hDX : D ≠ w.heap.size := by omega
    have hk2 : (W.setCell ⟨w.heap.size, 0, none⟩ (.slice V acc.length cp)).heap[D]? = some (.deferred (some [])) := (Below.heap_setCell _ _ _ _ hDX).trans hK
    have e3 := ((bX.set0 (.slice V acc.length cp)).putObj (D := D) (by omega) (.deferred none)).cell0
    have HAC := Lib.hid hacc
    clear hacc
    go_wp2
    rw [Exit.noGoto_ret]
    refine ⟨by simp, .inl ⟨_, _, rfl, run_takeDeferred hk2, ?_⟩⟩
    refine ⟨.tuple #[.slice V acc.length cp, .int .i64 0], ?_, ?_⟩
    · simp [results, Try.results16, go_sem, e3]
    · have hg : ∀ g, (Value.slice V acc.length cp).ownBlock = some g → g ≠ w.heap.size ∧ g ≠ D := by
        intro g hg
        refine ⟨fun e => ?_, fun e => ?_⟩
        · have := (hown.lt g hg).1; omega
        · rcases hown.2 with ⟨hv, _⟩ | ⟨g2, _, _, hv, _, hh, _⟩
          · rw [hv] at hg; simp [Value.ownBlock] at hg
          · rw [hv] at hg
            obtain rfl : g2 = g := by simpa [Value.ownBlock] using hg
            rw [e, hK] at hh
            cases hh
      have ho2 := ownsRow_move hown (W' := (W.setCell ⟨w.heap.size, 0, none⟩ (.slice V acc.length cp)).putObj D (.deferred none)) (fun g h => (World.putObj_heap_other (hg g h).2).trans (Below.heap_setCell _ _ _ _ (hg g h).1))
      have e4 : gSpans l n = (acc, 0) := by rw [E.out, HAC.out]; rfl
      rw [e4]
      exact ⟨V, cp, rfl, (own_SpAt ho2).2, below_putObj (hold.2.setCell (p := ⟨w.heap.size, 0, none⟩) (Nat.le_refl _) _) (by omega) _⟩
  case stop =>
    clear xX xF xL xN hb4
    rintro D j cc pre W hD hpre ⟨rfl, hacc, ⟨v, mX, bX⟩, ⟨mF, bF⟩, hold⟩ hK
    have yX := bX.cell0
    have fX := bX.frozen 0
    have yF := bF.cell0
    have hDX : D ≠ w.heap.size := by omega
    have hk2 : (W.setCell ⟨w.heap.size, 0, none⟩ (.slice none 0 0)).heap[D]? = some (.deferred (some [])) := (Below.heap_setCell _ _ _ _ hDX).trans hK
    have e3 := ((bX.set0 (.slice none 0 0)).putObj (D := D) (by omega) (.deferred none)).cell0
    have HAC := Lib.hid (accOf_none hacc hpre)
    clear hacc
    gi_wp2
    go_wp2
    rw [Exit.noGoto_ret]
    refine ⟨by simp, .inl ⟨_, _, rfl, run_takeDeferred hk2, ?_⟩⟩
    refine ⟨.tuple #[.slice none 0 0, .int .i64 2], ?_, ?_⟩
    · simp [results, Try.results16, go_sem, e3]
    · have e4 : gSpans l n = ([], 2) := by rw [E.out, HAC.out]; rfl
      rw [e4]
      exact ⟨none, 0, rfl, fun h0 => absurd h0 (by simp), below_putObj (hold.2.setCell (p := ⟨w.heap.size, 0, none⟩) (Nat.le_refl _) _) (by omega) _⟩
end Go.Proofs.Ytjkclplnflaplaa
