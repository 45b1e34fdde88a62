/-
  Open of a journal. Conditions: the disk lies as plain data.
-/
import Derived.Test.YtckeopidedoohaaJit
import Derived.Test.YtckeopidedoohaaJap
import Derived.Maps.OwnIn
namespace Go.Proofs.Ytckeopidedoohaa
open Go.RowKit
variable {n₀ : Nat}
attribute [local go_sem] Oper.semAt_some

open Classical in
/-- What Open answers. -/
noncomputable def gOpen (d : Dk) : Jn × Int := if ¬ Val d then (jn0, 40) else if d.stop = true then (jn0, 40) else if 0 < d.pend.length then (jn0, 1) else (⟨gRecs d.secs, d.secs.length, (gRecs d.secs).length⟩, 0)
theorem gOpen_no {d : Dk} (h : ¬ Val d) : gOpen d = (jn0, 40) := by unfold gOpen; rw [if_pos h]
theorem gOpen_stop {d : Dk} (h : Val d) (hs : d.stop = true) : gOpen d = (jn0, 40) := by unfold gOpen; rw [if_neg (not_not_intro h), if_pos hs]
theorem gOpen_pend {d : Dk} (h : Val d) (hs : d.stop = false) (hp : 0 < d.pend.length) : gOpen d = (jn0, 1) := by unfold gOpen; rw [if_neg (not_not_intro h), hs, if_neg (by simp), if_pos hp]
theorem gOpen_ok {d : Dk} (h : Val d) (hs : d.stop = false) (hp : ¬ 0 < d.pend.length) : gOpen d = (⟨gRecs d.secs, d.secs.length, (gRecs d.secs).length⟩, 0) := by unfold gOpen; rw [if_neg (not_not_intro h), hs, if_neg (by simp), if_neg hp]

theorem records_t (A : Option Addr) (n c : Nat) (w : World) :
    Calls Try.prog 81 #[.slice A n c] w fun e w' => e = .returned (.func (.func 104) #[] #[.pointer (some ⟨w.heap.size, 0, none⟩)]) ∧ w' = w.alloc (.cells #[.slice A n c] 22) := by
  have hmf : ∀ (fn : Fn) (first cap : Array Value) (w : World), (Instr.makeFunc fn first cap).run Try.prog w = .ok (.func fn first cap) w := fun _ _ _ _ => rfl
  go_enter Try.func81, Try.ntmps81
  go_wp2
  go_ret
  exact ⟨rfl, rfl⟩
theorem recs_len (l : List Bs) : ∀ (f at_ last : Nat), (recs f l at_ last).length ≤ f
  | 0, _, _ => Nat.le_refl _
  | f + 1, at_, last => by
    cases h : recAt l at_ last with
    | none => rw [recs_none h]; exact Nat.zero_le _
    | some x =>
      obtain ⟨n, b⟩ := x
      rw [recs_some h, List.length_cons]
      exact Nat.succ_le_succ (recs_len l f n _)
theorem rc_rws {W : World} {xs : List Rc} (hx : ∀ x ∈ xs, RcOk x ∧ ∀ g t cs, x.bl = some (g, t, cs) → W.heap[g]? = some (.cells cs t (0, 0))) : Rws n₀ W (xs.map Rc.v) (xs.map Rc.b) := by
  refine ⟨by simp, fun i hi => ?_⟩
  have hi' : i < xs.length := by simpa using hi
  have e1 : (xs.map Rc.v).getD i undef = xs[i].v := by simp [List.getD, hi']
  have e2 : (xs.map Rc.b).getD i [] = xs[i].b := by simp [List.getD, hi']
  rw [e1, e2]
  obtain ⟨hok, hb⟩ := hx xs[i] (List.getElem_mem hi')
  rcases hok with ⟨h1, h2, h3⟩ | ⟨g, cap, cur, h1, h2, h3, h4⟩
  · exact ⟨none, 0, by rw [h1, h2]; rfl, by rw [h1]; exact Nat.le_refl _, by rw [h1]; exact BsAt.nil _ _⟩
  · have hh : Blk W g 5 cur := hb g 5 cur h3
    refine ⟨some ⟨g, 0, none⟩, cap, h1, h2, fun h0 => ⟨g, 0, rfl, Lies.of_blk hh rfl, fun j hj => ?_⟩⟩
    have e3 : cur[j]? = (bcells xs[i].b)[j]? := by
      rw [← h4, List.getElem?_take, if_pos hj]
      simp
    rw [Nat.zero_add, hh.cell, e3, bcells_get _ j hj]
theorem own_keepB {w W : World} {base : Nat} {e : TypeId} {size : Nat} {v : Value} {n : Nat} {xs : List Value} {may : Nat → Prop} (h : w.ownsRow base e size v n xs) (hk : Keep may w W) (hn : ∀ k, v.ownBlock = some k → ¬ may k) : W.ownsRow base e size v n xs := by
  refine ⟨h.1, ?_⟩
  rcases h.2 with h2 | ⟨g, cap, cur, rfl, hg, hh, r⟩
  · exact .inl h2
  · exact .inr ⟨g, cap, cur, rfl, hg, (hk.block g (Array.getElem?_eq_some_iff.1 hh).1 (hn g rfl)).trans hh, r⟩
theorem own_ne {w : World} {base : Nat} {e t : TypeId} {size : Nat} {v : Value} {n : Nat} {xs : List Value} {B : Nat} {cs : Array Value} {f : Nat × Nat} (h : w.ownsRow base e size v n xs) (hB : w.heap[B]? = some (.cells cs t f)) (ht : t ≠ e) : v.ownBlock ≠ some B := fun hv => by
  rcases h.2 with ⟨rfl, _⟩ | ⟨g, cap, cur, rfl, hg, hh, r⟩
  · simp [Value.ownBlock] at hv
  · simp [Value.ownBlock] at hv
    subst hv
    rw [hh] at hB
    simp only [Option.some.injEq, Obj.cells.injEq] at hB
    exact ht hB.2.1.symm
/-- What the loop's owner holds between two records. -/
def OpI (B1 : Nat) (many : Int) (base n1 : Nat) (w : World) (c : Col) (xs : List Rc) (W : World) : Prop :=
  (∃ A cap, (Mine c B1 ∧ Blk W B1 55 #[.slice A xs.length cap, .int .i64 many, .int .i64 0]) ∧ xs.length ≤ cap ∧ W.ownsRow base 35 1 (.slice A xs.length cap) xs.length (xs.map Rc.v) ∧ ∀ k, (Value.slice A xs.length cap).ownBlock = some k → Mine c k) ∧
  (∀ x ∈ xs, RcOk x ∧ ∀ g t cs, x.bl = some (g, t, cs) → W.heap[g]? = some (.cells cs t (0, 0)) ∧ ¬ c.it g) ∧ Old n1 w c W
theorem OpI.stable {B1 base n1 : Nat} {many : Int} {w : World} (hn : n1 ≤ w.heap.size) : Stable (OpI B1 many base n1 w) := fun c c' s W W' ⟨⟨A, cap, ⟨m, b⟩, hcap, ho, hm⟩, hx, hold⟩ hk hc => by
  refine ⟨⟨A, cap, ⟨m.same hc b.lt, b.keep hk m.2⟩, hcap, own_keepB ho hk (fun k hk' => (hm k hk').2), fun k hk' => (hm k hk').same hc (ho.lt k hk').2⟩, fun x hx' => ⟨(hx x hx').1, fun g t cs hg => ?_⟩, Stable.old (α := Rc) hn c c' s W W' hold hk hc⟩
  obtain ⟨h1, h2⟩ := (hx x hx').2 g t cs hg
  have hl := (Array.getElem?_eq_some_iff.1 h1).1
  exact ⟨(hk.block g hl h2).trans h1, fun h => h2 ((hc g hl).1.1 h)⟩
theorem rc_recs {l : List Bs} {xs : List Rc} (h : RcS l xs) : gRecs l = xs.map Rc.b := by
  unfold gRecs
  rw [← h.2, List.map_map]
  rfl
theorem rc_few {l : List Bs} {xs : List Rc} (h : RcP l xs) : xs.length ≤ l.length := by
  have h1 := h.2.length_le
  rw [List.length_map] at h1
  exact Nat.le_trans h1 (recs_len l _ _ _)
theorem jgrow_blk {w w' : World} {B : Nat} {t : TypeId} {cs : Array Value} {row : Option Nat} (h : Blk w B t cs) (hg : w.grownBy w' row) (hne : some B ≠ row) : Blk w' B t cs := (hg.block B h.lt hne).trans h
theorem lies_not {W : World} {B : Nat} {t : TypeId} {cs : Array Value} (hB : Blk W B t cs) (ht : rowT t = false) (hn : n₀ ≤ B) : ¬ Lies n₀ W B := fun h => h.ne hB ht hn rfl
theorem lies_defer {W : World} {D : Nat} {o : Option (List Deferred)} (hD : W.heap[D]? = some (.deferred o)) (hn : n₀ ≤ D) : ¬ Lies n₀ W D := fun h => by
  rcases h.off with h1 | ⟨cs, t, f, h1, _⟩
  · omega
  · rw [hD] at h1
    cases h1

set_option maxRecDepth 20000 in
set_option maxHeartbeats 8000000 in
theorem open_t (SA PA : Option Addr) (sc pc : Nat) (d : Dk) (w : World) (hn : n₀ ≤ w.heap.size) (hl1 : d.secs.length ≤ 140737488355328) (hl2 : d.pend.length ≤ 140737488355328) (h1 : RowsAt n₀ w SA d.secs) (h2 : WrsAt n₀ w PA d.pend) :
    Calls Try.prog 44 #[.agg #[.slice SA d.secs.length sc, .slice PA d.pend.length pc, .int .i64 d.left, .bool d.stop]] w (JnIs n₀ w (gOpen d)) := by
  obtain ⟨W2, hW2⟩ : ∃ W, W = (w.alloc (.cells #[.slice SA d.secs.length sc, .slice PA d.pend.length pc, .int .i64 d.left, .bool d.stop] 25)).alloc (.cells #[.slice none 0 0, .int .i64 0, .int .i64 0] 55) := ⟨_, rfl⟩
  have hb2 : Below w.heap.size w W2 := by rw [hW2]; exact ((Below.refl _ _).alloc (Nat.le_refl _) _).alloc (by simp) _
  have x1 : Blk W2 w.heap.size 25 #[.slice SA d.secs.length sc, .slice PA d.pend.length pc, .int .i64 d.left, .bool d.stop] := by rw [hW2]; exact (Blk.new w 25 _).alloc _
  have x2 : Blk W2 (w.heap.size + 1) 55 #[.slice none 0 0, .int .i64 0, .int .i64 0] := by rw [hW2]; exact Blk.newAt (by simp) 55 _
  have K := check_t SA PA sc pc d W2 hl1 hl2 (h1.below hb2) (h2.below hb2)
  obtain ⟨gc, hgc⟩ : ∃ x, x = gChk d := ⟨_, rfl⟩
  rw [← hgc] at K
  have HGC := Lib.hid hgc
  clear hgc
  by_cases k0 : Val d
  case neg =>
    have E := Lib.hid (gOpen_no k0)
    obtain rfl : gc = 40 := by rw [HGC.out, chk_no k0]
    clear h1 h2
    go_enter Try.func44, Try.ntmps44
    go_wp2_with (fail)
    rw [← hW2]
    clear hW2
    go_at_call 28
    refine K.mono ?_
    rintro e w3 ⟨rfl, hb3⟩
    replace x1 := x1.below hb3 x1.lt
    replace x2 := x2.below hb3 x2.lt
    replace hb2 := hb2.trans (hb3.mono hb2.size)
    clear K hb3
    have x1c0 := x1.cell 0
    have x1f0 := x1.frozen 0
    have x1c1 := x1.cell 1
    have x1f1 := x1.frozen 1
    have x1c2 := x1.cell 2
    have x1f2 := x1.frozen 2
    have x1c3 := x1.cell 3
    have x1f3 := x1.frozen 3
    simp only [List.getElem?_toArray, List.getElem?_cons_zero, List.getElem?_cons_succ] at x1c0 x1c1 x1c2 x1c3
    have x1l := x1.lt
    have x2c0 := x2.cell 0
    have x2f0 := x2.frozen 0
    have x2c1 := x2.cell 1
    have x2f1 := x2.frozen 1
    have x2c2 := x2.cell 2
    have x2f2 := x2.frozen 2
    simp only [List.getElem?_toArray, List.getElem?_cons_zero, List.getElem?_cons_succ] at x2c0 x2c1 x2c2
    have x2l := x2.lt
    have HB := Lib.hid hb2
    clear hb2 x1 x2
    go_wp2
    refine bodyPost_ret (v := .tuple #[.agg #[.slice none 0 0, .int .i64 0, .int .i64 0], .int .i64 40]) (by simp [results, Try.results44, go_sem, x2c0, x2c1, x2c2]) rfl ?_
    rw [E.out]
    exact jn_end (fun W BB => jn0V W) (by repeat (first | with_reducible exact HB.out | refine Below.setCell ?_ (by simp <;> omega) _))
  obtain rfl : gc = 0 := by rw [HGC.out, chk_yes k0]
  cases hst : d.stop
  case true =>
    have E := Lib.hid (gOpen_stop k0 hst)
    rw [hst] at K x1 hW2
    clear h1 h2 hst
    go_enter Try.func44, Try.ntmps44
    go_wp2_with (fail)
    rw [← hW2]
    clear hW2
    go_at_call 28
    refine K.mono ?_
    rintro e w3 ⟨rfl, hb3⟩
    replace x1 := x1.below hb3 x1.lt
    replace x2 := x2.below hb3 x2.lt
    replace hb2 := hb2.trans (hb3.mono hb2.size)
    clear K hb3
    have x1c0 := x1.cell 0
    have x1f0 := x1.frozen 0
    have x1c1 := x1.cell 1
    have x1f1 := x1.frozen 1
    have x1c2 := x1.cell 2
    have x1f2 := x1.frozen 2
    have x1c3 := x1.cell 3
    have x1f3 := x1.frozen 3
    simp only [List.getElem?_toArray, List.getElem?_cons_zero, List.getElem?_cons_succ] at x1c0 x1c1 x1c2 x1c3
    have x1l := x1.lt
    have x2c0 := x2.cell 0
    have x2f0 := x2.frozen 0
    have x2c1 := x2.cell 1
    have x2f1 := x2.frozen 1
    have x2c2 := x2.cell 2
    have x2f2 := x2.frozen 2
    simp only [List.getElem?_toArray, List.getElem?_cons_zero, List.getElem?_cons_succ] at x2c0 x2c1 x2c2
    have x2l := x2.lt
    have HB := Lib.hid hb2
    clear hb2 x1 x2
    go_wp2
    refine bodyPost_ret (v := .tuple #[.agg #[.slice none 0 0, .int .i64 0, .int .i64 0], .int .i64 40]) (by simp [results, Try.results44, go_sem, x2c0, x2c1, x2c2]) rfl ?_
    rw [E.out]
    exact jn_end (fun W BB => jn0V W) (by repeat (first | with_reducible exact HB.out | refine Below.setCell ?_ (by simp <;> omega) _))
  by_cases hp : 0 < d.pend.length
  case pos =>
    have E := Lib.hid (gOpen_pend k0 hst hp)
    have dp : decide (0 < (d.pend.length : Int)) = true := decide_eq_true (by omega)
    rw [hst] at K x1 hW2
    clear h1 h2 hst
    go_enter Try.func44, Try.ntmps44
    go_wp2_with (fail)
    rw [← hW2]
    clear hW2
    go_at_call 28
    refine K.mono ?_
    rintro e w3 ⟨rfl, hb3⟩
    replace x1 := x1.below hb3 x1.lt
    replace x2 := x2.below hb3 x2.lt
    replace hb2 := hb2.trans (hb3.mono hb2.size)
    clear K hb3
    have x1c0 := x1.cell 0
    have x1f0 := x1.frozen 0
    have x1c1 := x1.cell 1
    have x1f1 := x1.frozen 1
    have x1c2 := x1.cell 2
    have x1f2 := x1.frozen 2
    have x1c3 := x1.cell 3
    have x1f3 := x1.frozen 3
    simp only [List.getElem?_toArray, List.getElem?_cons_zero, List.getElem?_cons_succ] at x1c0 x1c1 x1c2 x1c3
    have x1l := x1.lt
    have x2c0 := x2.cell 0
    have x2f0 := x2.frozen 0
    have x2c1 := x2.cell 1
    have x2f1 := x2.frozen 1
    have x2c2 := x2.cell 2
    have x2f2 := x2.frozen 2
    simp only [List.getElem?_toArray, List.getElem?_cons_zero, List.getElem?_cons_succ] at x2c0 x2c1 x2c2
    have x2l := x2.lt
    have HB := Lib.hid hb2
    clear hb2 x1 x2
    go_wp2
    refine bodyPost_ret (v := .tuple #[.agg #[.slice none 0 0, .int .i64 0, .int .i64 0], .int .i64 1]) (by simp [results, Try.results44, go_sem, x2c0, x2c1, x2c2]) rfl ?_
    rw [E.out]
    exact jn_end (fun W BB => jn0V W) (by repeat (first | with_reducible exact HB.out | refine Below.setCell ?_ (by simp <;> omega) _))
  have E := Lib.hid (gOpen_ok k0 hst hp)
  have dp : decide (0 < (d.pend.length : Int)) = false := decide_eq_false (by omega)
  rw [hst] at K x1 hW2
  clear hst h2
  have h128 : ∀ b ∈ d.secs, b.length = 128 := k0.2.2.2.2.2.2
  have hll : d.secs.length ≤ 4096 := k0.2.1
  clear k0
  obtain ⟨i0, hi0, hz0, hz1, hz2⟩ := info_parts info35
  refine (callsIn_wide (n := 5)).1 ?_
  refine callsIn_of_wp_marks Try.func44 rfl trivial ?_ rfl
  simp only [Try.ntmps44, List.size_toArray, List.length_cons, List.length_nil, Nat.reduceAdd, Nat.reduceSub, Array.replicate_succ, Array.replicate_zero, List.push_toArray, List.append_toArray, List.nil_append, List.cons_append]
  gi_wp2_with (fail)
  rw [← hW2]
  clear hW2
  gi_at_call 28
  refine (callsIn_wide.2 K).mono ?_
  rintro e w3 ⟨rfl, hb3⟩
  replace x1 := x1.below hb3 x1.lt
  replace x2 := x2.below hb3 x2.lt
  replace hb2 := hb2.trans (hb3.mono hb2.size)
  clear K hb3
  have x1c0 := x1.cell 0
  have x1f0 := x1.frozen 0
  have x1c1 := x1.cell 1
  have x1f1 := x1.frozen 1
  have x1c2 := x1.cell 2
  have x1f2 := x1.frozen 2
  have x1c3 := x1.cell 3
  have x1f3 := x1.frozen 3
  simp only [List.getElem?_toArray, List.getElem?_cons_zero, List.getElem?_cons_succ] at x1c0 x1c1 x1c2 x1c3
  have x1l := x1.lt
  have x2c0 := x2.cell 0
  have x2f0 := x2.frozen 0
  have x2c1 := x2.cell 1
  have x2f1 := x2.frozen 1
  have x2c2 := x2.cell 2
  have x2f2 := x2.frozen 2
  simp only [List.getElem?_toArray, List.getElem?_cons_zero, List.getElem?_cons_succ] at x2c0 x2c1 x2c2
  have x2l := x2.lt
  have hsz := hb2.size
  gi_wp2_with (fail)
  obtain ⟨W8, hW8⟩ : ∃ W, W = w3.setCell ⟨w.heap.size + 1, 1, none⟩ (.int .i64 (d.secs.length : Nat)) := ⟨_, rfl⟩
  rw [← hW8]
  have y2 : Blk W8 (w.heap.size + 1) 55 #[.slice none 0 0, .int .i64 (d.secs.length : Nat), .int .i64 0] := by rw [hW8]; exact x2.set 1 _
  have hb8 : Below w.heap.size w W8 := by rw [hW8]; exact hb2.setCell (by simp) _
  have hs8 : W8.heap.size = w3.heap.size := by rw [hW8]; simp [World.setCell]
  have y1l : w.heap.size < W8.heap.size := by omega
  clear hs8 hW8 x1 x2 x1c0 x1c1 x1c2 x1c3 x2c0 x2c1 x2c2 x1f0 x1f1 x1f2 x1f3 x2f0 x2f1 x2f2
  gi_at_call 81
  refine (callsIn_wide.2 (records_t _ _ _ _)).mono ?_
  rintro e w5 ⟨rfl, rfl⟩
  gi_wp2_with (fail)
  obtain ⟨Wl, hWl⟩ : ∃ W, W = W8.alloc (.cells #[.slice SA d.secs.length sc] 22) := ⟨_, rfl⟩
  rw [← hWl]
  have xBl : Blk Wl W8.heap.size 22 #[.slice SA d.secs.length sc] := by rw [hWl]; exact Blk.new W8 22 _
  have z2 : Blk Wl (w.heap.size + 1) 55 #[.slice none 0 0, .int .i64 (d.secs.length : Nat), .int .i64 0] := by rw [hWl]; exact y2.alloc _
  have hbl : Below w.heap.size w Wl := by rw [hWl]; exact hb8.alloc hb8.size _
  have y2l := y2.lt
  have hwl := hbl.size
  clear hWl y2 hb8
  have hrow := h1.below hbl
  obtain ⟨B1, hB1⟩ : ∃ B, B = w.heap.size + 1 := ⟨_, rfl⟩
  rw [← hB1] at z2 y2l
  rw [← hB1]
  have hnB : n₀ ≤ B1 := by omega
  have hB1l : w.heap.size ≤ B1 := by omega
  clear hB1
  refine wpIn_rangeV (by omega) rfl (enters_of Try.func104 (by kernel_rfl) rfl) (records_iter (n₀ := n₀) _ W8.heap.size SA sc d.secs Wl h128 hll xBl hrow) (fun _ => rfl) (OpI B1 (d.secs.length : Nat) w.heap.size w.heap.size w) (fun _ _ _ _ => False) ?hI ?hIx ⟨fun _ => False, fun r => r = B1⟩ ?hc1 ?hc2 ?hc3 ?h0 (fun a x _ => ((a.put (some 28) (.int .i64 (x.n : Nat))).put (some 29) x.v).put (some 6) x.v) (fun _ _ _ => True) ?hAx ?assign ?body ?done ?stop
  case hI => exact OpI.stable (Nat.le_refl _)
  case hIx => exact fun j c c' s W W' h _ _ => h
  case hc1 => exact fun r h => h.elim
  case hc2 =>
    rintro r (h | h | rfl) hr
    · exact h
    · subst hr; exact lies_not z2 rfl hnB h
    · have hr2 : W8.heap.size = B1 := hr; omega
  case hc3 =>
    rintro r (h | h | rfl)
    · exact h.elim
    · exact h.lt
    · exact xBl.lt
  case h0 => exact ⟨⟨none, 0, ⟨⟨rfl, id⟩, z2⟩, Nat.le_refl _, World.ownsRow_nil _ _ _ _, fun k hk => by simp [Value.ownBlock] at hk⟩, fun x hx => (by cases hx), ⟨fun _ _ => id, hbl⟩⟩
  case hAx => exact fun _ _ _ _ _ _ => trivial
  case assign =>
    intro l x W K hK
    unfold rcE
    gi_wp2
    exact hK _ (Below.refl _ _) trivial
  case body =>
    clear z2 xBl hbl hrow
    rintro l cc pre x B W ⟨⟨A, cap, ⟨m1, b1⟩, hcap, ho, hm⟩, hx, hold⟩ - hBle hcol hlen hyv
    have hfew := rc_few hlen
    have hok := hlen.1 x (by simp)
    obtain ⟨Ax, cx, hxv⟩ : ∃ A c, x.v = .slice A x.b.length c := by
      rcases hok with ⟨q1, q2, q3⟩ | ⟨g, cp, cur, q1, q2, q3, q4⟩
      · exact ⟨none, 0, by rw [q1, q2]; rfl⟩
      · exact ⟨_, _, q1⟩
    obtain ⟨xn, hxn⟩ : ∃ n, n = x.b.length := ⟨_, rfl⟩
    rw [← hxn] at hxv
    have HXN := Lib.hid hxn
    clear hxn
    rw [List.length_append, List.length_singleton] at hfew
    have c0 := b1.cell 0
    have f0 := b1.frozen 0
    simp only [List.getElem?_toArray, List.getElem?_cons_zero] at c0
    have bl1 := b1.lt
    simp only [Act.put, List.setIfInBounds_toArray, List.set_cons_zero, List.set_cons_succ, hxv]
    have hws := hold.2.size
    have HX := Lib.hid (And.intro hx (And.intro hok (And.intro hyv hxv)))
    clear hx hok hyv hlen hxv
    gi_wp2_with (gi_at_builtin; refine wpListIn_append_own_at _ rfl (.tmp 31) (.tmp 33) 22 rfl w.heap.size 35 i0 (.slice none 0 0) 1 24 Try.underlying22 hi0 hz0 hz1 hz2 rfl (by decide) _ pre.length (pre.map Rc.v) rfl (ho.alloc _) ⟨W.heap.size, 0, none⟩ 1 1 [.slice Ax xn cx] rfl rfl (cell_new1 W _ _) (by simp [Value.oneCell']) (by simp [maxLen]; omega) (by omega) (by simp <;> omega) ?_; intro v9 w9 hown9 hgrow9 _ hat9; obtain ⟨A9, c9, rfl, hc9⟩ := own_slice hown9; have hne : (Value.slice A pre.length cap).ownBlock ≠ some B1 := own_ne (w := W) ho (show W.heap[B1]? = _ from b1) (show (55 : Nat) ≠ 35 by decide); have y1 := jgrow_blk (b1.alloc (.cells #[.slice Ax xn cx] 35)) hgrow9 (fun h => hne h.symm); have y1c0 := y1.cell 0; have y1f0 := y1.frozen 0; have y1l := y1.lt)
    have hl : (pre ++ [x]).length = pre.length + 1 := by simp
    have hkg : Keep cc.cl W w9 := ((Keep.refl cc.cl W).alloc (.cells #[.slice Ax xn cx] 35)).grown hgrow9 (fun k hk _ => (hm k hk).1)
    have hks := hkg.setCell (p := ⟨B1, 0, none⟩) (fun _ => m1.1) (.slice A9 (pre.length + 1) c9)
    have hne9 : (Value.slice A9 (pre.length + 1) c9).ownBlock ≠ some B1 := own_ne (w := w9) hown9 (show w9.heap[B1]? = _ from y1) (show (55 : Nat) ≠ 35 by decide)
    have hown10 := ownsRow_setCell_other hown9 (a := ⟨B1, 0, none⟩) hne9 (.slice A9 (pre.length + 1) c9)
    have hmap : (pre ++ [x]).map Rc.v = pre.map Rc.v ++ [.slice Ax xn cx] := by rw [List.map_append, List.map_singleton, HX.out.2.2.2]
    refine ⟨hks, ⟨A9, c9, ⟨m1.by _, by rw [hl]; exact y1.set 0 _⟩, by rw [hl]; exact hc9, by rw [hl, hmap]; exact hown10, fun k hk => ?_⟩, fun y hy => ?_, hold.by _ ?_⟩
    · rw [hl] at hk
      rcases hat9 with h | h
      · exact (hm k (h.symm.trans hk)).by _
      · have e := hk.symm.trans h
        simp only [World.size_alloc, Option.some.injEq] at e
        exact Mine.new cc (by omega)
    · have hold1 : ∀ g cs, W.heap[g]? = some (.cells cs 5 (0, 0)) → ¬ cc.it g → (w9.setCell ⟨B1, 0, none⟩ (.slice A9 (pre.length + 1) c9)).heap[g]? = some (.cells cs 5 (0, 0)) ∧ ¬ (cc.by W.heap.size).it g := fun g cs hg hn => by
        have hgl := (Array.getElem?_eq_some_iff.1 hg).1
        have hgB : g ≠ B1 := Blk.ne (show Blk W g 5 cs from hg) b1 (by decide)
        have hgo : (Value.slice A pre.length cap).ownBlock ≠ some g := own_ne (w := W) ho hg (show (5 : Nat) ≠ 35 by decide)
        have h1 := (Below.heap_setCell w9 ⟨B1, 0, none⟩ (.slice A9 (pre.length + 1) c9) g hgB).trans (hgrow9.block g (by rw [World.size_alloc]; omega) (fun h => hgo h.symm))
        exact ⟨h1.trans ((Below.heap_alloc W _ g hgl).trans hg), fun h => hn h.2⟩
      have five : ∀ (z : Rc) g t cs, RcOk z → z.bl = some (g, t, cs) → t = 5 := fun z g t cs hz hb => by
        rcases hz with ⟨_, _, h3⟩ | ⟨_, _, _, _, _, h3, _⟩
        · rw [h3] at hb; cases hb
        · rw [h3] at hb; cases hb; rfl
      rcases List.mem_append.1 hy with hy | hy
      · obtain ⟨q1, q2⟩ := HX.out.1 y hy
        refine ⟨q1, fun g t cs hg => ?_⟩
        obtain rfl := five y g t cs q1 hg
        exact hold1 g cs (q2 g 5 cs hg).1 (q2 g 5 cs hg).2
      · obtain rfl := List.mem_singleton.1 hy
        refine ⟨HX.out.2.1, fun g t cs hg => ?_⟩
        obtain rfl := five y g t cs HX.out.2.1 hg
        obtain ⟨r1, -, r3⟩ := HX.out.2.2.1 g 5 cs hg
        exact hold1 g cs r1 r3
    · refine Below.setCell ?_ hB1l _
      exact (((Below.refl w.heap.size W).alloc hws (.cells #[.slice Ax xn cx] 35))).grown hgrow9 (by rw [World.size_alloc]; omega) (fun k hk => (ho.lt k hk).1)
  case done =>
    clear z2 xBl hbl hrow
    rintro D cc xs W hD hS ⟨⟨A, cap, ⟨m1, b1⟩, hcap, ho, hm⟩, hx, hold⟩ hK
    have c0 := b1.cell 0
    have c1 := b1.cell 1
    have c2 := b1.cell 2
    have f0 := b1.frozen 0
    have f1 := b1.frozen 1
    have f2 := b1.frozen 2
    simp only [List.getElem?_toArray, List.getElem?_cons_zero, List.getElem?_cons_succ] at c0 c1 c2
    have bl1 := b1.lt
    gi_wp2
    obtain ⟨Wf, hWf⟩ : ∃ W', W' = ((((W.setCell ⟨B1, 2, none⟩ (.int .i64 (xs.length : Nat))).setCell ⟨B1, 0, none⟩ (.slice A xs.length cap)).setCell ⟨B1, 1, none⟩ (.int .i64 (d.secs.length : Nat))).setCell ⟨B1, 2, none⟩ (.int .i64 (xs.length : Nat))) := ⟨_, rfl⟩
    rw [← hWf]
    have hkf : Keep (fun r => r = B1) W Wf := by rw [hWf]; repeat (first | with_reducible exact Keep.refl _ _ | refine Keep.setCell ?_ (fun _ => by simp) _)
    have bf : Blk Wf B1 55 #[.slice A xs.length cap, .int .i64 (d.secs.length : Nat), .int .i64 (xs.length : Nat)] := by rw [hWf]; exact (((b1.set 2 _).set 0 _).set 1 _).set 2 _
    have hDB : B1 ≠ D := fun h => by subst h; unfold Blk at b1; rw [b1] at hK; cases hK
    have hDl := (Array.getElem?_eq_some_iff.1 hK).1
    have hDf : Wf.heap[D]? = some (.deferred (some [])) := (hkf.block D hDl (fun h => hDB h.symm)).trans hK
    have hl : (gRecs d.secs).length = xs.length := by rw [rc_recs hS, List.length_map]
    have hRW : RowsAt n₀ W A (gRecs d.secs) := by rw [rc_recs hS]; exact ⟨xs.map Rc.v, rc_rws (fun x hx' => ⟨(hx x hx').1, fun g t cs hg => ((hx x hx').2 g t cs hg).1⟩), own_ValsAt ho (by simp)⟩
    have hkp : Keep (fun r => r = B1 ∨ r = D) W (Wf.putObj D (.deferred none)) := (hkf.mono (fun r _ h => .inl h)).putObj (l := D) (.inr rfl) _
    have hrf := hRW.ros hkp (fun r hr => by rcases hr with rfl | rfl; exact lies_not b1 rfl hnB; exact lies_defer hK (by omega))
    have e0 := (bf.putObj hDB (.deferred none)).cell 0
    have e1 := (bf.putObj hDB (.deferred none)).cell 1
    have e2 := (bf.putObj hDB (.deferred none)).cell 2
    simp only [List.getElem?_toArray, List.getElem?_cons_zero, List.getElem?_cons_succ] at e0 e1 e2
    have hbf : Below w.heap.size w (Wf.putObj D (.deferred none)) := below_putObj (hold.2.trans (hkf.below hold.2.size (fun r hr h => by omega))) (by omega) _
    refine ⟨by simp, .inl ⟨_, _, rfl, run_takeDeferred hDf, ?_⟩⟩
    refine ⟨.tuple #[.agg #[.slice A xs.length cap, .int .i64 (d.secs.length : Nat), .int .i64 (xs.length : Nat)], .int .i64 0], ?_, ?_⟩
    · simp [results, Try.results44, go_sem, e0, e1, e2]
    · rw [E.out]
      exact ⟨_, rfl, ⟨A, cap, by dsimp only; rw [hl], by dsimp only; rw [hl]; exact hcap, hrf⟩, hbf⟩
  case stop => exact fun D j c pre W _ _ h _ => h.elim
end Go.Proofs.Ytckeopidedoohaa
