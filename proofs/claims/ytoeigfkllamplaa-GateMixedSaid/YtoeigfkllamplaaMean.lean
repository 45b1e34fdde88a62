/-
  The gate's mean: the iterator over the values of a slice, the collecting over it, the mean. Conditions: one to 65536 energies that are allowed.
-/
import Derived.Test.YtoeigfkllamplaaClos
import Derived.Shelf.Abstract
namespace Go.Proofs.Ytoeigfkllamplaa
open Go.RowKit
attribute [local go_sem] Oper.semAt_some

set_option maxHeartbeats 1000000 in
theorem values_iter (n Bn b o c : Nat) (l : List Int) (w : World) (hBn : w.cell? ⟨Bn, 0, none⟩ = some (.slice (some ⟨b, o, none⟩) l.length c)) (hBl : Bn < w.heap.size) (hb : b < w.heap.size)
    (hc : ∀ i, i < l.length → w.cell? ⟨b, o + i, none⟩ = some (.int .i64 (gi l i))) (hn : l.length ≤ 1000000000) :
    IterC n Try.prog 30 #[.pointer (some ⟨Bn, 0, none⟩)] (fun x : Int => #[.int .i64 x]) (fun xs => xs = l) (fun pre => pre <+: l) w (fun _ => False) (fun r => r = b ∨ r = Bn) := by
  intro lp J Jx c0 W hW hJ hJx _ hros hY h0
  refine callsIn_of_wp Try.func30 rfl trivial ?_ rfl
  have g0 := (hW.cell (p := ⟨Bn, 0, none⟩) hBl).trans hBn
  simp only [Try.ntmps30, List.size_toArray, List.length_cons, List.length_nil, Nat.reduceAdd, Nat.reduceSub, Array.replicate_succ, Array.replicate_zero, List.push_toArray, List.append_toArray, List.nil_append, List.cons_append]
  gi_wp2
  gi_loopw [7] (fun i wr => ∃ (k : Nat) (cc : Col), k ≤ l.length ∧ i = .int .i64 k ∧ Keep (fun r => r ≠ b ∧ r ≠ Bn) w wr ∧ Hid (¬ cc.cl b ∧ ¬ cc.cl Bn) ∧ J cc (l.take k) wr) (fun i _ => l.length - (intOf i).toNat)
  case atStart => exact ⟨0, c0, by omega, rfl, Keep.of_same hW _, ⟨hros b (.inr (.inl rfl)), hros Bn (.inr (.inr rfl))⟩, h0⟩
  case round =>
    obtain ⟨k, cc, hk, rfl, hw, hcc, hj⟩ := hrel
    by_cases hlt : k < l.length
    · have g1 := (hw.cell (p := ⟨b, o + k, none⟩) hb (fun h => h.1 rfl)).trans (hc k hlt)
      have hbl : b < wr.heap.size := Nat.lt_of_lt_of_le hb hw.size
      have hBl' : Bn < wr.heap.size := Nat.lt_of_lt_of_le hBl hw.size
      have hpre : l.take k ++ [gi l k] <+: l := by rw [← take_snoc hlt]; exact List.take_prefix _ _
      obtain ⟨fn, tmps, assign, bodyc, hy, hR⟩ := hY _ _ (gi l k) _ hj hpre
      gi_wp2
      refine hR.mono ?_
      rintro e W' ⟨hkp, (⟨rfl, hj'⟩ | ⟨rfl, hjx⟩)⟩
      · have hbw : Keep (fun r => r ≠ b ∧ r ≠ Bn) w W' := hw.then hkp (fun r hr h => ⟨fun e => hcc.out.1 (e ▸ h), fun e => hcc.out.2 (e ▸ h)⟩)
        have hcl : Hid (¬ (cc.by wr.heap.size).cl b ∧ ¬ (cc.by wr.heap.size).cl Bn) := ⟨fun h => h.elim (fun h => by omega) hcc.out.1, fun h => h.elim (fun h => by omega) hcc.out.2⟩
        gi_wp2
        go_roundw
        case rel => exact ⟨k + 1, _, by omega, by go_num, hbw, hcl, (take_snoc hlt) ▸ hj'⟩
        case measure => simp [intOf]; omega
      · gi_wp2
        refine bodyPost_ret (results_none rfl _ _ _) rfl ?_
        exact ⟨⟨_, rfl⟩, .inr ⟨_, _, hpre, hjx⟩⟩
    · obtain rfl : k = l.length := by omega
      rw [List.take_length] at hj
      gi_wp2
      refine bodyPost_end (results_none rfl _ _ _) rfl ?_
      exact ⟨⟨_, rfl⟩, .inl ⟨_, _, rfl, hj⟩⟩

theorem pre_next {l pre : List Int} {x : Int} (h : pre ++ [x] <+: l) : pre.length < l.length ∧ x = gi l pre.length := by
  obtain ⟨t, rfl⟩ := h
  simp [gi]

theorem Stable.ro {α : Type} (B : Nat) (t : TypeId) (cs : Array Value) : Stable (fun (c : Col) (_ : List α) W => ¬ c.it B ∧ Blk W B t cs) :=
  fun _ _ _ _ _ hs hk hc => ⟨fun hx => hs.1 ((hc B hs.2.lt).1.1 hx), hs.2.keep hk hs.1⟩
/-- Below block n₀ only what 'may' names has changed since the call began. -/
def OldBut (n₀ : Nat) (may : Nat → Prop) (w : World) (c : Col) (W : World) : Prop := (∀ r, r < n₀ → ¬ c.it r) ∧ Keep may w W
theorem Stable.oldBut {α : Type} {may : Nat → Prop} {w : World} : Stable (fun (c : Col) (_ : List α) W => OldBut w.heap.size may w c W) := fun _ _ _ _ _ hs hk hc => by
  have hsz := hs.2.size
  exact ⟨fun r hr hx => hs.1 r hr ((hc r (Nat.lt_of_lt_of_le hr hsz)).1.1 hx), hs.2.then hk fun r hr hx => absurd hx (hs.1 r hr)⟩

theorem Keep.putNew {may : Nat → Prop} {a b : World} (h : Keep may a b) {l : Nat} (hl : a.heap.size ≤ l) (o : Obj) : Keep may a (b.putObj l o) :=
  ⟨h.os, h.tape, h.output, by simpa using h.size, fun r hr hn => (World.putObj_heap_other (by omega)).trans (h.block r hr hn)⟩

/-- Between two rounds of the collecting of a mean's sums. -/
def ColI (l : List Int) (L b o c P R : Nat) (w : World) (cc : Col) (pre : List Int) (W : World) : Prop :=
  (pre <+: l) ∧ (∃ p q, Sums l pre.length p q ∧ (Mine cc P ∧ Blk W P 3 #[.int .i64 p]) ∧ (Mine cc R ∧ Blk W R 3 #[.int .i64 q])) ∧
  (Mine cc w.heap.size ∧ Blk W w.heap.size 55 #[.func (.func 28) #[] #[.pointer (some ⟨P, 0, none⟩), .pointer (some ⟨L, 0, none⟩), .pointer (some ⟨R, 0, none⟩)]]) ∧
  (Mine cc (w.heap.size + 1) ∧ Blk W (w.heap.size + 1) 3 #[.int .i64 pre.length]) ∧ (¬ cc.it L ∧ Blk W L 22 #[.slice (some ⟨b, o, none⟩) l.length c]) ∧ OldBut w.heap.size (fun r => r = P ∨ r = R) w cc W
theorem ColI.stable (l : List Int) (L b o c P R : Nat) (w : World) : Stable (ColI l L b o c P R w) :=
  Stable.and (Stable.pure _) (.and (Stable.ex fun _ => Stable.ex fun _ => .and (Stable.pure (fun pre => Sums l pre.length _ _)) (.and (Stable.blk _ _ _) (Stable.blk _ _ _))) (.and (Stable.blk _ _ _) (.and (Stable.blk _ _ _) (.and (Stable.ro _ _ _) Stable.oldBut))))

set_option maxHeartbeats 1000000 in
theorem collect_t (Bn L b o c P R : Nat) (l : List Int) (w : World) (h0 : 0 < l.length) (hn : l.length ≤ 65536) (hl : AllE l) (hBn : Blk w Bn 22 #[.slice (some ⟨b, o, none⟩) l.length c]) (hL : Blk w L 22 #[.slice (some ⟨b, o, none⟩) l.length c]) (hb : b < w.heap.size)
    (hc : ∀ i, i < l.length → w.cell? ⟨b, o + i, none⟩ = some (.int .i64 (gi l i))) (hP : Blk w P 3 #[.int .i64 0]) (hR : Blk w R 3 #[.int .i64 0]) (hPR : P ≠ R) (hPb : P ≠ b) (hRb : R ≠ b) :
    Calls Try.prog 26 #[.func (.func 30) #[] #[.pointer (some ⟨Bn, 0, none⟩)], .func (.func 28) #[] #[.pointer (some ⟨P, 0, none⟩), .pointer (some ⟨L, 0, none⟩), .pointer (some ⟨R, 0, none⟩)]] w fun e w' =>
      e = .returned (.int .i64 l.length) ∧ ∃ p q, Sums l l.length p q ∧ Blk w' P 3 #[.int .i64 p] ∧ Blk w' R 3 #[.int .i64 q] ∧ Keep (fun r => r = P ∨ r = R) w w' := by
  have hPl := hP.lt
  have hRl := hR.lt
  have hBl := hBn.lt
  have hLl := hL.lt
  have hPL : P ≠ L := hP.ne hL (by decide)
  have hRL : R ≠ L := hR.ne hL (by decide)
  have hPB : P ≠ Bn := hP.ne hBn (by decide)
  have hRB : R ≠ Bn := hR.ne hBn (by decide)
  refine (callsIn_wide (n := 5)).1 ?_
  refine callsIn_of_wp_marks Try.func26 rfl trivial (wpIn_wide.2 ?_) rfl
  simp only [Try.ntmps26, List.size_toArray, List.length_cons, List.length_nil, Nat.reduceAdd, Nat.reduceSub, Array.replicate_succ, Array.replicate_zero, List.push_toArray, List.append_toArray, List.nil_append, List.cons_append]
  go_wp2_with fail
  obtain ⟨Wl, hWl⟩ : ∃ Wl, (w.alloc (.cells #[.func (.func 28) #[] #[.pointer (some ⟨P, 0, none⟩), .pointer (some ⟨L, 0, none⟩), .pointer (some ⟨R, 0, none⟩)]] 55)).alloc (.cells #[.int .i64 0] 3) = Wl := ⟨_, rfl⟩
  have hbl : Below w.heap.size w Wl := by rw [← hWl]; exact ((Below.refl _ w).alloc (Nat.le_refl _) _).alloc (by simp) _
  have hsl : Wl.heap.size = w.heap.size + 1 + 1 := by rw [← hWl]; simp
  have xF : Blk Wl w.heap.size 55 #[.func (.func 28) #[] #[.pointer (some ⟨P, 0, none⟩), .pointer (some ⟨L, 0, none⟩), .pointer (some ⟨R, 0, none⟩)]] := by rw [← hWl]; exact (Blk.new w 55 _).alloc _
  have xN : Blk Wl (w.heap.size + 1) 3 #[.int .i64 0] := by rw [← hWl]; exact Blk.newAt (by simp) 3 _
  have xP := hP.below hbl hPl
  have xR := hR.below hbl hRl
  have xB := hBn.below hbl hBl
  have xL := hL.below hbl hLl
  rw [hWl]
  clear hWl
  refine (wpIn_wide (n := 5)).1 ?_
  refine wpIn_range (by omega) rfl (enters_of Try.func30 (by kernel_rfl) rfl) (values_iter _ Bn b o c l Wl xB.cell0 (by omega) (by omega) (fun i hi => (hbl.cell (p := ⟨b, o + i, none⟩) hb).trans (hc i hi)) (by omega)) (fun _ => rfl)
    (ColI l L b o c P R w) (fun _ _ _ _ => False)
    ?hI ?hIx ⟨fun _ => False, fun r => r = P ∨ r = R ∨ r = w.heap.size ∨ r = w.heap.size + 1⟩ ?hc1 ?hc2 ?hc3 ?h0
    (fun a x _ => (a.put (some 7) (.int .i64 x)).put (some 5) (.int .i64 x))
    (fun _ _ _ => True) ?hAx ?assign ?body ?done ?stop
  case hI => exact ColI.stable _ _ _ _ _ _ _ _
  case hIx => exact fun _ _ _ _ _ _ h _ _ => h.elim
  case hc1 => exact fun r h => h.elim
  case hc2 =>
    rintro r hr hq
    dsimp only at hr hq
    rcases hr with hr | hr | hr
    · exact hr
    · omega
    · omega
  case hc3 =>
    rintro r (h | rfl | rfl)
    · exact h.elim
    · omega
    · omega
  case h0 =>
    exact ⟨List.nil_prefix, ⟨0, 0, Sums.zero l, ⟨⟨.inl rfl, id⟩, xP⟩, ⟨⟨.inr (.inl rfl), id⟩, xR⟩⟩, ⟨⟨.inr (.inr (.inl rfl)), id⟩, xF⟩, ⟨⟨.inr (.inr (.inr rfl)), id⟩, xN⟩, ⟨id, xL⟩, fun _ _ => id, Keep.of_same hbl _⟩
  case hAx => exact fun _ _ _ _ _ _ => trivial
  case assign =>
    intro lp x W K hK
    gi_wp2
    exact hK _ (Below.refl _ _) trivial
  case body =>
    clear xP xR xB xF xN xL hbl hsl
    rintro lp cc pre x B W ⟨hpl, ⟨p, q, hs, ⟨mP, bP⟩, ⟨mR, bR⟩⟩, ⟨mF, bF⟩, ⟨mN, bN⟩, ⟨mB, bB⟩, hold⟩ _ hBle hcol hsp
    obtain ⟨hlt, rfl⟩ := pre_next hsp
    have hs' := hs.step hl hn hlt
    have cF := bF.cell0
    have hFN : w.heap.size ≠ w.heap.size + 1 := by omega
    simp only [Act.put, List.setIfInBounds_toArray, List.set_cons_zero, List.set_cons_succ] at *
    have bs := bF.lt
    have a1 := hs'.a1
    have b1 := hs.b1
    have HS := Lib.hid hs'
    clear hs'
    gi_wp2_with (gi_at_call 28; refine (callsIn_wide.2 (sums_t _ _ c _ p q P L R _ h0 hn (hl _ (gi_mem hlt)) hs.a0 a1 hs.b0 (by omega) bP bB bR hPR)).mono ?_; rintro e w2 ⟨⟨v, rfl⟩, yP, yR, hk2⟩; have bN2 : Blk w2 (w.heap.size + 1) 3 #[.int .i64 pre.length] := bN.keep hk2 (by omega); have cN := bN2.cell0; have fN := bN2.frozen 0; have bN2l := bN2.lt)
    have eN : ((pre ++ [gi l pre.length]).length : Int) = (pre.length : Int) + 1 := by simp
    have hk2' : Keep (fun r => r = P ∨ r = R) W w2 := hk2
    have hkN : Keep cc.cl W w2 := hk2.mono fun r _ h => h.elim (fun e => e ▸ mP.1) (fun e => e ▸ mR.1)
    refine ⟨hkN.setCell (p := ⟨w.heap.size + 1, 0, none⟩) (fun _ => mN.1) _, hsp, ⟨_, _, by simpa using HS.out, ⟨mP.by _, yP.other (p := ⟨w.heap.size + 1, 0, none⟩) (by simp <;> omega) _⟩, ⟨mR.by _, yR.other (p := ⟨w.heap.size + 1, 0, none⟩) (by simp <;> omega) _⟩⟩,
      ⟨mF.by _, (bF.keep hk2 (by omega)).other (p := ⟨w.heap.size + 1, 0, none⟩) (by simp) _⟩, ⟨mN.by _, ?_⟩, ⟨fun h => mB h.2, (bB.keep hk2 (by omega)).other (p := ⟨w.heap.size + 1, 0, none⟩) (by simp <;> omega) _⟩, fun r hr h => hold.1 r hr h.2, (hold.2.trans hk2').setCell (p := ⟨w.heap.size + 1, 0, none⟩) (fun h => absurd h (by simp)) _⟩
    rw [eN]
    exact bN2.set0 _
  case done =>
    clear xP xR xB xF xN xL hbl
    rintro D cc xs W hD rfl ⟨_, ⟨p, q, hs, ⟨mP, bP⟩, ⟨mR, bR⟩⟩, _, ⟨mN, bN⟩, _, hold⟩ hK
    have cN := bN.cell0
    have fN := bN.frozen 0
    have hDN : D ≠ w.heap.size + 1 := by omega
    have hk2 : (W.setCell ⟨w.heap.size + 1, 0, none⟩ (.int .i64 xs.length)).heap[D]? = some (.deferred (some [])) := (Below.heap_setCell _ _ _ _ hDN).trans hK
    have e2 := ((bN.set0 (.int .i64 xs.length)).putObj (D := D) (by omega) (.deferred none)).cell0
    go_wp2
    refine ⟨by simp, .inl ⟨_, _, rfl, run_takeDeferred hk2, ?_⟩⟩
    refine ⟨.int .i64 xs.length, ?_, rfl, p, q, hs, ((bP.other (p := ⟨w.heap.size + 1, 0, none⟩) (by simp <;> omega) _).putObj (by omega) _), ((bR.other (p := ⟨w.heap.size + 1, 0, none⟩) (by simp <;> omega) _).putObj (by omega) _), ?_⟩
    · simp [results, Try.results26, go_sem, e2]
    · exact (hold.2.setCell (p := ⟨w.heap.size + 1, 0, none⟩) (fun h => absurd h (by simp)) _).putNew (by omega) _
  case stop => exact fun D j cc pre W _ _ h => h.elim

theorem values_t (A : Option Addr) (n c : Nat) (w : World) :
    Calls Try.prog 27 #[.slice A n c] w fun e w' => e = .returned (.func (.func 30) #[] #[.pointer (some ⟨w.heap.size, 0, none⟩)]) ∧ w' = w.alloc (.cells #[.slice A n c] 22) := by
  have hmf : ∀ (fn : Fn) (first cap : Array Value) (w : World), (Instr.makeFunc fn first cap).run Try.prog w = .ok (.func fn first cap) w := fun _ _ _ _ => rfl
  go_enter Try.func27, Try.ntmps27
  go_wp2
  go_ret
  exact ⟨rfl, rfl⟩

set_option maxHeartbeats 1000000 in
theorem mean_t (A : Option Addr) (c : Nat) (l : List Int) (w : World) (h0 : 0 < l.length) (hn : l.length ≤ 65536) (hl : AllE l) (hx : IntsAt .i64 w A l) :
    Calls Try.prog 18 #[.slice A l.length c] w fun e w' => e = .returned (.int .i64 (meanE l)) ∧ Below w.heap.size w w' := by
  obtain ⟨b, o, rfl, hb, hc⟩ := hx h0
  have hmf : ∀ (fn : Fn) (first cap : Array Value) (w : World), (Instr.makeFunc fn first cap).run Try.prog w = .ok (.func fn first cap) w := fun _ _ _ _ => rfl
  go_enter Try.func18, Try.ntmps18
  go_wp2_with (go_at_call 27; refine (values_t _ _ _ _).mono ?_; rintro e w2 ⟨rfl, rfl⟩)
  go_at_call 26
  have hb0 := (((Below.refl w.heap.size w).alloc (Nat.le_refl _) (.cells #[.slice (some ⟨b, o, none⟩) l.length c] 22)).alloc (by simp) (.cells #[.int .i64 0] 3)).alloc (by simp <;> omega) (.cells #[.int .i64 0] 3) |>.alloc (by simp <;> omega) (.cells #[.slice (some ⟨b, o, none⟩) l.length c] 22)
  refine (collect_t (w.heap.size + 1 + 1 + 1) w.heap.size b o c (w.heap.size + 1) (w.heap.size + 1 + 1) l _ h0 hn hl (Blk.newAt (by simp) 22 _) ((((Blk.new w 22 _).alloc _).alloc _).alloc _) (by simp; omega) (fun i hi => (hb0.cell (p := ⟨b, o + i, none⟩) hb).trans (hc i hi))
    (((Blk.newAt (W := w.alloc _) (by simp) 3 _).alloc _).alloc _) ((Blk.newAt (W := (w.alloc _).alloc _) (by simp) 3 _).alloc _) (by omega) (by omega) (by omega)).mono ?_
  rintro e w3 ⟨rfl, p, q, hs, yP, yR, hk⟩
  have HM := Lib.hid (hs.mean h0)
  have hm := mean_bd hl h0
  have b0 := hs.b0
  have b1 := hs.b1
  have a0 := hs.a0
  have a1 := hs.a1
  have hz : ¬ (l.length : Int) = 0 := by omega
  have e1 : q.tdiv (l.length : Int) = q / (l.length : Int) := Int.tdiv_eq_ediv_of_nonneg b0
  have q0 := Int.ediv_nonneg b0 (by omega : 0 ≤ (l.length : Int))
  have q1 := Int.ediv_le_self (l.length : Int) b0
  have hmm : p + q / (l.length : Int) ≤ 4611686018427387904 := by rw [HM.out]; exact hm.2
  have i1 : IntKind.i64.wrap (q / (l.length : Int)) = q / (l.length : Int) := IntWalk.i64_in _ (by omega)
  have i2 : IntKind.i64.wrap (p + q / (l.length : Int)) = p + q / (l.length : Int) := IntWalk.i64_in _ (by omega)
  have cP := yP.cell0
  have cR := yR.cell0
  have hbe : Below w.heap.size w w3 := hb0.trans (hk.below (by simp <;> omega) (by omega))
  clear hs hk hb0
  go_wp2_with fail
  go_quiet (fail)
  go_wp2
  go_ret
  exact ⟨by rw [← HM.out]; rfl, below_drewN hbe _⟩
end Go.Proofs.Ytoeigfkllamplaa
