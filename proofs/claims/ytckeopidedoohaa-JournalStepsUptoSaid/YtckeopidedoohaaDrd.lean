/-
  Read of a disk: the pending writes from the last one on. Conditions: the disk lies as plain data.
-/
import Derived.Test.YtckeopidedoohaaDstop
import Derived.Test.YtckeopidedoohaaHeld
import Derived.Shelf.Abstract
namespace Go.Proofs.Ytckeopidedoohaa
open Go.RowKit
variable {n₀ : Nat}
attribute [local go_sem] Oper.semAt_some

/-- What is read of a sector: the data of the last pending write to it, or what it was. -/
def rdW (l : List Wr) (at_ : Int) (b : Bs) : Bs := l.foldl (fun b x => if x.at_ = at_ then x.data else b) b
theorem rdW_none {l : List Wr} {at_ : Int} (b : Bs) (h : ∀ x ∈ l, x.at_ ≠ at_) : rdW l at_ b = b := by
  unfold rdW
  induction l generalizing b with
  | nil => rfl
  | cons x xs ih =>
    rw [List.foldl_cons, if_neg (h x (by simp))]
    exact ih b (fun y hy => h y (by simp [hy]))
theorem rdW_snoc (l : List Wr) (x : Wr) (at_ : Int) (b : Bs) : rdW (l ++ [x]) at_ b = if x.at_ = at_ then x.data else rdW l at_ b := by simp [rdW]
theorem rdW_append (l m : List Wr) (at_ : Int) (b : Bs) : rdW (l ++ m) at_ b = rdW m at_ (rdW l at_ b) := by simp [rdW]
theorem rdW_last {l : List Wr} {at_ : Int} (b : Bs) {i : Nat} (hi : i < l.length) (hx : (l.getD i wr0).at_ = at_) (h : ∀ j, i < j → j < l.length → (l.getD j wr0).at_ ≠ at_) : rdW l at_ b = (l.getD i wr0).data := by
  have e : l = l.take i ++ [l.getD i wr0] ++ l.drop (i + 1) := by
    have e1 : l.getD i wr0 = l[i] := by simp [List.getD, hi]
    rw [e1, List.append_assoc, List.singleton_append, ← List.drop_eq_getElem_cons hi, List.take_append_drop]
  generalize hd : (l.getD i wr0) = x at *
  rw [e, rdW_append, rdW_none, rdW_snoc, if_pos hx]
  intro y hy
  obtain ⟨j, hj, rfl⟩ := List.getElem_of_mem hy
  have := h (i + 1 + j) (by omega) (by simp at hj; omega)
  rw [List.getElem_drop]
  have hj' : i + 1 + j < l.length := by simp at hj; omega
  simpa [List.getD, hj'] using this
open Classical in
/-- What Read answers. -/
noncomputable def gRead (d : Dk) (at_ : Int) : Bs × Int := if Runs d ∧ 0 ≤ at_ ∧ at_ < d.secs.length then (rdW d.pend at_ (d.secs.getD at_.toNat []), 0) else ([], 40)
theorem gRead_no {d : Dk} {at_ : Int} (h : ¬ (Runs d ∧ 0 ≤ at_ ∧ at_ < d.secs.length)) : gRead d at_ = ([], 40) := by unfold gRead; rw [if_neg h]
theorem gRead_ok {d : Dk} {at_ : Int} (h : Runs d ∧ 0 ≤ at_ ∧ at_ < d.secs.length) : gRead d at_ = (rdW d.pend at_ (d.secs.getD at_.toNat []), 0) := by unfold gRead; rw [if_pos h]
def RdIs (n₀ : Nat) (w : World) (r : Bs × Int) (e : Ending) (w' : World) : Prop := ∃ A c, e = .returned (.tuple #[.slice A r.1.length c, .int .i64 r.2]) ∧ r.1.length ≤ c ∧ BsAt n₀ w' A r.1 ∧ Below w.heap.size w w'

def svA (vs : List Value) (i : Nat) : Option Addr := match vs.getD i undef with | .slice A _ _ => A | _ => none
def svN (vs : List Value) (i : Nat) : Nat := match vs.getD i undef with | .slice _ n _ => n | _ => 0
def svC (vs : List Value) (i : Nat) : Nat := match vs.getD i undef with | .slice _ _ c => c | _ => 0
theorem sv_eq {vs : List Value} {i : Nat} {A : Option Addr} {n c : Nat} (h : vs.getD i undef = .slice A n c) : vs.getD i undef = .slice (svA vs i) (svN vs i) (svC vs i) := by
  unfold svA svN svC
  rw [h]
theorem sv_of {w : World} {vs : List Value} {rs : List Bs} (h : Rws n₀ w vs rs) {i : Nat} (hi : i < rs.length) : vs.getD i undef = .slice (svA vs i) (svN vs i) (svC vs i) ∧ svN vs i = (rs.getD i []).length ∧ svN vs i ≤ svC vs i ∧ BsAt n₀ w (svA vs i) (rs.getD i []) := by
  obtain ⟨A, c, e, hc, hb⟩ := h.2 i hi
  have e2 := sv_eq e
  have : Value.slice (svA vs i) (svN vs i) (svC vs i) = .slice A (rs.getD i []).length c := e2.symm.trans e
  injection this with q1 q2 q3
  rw [q1, q2, q3]
  exact ⟨by rw [e], rfl, hc, hb⟩
/-- What the iterator hands on: the number of a write and its cells. -/
def bwV (l : List Wr) (vs : List Value) (i : Nat) : Array Value := #[.int .i64 i, .agg #[.int .i64 (l.getD i wr0).at_, .slice (svA vs i) (svN vs i) (svC vs i)]]
def rl (m : Nat) : List Nat := (List.range m).reverse
theorem rl_len (m : Nat) : (rl m).length = m := by simp [rl]
theorem rl_get (m i : Nat) (h : i < m) : (rl m)[i]? = some (m - 1 - i) := by
  unfold rl
  rw [List.getElem?_reverse (by simpa using h), List.length_range, List.getElem?_range (by omega)]
theorem rl_take (m k : Nat) (h : k < m) : (rl m).take (k + 1) = (rl m).take k ++ [m - 1 - k] := by
  have := rl_get m k h
  rw [List.take_add_one, this]
  rfl
theorem rl_pre {m : Nat} {pre : List Nat} {x : Nat} (h : pre ++ [x] <+: rl m) : x < m ∧ ∀ j, x < j → j < m → j ∈ pre := by
  obtain ⟨t, ht⟩ := h
  have hl : pre.length < m := by
    have := congrArg List.length ht
    rw [rl_len] at this
    simp at this
    omega
  have hx : (rl m)[pre.length]? = some x := by rw [← ht]; simp
  rw [rl_get m _ hl] at hx
  cases hx
  refine ⟨by omega, fun j h1 h2 => ?_⟩
  have hj := rl_get m (m - 1 - j) (by omega)
  rw [show m - 1 - (m - 1 - j) = j by omega, ← ht, List.append_assoc, List.getElem?_append_left (by omega)] at hj
  exact List.mem_of_getElem? hj

theorem back_t (A : Option Addr) (n c : Nat) (w : World) :
    Calls Try.prog 78 #[.slice A n c] w fun e w' => e = .returned (.func (.func 102) #[] #[.pointer (some ⟨w.heap.size, 0, none⟩)]) ∧ w' = w.alloc (.cells #[.slice A n c] 23) := by
  have hmf : ∀ (fn : Fn) (first cap : Array Value) (w : World), (Instr.makeFunc fn first cap).run Try.prog w = .ok (.func fn first cap) w := fun _ _ _ _ => rfl
  go_enter Try.func78, Try.ntmps78
  go_wp2
  go_ret
  exact ⟨rfl, rfl⟩

set_option maxHeartbeats 1000000 in
theorem back_iter (n Bn b o c : Nat) (_ : 2 ≤ n) (A : Option Addr) (l : List Wr) (vs : List Value) (w : World) (hn : l.length ≤ 1000000000) (hvl : vs.length = l.length) (hsv : ∀ i, i < l.length → vs.getD i undef = .slice (svA vs i) (svN vs i) (svC vs i)) (hBn : w.cell? ⟨Bn, 0, none⟩ = some (.slice A l.length c)) (hBl : Bn < w.heap.size) (hbl : b < w.heap.size)
    (hA : 0 < l.length → A = some ⟨b, o, none⟩) (hc : ∀ j, j < l.length * 2 → w.cell? ⟨b, o + j, none⟩ = (flatW l vs)[j]?) :
    IterC n Try.prog 102 #[.pointer (some ⟨Bn, 0, none⟩)] (bwV l vs) (fun xs => xs = rl l.length) (fun pre => pre <+: rl l.length) w (fun _ => False) (fun r => r = b ∨ r = Bn) := by
  intro lp J Jx c0 W hW hJ hJx _ hros hY h0
  refine callsIn_of_wp Try.func102 rfl trivial ?_ rfl
  have g0 := (hW.cell (p := ⟨Bn, 0, none⟩) hBl).trans hBn
  simp only [Try.ntmps102, List.size_toArray, List.length_cons, List.length_nil, Nat.reduceAdd, Nat.reduceSub, Array.replicate_succ, Array.replicate_zero, List.push_toArray, List.append_toArray, List.nil_append, List.cons_append]
  gi_wp2
  gi_loopw [3] (fun i wr => ∃ (k : Nat) (cc : Col), k ≤ l.length ∧ i = .int .i64 ((l.length : Int) - 1 - k) ∧ Keep (fun r => r ≠ b ∧ r ≠ Bn) w wr ∧ Hid (¬ cc.cl b ∧ ¬ cc.cl Bn) ∧ J cc ((rl l.length).take k) wr)
    (fun i _ => (intOf i + 1).toNat)
  case atStart => exact ⟨0, c0, by omega, by simp, Keep.of_same hW _, ⟨hros b (.inr (.inl rfl)), hros Bn (.inr (.inr rfl))⟩, h0⟩
  case round =>
    obtain ⟨k, cc, hk, rfl, hw, hcc, hj⟩ := hrel
    by_cases hlt : k < l.length
    · obtain ⟨q, hq⟩ : ∃ q, l.length = q + k + 1 := ⟨l.length - k - 1, by omega⟩
      have hq2 : (l.length : Int) - 1 - k = q := by omega
      rw [hq2]
      have hA2 := hA (by omega)
      subst hA2
      obtain ⟨f1, f2⟩ := flatW_get l vs hvl q (by omega)
      have g0 := (hw.cell (p := ⟨Bn, 0, none⟩) hBl (fun h => h.2 rfl)).trans hBn
      have g1 := (hw.cell (p := ⟨b, o + q * 2, none⟩) hbl (fun h => h.1 rfl)).trans ((hc (q * 2) (by omega)).trans f1)
      have g2 := (hw.cell (p := ⟨b, o + q * 2 + 1, none⟩) hbl (fun h => h.1 rfl)).trans ((hc (q * 2 + 1) (by omega)).trans f2)
      have hpre : (rl l.length).take k ++ [q] <+: rl l.length := by
        have e : q = l.length - 1 - k := by omega
        rw [e, ← rl_take _ _ hlt]
        exact List.take_prefix _ _
      have hnext : (rl l.length).take (k + 1) = (rl l.length).take k ++ [q] := by
        have e : q = l.length - 1 - k := by omega
        rw [e]
        exact rl_take _ _ hlt
      have hJ1 := hJ _ _ _ _ _ hj (Keep.refl _ wr) (cc.same_own _)
      obtain ⟨fn, tmps, assign, bodyc, hy, hR⟩ := hY _ _ q _ hJ1 hpre
      unfold bwV at hy
      rw [hsv q (by omega)] at g2
      obtain ⟨uA, hu⟩ : ∃ u, u = svA vs q := ⟨_, rfl⟩
      obtain ⟨uN, hu2⟩ : ∃ u, u = svN vs q := ⟨_, rfl⟩
      obtain ⟨uC, hu3⟩ : ∃ u, u = svC vs q := ⟨_, rfl⟩
      obtain ⟨a, ha⟩ : ∃ a, a = (l.getD q wr0).at_ := ⟨_, rfl⟩
      rw [← hu, ← hu2, ← hu3] at g2 hy
      rw [← ha] at g1 hy
      have hqlt : (q : Int) < (l.length : Int) := by omega
      have HN := Lib.hid hnext
      have HQ := Lib.hid hq
      obtain ⟨m, hm⟩ : ∃ m, m = l.length := ⟨_, rfl⟩
      clear hJ1 f1 f2 hq2 hnext hq hu hu2 hu3 ha hm
      gi_wp2
      refine hR.mono ?_
      rintro e W' ⟨hkp, (⟨rfl, hj'⟩ | ⟨rfl, hjx⟩)⟩
      · have hbw : Keep (fun r => r ≠ b ∧ r ≠ Bn) w W' := hw.then hkp (fun r hr h => ⟨fun e => hcc.out.1 (e ▸ h.2), fun e => hcc.out.2 (e ▸ h.2)⟩)
        have hwl := hw.size
        have hcl : Hid (¬ ((cc.own wr.heap.size).by wr.heap.size).cl b ∧ ¬ ((cc.own wr.heap.size).by wr.heap.size).cl Bn) := ⟨fun h => by
            rcases h with h | h
            · omega
            · exact hcc.out.1 h.2, fun h => by
            rcases h with h | h
            · omega
            · exact hcc.out.2 h.2⟩
        clear hR hy hkp
        gi_wp2
        go_roundw
        case rel => exact ⟨k + 1, _, by omega, by have := HQ.out; congr 1 <;> omega, hbw, hcl, by rw [HN.out]; exact hj'⟩
        case measure => simp [intOf] <;> omega
      · gi_wp2
        refine bodyPost_ret (results_none rfl _ _ _) rfl ?_
        exact ⟨⟨_, rfl⟩, .inr ⟨_, _, hpre, hjx⟩⟩
    · obtain rfl : k = l.length := by omega
      have e : (l.length : Int) - 1 - l.length = -1 := by omega
      rw [e]
      gi_wp2
      go_end0
      exact ⟨⟨_, rfl⟩, .inl ⟨cc, _, rfl, by rw [List.take_of_length_le (by rw [rl_len]; exact Nat.le_refl _)] at hj; exact hj⟩⟩

theorem rd_end {w W : World} {A : Option Addr} {c : Nat} {bs : Bs} {e : Int} (hc : bs.length ≤ c) (h : BsAt n₀ W A bs) (hb : Below w.heap.size w W) : RdIs n₀ w (bs, e) (.returned (.tuple #[.slice A bs.length c, .int .i64 e])) W := ⟨A, c, rfl, hc, h, hb⟩
theorem rd_no {w W : World} {e : Int} (hb : Below w.heap.size w W) : RdIs n₀ w ([], e) (.returned (.tuple #[.slice none 0 0, .int .i64 e])) W := ⟨none, 0, rfl, Nat.le_refl _, BsAt.nil _ _, hb⟩

/-- Between two rounds: the writes that have come are to other sectors. -/
def RdI (l : List Wr) (at_ : Int) (D0 : Array Value) (w : World) (cc : Col) (pre : List Nat) (W : World) : Prop :=
  ((Mine cc w.heap.size ∧ Blk W w.heap.size 25 D0) ∧ (Mine cc (w.heap.size + 1) ∧ Blk W (w.heap.size + 1) 3 #[.int .i64 at_]) ∧ (∃ v, Mine cc (w.heap.size + 1 + 1) ∧ Blk W (w.heap.size + 1 + 1) 35 #[v]) ∧ (∃ v, Mine cc (w.heap.size + 1 + 1 + 1) ∧ Blk W (w.heap.size + 1 + 1 + 1) 28 #[v])) ∧ Old w.heap.size w cc W ∧ ∀ i ∈ pre, (l.getD i wr0).at_ ≠ at_
/-- A round has returned: the data lies in the boxes of the results. -/
def RdX (l : List Wr) (vs : List Value) (at_ : Int) (w : World) (j : Code) (cc : Col) (_ : List Nat) (W : World) : Prop :=
  j = .ret ∧ (∃ i, (i < l.length ∧ (l.getD i wr0).at_ = at_ ∧ ∀ k, i < k → k < l.length → (l.getD k wr0).at_ ≠ at_) ∧ Mine cc (w.heap.size + 1 + 1) ∧ Blk W (w.heap.size + 1 + 1) 35 #[vs.getD i undef]) ∧ (Mine cc (w.heap.size + 1 + 1 + 1) ∧ Blk W (w.heap.size + 1 + 1 + 1) 28 #[.int .i64 0]) ∧ Old w.heap.size w cc W
theorem RdI.stable (l : List Wr) (at_ : Int) (D0 : Array Value) (w : World) : Stable (RdI l at_ D0 w) :=
  Stable.and (.and (Stable.blk _ _ _) (.and (Stable.blk _ _ _) (.and (Stable.ex fun _ => Stable.blk _ _ _) (Stable.ex fun _ => Stable.blk _ _ _)))) (.and (Stable.old (Nat.le_refl _)) (Stable.pure _))
theorem RdX.stable (l : List Wr) (vs : List Value) (at_ : Int) (w : World) (j : Code) : Stable (RdX l vs at_ w j) :=
  Stable.and (Stable.pure _) (.and (Stable.ex fun _ => .and (Stable.pure _) (Stable.blk _ _ _)) (.and (Stable.blk _ _ _) (Stable.old (Nat.le_refl _))))

set_option maxHeartbeats 4000000 in
theorem read_t (SA PA : Option Addr) (sc pc : Nat) (d : Dk) (at_ : Int) (w : World) (hl1 : d.secs.length ≤ 140737488355328) (hl2 : d.pend.length ≤ 140737488355328) (h1 : RowsAt n₀ w SA d.secs) (h2 : WrsAt n₀ w PA d.pend) :
    Calls Try.prog 34 #[.agg #[.slice SA d.secs.length sc, .slice PA d.pend.length pc, .int .i64 d.left, .bool d.stop], .int .i64 at_] w (RdIs n₀ w (gRead d at_)) := by
  obtain ⟨secs, pend, lf, st⟩ := d
  dsimp only at hl1 hl2 h1 h2 ⊢
  have HB4 : Below w.heap.size w ((((w.alloc (.cells #[.slice SA secs.length sc, .slice PA pend.length pc, .int .i64 lf, .bool st] 25)).alloc (.cells #[.int .i64 at_] 3)).alloc (.cells #[.slice none 0 0] 35)).alloc (.cells #[.int .i64 0] 28)) := ((((Below.refl _ w).alloc (Nat.le_refl _) _).alloc (by simp) _).alloc (by simp <;> omega) _).alloc (by simp <;> omega) _
  have b0 : Blk ((((w.alloc (.cells #[.slice SA secs.length sc, .slice PA pend.length pc, .int .i64 lf, .bool st] 25)).alloc (.cells #[.int .i64 at_] 3)).alloc (.cells #[.slice none 0 0] 35)).alloc (.cells #[.int .i64 0] 28)) w.heap.size 25 #[.slice SA secs.length sc, .slice PA pend.length pc, .int .i64 lf, .bool st] := (((Blk.new w 25 _).alloc _).alloc _).alloc _
  have b1 : Blk ((((w.alloc (.cells #[.slice SA secs.length sc, .slice PA pend.length pc, .int .i64 lf, .bool st] 25)).alloc (.cells #[.int .i64 at_] 3)).alloc (.cells #[.slice none 0 0] 35)).alloc (.cells #[.int .i64 0] 28)) (w.heap.size + 1) 3 #[.int .i64 at_] := ((Blk.newAt (by simp) 3 _).alloc _).alloc _
  have b2 : Blk ((((w.alloc (.cells #[.slice SA secs.length sc, .slice PA pend.length pc, .int .i64 lf, .bool st] 25)).alloc (.cells #[.int .i64 at_] 3)).alloc (.cells #[.slice none 0 0] 35)).alloc (.cells #[.int .i64 0] 28)) (w.heap.size + 1 + 1) 35 #[.slice none 0 0] := (Blk.newAt (by simp) 35 _).alloc _
  have b3 : Blk ((((w.alloc (.cells #[.slice SA secs.length sc, .slice PA pend.length pc, .int .i64 lf, .bool st] 25)).alloc (.cells #[.int .i64 at_] 3)).alloc (.cells #[.slice none 0 0] 35)).alloc (.cells #[.int .i64 0] 28)) (w.heap.size + 1 + 1 + 1) 28 #[.int .i64 0] := Blk.newAt (by simp) 28 _
  have K := runs_t SA PA sc pc (⟨secs, pend, lf, st⟩ : Dk) _ hl1 hl2 (h1.below HB4) (h2.below HB4)
  have KH := fun W => has_t SA PA secs.length sc pend.length pc lf at_ st W
  have hri := runs_iff (⟨secs, pend, lf, st⟩ : Dk)
  obtain ⟨y, hy⟩ : ∃ y, y = ((gChk (⟨secs, pend, lf, st⟩ : Dk) == 0) && !((⟨secs, pend, lf, st⟩ : Dk) : Dk).stop) := ⟨_, rfl⟩
  rw [← hy] at K hri
  dsimp only at K
  clear hy
  cases y
  case false =>
    have E := Lib.hid (gRead_no (d := (⟨secs, pend, lf, st⟩ : Dk)) (at_ := at_) (fun h => by have := hri.2 h.1; cases this))
    clear hri KH
    go_enter Try.func34, Try.ntmps34
    go_wp2_with (fail)
    go_at_call 74
    refine K.mono ?_
    rintro e w2 ⟨rfl, hw2⟩
    have hb2 := HB4.trans (hw2.mono (by simp <;> omega))
    have x0 := b0.below hw2 b0.lt
    have x1 := b1.below hw2 b1.lt
    have x2 := b2.below hw2 b2.lt
    have x3 := b3.below hw2 b3.lt
    clear b0 b1 b2 b3
    have y0 := x0.cell 0
    have y1 := x0.cell 1
    have y2 := x0.cell 2
    have y3 := x0.cell 3
    have z1 := x1.cell 0
    have z2 := x2.cell 0
    have z3 := x3.cell 0
    have f2 := x2.frozen 0
    have f3 := x3.frozen 0
    have l3 := x3.lt
    simp only [List.getElem?_toArray, List.getElem?_cons_zero, List.getElem?_cons_succ] at y0 y1 y2 y3 z1 z2 z3
    clear HB4 hw2 x0 x1 x2 x3
    go_wp2
    refine bodyPost_ret (v := .tuple #[.slice none 0 0, .int .i64 40]) (by simp [results, Try.results34, go_sem, z2, z3]) rfl ?_
    rw [E.out]
    exact rd_no (by repeat (first | refine Below.setCell ?_ (by simp <;> omega) _ | exact hb2))
  have hr : Runs (⟨secs, pend, lf, st⟩ : Dk) := hri.1 rfl
  have hpl : pend.length ≤ 4096 := hr.1.2.2.1
  by_cases hat : 0 ≤ at_ ∧ at_ < secs.length
  case neg =>
    have E := Lib.hid (gRead_no (d := (⟨secs, pend, lf, st⟩ : Dk)) (at_ := at_) (fun h => hat h.2))
    have hbf : (decide (0 ≤ at_) && decide (at_ < (secs.length : Int))) = false := by
      by_cases q : 0 ≤ at_
      · rw [decide_eq_false (show ¬ at_ < secs.length from fun h => hat ⟨q, h⟩)]; simp
      · rw [decide_eq_false q]; rfl
    rw [hbf] at KH
    clear hri hr hat hbf
    go_enter Try.func34, Try.ntmps34
    go_wp2_with (fail)
    go_at_call 74
    refine K.mono ?_
    rintro e w5 ⟨rfl, hw5⟩
    have hb5 := HB4.trans (hw5.mono (by simp <;> omega))
    replace b0 := b0.below hw5 b0.lt
    replace b1 := b1.below hw5 b1.lt
    replace b2 := b2.below hw5 b2.lt
    replace b3 := b3.below hw5 b3.lt
    have q0 := b0.cell 0
    have q1 := b0.cell 1
    have q2 := b0.cell 2
    have q3 := b0.cell 3
    have q4 := b1.cell 0
    simp only [List.getElem?_toArray, List.getElem?_cons_zero, List.getElem?_cons_succ] at q0 q1 q2 q3 q4
    clear HB4 hw5
    go_wp2_with (fail)
    go_at_call 75
    refine (KH _).mono ?_
    rintro e w2 ⟨rfl, hw2⟩
    have hb2 := hb5.trans (hw2.mono hb5.size)
    have x0 := b0.below hw2 b0.lt
    have x1 := b1.below hw2 b1.lt
    have x2 := b2.below hw2 b2.lt
    have x3 := b3.below hw2 b3.lt
    clear b0 b1 b2 b3
    have y0 := x0.cell 0
    have y1 := x0.cell 1
    have y2 := x0.cell 2
    have y3 := x0.cell 3
    have z1 := x1.cell 0
    have z2 := x2.cell 0
    have z3 := x3.cell 0
    have f2 := x2.frozen 0
    have f3 := x3.frozen 0
    have l3 := x3.lt
    simp only [List.getElem?_toArray, List.getElem?_cons_zero, List.getElem?_cons_succ] at y0 y1 y2 y3 z1 z2 z3
    clear hb5 hw2 x0 x1 x2 x3 q0 q1 q2 q3 q4
    go_wp2
    refine bodyPost_ret (v := .tuple #[.slice none 0 0, .int .i64 40]) (by simp [results, Try.results34, go_sem, z2, z3]) rfl ?_
    rw [E.out]
    exact rd_no (by repeat (first | refine Below.setCell ?_ (by simp <;> omega) _ | exact hb2))
  have E := Lib.hid (gRead_ok (d := (⟨secs, pend, lf, st⟩ : Dk)) (at_ := at_) ⟨hr, hat⟩)
  have hbt : (decide (0 ≤ at_) && decide (at_ < (secs.length : Int))) = true := by rw [decide_eq_true hat.1, decide_eq_true hat.2]; rfl
  rw [hbt] at KH
  obtain ⟨a0, a1⟩ := hat
  clear hri hbt
  refine (callsIn_wide (n := 5)).1 ?_
  refine callsIn_of_wp_marks Try.func34 rfl trivial ?_ rfl
  simp only [Try.ntmps34, List.size_toArray, List.length_cons, List.length_nil, Nat.reduceAdd, Nat.reduceSub, Array.replicate_succ, Array.replicate_zero, List.push_toArray, List.append_toArray, List.nil_append, List.cons_append]
  gi_wp2_with (fail)
  gi_at_call 74
  refine (callsIn_wide.2 K).mono ?_
  rintro e w5 ⟨rfl, hw5⟩
  have hb5 := HB4.trans (hw5.mono (by simp <;> omega))
  replace b0 := b0.below hw5 b0.lt
  replace b1 := b1.below hw5 b1.lt
  replace b2 := b2.below hw5 b2.lt
  replace b3 := b3.below hw5 b3.lt
  have q0 := b0.cell 0
  have q1 := b0.cell 1
  have q2 := b0.cell 2
  have q3 := b0.cell 3
  have q4 := b1.cell 0
  simp only [List.getElem?_toArray, List.getElem?_cons_zero, List.getElem?_cons_succ] at q0 q1 q2 q3 q4
  clear HB4 hw5 K
  obtain ⟨k, rfl⟩ : ∃ k : Nat, at_ = k := ⟨at_.toNat, by omega⟩
  have hks : k < secs.length := by omega
  gi_wp2_with (fail)
  gi_at_call 75
  refine (callsIn_wide.2 (KH _)).mono ?_
  rintro e w2 ⟨rfl, hw2⟩
  have hb2 := hb5.trans (hw2.mono hb5.size)
  have x0 := b0.below hw2 b0.lt
  have x1 := b1.below hw2 b1.lt
  have x2 := b2.below hw2 b2.lt
  have x3 := b3.below hw2 b3.lt
  clear b0 b1 b2 b3
  have y0 := x0.cell 0
  have y1 := x0.cell 1
  have y2 := x0.cell 2
  have y3 := x0.cell 3
  have z1 := x1.cell 0
  have z2 := x2.cell 0
  have z3 := x3.cell 0
  have f2 := x2.frozen 0
  have f3 := x3.frozen 0
  have l3 := x3.lt
  simp only [List.getElem?_toArray, List.getElem?_cons_zero, List.getElem?_cons_succ] at y0 y1 y2 y3 z1 z2 z3
  clear hb5 hw2 q0 q1 q2 q3 q4 KH y0 y2 y3 z1 z2 z3 f2 f3
  gi_wp2_with (fail)
  gi_at_call 78
  refine (callsIn_wide.2 (back_t _ _ _ _)).mono ?_
  rintro e w7 ⟨rfl, rfl⟩
  gi_wp2_with (fail)
  have hsz := hb2.size
  obtain ⟨Wl, hWl⟩ : ∃ Wl, w2.alloc (.cells #[.slice PA pend.length pc] 23) = Wl := ⟨_, rfl⟩
  have hbl : Below w.heap.size w Wl := by rw [← hWl]; exact hb2.alloc hb2.size _
  have hsl : Wl.heap.size = w2.heap.size + 1 := by rw [← hWl]; simp
  have hBn : Wl.cell? ⟨w2.heap.size, 0, none⟩ = some (.slice PA pend.length pc) := by
    rw [← hWl]
    exact (Blk.new w2 23 #[.slice PA pend.length pc]).cell0
  have x0 := x0.alloc (.cells #[.slice PA pend.length pc] 23)
  have x1 := x1.alloc (.cells #[.slice PA pend.length pc] 23)
  have x2 := x2.alloc (.cells #[.slice PA pend.length pc] 23)
  have x3 := x3.alloc (.cells #[.slice PA pend.length pc] 23)
  rw [hWl] at x0 x1 x2 x3 ⊢
  obtain ⟨vs, hrw, hca⟩ := h2
  have hvl : vs.length = pend.length := by have := hrw.1; simpa using this
  obtain ⟨b, o, hA, hbb, hbc, hcc⟩ : ∃ b o, (0 < pend.length → PA = some ⟨b, o, none⟩) ∧ b < Wl.heap.size ∧ (b < w.heap.size ∨ b = w2.heap.size) ∧ ∀ j, j < pend.length * 2 → Wl.cell? ⟨b, o + j, none⟩ = (flatW pend vs)[j]? := by
    by_cases hp : 0 < pend.length
    · obtain ⟨b, o, e, ⟨hlt, -⟩, hc⟩ := hca hp
      exact ⟨b, o, fun _ => e, by omega, .inl hlt, fun j hj => (hbl.cell (p := ⟨b, _, none⟩) hlt).trans (hc j hj)⟩
    · exact ⟨w2.heap.size, 0, fun h => absurd h hp, by omega, .inr rfl, fun j hj => by omega⟩
  clear hWl hca y1
  have HRW := Lib.hid hrw
  have HCC := Lib.hid hcc
  refine wpIn_range (by omega) rfl (enters_of Try.func102 (by kernel_rfl) rfl) (back_iter _ w2.heap.size b o pc (by omega) PA pend vs Wl (by omega) hvl (fun i hi => (sv_of hrw (by simpa using hi)).1) hBn (by omega) hbb hA HCC.out) (fun _ => rfl)
    (RdI pend k #[.slice SA secs.length sc, .slice PA pend.length pc, .int .i64 lf, .bool st] w) (RdX pend vs k w)
    ?hI ?hIx ⟨fun _ => False, fun r => w.heap.size ≤ r ∧ r < w.heap.size + 4⟩ ?hc1 ?hc2 ?hc3 ?h0
    (fun a x B => ((a.put (some 20) (.int .i64 x)).put (some 21) (.agg #[.int .i64 (pend.getD x wr0).at_, .slice (svA vs x) (svN vs x) (svC vs x)])).put (some 7) (.pointer (some ⟨B, 0, none⟩)))
    (fun x B W => Blk W B 90 #[.int .i64 (pend.getD x wr0).at_, .slice (svA vs x) (svN vs x) (svC vs x)]) ?hAx ?assign ?body ?done ?stop
  case hI => exact RdI.stable _ _ _ _
  case hIx => exact RdX.stable _ _ _ _
  case hc1 => exact fun r h => h.elim
  case hc2 =>
    rintro r (h | rfl | rfl) ⟨h1, h2⟩
    · exact h
    · omega
    · omega
  case hc3 =>
    rintro r (h | rfl | rfl)
    · exact h.elim
    · exact hbb
    · omega
  case h0 => exact ⟨⟨⟨⟨⟨by omega, by omega⟩, id⟩, x0⟩, ⟨⟨⟨by omega, by omega⟩, id⟩, x1⟩, ⟨_, ⟨⟨by omega, by omega⟩, id⟩, x2⟩, ⟨_, ⟨⟨by omega, by omega⟩, id⟩, x3⟩⟩, ⟨fun _ _ => id, hbl⟩, by simp⟩
  case hAx => exact fun x B W1 W2 h hk => h.keep hk (Nat.lt_irrefl _)
  case assign =>
    intro l x W K hK
    unfold bwV
    obtain ⟨uA, hu⟩ : ∃ u, u = svA vs x := ⟨_, rfl⟩
    obtain ⟨uN, hu2⟩ : ∃ u, u = svN vs x := ⟨_, rfl⟩
    obtain ⟨uC, hu3⟩ : ∃ u, u = svC vs x := ⟨_, rfl⟩
    obtain ⟨a, ha⟩ : ∃ a, a = (pend.getD x wr0).at_ := ⟨_, rfl⟩
    rw [← hu, ← hu2, ← hu3, ← ha] at hK ⊢
    clear hu hu2 hu3 ha
    gi_wp2
    exact hK _ ((Below.refl _ _).alloc (Nat.le_refl _) _) (Blk.new _ _ _)
  case body =>
    clear x0 x1 x2 x3 hBn hbl hcc hrw hA hb2
    rintro l cc pre x B W ⟨⟨⟨m0, b0⟩, ⟨m1, b1⟩, ⟨v2, m2, b2⟩, ⟨v3, m3, b3⟩⟩, hold, hpre⟩ hA hBle hcol hlen
    have c1 := b1.cell0
    have c2 := b2.cell0
    have g2 := b2.frozen 0
    have c3 := b3.cell0
    have g3 := b3.frozen 0
    have a0 := hA.cell 0
    have a1 := hA.cell 1
    simp only [List.getElem?_toArray, List.getElem?_cons_zero, List.getElem?_cons_succ] at a0 a1
    obtain ⟨hxm, hall⟩ := rl_pre hlen
    have hsv := (sv_of HRW.out (i := x) (by simpa using hxm)).1
    obtain ⟨UA, hu⟩ : ∃ u, u = svA vs x := ⟨_, rfl⟩
    obtain ⟨un, hu2⟩ : ∃ u, u = svN vs x := ⟨_, rfl⟩
    obtain ⟨uc, hu3⟩ : ∃ u, u = svC vs x := ⟨_, rfl⟩
    obtain ⟨xa, hxa⟩ : ∃ a, a = (pend.getD x wr0).at_ := ⟨_, rfl⟩
    rw [← hu, ← hu2, ← hu3] at a1 hsv
    rw [← hxa] at a0
    have HU := Lib.hid hsv.symm
    have HXA := Lib.hid hxa
    simp only [Act.put, List.setIfInBounds_toArray, List.set_cons_zero, List.set_cons_succ, ← hu, ← hu2, ← hu3, ← hxa]
    have bs2 := b2.lt
    have bs3 := b3.lt
    have bs := hA.lt
    have HALL := Lib.hid hall
    clear hu hu2 hu3 hxa hsv hall hlen
    by_cases hq : xa = k
    · subst hq
      gi_wp2
      refine ⟨((Keep.refl cc.cl W).setCell (p := ⟨w.heap.size + 1 + 1, 0, none⟩) (fun _ => m2.1) _).setCell (p := ⟨w.heap.size + 1 + 1 + 1, 0, none⟩) (fun _ => m3.1) _, rfl, ⟨x, ⟨hxm, HXA.out.symm, fun j hj1 hj2 => hpre j (HALL.out j hj1 hj2)⟩, m2.by _, ?_⟩, ⟨m3.by _, (b3.other (by simp) _).set0 _⟩, hold.by _ (((Below.refl _ W).setCell (p := ⟨w.heap.size + 1 + 1, 0, none⟩) (by simp; omega) _).setCell (p := ⟨w.heap.size + 1 + 1 + 1, 0, none⟩) (by simp; omega) _)⟩
      rw [← HU.out]
      exact (b2.set0 _).other (by simp) _
    · have dq : (xa == (k : Int)) = false := beq_eq_false_iff_ne.2 hq
      gi_wp2
      exact ⟨Keep.refl _ _, ⟨⟨m0.by _, b0⟩, ⟨m1.by _, b1⟩, ⟨v2, m2.by _, b2⟩, ⟨v3, m3.by _, b3⟩⟩, hold.by _ (Below.refl _ _), fun i hi => by
        rcases List.mem_append.1 hi with h | h
        · exact hpre i h
        · obtain rfl : i = x := by simpa using h
          rw [← HXA.out]
          exact hq⟩
  case done =>
    clear x0 x1 x2 x3 hBn hbl hb2 hcc hrw
    rintro D cc xs W hD rfl ⟨⟨⟨m0, b0⟩, ⟨m1, b1⟩, ⟨v2, m2, b2⟩, ⟨v3, m3, b3⟩⟩, hold, hpre⟩ hK
    have hr : gRead (⟨secs, pend, lf, st⟩ : Dk) k = (secs.getD k [], 0) := by
      rw [E.out, Int.toNat_natCast, rdW_none]
      intro x hx
      obtain ⟨i, hi, rfl⟩ := List.getElem_of_mem hx
      have := hpre i (by simp [rl]; exact hi)
      simpa [List.getD, hi] using this
    have HR := Lib.hid hr
    obtain ⟨b', o', rfl, hb', hc'⟩ := h1.get (by omega)
    obtain ⟨A', c', g, hcl, hbs⟩ := hc' k hks
    replace g := (hold.2.cell (p := ⟨b', o' + k, none⟩) hb').trans g
    have HBS := Lib.hid hbs
    have HCL := Lib.hid hcl
    obtain ⟨un, hun⟩ : ∃ n, n = (secs.getD k []).length := ⟨_, rfl⟩
    rw [← hun] at g
    have HUN := Lib.hid hun
    have c1 := b1.cell0
    have c2 := b2.cell0
    have g2 := b2.frozen 0
    have c3 := b3.cell0
    have g3 := b3.frozen 0
    have c00 := b0.cell 0
    simp only [List.getElem?_toArray, List.getElem?_cons_zero] at c00
    have hk2 : ((W.setCell ⟨w.heap.size + 1 + 1, 0, none⟩ (.slice A' un c')).setCell ⟨w.heap.size + 1 + 1 + 1, 0, none⟩ (.int .i64 0)).heap[D]? = some (.deferred (some [])) :=
      (Below.heap_setCell _ _ _ _ (by simp; omega)).trans ((Below.heap_setCell _ _ _ _ (by simp; omega)).trans hK)
    have e2 := (((b2.set0 (.slice A' un c')).other (p := ⟨w.heap.size + 1 + 1 + 1, 0, none⟩) (by simp) (.int .i64 0)).putObj (D := D) (by omega) (.deferred none)).cell0
    have e3 := (((b3.other (p := ⟨w.heap.size + 1 + 1, 0, none⟩) (by simp) (.slice A' un c')).set0 (.int .i64 0)).putObj (D := D) (by omega) (.deferred none)).cell0
    have hbb2 : Below W.heap.size W ((W.setCell ⟨w.heap.size + 1 + 1, 0, none⟩ (.slice A' un c')).setCell ⟨w.heap.size + 1 + 1 + 1, 0, none⟩ (.int .i64 0)) → True := fun _ => trivial
    clear hr hc' hcl hbs hun hpre hbb2
    gi_wp2
    refine ⟨by simp, .inl ⟨_, _, rfl, run_takeDeferred hk2, ?_⟩⟩
    refine ⟨.tuple #[.slice A' un c', .int .i64 0], ?_, ?_⟩
    · simp [results, Try.results34, go_sem, e2, e3]
    · rw [HR.out, HUN.out]
      have hb3 := below_putObj ((hold.2.setCell (p := ⟨w.heap.size + 1 + 1, 0, none⟩) (by simp; omega) (.slice A' un c')).setCell (p := ⟨w.heap.size + 1 + 1 + 1, 0, none⟩) (by simp; omega) (.int .i64 0)) (D := D) (by omega) (.deferred none)
      rw [HUN.out] at hb3
      exact rd_end HCL.out (HBS.out.below hb3) hb3
  case stop =>
    clear x0 x1 x2 x3 hBn hbl hb2 hcc hrw
    rintro D j cc pre W hD _ ⟨rfl, ⟨i, ⟨hi, hx, hall⟩, m2, b2⟩, ⟨m3, b3⟩, hold⟩ hK
    obtain ⟨UA, uc, eu, hcu, hbu⟩ := HRW.out.2 i (by simpa using hi)
    have e2 : (pend.map Wr.data).getD i [] = (pend.getD i wr0).data := by simp [List.getD, hi]
    rw [e2] at eu hcu hbu
    rw [eu] at b2
    have hr : gRead (⟨secs, pend, lf, st⟩ : Dk) k = ((pend.getD i wr0).data, 0) := by rw [E.out, rdW_last _ hi hx hall]
    have HR := Lib.hid hr
    have HCU := Lib.hid hcu
    have HBU := Lib.hid hbu
    clear hr hall hx eu hcu hbu e2
    gi_wp2
    refine ⟨by simp, .inl ⟨_, _, rfl, run_takeDeferred hK, ?_⟩⟩
    have e2 := (b2.putObj (D := D) (by omega) (.deferred none)).cell0
    have e3 := (b3.putObj (D := D) (by omega) (.deferred none)).cell0
    have hb3 := below_putObj hold.2 (D := D) (by omega) (.deferred none)
    refine ⟨.tuple #[.slice UA (pend.getD i wr0).data.length uc, .int .i64 0], ?_, ?_⟩
    · simp [results, Try.results34, go_sem, e2, e3]
    · rw [HR.out]
      exact rd_end HCU.out (HBU.out.below hb3) hb3
end Go.Proofs.Ytckeopidedoohaa
