/-
  What RecorderSurvives leans on: samples of journals that grow, two rows of the call's own side by side, Open and Sync of the recorder on good disks. Conditions: as each statement says.
-/
import Derived.Test.YtckeopidedoohaaL22
import Derived.Test.YtckeopidedoohaaJsw
import Derived.Test.YtckeopidedoohaaApw
import Derived.Maps.AppendAt
namespace Go.Proofs.Ytckeopidedoohaa
open Go.RowKit
variable {n₀ : Nat}

theorem smp_few {K : List Bs} (h : K.all rRight = true) : (K.flatMap smpL).length ≤ 16 * K.length := by
  induction K with
  | nil => simp
  | cons b K ih =>
    rw [List.all_cons, Bool.and_eq_true] at h
    have h1 := ih h.2
    have h2 := of_decide_eq_true h.1
    rw [List.flatMap_cons, List.length_append, smpL_len, List.length_cons]
    omega
/-- The ends of the blocks. -/
def endsL (m : Nat) (rs : List Bs) : List Int := (List.range (rs.length - m + 1)).map fun k => ((((rs.take (m + k)).flatMap smpL).length : Nat) : Int)
theorem endsL_len (m : Nat) (rs : List Bs) : (endsL m rs).length = rs.length - m + 1 := by simp [endsL]
theorem endsL_snoc {m : Nat} {rs : List Bs} (h : m ≤ rs.length) (b : Bs) : endsL m (rs ++ [b]) = endsL m rs ++ [((((rs ++ [b]).flatMap smpL).length : Nat) : Int)] := by
  unfold endsL
  rw [List.length_append, List.length_singleton, show rs.length + 1 - m + 1 = rs.length - m + 1 + 1 by omega, List.range_succ, List.map_append, List.map_singleton]
  congr 1
  · refine List.map_congr_left fun k hk => ?_
    have hk := List.mem_range.1 hk
    rw [List.take_append_of_le_length (by omega)]
  · rw [List.take_of_length_le (by rw [List.length_append, List.length_singleton]; omega)]
theorem endsL_first {K : List Bs} : endsL K.length K = [(((K.flatMap smpL).length : Nat) : Int)] := by
  unfold endsL
  rw [Nat.sub_self]
  show [((((K.take (K.length + 0)).flatMap smpL).length : Nat) : Int)] = _
  rw [Nat.add_zero, List.take_length]
theorem endsL_get {m : Nat} {rs : List Bs} {k : Nat} (h : k ≤ rs.length - m) : (endsL m rs).getD k 0 = ((((rs.take (m + k)).flatMap smpL).length : Nat) : Int) := by
  unfold endsL
  rw [List.getD_eq_getElem?_getD, List.getElem?_map, List.getElem?_range (by omega)]
  rfl
theorem all_snoc {rs : List Bs} {l : List Int} (h : rs.all rRight = true) (hb : OkB l) : (rs ++ [encB l]).all rRight = true ∧ (rs ++ [encB l]).flatMap smpL = rs.flatMap smpL ++ l := by
  obtain ⟨h1, h2⟩ := rdR_snoc h (right_enc hb.1 hb.2.1)
  exact ⟨h1, by rw [h2, smpL_enc hb.2.2]⟩
theorem all_pre {rs : List Bs} (h : rs.all rRight = true) (n : Nat) : (rs.take n).all rRight = true := by
  rw [List.all_eq_true] at h ⊢
  exact fun x hx => h x (List.mem_of_mem_take hx)
theorem smp_take (rs : List Bs) (n : Nat) : (rs.flatMap smpL).take ((rs.take n).flatMap smpL).length = (rs.take n).flatMap smpL := by
  have e : rs.flatMap smpL = (rs.take n).flatMap smpL ++ (rs.drop n).flatMap smpL := by rw [← List.flatMap_append, List.take_append_drop]
  rw [e, List.take_left]
theorem smp_pre_len (rs : List Bs) (n : Nat) : ((rs.take n).flatMap smpL).length ≤ (rs.flatMap smpL).length := by
  have e : rs.flatMap smpL = (rs.take n).flatMap smpL ++ (rs.drop n).flatMap smpL := by rw [← List.flatMap_append, List.take_append_drop]
  rw [e, List.length_append]
  omega
theorem nums_take {w : World} {A : Option Addr} {xs : List Int} (h : NumsAt n₀ w A xs) (n : Nat) : NumsAt n₀ w A (xs.take n) := fun h0 => by
  rw [List.length_take] at h0
  obtain ⟨b, o, e, hl, hc⟩ := h (by omega)
  refine ⟨b, o, e, hl, fun i hi => ?_⟩
  rw [List.length_take] at hi
  rw [hc i (by omega)]
  congr 2
  rw [List.getD_eq_getElem?_getD, List.getD_eq_getElem?_getD, List.getElem?_take, if_pos (by omega)]
/-- Two rows of the call's own: one grows, the other is left alone. -/
theorem own2 {w w' : World} {b nE : Nat} {vE vA vA' : Value} {xE : List Value} (hE : w.ownsRow b 3 1 vE nE xE) (hne : ∀ k, vE.ownBlock = some k → vA.ownBlock ≠ some k) (hg : w.grownBy w' vA.ownBlock) (hat : vA'.ownBlock = vA.ownBlock ∨ vA'.ownBlock = some w.heap.size) :
    w'.ownsRow b 3 1 vE nE xE ∧ ∀ k, vE.ownBlock = some k → vA'.ownBlock ≠ some k := by
  constructor
  · refine ⟨hE.1, ?_⟩
    rcases hE.2 with h2 | ⟨g, cap, cur, rfl, hbg, hh, r⟩
    · exact .inl h2
    · exact .inr ⟨g, cap, cur, rfl, hbg, (hg.block g (Array.getElem?_eq_some_iff.1 hh).1 (fun h => hne g rfl h.symm)).trans hh, r⟩
  · intro k hk h
    rcases hat with h1 | h1
    · exact hne k hk (h1.symm.trans h)
    · have := (hE.lt k hk).2
      rw [h1] at h
      simp only [Option.some.injEq] at h
      omega
theorem step_append_own_at {P : Program} {ops : Array Oper} {o : Oper} {a : Act} {w : World} {K : Act → World → Prop} {Q : Exit → Act → World → Prop} {E : Prop} (hgd : o.guard = none) (s x : Operand) (t : TypeId)
    (ho : o.op = .call { callee := .builtin .append, args := #[s, x], argTypes := #[t, t] })
    (base : Nat) (e : TypeId) (i : TypeInfo) (z : Value) (size bytes : Nat) (ht : P.underlying t = some (.slice e)) (hi : P.info? e = some i) (hz : i.zero = some z)
    (hsize : i.size = size) (hby : i.bytes = bytes) (hzs : z.cells.size = size) (hsz : 0 < size)
    (v : Value) (n : Nat) (xs : List Value) (hs : a.eval s = v) (hown : w.ownsRow base e size v n xs)
    (ad : Addr) (m c : Nat) (news : List Value) (hx : a.eval x = .slice (some ad) m c) (hl : news.length = m * size) (hnews : ∀ j u, news[j]? = some u → w.cell? (ad.add j) = some u) (h1 : ∀ u ∈ news, u.oneCell' = true)
    (h63 : n + m ≤ maxLen) (hbytes : (n + m) * bytes ≤ 140737488355328) (hbase : base ≤ w.heap.size)
    (h : ∀ v' w', w'.ownsRow base e size v' (n + m) (xs ++ news) → w.grownBy w' v.ownBlock → (v'.ownBlock = v.ownBlock ∨ v'.ownBlock = some w.heap.size) → K (a.put o.dst v') w') : if Region.wanted o (yielded ops a.tmps) = true then Oper.wp P o a w K Q else E := by
  have hw : Region.wanted o (yielded ops a.tmps) = true := by simp [Region.wanted, hgd]
  rw [if_pos hw]
  obtain ⟨v', w', hr, h2, h3, h4, h5⟩ := run_append_own_at (P := P) w base t o.type e i z size bytes ht hi hz hsize hby hzs hsz v n xs hown ad m c news hl hnews h1 h63 hbytes hbase
  unfold Oper.wp execOp
  simp only [ho, resolve, invoke, builtin, Sem.run_bind, Sem.run_pure, Result.andThen_ok, List.map_toArray, List.map_cons, List.map_nil, hs, hx, hr]
  exact h v' w' h2 h3 h5
theorem wpList_append_any_at {P : Program} {w : World} {ops : Array Oper} {rest : List Oper} {o : Oper} {a : Act} {Q : Exit → Act → World → Prop} (hw : Region.wanted o (yielded ops a.tmps) = true) (s x : Operand) (t : TypeId)
    (ho : o.op = .call { callee := .builtin .append, args := #[s, x], argTypes := #[t, t] })
    (base : Nat) (e : TypeId) (i : TypeInfo) (z : Value) (size bytes : Nat) (ht : P.underlying t = some (.slice e)) (hi : P.info? e = some i) (hz : i.zero = some z)
    (hsize : i.size = size) (hby : i.bytes = bytes) (hzs : z.cells.size = size) (hsz : 0 < size)
    (v : Value) (n : Nat) (xs : List Value) (hs : a.eval s = v) (hown : w.ownsRow base e size v n xs)
    (A : Option Addr) (m c : Nat) (news : List Value) (hx : a.eval x = .slice A m c) (hl : news.length = m * size) (hnews : 0 < m → ∃ ad, A = some ad ∧ ∀ j u, news[j]? = some u → w.cell? (ad.add j) = some u) (h1 : ∀ u ∈ news, u.oneCell' = true)
    (h63 : n + m ≤ maxLen) (hbytes : (n + m) * bytes ≤ 140737488355328) (hbase : base ≤ w.heap.size)
    (h : ∀ v' w', w'.ownsRow base e size v' (n + m) (xs ++ news) → w.grownBy w' v.ownBlock → (v'.ownBlock = v.ownBlock ∨ v'.ownBlock = some w.heap.size) → wpList P ops Q rest (a.put o.dst v') w') : wpList P ops Q (o :: rest) a w := by
  refine wpList_step fun K hK => ?_
  rw [if_pos hw]
  have go : ∀ ad, A = some ad → (∀ j u, news[j]? = some u → w.cell? (ad.add j) = some u) → o.wp P a w K Q := fun ad hA hc => by
    subst hA
    obtain ⟨v', w', hr, h2, h3, h4, h5⟩ := run_append_own_at (P := P) w base t o.type e i z size bytes ht hi hz hsize hby hzs hsz v n xs hown ad m c news hl hc h1 h63 hbytes hbase
    unfold Oper.wp execOp
    simp only [ho, resolve, invoke, builtin, Sem.run_bind, Sem.run_pure, Result.andThen_ok, List.map_toArray, List.map_cons, List.map_nil, hs, hx, hr]
    exact hK _ _ (h v' w' h2 h3 h5)
  by_cases hm : 0 < m
  · obtain ⟨ad, hA, hc⟩ := hnews hm
    exact go ad hA hc
  · obtain rfl : m = 0 := by omega
    have hn : news = [] := List.eq_nil_of_length_eq_zero (by simpa using hl)
    subst hn
    cases A with
    | some ad => exact go ad rfl (fun j u hj => by simp at hj)
    | none =>
      have hr := run_append_nil_cap (P := P) base t o.type e i size ht hi v n c xs hown
      have h' := h v w (by simpa using hown) ⟨rfl, rfl, rfl, Nat.le_refl _, fun _ _ _ => rfl⟩ (.inl rfl)
      unfold Oper.wp execOp
      simp only [ho, resolve, invoke, builtin, Sem.run_bind, Sem.run_pure, Result.andThen_ok, List.map_toArray, List.map_cons, List.map_nil, hs, hx, hr]
      exact hK _ _ h'
theorem rRight_secs {K : List Bs} (h : K.all rRight = true) : ∀ b ∈ K, b.length ≤ 64 := fun b hb => (of_decide_eq_true (List.all_eq_true.1 h b hb)).2.2
theorem all_sm {K : List Bs} (h : K.all rRight = true) (hl : K.length ≤ 9000) : Sm K := ⟨hl, fun b hb => by have := rRight_secs h b hb; omega⟩
theorem rdata_all {rs : List Bs} {m s : Int} (hv : JVal ⟨rs, m, s⟩) (h : rs.all rRight = true) : rData ⟨rs, m, s⟩ = (rs.flatMap smpL, 0) := by rw [rData_ok hv, rdR_ok h]

/-- Open of the recorder on a good disk. -/
theorem ropen_good {d : Dk} {ns g : Nat} {K : List Bs} {S P : Option Addr} {s p : Nat} {w : World} (h : GoodD d ns K g) (h2 : ns ≤ 4096) (hn : n₀ ≤ w.heap.size) (hall : K.all rRight = true) (r : RowsAt n₀ w S d.secs) {n : Nat} (hk : K.length = n) {xs : List Int} (hx : K.flatMap smpL = xs) {nx : Nat} (hnx : xs.length = nx) :
    Calls Try.prog 58 #[.agg #[.slice S ns s, .slice P 0 p, .int .i64 (-1), .bool false]] w fun e w' => ∃ A c V cv, e = .returned (.tuple #[.agg #[.slice A n c, .int .i64 ns, .int .i64 n], .slice V nx cv, .int .i64 0]) ∧ n ≤ c ∧ RowsAt n₀ w' A K ∧ nx ≤ cv ∧ NumsAt n₀ w' V xs ∧ Below w.heap.size w w' := by
  have ho := rOpn_good h (rdR_ok hall)
  obtain ⟨secs, pend, left, stop⟩ := d
  obtain rfl : pend = [] := h.pend
  obtain rfl : left = -1 := h.left
  obtain rfl : stop = false := h.runs.2
  obtain rfl : secs.length = ns := h.len
  subst hk hx hnx
  have k := ropen_t (n₀ := n₀) S P s p ⟨secs, [], -1, false⟩ w hn (by dsimp only; omega) (Nat.zero_le _) r wrs_nil
  rw [ho] at k
  exact k.mono fun e w9 hx => ro_out hx
theorem rsync_good {d : Dk} {ns g : Nat} {lf : Int} {K rs : List Bs} {A S P : Option Addr} {c s p : Nat} {w : World} (h : GoodD d ns K g) (h2 : ns ≤ 4096) (hn : n₀ ≤ w.heap.size) (hv : JVal ⟨rs, ns, K.length⟩) (hall : rs.all rRight = true) (hsm : Sm rs) (hc : rs.length ≤ c) (hs : ns ≤ s) (ra : RowsAt n₀ w A rs) (r : RowsAt n₀ w S d.secs) {v : (Jn × Dk) × Int} (e : gJs ⟨rs, ns, K.length⟩ { d with left := lf } = v) :
    Calls Try.prog 60 #[.agg #[.slice A rs.length c, .int .i64 ns, .int .i64 K.length], .agg #[.slice S ns s, .slice P 0 p, .int .i64 lf, .bool false]] w (JsIs n₀ w v) := by
  have he : rSyn ⟨rs, ns, K.length⟩ { d with left := lf } = v := by rw [rSyn_ok (by rw [rdata_all hv hall]), e]
  obtain ⟨secs, pend, left, stop⟩ := d
  obtain rfl : pend = [] := h.pend
  obtain rfl : left = -1 := h.left
  obtain rfl : stop = false := h.runs.2
  obtain rfl : secs.length = ns := h.len
  subst he
  exact rsyncR_t (n₀ := n₀) A S P c s p ⟨rs, secs.length, K.length⟩ ⟨secs, [], lf, false⟩ w hn hsm hc (by dsimp only; omega) (Nat.zero_le _) hs (Nat.zero_le _) ra r wrs_nil
theorem rsync_whole {d y : Dk} {ns g : Nat} {lf : Int} {K rs : List Bs} {A S P : Option Addr} {c s p : Nat} {w : World} (h : GoodD d ns K g) (h2 : ns ≤ 4096) (hn : n₀ ≤ w.heap.size) (hv : JVal ⟨rs, ns, K.length⟩) (hall : rs.all rRight = true) (hsm : Sm rs) (hc : rs.length ≤ c) (hs : ns ≤ s) (ra : RowsAt n₀ w A rs) (r : RowsAt n₀ w S d.secs) (e : gJs ⟨rs, ns, K.length⟩ { d with left := lf } = ((⟨rs, ns, rs.length⟩, y), 0)) (hy : y.secs.length = ns) :
    Calls Try.prog 60 #[.agg #[.slice A rs.length c, .int .i64 ns, .int .i64 K.length], .agg #[.slice S ns s, .slice P 0 p, .int .i64 lf, .bool false]] w fun e w' => ∃ A c S s P p, e = .returned (.tuple #[.agg #[.slice A rs.length c, .int .i64 ns, .int .i64 rs.length], .agg #[.slice S ns s, .slice P y.pend.length p, .int .i64 y.left, .bool y.stop], .int .i64 0]) ∧ RowsAt n₀ w' A rs ∧ ns ≤ s ∧ RowsAt n₀ w' S y.secs ∧ Below w.heap.size w w' :=
  (rsync_good h h2 hn hv hall hsm hc hs ra r e).mono fun e w9 hx => by
    obtain ⟨A5, c5, S5, s5, P5, p5, rfl, hc5, r5, hs5, hp5, r5s, q5, hB⟩ := js_out hx
    rw [hy] at hs5 ⊢
    exact ⟨A5, c5, S5, s5, P5, p5, rfl, r5, hs5, r5s, hB⟩
theorem rsync_part {d y : Dk} {ns g : Nat} {lf : Int} {K rs : List Bs} {A S P : Option Addr} {c s p : Nat} {w : World} (h : GoodD d ns K g) (h2 : ns ≤ 4096) (hn : n₀ ≤ w.heap.size) (hv : JVal ⟨rs, ns, K.length⟩) (hall : rs.all rRight = true) (hsm : Sm rs) (hc : rs.length ≤ c) (hs : ns ≤ s) (ra : RowsAt n₀ w A rs) (r : RowsAt n₀ w S d.secs) (e : gJs ⟨rs, ns, K.length⟩ { d with left := lf } = ((jn0, y), 40)) (hy : y.secs.length = ns) :
    Calls Try.prog 60 #[.agg #[.slice A rs.length c, .int .i64 ns, .int .i64 K.length], .agg #[.slice S ns s, .slice P 0 p, .int .i64 lf, .bool false]] w fun e w' => ∃ A c S s P p, e = .returned (.tuple #[.agg #[.slice A 0 c, .int .i64 0, .int .i64 0], .agg #[.slice S ns s, .slice P y.pend.length p, .int .i64 y.left, .bool y.stop], .int .i64 40]) ∧ ns ≤ s ∧ RowsAt n₀ w' S y.secs ∧ Below w.heap.size w w' :=
  (rsync_good h h2 hn hv hall hsm hc hs ra r e).mono fun e w9 hx => by
    obtain ⟨A5, c5, S5, s5, P5, p5, rfl, hc5, r5, hs5, hp5, r5s, q5, hB⟩ := js_out (rs := []) (m := 0) (s := 0) hx
    rw [hy] at hs5 ⊢
    exact ⟨A5, c5, S5, s5, P5, p5, rfl, hs5, r5s, hB⟩

/-- A step of the script. -/
structure Stq where
  blks : List (List Int)
  stop : Bool
  at_ : UInt8
def sq0 : Stq := ⟨[], false, 0⟩
/-- An address at which blocks lie. -/
def NRows (n₀ : Nat) (w : World) (A : Option Addr) (ls : List (List Int)) : Prop := 0 < ls.length → ∃ b o, A = some ⟨b, o, none⟩ ∧ b < w.heap.size ∧ ∀ i, i < ls.length → ∃ A' c', w.cell? ⟨b, o + i, none⟩ = some (.slice A' (ls.getD i []).length c') ∧ NumsAt n₀ w A' (ls.getD i [])
theorem NRows.below {w w' : World} {A : Option Addr} {ls : List (List Int)} (h : NRows n₀ w A ls) (hb : Below w.heap.size w w') : NRows n₀ w' A ls := fun h0 => by
  obtain ⟨b, o, e, hl, hc⟩ := h h0
  refine ⟨b, o, e, Nat.lt_of_lt_of_le hl hb.size, fun i hi => ?_⟩
  obtain ⟨A', c', h1, h2⟩ := hc i hi
  exact ⟨A', c', (hb.cell (p := ⟨b, _, none⟩) hl).trans h1, h2.below hb⟩
def StepsQ (n₀ : Nat) (w : World) (A : Option Addr) (l : List Stq) : Prop := 0 < l.length → ∃ b o, A = some ⟨b, o, none⟩ ∧ b < w.heap.size ∧ ∀ i, i < l.length → ∃ RA rc, w.cell? ⟨b, o + i * 3, none⟩ = some (.slice RA (l.getD i sq0).blks.length rc) ∧ w.cell? ⟨b, o + i * 3 + 1, none⟩ = some (.bool (l.getD i sq0).stop) ∧ w.cell? ⟨b, o + i * 3 + 2, none⟩ = some (.int .u8 ((l.getD i sq0).at_.toNat : Int)) ∧ NRows n₀ w RA (l.getD i sq0).blks
end Go.Proofs.Ytckeopidedoohaa
