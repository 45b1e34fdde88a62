/-
  EqualFunc over two lists of records with bytes.Equal. Conditions: they lie as plain data. | Sync of a journal. Conditions: the journal and the disk lie as plain data.
-/
import Derived.Test.YtckeopidedoohaaJfw
import Derived.Test.YtckeopidedoohaaTk
import Derived.Test.YtckeopidedoohaaJop
import Derived.Test.YtckeopidedoohaaJsp
import Derived.Deep.RegionHeld3
import Derived.Deep.DeepCutAuto
import Derived.BigRegion
namespace Go.Proofs.Ytckeopidedoohaa
open Go.RowKit
variable {n₀ : Nat}
attribute [local go_sem] Oper.semAt_some

set_option maxRecDepth 20000 in
set_option maxHeartbeats 4000000 in
theorem eqf_t (A B : Option Addr) (c d : Nat) (a b : List Bs) (w : World) (hl1 : a.length ≤ 140737488355328) (_hl2 : b.length ≤ 140737488355328) (h1 : RowsAt n₀ w A a) (h2 : RowsAt n₀ w B b) :
    Calls Try.prog 89 #[.slice A a.length c, .slice B b.length d, .func (.func 90) #[] #[]] w fun e w' => e = .returned (.bool (decide (a = b))) ∧ w' = w := by
  by_cases hab : a.length = b.length
  case neg =>
    have E := Lib.hid (decide_eq_false (show ¬ a = b from fun h => hab (by rw [h])))
    obtain ⟨na, hna⟩ : ∃ n, n = a.length := ⟨_, rfl⟩
    obtain ⟨nb, hnb⟩ : ∃ n, n = b.length := ⟨_, rfl⟩
    rw [← hna, ← hnb] at hab
    rw [← hna] at hl1 ⊢
    rw [← hnb] at _hl2 ⊢
    have dn : ((na : Int) != (nb : Int)) = true := bne_iff_ne.2 (by omega)
    clear hna hnb hab h1 h2
    go_enter Try.func89, Try.ntmps89
    go_wp2
    go_ret
    exact ⟨by rw [E.out]; rfl, rfl⟩
  have H1 := Lib.hid h1
  have H2 := Lib.hid h2
  obtain ⟨n, hn⟩ : ∃ n, n = a.length := ⟨_, rfl⟩
  have hnb : n = b.length := by omega
  rw [← hn, ← hnb]
  have HN := Lib.hid (And.intro hn hnb)
  have hnl : n ≤ 140737488355328 := by omega
  clear h1 h2 hab hl1 _hl2 hn hnb
  go_enter Try.func89, Try.ntmps89
  go_wp2_with (fail)
  go_loopw [17] (fun v17 wr => ∃ k : Nat, k ≤ n ∧ v17 = .int .i64 k ∧ Hid (a.take k = b.take k) ∧ wr = w) (fun v17 _ => n - (intOf v17).toNat)
  case atStart => exact ⟨0, by omega, rfl, Lib.hid rfl, rfl⟩
  case round =>
    obtain ⟨k, hk, rfl, HT, hwr⟩ := hrel
    have hwr := hwr.symm
    subst hwr
    by_cases hlt : k < n
    case neg =>
      obtain rfl : k = n := by omega
      have E := Lib.hid (decide_eq_true (show a = b by
        have h := HT.out
        have h1 := HN.out.1
        have h2 := HN.out.2
        rw [List.take_of_length_le (by omega), List.take_of_length_le (by omega)] at h
        exact h))
      go_wp2
      go_ret
      exact ⟨by rw [E.out]; rfl, rfl⟩
    case pos =>
      have hka : k < a.length := by rw [← HN.out.1]; exact hlt
      have hkb : k < b.length := by rw [← HN.out.2]; exact hlt
      obtain ⟨ba, oa, rfl, la, ca⟩ := H1.out.get (by omega)
      obtain ⟨bb, ob, rfl, lb, cb⟩ := H2.out.get (by omega)
      obtain ⟨A1, c1, z1, -, s1⟩ := ca k hka
      obtain ⟨A2, c2, z2, -, s2⟩ := cb k hkb
      obtain ⟨x, hx⟩ : ∃ x, x = a.getD k [] := ⟨_, rfl⟩
      obtain ⟨y, hy⟩ : ∃ y, y = b.getD k [] := ⟨_, rfl⟩
      rw [← hx] at z1 s1
      rw [← hy] at z2 s2
      have HXY := Lib.hid (And.intro hx hy)
      have K := equal_t A1 A2 c1 c2 x y w s1 s2
      obtain ⟨nx, hnx⟩ : ∃ m, m = x.length := ⟨_, rfl⟩
      obtain ⟨ny, hny⟩ : ∃ m, m = y.length := ⟨_, rfl⟩
      rw [← hnx] at z1 K
      rw [← hny] at z2 K
      have k0 : (0 : Int) ≤ (k : Int) := by omega
      have k1 : (k : Int) < (n : Int) := by omega
      clear ca cb s1 s2 hx hy hnx hny
      by_cases hxy : x = y
      case pos =>
        have hst := take_eq_snoc hka hkb HT.out (by rw [← HXY.out.1, ← HXY.out.2]; exact hxy)
        rw [decide_eq_true hxy] at K
        have HST := Lib.hid hst
        clear hst hxy
        go_wp2_with (fail)
        go_at_call 90
        refine K.mono ?_
        rintro e w2 ⟨rfl, hw2⟩
        have hw2 := hw2.symm
        subst hw2
        go_wp2_with (fail)
        go_roundw
        case rel => exact ⟨k + 1, by omega, by go_num, Lib.hid HST.out, by trivial⟩
        case measure => simp [intOf] <;> omega
      case neg =>
        have E := Lib.hid (decide_eq_false (show ¬ a = b from fun h => hxy (by rw [HXY.out.1, HXY.out.2, h])))
        rw [decide_eq_false hxy] at K
        clear hxy
        go_wp2_with (fail)
        go_at_call 90
        refine K.mono ?_
        rintro e w2 ⟨rfl, hw2⟩
        have hw2 := hw2.symm
        subst hw2
        go_wp2
        go_ret
        exact ⟨by rw [E.out]; rfl, rfl⟩
end Go.Proofs.Ytckeopidedoohaa

namespace Go.Proofs.Ytckeopidedoohaa
open Go.RowKit
variable {n₀ : Nat}
attribute [local go_sem] Oper.semAt_some
@[reducible] def oJs0 : Oper := { dst := some 63, op := Op.move (Operand.tmp 10), type := 109, pos := "journal.go:161", after := #[], guard := none }
@[reducible] def oJs1 : Oper := { dst := some 64, op := Op.move (Operand.tmp 12), type := 35, pos := "journal.go:161", after := #[], guard := none }
@[reducible] def oJs2 : Oper := { dst := some 65, op := Op.slice 35 (Operand.tmp 64) none (some (Operand.const (Value.int IntKind.i64 4))) none, type := 35, pos := "journal.go:161", after := #[{ on := 1, ground := Ground.data }], guard := none }
@[reducible] def oJs3 : Oper := { dst := some 68, op := Op.move (Operand.tmp 12), type := 35, pos := "journal.go:161", after := #[], guard := none }
@[reducible] def oJs4 : Oper := { dst := some 69, op := Op.slice 35 (Operand.tmp 68) (some (Operand.const (Value.int IntKind.i64 124))) none none, type := 35, pos := "journal.go:161", after := #[{ on := 5, ground := Ground.data }], guard := none }
@[reducible] def oJs5 : Oper := { dst := some 66, op := Op.call { callee := Callee.value (Operand.func 88), args := #[Operand.tmp 65], argTypes := #[35] }, type := 109, pos := "journal.go:161", after := #[{ on := 2, ground := Ground.data }], guard := none }
@[reducible] def oJs6 : Oper := { dst := some 67, op := Op.binOp BinOp.add 109 (Operand.tmp 66) (Operand.const (Value.int IntKind.u64 1)) 109, type := 109, pos := "journal.go:161", after := #[{ on := 3, ground := Ground.data }], guard := none }
@[reducible] def oJs7 : Oper := { dst := some 70, op := Op.call { callee := Callee.value (Operand.func 88), args := #[Operand.tmp 69], argTypes := #[35] }, type := 109, pos := "journal.go:161", after := #[{ on := 6, ground := Ground.data }, { on := 3, ground := Ground.chain }], guard := none }
@[reducible] def oJs8 : Oper := { dst := some 71, op := Op.binOp BinOp.add 109 (Operand.tmp 70) (Operand.const (Value.int IntKind.u64 1)) 109, type := 109, pos := "journal.go:161", after := #[{ on := 7, ground := Ground.data }], guard := none }
@[reducible] def oJs9 : Oper := { dst := some 72, op := Op.call { callee := Callee.builtin Builtin.max, args := #[Operand.tmp 63, Operand.tmp 67, Operand.tmp 71], argTypes := #[109, 109, 109] }, type := 109, pos := "journal.go:161", after := #[{ on := 0, ground := Ground.data }, { on := 4, ground := Ground.data }, { on := 8, ground := Ground.data }], guard := none }
@[reducible] def oJs10 : Oper := { dst := some 10, op := Op.assign (Operand.tmp 72), type := 109, pos := "journal.go:161", after := #[{ on := 9, ground := Ground.data }, { on := 7, ground := Ground.chain }, { on := 0, ground := Ground.phase }, { on := 1, ground := Ground.phase }, { on := 2, ground := Ground.phase }, { on := 3, ground := Ground.phase }, { on := 4, ground := Ground.phase }, { on := 5, ground := Ground.phase }, { on := 6, ground := Ground.phase }, { on := 7, ground := Ground.phase }, { on := 8, ground := Ground.phase }, { on := 9, ground := Ground.phase }], guard := none }
@[reducible] def oJs11 : Oper := { dst := some 74, op := Op.fieldAddr 55 (Operand.tmp 9) 0, type := 0, pos := "journal.go:163", after := #[], guard := none }
@[reducible] def oJs12 : Oper := { dst := some 75, op := Op.load 22 (Operand.tmp 74), type := 22, pos := "journal.go:163", after := #[{ on := 0, ground := Ground.data }], guard := none }
@[reducible] def oJs13 : Oper := { dst := some 76, op := Op.fieldAddr 55 (Operand.tmp 2) 0, type := 0, pos := "journal.go:163", after := #[], guard := none }
@[reducible] def oJs14 : Oper := { dst := some 77, op := Op.load 22 (Operand.tmp 76), type := 22, pos := "journal.go:163", after := #[{ on := 2, ground := Ground.data }], guard := none }
@[reducible] def oJs15 : Oper := { dst := some 78, op := Op.fieldAddr 55 (Operand.tmp 2) 2, type := 0, pos := "journal.go:163", after := #[], guard := none }
@[reducible] def oJs16 : Oper := { dst := some 79, op := Op.load 3 (Operand.tmp 78), type := 3, pos := "journal.go:163", after := #[{ on := 4, ground := Ground.data }], guard := none }
@[reducible] def oJs17 : Oper := { dst := some 80, op := Op.slice 22 (Operand.tmp 77) none (some (Operand.tmp 79)) none, type := 22, pos := "journal.go:163", after := #[{ on := 3, ground := Ground.data }, { on := 5, ground := Ground.data }], guard := none }
@[reducible] def oJs18 : Oper := { dst := some 81, op := Op.call { callee := Callee.value (Operand.func 89), args := #[Operand.tmp 75, Operand.tmp 80, Operand.func 90], argTypes := #[22, 22, 112] }, type := 4, pos := "journal.go:163", after := #[{ on := 1, ground := Ground.data }, { on := 6, ground := Ground.data }], guard := none }
@[reducible] def oJs19 : Oper := { dst := some 82, op := Op.unOp UnOp.not 4 (Operand.tmp 81), type := 4, pos := "journal.go:163", after := #[{ on := 7, ground := Ground.data }], guard := none }
@[reducible] def oJs20 : Oper := { dst := some 83, op := Op.move (Operand.tmp 82), type := 4, pos := "journal.go:163", after := #[{ on := 8, ground := Ground.data }, { on := 7, ground := Ground.chain }], guard := none }
@[reducible] def oJs21 : Oper := { dst := some 84, op := Op.move (Operand.tmp 10), type := 109, pos := "journal.go:163", after := #[{ on := 9, ground := Ground.guard }], guard := some (9, false) }
@[reducible] def oJs22 : Oper := { dst := some 85, op := Op.binOp BinOp.shr 109 (Operand.tmp 84) (Operand.const (Value.int IntKind.u64 32)) 68, type := 109, pos := "journal.go:163", after := #[{ on := 10, ground := Ground.data }, { on := 9, ground := Ground.guard }], guard := some (9, false) }
@[reducible] def oJs23 : Oper := { dst := some 86, op := Op.binOp BinOp.neq 109 (Operand.tmp 85) (Operand.const (Value.int IntKind.u64 0)) 109, type := 4, pos := "journal.go:163", after := #[{ on := 11, ground := Ground.data }, { on := 9, ground := Ground.guard }], guard := some (9, false) }
@[reducible] def oJs24 : Oper := { dst := some 87, op := Op.pick (Operand.tmp 83) (Operand.const (Value.bool true)) (Operand.tmp 86), type := 4, pos := "journal.go:163", after := #[{ on := 9, ground := Ground.data }, { on := 12, ground := Ground.data }], guard := none }
attribute [local go_sem] oJs0 oJs1 oJs2 oJs3 oJs4 oJs5 oJs6 oJs7 oJs8 oJs9 oJs10 oJs11 oJs12 oJs13 oJs14 oJs15 oJs16 oJs17 oJs18 oJs19 oJs20 oJs21 oJs22 oJs23 oJs24

/-- What Sync answers, as it lies. -/
def JsIs (n₀ : Nat) (w : World) (g : (Jn × Dk) × Int) (e : Ending) (w' : World) : Prop := ∃ v u, e = .returned (.tuple #[v, u, .int .i64 g.2]) ∧ JnV n₀ w' v g.1.1 ∧ DkV n₀ w' u g.1.2 ∧ Below w.heap.size w w'
theorem js_no {w W : World} {e : Int} (hb : Below w.heap.size w W) : JsIs n₀ w ((jn0, dk0), e) (.returned (.tuple #[.agg #[.slice none 0 0, .int .i64 0, .int .i64 0], .agg #[.slice none 0 0, .slice none 0 0, .int .i64 0, .bool false], .int .i64 e])) W := ⟨_, _, rfl, jn0V W, dk0V W, hb⟩
theorem jn_out {w w' : World} {x : Ending} {rs : List Bs} {m s e : Int} (h : JnIs n₀ w (⟨rs, m, s⟩, e) x w') : ∃ A c, x = .returned (.tuple #[.agg #[.slice A rs.length c, .int .i64 m, .int .i64 s], .int .i64 e]) ∧ rs.length ≤ c ∧ RowsAt n₀ w' A rs ∧ Below w.heap.size w w' := by
  obtain ⟨v, h1, ⟨A, c, h2, h3, h4⟩, h5⟩ := h
  exact ⟨A, c, by rw [h1, h2], h3, h4, h5⟩
theorem gJs_no {j : Jn} {d : Dk} (h : ¬ JVal j) : gJs j d = ((jn0, dk0), 1) := by unfold gJs; rw [if_pos h]
theorem gJs_nod {j : Jn} {d : Dk} (h : JVal j) (h1 : ¬ Val d) : gJs j d = ((jn0, dk0), 40) := by unfold gJs; rw [if_neg (not_not_intro h), if_pos h1]
theorem gJs_many {j : Jn} {d : Dk} (h : JVal j) (h1 : Val d) (h2 : j.many ≠ d.secs.length) (h3 : d.stop = false) : gJs j d = ((jn0, dk0), 1) := by unfold gJs; rw [if_neg (not_not_intro h), if_neg (not_not_intro h1), if_pos ⟨h2, h3⟩]
theorem gJs_stop {j : Jn} {d : Dk} (h : JVal j) (h1 : Val d) (h3 : d.stop = true) : gJs j d = ((jn0, dk0), 40) := by unfold gJs; rw [if_neg (not_not_intro h), if_neg (not_not_intro h1), if_neg (fun hx => by rw [h3] at hx; cases hx.2), if_pos h3]
theorem gJs_pend {j : Jn} {d : Dk} (h : JVal j) (h1 : Val d) (h2 : j.many = d.secs.length) (h3 : d.stop = false) (h4 : 0 < d.pend.length) : gJs j d = ((jn0, dk0), 1) := by unfold gJs; rw [if_neg (not_not_intro h), if_neg (not_not_intro h1), if_neg (fun hx => hx.1 h2), if_neg (by rw [h3]; simp), if_pos h4]
theorem gJs_log {j : Jn} {d : Dk} (h : JVal j) (h1 : Val d) (h2 : j.many = d.secs.length) (h3 : d.stop = false) (h4 : ¬ 0 < d.pend.length) (h5 : ¬ (gRecs d.secs = j.recs.take j.sync.toNat ∧ genN d.secs < 4294967296)) : gJs j d = ((jn0, dk0), 50) := by unfold gJs; rw [if_neg (not_not_intro h), if_neg (not_not_intro h1), if_neg (fun hx => hx.1 h2), if_neg (by rw [h3]; simp), if_neg h4, if_pos h5]
theorem rows_take {w : World} {A : Option Addr} {rs : List Bs} (h : RowsAt n₀ w A rs) (k : Nat) : RowsAt n₀ w A (rs.take k) := by
  obtain ⟨vs, hR, hv⟩ := h
  have hl := hR.1
  refine ⟨vs.take k, ⟨by simp [hl], fun i hi => ?_⟩, fun h0 => ?_⟩
  · rw [List.length_take] at hi
    have e1 : (vs.take k).getD i undef = vs.getD i undef := by simp only [List.getD_eq_getElem?_getD, List.getElem?_take]; rw [if_pos (by omega)]
    have e2 : (rs.take k).getD i [] = rs.getD i [] := by simp only [List.getD_eq_getElem?_getD, List.getElem?_take]; rw [if_pos (by omega)]
    rw [e1, e2]
    exact hR.2 i (by omega)
  · rw [List.length_take] at h0
    obtain ⟨b, o, e, hl, hc⟩ := hv (by omega)
    refine ⟨b, o, e, hl, fun i hi => ?_⟩
    rw [List.length_take] at hi
    have e1 : (vs.take k).getD i undef = vs.getD i undef := by simp only [List.getD_eq_getElem?_getD, List.getElem?_take]; rw [if_pos (by omega)]
    rw [e1]
    exact hc i (by omega)
theorem gJs_go {j : Jn} {d : Dk} (h : Fits j d) (hs : j.sync ≠ j.recs.length) {y : Dk} {e : Int} (hg : gSync (wsD d (usedN (j.recs.take j.sync.toNat)) (j.recs.drop j.sync.toNat)) = (y, e)) : gJs j d = if e ≠ 0 then ((jn0, y), e) else (({ j with sync := j.recs.length }, y), 0) := by
  unfold gJs
  rw [if_neg (not_not_intro h.val), if_neg (not_not_intro h.vald), if_neg (fun hx => hx.1 h.many), if_neg (by rw [h.stop]; simp), if_neg (by rw [h.pend]; simp), if_neg (not_not_intro ⟨h.recs, h.gen⟩), if_neg hs, hg]
theorem pad_128 {b : Bs} (h : b.length = 128) : pad b = b := by unfold pad; rw [h]; simp
/-- A disk with sectors that wait. -/
def dnD (d : Dk) (u : Nat) (dn : List Bs) : Dk := { d with pend := mkW u dn }
theorem dn_write {d : Dk} {u at_ : Nat} {dn : List Bs} {e : Bs} (hv : Val d) (hst : d.stop = false) (hdn : ∀ s ∈ dn, s.length = 128) (he : e.length = 128) (hat : at_ = u + dn.length) (hfit : u + dn.length < d.secs.length) : gWrite (dnD d u dn) (at_ : Int) e = (dnD d u (dn ++ [e]), 0) := by
  obtain ⟨v1, v2, v3, v4, v5, v6, v7⟩ := hv
  have hr : Runs (dnD d u dn) := ⟨⟨v1, v2, by simp only [dnD, mkW_len]; omega, v4, v5, fun x hx => by
    obtain ⟨h1, h2, h3⟩ := mkW_mem _ _ x hx
    exact ⟨by omega, by simp only [dnD]; omega, hdn _ h3⟩, v7⟩, hst⟩
  rw [gWrite_ok ⟨hr, by omega, by simp only [dnD]; omega⟩ (by omega) (by simp only [dnD, mkW_len]; omega), pad_128 he]
  subst hat
  simp only [dnD, mkW_append, mkW]
theorem bs_takeJ {w : World} {A : Option Addr} {bs : Bs} (h : BsAt n₀ w A bs) (k : Nat) : BsAt n₀ w A (bs.take k) := fun h0 => by
  rw [List.length_take] at h0
  obtain ⟨b, o, e, hl, hc⟩ := h (by omega)
  refine ⟨b, o, e, hl, fun i hi => ?_⟩
  rw [List.length_take] at hi
  rw [hc i (by omega)]
  congr 2
  simp only [List.getD_eq_getElem?_getD, List.getElem?_take]
  rw [if_pos (by omega)]
theorem bs_dropJ {w : World} {b o : Nat} {bs : Bs} (h : BsAt n₀ w (some ⟨b, o, none⟩) bs) (k : Nat) : BsAt n₀ w (some ⟨b, o + k, none⟩) (bs.drop k) := fun h0 => by
  rw [List.length_drop] at h0
  have h1 := bs_part h k (bs.length - k) (by omega)
  rw [List.take_of_length_le (by rw [List.length_drop]; exact Nat.le_refl _)] at h1
  exact h1 (by rw [List.length_drop]; exact h0)
theorem blk_drew {W : World} {B : Nat} {t : TypeId} {cs : Array Value} (h : Blk W B t cs) : Blk W.drew B t cs := h
theorem bits_or0 : bits .or .u8 0 2 = 2 := by decide
theorem bits_or1 : bits .or .u8 1 2 = 3 := by decide
theorem genN_take (l : List Bs) (i : Nat) (h : i < l.length) : genN (l.take (i + 1)) = max (genN (l.take i)) (max (sGen (l.getD i []) + 1) (sEnd (l.getD i []) + 1)) := by rw [take_snocR l i h, genN_snoc]
theorem getL4_le {b : Bs} (h : b.length = 4) : getL b ≤ 4294967295 := by have := getL_lt4 h; omega
theorem genN_le (l : List Bs) (h : ∀ b ∈ l, b.length = 128) : genN l ≤ 4294967296 := by
  have : ∀ (l : List Bs) (g : Nat), g ≤ 4294967296 → (∀ b ∈ l, b.length = 128) → l.foldl (fun g s => max g (max (sGen s + 1) (sEnd s + 1))) g ≤ 4294967296 := by
    intro l
    induction l with
    | nil => intro g hg _; exact hg
    | cons x l ih =>
      intro g hg h
      have h1 := h x (by simp)
      have a : sGen x ≤ 4294967295 := getL4_le (by rw [List.length_take, h1]; rfl)
      have b : sEnd x ≤ 4294967295 := getL4_le (by rw [List.length_drop, h1])
      rw [List.foldl_cons]
      exact ih _ (by omega) (fun b hb => h b (List.mem_cons_of_mem _ hb))
  exact this l 1 (by omega) h

set_option maxRecDepth 20000 in
set_option maxHeartbeats 16000000 in
theorem js_t (RA SA PA : Option Addr) (rc sc pc : Nat) (j : Jn) (d : Dk) (w : World) (hn : n₀ ≤ w.heap.size) (hs : Sm j.recs) (hrc : j.recs.length ≤ rc) (hl1 : d.secs.length ≤ 140737488355328) (hl2 : d.pend.length ≤ 140737488355328) (hsc : d.secs.length ≤ sc) (hpc : d.pend.length ≤ pc) (r0 : RowsAt n₀ w RA j.recs) (r1 : RowsAt n₀ w SA d.secs) (q1 : WrsAt n₀ w PA d.pend) :
    Calls Try.prog 53 #[.agg #[.slice RA j.recs.length rc, .int .i64 j.many, .int .i64 j.sync], .agg #[.slice SA d.secs.length sc, .slice PA d.pend.length pc, .int .i64 d.left, .bool d.stop]] w (JsIs n₀ w (gJs j d)) := by
  obtain ⟨gc, hgc⟩ : ∃ x, x = gJchk j := ⟨_, rfl⟩
  have HGC := Lib.hid hgc
  obtain ⟨gd, hgd⟩ : ∃ x, x = gChk d := ⟨_, rfl⟩
  have HGD := Lib.hid hgd
  have hjl := hs.1
  have HS := Lib.hid hs
  clear hs hgc hgd
  by_cases k0 : JVal j
  case neg =>
    have E := Lib.hid (gJs_no (d := d) k0)
    obtain rfl : gc = 1 := by rw [HGC.out, jchk_no k0]
    clear k0
    go_enter Try.func53, Try.ntmps53
    go_wp2_with (fail)
    obtain ⟨W1, hW1⟩ : ∃ W, W = ((((w.alloc (.cells #[.slice RA j.recs.length rc, .int .i64 j.many, .int .i64 j.sync] 55)).alloc (.cells #[.slice SA d.secs.length sc, .slice PA d.pend.length pc, .int .i64 d.left, .bool d.stop] 25)).alloc (.cells #[.slice none 0 0, .int .i64 0, .int .i64 0] 55)).alloc (.cells #[.slice none 0 0, .slice none 0 0, .int .i64 0, .bool false] 25)) := ⟨_, rfl⟩
    rw [← hW1]
    have hb : Below w.heap.size w W1 := by rw [hW1]; exact ((((Below.refl _ w).alloc (Nat.le_refl _) _).alloc (by simp) _).alloc (by simp <;> omega) _).alloc (by simp <;> omega) _
    have x2 : Blk W1 w.heap.size 55 #[.slice RA j.recs.length rc, .int .i64 j.many, .int .i64 j.sync] := by rw [hW1]; exact (((Blk.new w 55 _).alloc _).alloc _).alloc _
    have x3 : Blk W1 (w.heap.size + 1) 25 #[.slice SA d.secs.length sc, .slice PA d.pend.length pc, .int .i64 d.left, .bool d.stop] := by rw [hW1]; exact ((Blk.newAt (by simp) 25 _).alloc _).alloc _
    have x4 : Blk W1 (w.heap.size + 1 + 1) 55 #[.slice none 0 0, .int .i64 0, .int .i64 0] := by rw [hW1]; exact (Blk.newAt (by simp) 55 _).alloc _
    have x5 : Blk W1 (w.heap.size + 1 + 1 + 1) 25 #[.slice none 0 0, .slice none 0 0, .int .i64 0, .bool false] := by rw [hW1]; exact Blk.newAt (by simp) 25 _
    clear hW1
    replace r0 := r0.below hb
    replace r1 := r1.below hb
    replace q1 := q1.below hb
    have hw := hb
    clear hb
    have x2c0 := x2.cell 0
    have x2c1 := x2.cell 1
    have x2c2 := x2.cell 2
    simp only [List.getElem?_toArray, List.getElem?_cons_zero, List.getElem?_cons_succ] at x2c0 x2c1 x2c2
    have x2l := x2.lt
    go_wp2_with (fail)
    have K : Calls Try.prog 49 #[.agg #[.slice RA j.recs.length rc, .int .i64 j.many, .int .i64 j.sync]] W1 (fun e w' => e = .returned (.int .i64 1) ∧ Below W1.heap.size W1 w') := by have h := jcheck_t RA rc j W1 HS.out r0; rw [← HGC.out] at h; exact h
    go_at_call 49
    refine K.mono ?_
    rintro e w2 ⟨rfl, hb⟩
    clear K
    replace r0 := r0.below hb
    replace r1 := r1.below hb
    replace q1 := q1.below hb
    replace x2 := x2.below hb x2.lt
    replace x3 := x3.below hb x3.lt
    replace x4 := x4.below hb x4.lt
    replace x5 := x5.below hb x5.lt
    replace hw := hw.trans (hb.mono hw.size)
    clear x2c0 x2c1 x2c2 x2l
    clear hb
    have x4c0 := x4.cell 0
    have x4f0 := x4.frozen 0
    have x4c1 := x4.cell 1
    have x4f1 := x4.frozen 1
    have x4c2 := x4.cell 2
    have x4f2 := x4.frozen 2
    simp only [List.getElem?_toArray, List.getElem?_cons_zero, List.getElem?_cons_succ] at x4c0 x4c1 x4c2
    have x4l := x4.lt
    have x5c0 := x5.cell 0
    have x5f0 := x5.frozen 0
    have x5c1 := x5.cell 1
    have x5f1 := x5.frozen 1
    have x5c2 := x5.cell 2
    have x5f2 := x5.frozen 2
    have x5c3 := x5.cell 3
    have x5f3 := x5.frozen 3
    simp only [List.getElem?_toArray, List.getElem?_cons_zero, List.getElem?_cons_succ] at x5c0 x5c1 x5c2 x5c3
    have x5l := x5.lt
    have HWW := Lib.hid hw
    clear hw
    go_wp2
    refine bodyPost_ret (v := .tuple #[.agg #[.slice none 0 0, .int .i64 0, .int .i64 0], .agg #[.slice none 0 0, .slice none 0 0, .int .i64 0, .bool false], .int .i64 1]) (by simp [results, Try.results53, go_sem, x4c0, x4c1, x4c2, x5c0, x5c1, x5c2, x5c3]) rfl ?_
    rw [E.out]
    exact js_no (by repeat (first | with_reducible exact HWW.out | refine Below.setCell ?_ (by simp <;> omega) _))
  obtain rfl : gc = 0 := by rw [HGC.out, jchk_yes k0]
  have HJ := Lib.hid k0
  by_cases k1 : Val d
  case neg =>
    have E := Lib.hid (gJs_nod k0 k1)
    obtain rfl : gd = 40 := by rw [HGD.out, chk_no k1]
    clear k0 k1
    go_enter Try.func53, Try.ntmps53
    go_wp2_with (fail)
    obtain ⟨W1, hW1⟩ : ∃ W, W = ((((w.alloc (.cells #[.slice RA j.recs.length rc, .int .i64 j.many, .int .i64 j.sync] 55)).alloc (.cells #[.slice SA d.secs.length sc, .slice PA d.pend.length pc, .int .i64 d.left, .bool d.stop] 25)).alloc (.cells #[.slice none 0 0, .int .i64 0, .int .i64 0] 55)).alloc (.cells #[.slice none 0 0, .slice none 0 0, .int .i64 0, .bool false] 25)) := ⟨_, rfl⟩
    rw [← hW1]
    have hb : Below w.heap.size w W1 := by rw [hW1]; exact ((((Below.refl _ w).alloc (Nat.le_refl _) _).alloc (by simp) _).alloc (by simp <;> omega) _).alloc (by simp <;> omega) _
    have x2 : Blk W1 w.heap.size 55 #[.slice RA j.recs.length rc, .int .i64 j.many, .int .i64 j.sync] := by rw [hW1]; exact (((Blk.new w 55 _).alloc _).alloc _).alloc _
    have x3 : Blk W1 (w.heap.size + 1) 25 #[.slice SA d.secs.length sc, .slice PA d.pend.length pc, .int .i64 d.left, .bool d.stop] := by rw [hW1]; exact ((Blk.newAt (by simp) 25 _).alloc _).alloc _
    have x4 : Blk W1 (w.heap.size + 1 + 1) 55 #[.slice none 0 0, .int .i64 0, .int .i64 0] := by rw [hW1]; exact (Blk.newAt (by simp) 55 _).alloc _
    have x5 : Blk W1 (w.heap.size + 1 + 1 + 1) 25 #[.slice none 0 0, .slice none 0 0, .int .i64 0, .bool false] := by rw [hW1]; exact Blk.newAt (by simp) 25 _
    clear hW1
    replace r0 := r0.below hb
    replace r1 := r1.below hb
    replace q1 := q1.below hb
    have hw := hb
    clear hb
    have x2c0 := x2.cell 0
    have x2c1 := x2.cell 1
    have x2c2 := x2.cell 2
    simp only [List.getElem?_toArray, List.getElem?_cons_zero, List.getElem?_cons_succ] at x2c0 x2c1 x2c2
    have x2l := x2.lt
    go_wp2_with (fail)
    have K : Calls Try.prog 49 #[.agg #[.slice RA j.recs.length rc, .int .i64 j.many, .int .i64 j.sync]] W1 (fun e w' => e = .returned (.int .i64 0) ∧ Below W1.heap.size W1 w') := by have h := jcheck_t RA rc j W1 HS.out r0; rw [← HGC.out] at h; exact h
    go_at_call 49
    refine K.mono ?_
    rintro e w2 ⟨rfl, hb⟩
    clear K
    replace r0 := r0.below hb
    replace r1 := r1.below hb
    replace q1 := q1.below hb
    replace x2 := x2.below hb x2.lt
    replace x3 := x3.below hb x3.lt
    replace x4 := x4.below hb x4.lt
    replace x5 := x5.below hb x5.lt
    replace hw := hw.trans (hb.mono hw.size)
    clear x2c0 x2c1 x2c2 x2l
    clear hb
    have x3c0 := x3.cell 0
    have x3c1 := x3.cell 1
    have x3c2 := x3.cell 2
    have x3c3 := x3.cell 3
    simp only [List.getElem?_toArray, List.getElem?_cons_zero, List.getElem?_cons_succ] at x3c0 x3c1 x3c2 x3c3
    have x3l := x3.lt
    go_wp2_with (fail)
    have K : Calls Try.prog 28 #[.agg #[.slice SA d.secs.length sc, .slice PA d.pend.length pc, .int .i64 d.left, .bool d.stop]] w2 (fun e w' => e = .returned (.int .i64 40) ∧ Below w2.heap.size w2 w') := by have h := check_t SA PA sc pc d w2 hl1 hl2 r1 q1; rw [← HGD.out] at h; exact h
    go_at_call 28
    refine K.mono ?_
    rintro e w3 ⟨rfl, hb⟩
    clear K
    replace r0 := r0.below hb
    replace r1 := r1.below hb
    replace q1 := q1.below hb
    replace x2 := x2.below hb x2.lt
    replace x3 := x3.below hb x3.lt
    replace x4 := x4.below hb x4.lt
    replace x5 := x5.below hb x5.lt
    replace hw := hw.trans (hb.mono hw.size)
    clear x3c0 x3c1 x3c2 x3c3 x3l
    clear hb
    have x4c0 := x4.cell 0
    have x4f0 := x4.frozen 0
    have x4c1 := x4.cell 1
    have x4f1 := x4.frozen 1
    have x4c2 := x4.cell 2
    have x4f2 := x4.frozen 2
    simp only [List.getElem?_toArray, List.getElem?_cons_zero, List.getElem?_cons_succ] at x4c0 x4c1 x4c2
    have x4l := x4.lt
    have x5c0 := x5.cell 0
    have x5f0 := x5.frozen 0
    have x5c1 := x5.cell 1
    have x5f1 := x5.frozen 1
    have x5c2 := x5.cell 2
    have x5f2 := x5.frozen 2
    have x5c3 := x5.cell 3
    have x5f3 := x5.frozen 3
    simp only [List.getElem?_toArray, List.getElem?_cons_zero, List.getElem?_cons_succ] at x5c0 x5c1 x5c2 x5c3
    have x5l := x5.lt
    have HWW := Lib.hid hw
    clear hw
    go_wp2
    refine bodyPost_ret (v := .tuple #[.agg #[.slice none 0 0, .int .i64 0, .int .i64 0], .agg #[.slice none 0 0, .slice none 0 0, .int .i64 0, .bool false], .int .i64 40]) (by simp [results, Try.results53, go_sem, x4c0, x4c1, x4c2, x5c0, x5c1, x5c2, x5c3]) rfl ?_
    rw [E.out]
    exact js_no (by repeat (first | with_reducible exact HWW.out | refine Below.setCell ?_ (by simp <;> omega) _))
  obtain rfl : gd = 0 := by rw [HGD.out, chk_yes k1]
  have HD := Lib.hid k1
  cases hst : d.stop
  case true =>
    have E := Lib.hid (gJs_stop k0 k1 hst)
    have HOP := Lib.hid (gOpen_stop k1 hst)
    have HST := Lib.hid hst
    clear k0 k1
    obtain ⟨ym, hym⟩ : ∃ y, y = (j.many != (d.secs.length : Int)) := ⟨_, rfl⟩
    have dm := hym.symm
    clear hym
    clear hst
    go_enter Try.func53, Try.ntmps53
    go_wp2_with (fail)
    obtain ⟨W1, hW1⟩ : ∃ W, W = ((((w.alloc (.cells #[.slice RA j.recs.length rc, .int .i64 j.many, .int .i64 j.sync] 55)).alloc (.cells #[.slice SA d.secs.length sc, .slice PA d.pend.length pc, .int .i64 d.left, .bool true] 25)).alloc (.cells #[.slice none 0 0, .int .i64 0, .int .i64 0] 55)).alloc (.cells #[.slice none 0 0, .slice none 0 0, .int .i64 0, .bool false] 25)) := ⟨_, rfl⟩
    rw [← hW1]
    have hb : Below w.heap.size w W1 := by rw [hW1]; exact ((((Below.refl _ w).alloc (Nat.le_refl _) _).alloc (by simp) _).alloc (by simp <;> omega) _).alloc (by simp <;> omega) _
    have x2 : Blk W1 w.heap.size 55 #[.slice RA j.recs.length rc, .int .i64 j.many, .int .i64 j.sync] := by rw [hW1]; exact (((Blk.new w 55 _).alloc _).alloc _).alloc _
    have x3 : Blk W1 (w.heap.size + 1) 25 #[.slice SA d.secs.length sc, .slice PA d.pend.length pc, .int .i64 d.left, .bool true] := by rw [hW1]; exact ((Blk.newAt (by simp) 25 _).alloc _).alloc _
    have x4 : Blk W1 (w.heap.size + 1 + 1) 55 #[.slice none 0 0, .int .i64 0, .int .i64 0] := by rw [hW1]; exact (Blk.newAt (by simp) 55 _).alloc _
    have x5 : Blk W1 (w.heap.size + 1 + 1 + 1) 25 #[.slice none 0 0, .slice none 0 0, .int .i64 0, .bool false] := by rw [hW1]; exact Blk.newAt (by simp) 25 _
    clear hW1
    replace r0 := r0.below hb
    replace r1 := r1.below hb
    replace q1 := q1.below hb
    have hw := hb
    clear hb
    have x2c0 := x2.cell 0
    have x2c1 := x2.cell 1
    have x2c2 := x2.cell 2
    simp only [List.getElem?_toArray, List.getElem?_cons_zero, List.getElem?_cons_succ] at x2c0 x2c1 x2c2
    have x2l := x2.lt
    go_wp2_with (fail)
    have K : Calls Try.prog 49 #[.agg #[.slice RA j.recs.length rc, .int .i64 j.many, .int .i64 j.sync]] W1 (fun e w' => e = .returned (.int .i64 0) ∧ Below W1.heap.size W1 w') := by have h := jcheck_t RA rc j W1 HS.out r0; rw [jchk_yes HJ.out] at h; exact h
    go_at_call 49
    refine K.mono ?_
    rintro e w2 ⟨rfl, hb⟩
    clear K
    replace r0 := r0.below hb
    replace r1 := r1.below hb
    replace q1 := q1.below hb
    replace x2 := x2.below hb x2.lt
    replace x3 := x3.below hb x3.lt
    replace x4 := x4.below hb x4.lt
    replace x5 := x5.below hb x5.lt
    replace hw := hw.trans (hb.mono hw.size)
    clear x2c0 x2c1 x2c2 x2l
    clear hb
    have x3c0 := x3.cell 0
    have x3c1 := x3.cell 1
    have x3c2 := x3.cell 2
    have x3c3 := x3.cell 3
    simp only [List.getElem?_toArray, List.getElem?_cons_zero, List.getElem?_cons_succ] at x3c0 x3c1 x3c2 x3c3
    have x3l := x3.lt
    go_wp2_with (fail)
    have K : Calls Try.prog 28 #[.agg #[.slice SA d.secs.length sc, .slice PA d.pend.length pc, .int .i64 d.left, .bool true]] w2 (fun e w' => e = .returned (.int .i64 0) ∧ Below w2.heap.size w2 w') := by have h := check_t SA PA sc pc d w2 hl1 hl2 r1 q1; rw [chk_yes HD.out, HST.out] at h; exact h
    go_at_call 28
    refine K.mono ?_
    rintro e w3 ⟨rfl, hb⟩
    clear K
    replace r0 := r0.below hb
    replace r1 := r1.below hb
    replace q1 := q1.below hb
    replace x2 := x2.below hb x2.lt
    replace x3 := x3.below hb x3.lt
    replace x4 := x4.below hb x4.lt
    replace x5 := x5.below hb x5.lt
    replace hw := hw.trans (hb.mono hw.size)
    clear x3c0 x3c1 x3c2 x3c3 x3l
    clear hb
    have x2c0 := x2.cell 0
    have x2c1 := x2.cell 1
    have x2c2 := x2.cell 2
    simp only [List.getElem?_toArray, List.getElem?_cons_zero, List.getElem?_cons_succ] at x2c0 x2c1 x2c2
    have x2l := x2.lt
    have x3c0 := x3.cell 0
    have x3c1 := x3.cell 1
    have x3c2 := x3.cell 2
    have x3c3 := x3.cell 3
    simp only [List.getElem?_toArray, List.getElem?_cons_zero, List.getElem?_cons_succ] at x3c0 x3c1 x3c2 x3c3
    have x3l := x3.lt
    cases ym
    all_goals
      go_wp2_with (fail)
      have K : Calls Try.prog 44 #[.agg #[.slice SA d.secs.length sc, .slice PA d.pend.length pc, .int .i64 d.left, .bool true]] w3 (fun e w' => ∃ A c, e = .returned (.tuple #[.agg #[.slice A 0 c, .int .i64 0, .int .i64 0], .int .i64 40]) ∧ Below w3.heap.size w3 w') := by have h := open_t (n₀ := n₀) SA PA sc pc d w3 (Nat.le_trans hn hw.size) hl1 hl2 r1 q1; rw [HOP.out, HST.out] at h; exact h.mono fun e w9 hx => by obtain ⟨A, c, h1, -, -, h4⟩ := jn_out hx; exact ⟨A, c, h1, h4⟩
      go_at_call 44
      refine K.mono ?_
      rintro e w4 ⟨A9, c9, rfl, hb⟩
      clear K
      replace r0 := r0.below hb
      replace r1 := r1.below hb
      replace q1 := q1.below hb
      replace x2 := x2.below hb x2.lt
      replace x3 := x3.below hb x3.lt
      replace x4 := x4.below hb x4.lt
      replace x5 := x5.below hb x5.lt
      replace hw := hw.trans (hb.mono hw.size)
      clear x2c0 x2c1 x2c2 x2l x3c0 x3c1 x3c2 x3c3 x3l
      clear hb
      go_upto_region 10 with (fail)
      obtain ⟨W5, hW5⟩ : ∃ W, W = w4.alloc (.cells #[.slice A9 0 c9, .int .i64 0, .int .i64 0] 55) := ⟨_, rfl⟩
      rw [← hW5]
      have hb : Below w4.heap.size w4 W5 := by rw [hW5]; exact (Below.refl _ _).alloc (Nat.le_refl _) _
      have x9 : Blk W5 w4.heap.size 55 #[.slice A9 0 c9, .int .i64 0, .int .i64 0] := by rw [hW5]; exact Blk.new w4 55 _
      clear hW5
      replace r0 := r0.below hb
      replace r1 := r1.below hb
      replace q1 := q1.below hb
      replace x2 := x2.below hb x2.lt
      replace x3 := x3.below hb x3.lt
      replace x4 := x4.below hb x4.lt
      replace x5 := x5.below hb x5.lt
      replace hw := hw.trans (hb.mono hw.size)
      clear hb
      clear x9
      have x4c0 := x4.cell 0
      have x4f0 := x4.frozen 0
      have x4c1 := x4.cell 1
      have x4f1 := x4.frozen 1
      have x4c2 := x4.cell 2
      have x4f2 := x4.frozen 2
      simp only [List.getElem?_toArray, List.getElem?_cons_zero, List.getElem?_cons_succ] at x4c0 x4c1 x4c2
      have x4l := x4.lt
      have x5c0 := x5.cell 0
      have x5f0 := x5.frozen 0
      have x5c1 := x5.cell 1
      have x5f1 := x5.frozen 1
      have x5c2 := x5.cell 2
      have x5f2 := x5.frozen 2
      have x5c3 := x5.cell 3
      have x5f3 := x5.frozen 3
      simp only [List.getElem?_toArray, List.getElem?_cons_zero, List.getElem?_cons_succ] at x5c0 x5c1 x5c2 x5c3
      have x5l := x5.lt
      have HWW := Lib.hid hw
      clear hw
      go_wp2
      refine bodyPost_ret (v := .tuple #[.agg #[.slice none 0 0, .int .i64 0, .int .i64 0], .agg #[.slice none 0 0, .slice none 0 0, .int .i64 0, .bool false], .int .i64 40]) (by simp [results, Try.results53, go_sem, x4c0, x4c1, x4c2, x5c0, x5c1, x5c2, x5c3]) rfl ?_
      rw [E.out]
      exact js_no (by repeat (first | with_reducible exact HWW.out | refine Below.setCell ?_ (by simp <;> omega) _))
  case false =>
    have HST := Lib.hid hst
    by_cases k2 : j.many = d.secs.length
    case neg =>
      have E := Lib.hid (gJs_many k0 k1 k2 hst)
      have dm : (j.many != (d.secs.length : Int)) = true := bne_iff_ne.2 k2
      clear k0 k1 k2
      clear hst
      go_enter Try.func53, Try.ntmps53
      go_wp2_with (fail)
      obtain ⟨W1, hW1⟩ : ∃ W, W = ((((w.alloc (.cells #[.slice RA j.recs.length rc, .int .i64 j.many, .int .i64 j.sync] 55)).alloc (.cells #[.slice SA d.secs.length sc, .slice PA d.pend.length pc, .int .i64 d.left, .bool false] 25)).alloc (.cells #[.slice none 0 0, .int .i64 0, .int .i64 0] 55)).alloc (.cells #[.slice none 0 0, .slice none 0 0, .int .i64 0, .bool false] 25)) := ⟨_, rfl⟩
      rw [← hW1]
      have hb : Below w.heap.size w W1 := by rw [hW1]; exact ((((Below.refl _ w).alloc (Nat.le_refl _) _).alloc (by simp) _).alloc (by simp <;> omega) _).alloc (by simp <;> omega) _
      have x2 : Blk W1 w.heap.size 55 #[.slice RA j.recs.length rc, .int .i64 j.many, .int .i64 j.sync] := by rw [hW1]; exact (((Blk.new w 55 _).alloc _).alloc _).alloc _
      have x3 : Blk W1 (w.heap.size + 1) 25 #[.slice SA d.secs.length sc, .slice PA d.pend.length pc, .int .i64 d.left, .bool false] := by rw [hW1]; exact ((Blk.newAt (by simp) 25 _).alloc _).alloc _
      have x4 : Blk W1 (w.heap.size + 1 + 1) 55 #[.slice none 0 0, .int .i64 0, .int .i64 0] := by rw [hW1]; exact (Blk.newAt (by simp) 55 _).alloc _
      have x5 : Blk W1 (w.heap.size + 1 + 1 + 1) 25 #[.slice none 0 0, .slice none 0 0, .int .i64 0, .bool false] := by rw [hW1]; exact Blk.newAt (by simp) 25 _
      clear hW1
      replace r0 := r0.below hb
      replace r1 := r1.below hb
      replace q1 := q1.below hb
      have hw := hb
      clear hb
      have x2c0 := x2.cell 0
      have x2c1 := x2.cell 1
      have x2c2 := x2.cell 2
      simp only [List.getElem?_toArray, List.getElem?_cons_zero, List.getElem?_cons_succ] at x2c0 x2c1 x2c2
      have x2l := x2.lt
      go_wp2_with (fail)
      have K : Calls Try.prog 49 #[.agg #[.slice RA j.recs.length rc, .int .i64 j.many, .int .i64 j.sync]] W1 (fun e w' => e = .returned (.int .i64 0) ∧ Below W1.heap.size W1 w') := by have h := jcheck_t RA rc j W1 HS.out r0; rw [jchk_yes HJ.out] at h; exact h
      go_at_call 49
      refine K.mono ?_
      rintro e w2 ⟨rfl, hb⟩
      clear K
      replace r0 := r0.below hb
      replace r1 := r1.below hb
      replace q1 := q1.below hb
      replace x2 := x2.below hb x2.lt
      replace x3 := x3.below hb x3.lt
      replace x4 := x4.below hb x4.lt
      replace x5 := x5.below hb x5.lt
      replace hw := hw.trans (hb.mono hw.size)
      clear x2c0 x2c1 x2c2 x2l
      clear hb
      have x3c0 := x3.cell 0
      have x3c1 := x3.cell 1
      have x3c2 := x3.cell 2
      have x3c3 := x3.cell 3
      simp only [List.getElem?_toArray, List.getElem?_cons_zero, List.getElem?_cons_succ] at x3c0 x3c1 x3c2 x3c3
      have x3l := x3.lt
      go_wp2_with (fail)
      have K : Calls Try.prog 28 #[.agg #[.slice SA d.secs.length sc, .slice PA d.pend.length pc, .int .i64 d.left, .bool false]] w2 (fun e w' => e = .returned (.int .i64 0) ∧ Below w2.heap.size w2 w') := by have h := check_t SA PA sc pc d w2 hl1 hl2 r1 q1; rw [chk_yes HD.out, HST.out] at h; exact h
      go_at_call 28
      refine K.mono ?_
      rintro e w3 ⟨rfl, hb⟩
      clear K
      replace r0 := r0.below hb
      replace r1 := r1.below hb
      replace q1 := q1.below hb
      replace x2 := x2.below hb x2.lt
      replace x3 := x3.below hb x3.lt
      replace x4 := x4.below hb x4.lt
      replace x5 := x5.below hb x5.lt
      replace hw := hw.trans (hb.mono hw.size)
      clear x3c0 x3c1 x3c2 x3c3 x3l
      clear hb
      have x2c0 := x2.cell 0
      have x2c1 := x2.cell 1
      have x2c2 := x2.cell 2
      simp only [List.getElem?_toArray, List.getElem?_cons_zero, List.getElem?_cons_succ] at x2c0 x2c1 x2c2
      have x2l := x2.lt
      have x3c0 := x3.cell 0
      have x3c1 := x3.cell 1
      have x3c2 := x3.cell 2
      have x3c3 := x3.cell 3
      simp only [List.getElem?_toArray, List.getElem?_cons_zero, List.getElem?_cons_succ] at x3c0 x3c1 x3c2 x3c3
      have x3l := x3.lt
      have x4c0 := x4.cell 0
      have x4f0 := x4.frozen 0
      have x4c1 := x4.cell 1
      have x4f1 := x4.frozen 1
      have x4c2 := x4.cell 2
      have x4f2 := x4.frozen 2
      simp only [List.getElem?_toArray, List.getElem?_cons_zero, List.getElem?_cons_succ] at x4c0 x4c1 x4c2
      have x4l := x4.lt
      have x5c0 := x5.cell 0
      have x5f0 := x5.frozen 0
      have x5c1 := x5.cell 1
      have x5f1 := x5.frozen 1
      have x5c2 := x5.cell 2
      have x5f2 := x5.frozen 2
      have x5c3 := x5.cell 3
      have x5f3 := x5.frozen 3
      simp only [List.getElem?_toArray, List.getElem?_cons_zero, List.getElem?_cons_succ] at x5c0 x5c1 x5c2 x5c3
      have x5l := x5.lt
      have HWW := Lib.hid hw
      clear hw
      go_wp2
      refine bodyPost_ret (v := .tuple #[.agg #[.slice none 0 0, .int .i64 0, .int .i64 0], .agg #[.slice none 0 0, .slice none 0 0, .int .i64 0, .bool false], .int .i64 1]) (by simp [results, Try.results53, go_sem, x4c0, x4c1, x4c2, x5c0, x5c1, x5c2, x5c3]) rfl ?_
      rw [E.out]
      exact js_no (by repeat (first | with_reducible exact HWW.out | refine Below.setCell ?_ (by simp <;> omega) _))
    by_cases k3 : 0 < d.pend.length
    case pos =>
      have E := Lib.hid (gJs_pend k0 k1 k2 hst k3)
      have HOP := Lib.hid (gOpen_pend k1 hst k3)
      have dm : (j.many != (d.secs.length : Int)) = false := by rw [k2]; simp
      clear k0 k1 k2 k3
      clear hst
      go_enter Try.func53, Try.ntmps53
      go_wp2_with (fail)
      obtain ⟨W1, hW1⟩ : ∃ W, W = ((((w.alloc (.cells #[.slice RA j.recs.length rc, .int .i64 j.many, .int .i64 j.sync] 55)).alloc (.cells #[.slice SA d.secs.length sc, .slice PA d.pend.length pc, .int .i64 d.left, .bool false] 25)).alloc (.cells #[.slice none 0 0, .int .i64 0, .int .i64 0] 55)).alloc (.cells #[.slice none 0 0, .slice none 0 0, .int .i64 0, .bool false] 25)) := ⟨_, rfl⟩
      rw [← hW1]
      have hb : Below w.heap.size w W1 := by rw [hW1]; exact ((((Below.refl _ w).alloc (Nat.le_refl _) _).alloc (by simp) _).alloc (by simp <;> omega) _).alloc (by simp <;> omega) _
      have x2 : Blk W1 w.heap.size 55 #[.slice RA j.recs.length rc, .int .i64 j.many, .int .i64 j.sync] := by rw [hW1]; exact (((Blk.new w 55 _).alloc _).alloc _).alloc _
      have x3 : Blk W1 (w.heap.size + 1) 25 #[.slice SA d.secs.length sc, .slice PA d.pend.length pc, .int .i64 d.left, .bool false] := by rw [hW1]; exact ((Blk.newAt (by simp) 25 _).alloc _).alloc _
      have x4 : Blk W1 (w.heap.size + 1 + 1) 55 #[.slice none 0 0, .int .i64 0, .int .i64 0] := by rw [hW1]; exact (Blk.newAt (by simp) 55 _).alloc _
      have x5 : Blk W1 (w.heap.size + 1 + 1 + 1) 25 #[.slice none 0 0, .slice none 0 0, .int .i64 0, .bool false] := by rw [hW1]; exact Blk.newAt (by simp) 25 _
      clear hW1
      replace r0 := r0.below hb
      replace r1 := r1.below hb
      replace q1 := q1.below hb
      have hw := hb
      clear hb
      have x2c0 := x2.cell 0
      have x2c1 := x2.cell 1
      have x2c2 := x2.cell 2
      simp only [List.getElem?_toArray, List.getElem?_cons_zero, List.getElem?_cons_succ] at x2c0 x2c1 x2c2
      have x2l := x2.lt
      go_wp2_with (fail)
      have K : Calls Try.prog 49 #[.agg #[.slice RA j.recs.length rc, .int .i64 j.many, .int .i64 j.sync]] W1 (fun e w' => e = .returned (.int .i64 0) ∧ Below W1.heap.size W1 w') := by have h := jcheck_t RA rc j W1 HS.out r0; rw [jchk_yes HJ.out] at h; exact h
      go_at_call 49
      refine K.mono ?_
      rintro e w2 ⟨rfl, hb⟩
      clear K
      replace r0 := r0.below hb
      replace r1 := r1.below hb
      replace q1 := q1.below hb
      replace x2 := x2.below hb x2.lt
      replace x3 := x3.below hb x3.lt
      replace x4 := x4.below hb x4.lt
      replace x5 := x5.below hb x5.lt
      replace hw := hw.trans (hb.mono hw.size)
      clear x2c0 x2c1 x2c2 x2l
      clear hb
      have x3c0 := x3.cell 0
      have x3c1 := x3.cell 1
      have x3c2 := x3.cell 2
      have x3c3 := x3.cell 3
      simp only [List.getElem?_toArray, List.getElem?_cons_zero, List.getElem?_cons_succ] at x3c0 x3c1 x3c2 x3c3
      have x3l := x3.lt
      go_wp2_with (fail)
      have K : Calls Try.prog 28 #[.agg #[.slice SA d.secs.length sc, .slice PA d.pend.length pc, .int .i64 d.left, .bool false]] w2 (fun e w' => e = .returned (.int .i64 0) ∧ Below w2.heap.size w2 w') := by have h := check_t SA PA sc pc d w2 hl1 hl2 r1 q1; rw [chk_yes HD.out, HST.out] at h; exact h
      go_at_call 28
      refine K.mono ?_
      rintro e w3 ⟨rfl, hb⟩
      clear K
      replace r0 := r0.below hb
      replace r1 := r1.below hb
      replace q1 := q1.below hb
      replace x2 := x2.below hb x2.lt
      replace x3 := x3.below hb x3.lt
      replace x4 := x4.below hb x4.lt
      replace x5 := x5.below hb x5.lt
      replace hw := hw.trans (hb.mono hw.size)
      clear x3c0 x3c1 x3c2 x3c3 x3l
      clear hb
      have x2c0 := x2.cell 0
      have x2c1 := x2.cell 1
      have x2c2 := x2.cell 2
      simp only [List.getElem?_toArray, List.getElem?_cons_zero, List.getElem?_cons_succ] at x2c0 x2c1 x2c2
      have x2l := x2.lt
      have x3c0 := x3.cell 0
      have x3c1 := x3.cell 1
      have x3c2 := x3.cell 2
      have x3c3 := x3.cell 3
      simp only [List.getElem?_toArray, List.getElem?_cons_zero, List.getElem?_cons_succ] at x3c0 x3c1 x3c2 x3c3
      have x3l := x3.lt
      go_wp2_with (fail)
      have K : Calls Try.prog 44 #[.agg #[.slice SA d.secs.length sc, .slice PA d.pend.length pc, .int .i64 d.left, .bool false]] w3 (fun e w' => ∃ A c, e = .returned (.tuple #[.agg #[.slice A 0 c, .int .i64 0, .int .i64 0], .int .i64 1]) ∧ Below w3.heap.size w3 w') := by have h := open_t (n₀ := n₀) SA PA sc pc d w3 (Nat.le_trans hn hw.size) hl1 hl2 r1 q1; rw [HOP.out, HST.out] at h; exact h.mono fun e w9 hx => by obtain ⟨A, c, h1, -, -, h4⟩ := jn_out hx; exact ⟨A, c, h1, h4⟩
      go_at_call 44
      refine K.mono ?_
      rintro e w4 ⟨A9, c9, rfl, hb⟩
      clear K
      replace r0 := r0.below hb
      replace r1 := r1.below hb
      replace q1 := q1.below hb
      replace x2 := x2.below hb x2.lt
      replace x3 := x3.below hb x3.lt
      replace x4 := x4.below hb x4.lt
      replace x5 := x5.below hb x5.lt
      replace hw := hw.trans (hb.mono hw.size)
      clear x2c0 x2c1 x2c2 x2l x3c0 x3c1 x3c2 x3c3 x3l
      clear hb
      go_upto_region 10 with (fail)
      obtain ⟨W5, hW5⟩ : ∃ W, W = w4.alloc (.cells #[.slice A9 0 c9, .int .i64 0, .int .i64 0] 55) := ⟨_, rfl⟩
      rw [← hW5]
      have hb : Below w4.heap.size w4 W5 := by rw [hW5]; exact (Below.refl _ _).alloc (Nat.le_refl _) _
      have x9 : Blk W5 w4.heap.size 55 #[.slice A9 0 c9, .int .i64 0, .int .i64 0] := by rw [hW5]; exact Blk.new w4 55 _
      clear hW5
      replace r0 := r0.below hb
      replace r1 := r1.below hb
      replace q1 := q1.below hb
      replace x2 := x2.below hb x2.lt
      replace x3 := x3.below hb x3.lt
      replace x4 := x4.below hb x4.lt
      replace x5 := x5.below hb x5.lt
      replace hw := hw.trans (hb.mono hw.size)
      clear hb
      clear x9
      have x4c0 := x4.cell 0
      have x4f0 := x4.frozen 0
      have x4c1 := x4.cell 1
      have x4f1 := x4.frozen 1
      have x4c2 := x4.cell 2
      have x4f2 := x4.frozen 2
      simp only [List.getElem?_toArray, List.getElem?_cons_zero, List.getElem?_cons_succ] at x4c0 x4c1 x4c2
      have x4l := x4.lt
      have x5c0 := x5.cell 0
      have x5f0 := x5.frozen 0
      have x5c1 := x5.cell 1
      have x5f1 := x5.frozen 1
      have x5c2 := x5.cell 2
      have x5f2 := x5.frozen 2
      have x5c3 := x5.cell 3
      have x5f3 := x5.frozen 3
      simp only [List.getElem?_toArray, List.getElem?_cons_zero, List.getElem?_cons_succ] at x5c0 x5c1 x5c2 x5c3
      have x5l := x5.lt
      have HWW := Lib.hid hw
      clear hw
      go_wp2
      refine bodyPost_ret (v := .tuple #[.agg #[.slice none 0 0, .int .i64 0, .int .i64 0], .agg #[.slice none 0 0, .slice none 0 0, .int .i64 0, .bool false], .int .i64 1]) (by simp [results, Try.results53, go_sem, x4c0, x4c1, x4c2, x5c0, x5c1, x5c2, x5c3]) rfl ?_
      rw [E.out]
      exact js_no (by repeat (first | with_reducible exact HWW.out | refine Below.setCell ?_ (by simp <;> omega) _))
    have HOP := Lib.hid (gOpen_ok k1 hst k3)
    have dm : (j.many != (d.secs.length : Int)) = false := by rw [k2]; simp
    have HK := Lib.hid (And.intro k0 (And.intro k1 (And.intro k2 (And.intro hst k3))))
    have h128 : ∀ b ∈ d.secs, b.length = 128 := k1.2.2.2.2.2.2
    have H128 := Lib.hid h128
    have hll : d.secs.length ≤ 4096 := k1.2.1
    have hgle := genN_le d.secs h128
    obtain ⟨os, hos⟩ : ∃ l, l = gRecs d.secs := ⟨_, rfl⟩
    have HOS := Lib.hid hos
    have hosl : os.length ≤ 4096 := by rw [hos]; unfold gRecs; rw [List.length_map]; exact Nat.le_trans (recs_len _ _ _ _) hll
    have hjs0 : 0 ≤ j.sync := k0.2.2.1
    have hjs1 : j.sync ≤ j.recs.length := k0.2.2.2.1
    clear k0 k1 k2 k3 hst hos h128
    go_enter Try.func53, Try.ntmps53
    go_wp2_with (fail)
    obtain ⟨W1, hW1⟩ : ∃ W, W = ((((w.alloc (.cells #[.slice RA j.recs.length rc, .int .i64 j.many, .int .i64 j.sync] 55)).alloc (.cells #[.slice SA d.secs.length sc, .slice PA d.pend.length pc, .int .i64 d.left, .bool false] 25)).alloc (.cells #[.slice none 0 0, .int .i64 0, .int .i64 0] 55)).alloc (.cells #[.slice none 0 0, .slice none 0 0, .int .i64 0, .bool false] 25)) := ⟨_, rfl⟩
    rw [← hW1]
    have hb : Below w.heap.size w W1 := by rw [hW1]; exact ((((Below.refl _ w).alloc (Nat.le_refl _) _).alloc (by simp) _).alloc (by simp <;> omega) _).alloc (by simp <;> omega) _
    have x2 : Blk W1 w.heap.size 55 #[.slice RA j.recs.length rc, .int .i64 j.many, .int .i64 j.sync] := by rw [hW1]; exact (((Blk.new w 55 _).alloc _).alloc _).alloc _
    have x3 : Blk W1 (w.heap.size + 1) 25 #[.slice SA d.secs.length sc, .slice PA d.pend.length pc, .int .i64 d.left, .bool false] := by rw [hW1]; exact ((Blk.newAt (by simp) 25 _).alloc _).alloc _
    have x4 : Blk W1 (w.heap.size + 1 + 1) 55 #[.slice none 0 0, .int .i64 0, .int .i64 0] := by rw [hW1]; exact (Blk.newAt (by simp) 55 _).alloc _
    have x5 : Blk W1 (w.heap.size + 1 + 1 + 1) 25 #[.slice none 0 0, .slice none 0 0, .int .i64 0, .bool false] := by rw [hW1]; exact Blk.newAt (by simp) 25 _
    clear hW1
    replace r0 := r0.below hb
    replace r1 := r1.below hb
    replace q1 := q1.below hb
    have hw := hb
    clear hb
    have x2c0 := x2.cell 0
    have x2c1 := x2.cell 1
    have x2c2 := x2.cell 2
    simp only [List.getElem?_toArray, List.getElem?_cons_zero, List.getElem?_cons_succ] at x2c0 x2c1 x2c2
    have x2l := x2.lt
    go_wp2_with (fail)
    have K : Calls Try.prog 49 #[.agg #[.slice RA j.recs.length rc, .int .i64 j.many, .int .i64 j.sync]] W1 (fun e w' => e = .returned (.int .i64 0) ∧ Below W1.heap.size W1 w') := by have h := jcheck_t RA rc j W1 HS.out r0; rw [jchk_yes HJ.out] at h; exact h
    go_at_call 49
    refine K.mono ?_
    rintro e w2 ⟨rfl, hb⟩
    clear K
    replace r0 := r0.below hb
    replace r1 := r1.below hb
    replace q1 := q1.below hb
    replace x2 := x2.below hb x2.lt
    replace x3 := x3.below hb x3.lt
    replace x4 := x4.below hb x4.lt
    replace x5 := x5.below hb x5.lt
    replace hw := hw.trans (hb.mono hw.size)
    clear x2c0 x2c1 x2c2 x2l
    clear hb
    have x3c0 := x3.cell 0
    have x3c1 := x3.cell 1
    have x3c2 := x3.cell 2
    have x3c3 := x3.cell 3
    simp only [List.getElem?_toArray, List.getElem?_cons_zero, List.getElem?_cons_succ] at x3c0 x3c1 x3c2 x3c3
    have x3l := x3.lt
    go_wp2_with (fail)
    have K : Calls Try.prog 28 #[.agg #[.slice SA d.secs.length sc, .slice PA d.pend.length pc, .int .i64 d.left, .bool false]] w2 (fun e w' => e = .returned (.int .i64 0) ∧ Below w2.heap.size w2 w') := by have h := check_t SA PA sc pc d w2 hl1 hl2 r1 q1; rw [chk_yes HD.out, HST.out] at h; exact h
    go_at_call 28
    refine K.mono ?_
    rintro e w3 ⟨rfl, hb⟩
    clear K
    replace r0 := r0.below hb
    replace r1 := r1.below hb
    replace q1 := q1.below hb
    replace x2 := x2.below hb x2.lt
    replace x3 := x3.below hb x3.lt
    replace x4 := x4.below hb x4.lt
    replace x5 := x5.below hb x5.lt
    replace hw := hw.trans (hb.mono hw.size)
    clear x3c0 x3c1 x3c2 x3c3 x3l
    clear hb
    have x2c0 := x2.cell 0
    have x2c1 := x2.cell 1
    have x2c2 := x2.cell 2
    simp only [List.getElem?_toArray, List.getElem?_cons_zero, List.getElem?_cons_succ] at x2c0 x2c1 x2c2
    have x2l := x2.lt
    have x3c0 := x3.cell 0
    have x3c1 := x3.cell 1
    have x3c2 := x3.cell 2
    have x3c3 := x3.cell 3
    simp only [List.getElem?_toArray, List.getElem?_cons_zero, List.getElem?_cons_succ] at x3c0 x3c1 x3c2 x3c3
    have x3l := x3.lt
    go_wp2_with (fail)
    have K : Calls Try.prog 44 #[.agg #[.slice SA d.secs.length sc, .slice PA d.pend.length pc, .int .i64 d.left, .bool false]] w3 (fun e w' => ∃ A c, e = .returned (.tuple #[.agg #[.slice A os.length c, .int .i64 (d.secs.length : Nat), .int .i64 (os.length : Nat)], .int .i64 0]) ∧ os.length ≤ c ∧ RowsAt n₀ w' A os ∧ Below w3.heap.size w3 w') := by have h := open_t (n₀ := n₀) SA PA sc pc d w3 (Nat.le_trans hn hw.size) hl1 hl2 r1 q1; rw [HOP.out, HST.out, ← HOS.out] at h; exact h.mono fun e w9 hx => jn_out hx
    go_at_call 44
    refine K.mono ?_
    rintro e w4 ⟨A9, c9, rfl, hc9, r9, hb⟩
    clear K
    replace r0 := r0.below hb
    replace r1 := r1.below hb
    replace q1 := q1.below hb
    replace x2 := x2.below hb x2.lt
    replace x3 := x3.below hb x3.lt
    replace x4 := x4.below hb x4.lt
    replace x5 := x5.below hb x5.lt
    replace hw := hw.trans (hb.mono hw.size)
    clear x2c0 x2c1 x2c2 x2l x3c0 x3c1 x3c2 x3c3 x3l
    clear hb
    go_upto_region 10 with (fail)
    obtain ⟨W5, hW5⟩ : ∃ W, W = w4.alloc (.cells #[.slice A9 os.length c9, .int .i64 (d.secs.length : Nat), .int .i64 (os.length : Nat)] 55) := ⟨_, rfl⟩
    rw [← hW5]
    have hb : Below w4.heap.size w4 W5 := by rw [hW5]; exact (Below.refl _ _).alloc (Nat.le_refl _) _
    have x9 : Blk W5 w4.heap.size 55 #[.slice A9 os.length c9, .int .i64 (d.secs.length : Nat), .int .i64 (os.length : Nat)] := by rw [hW5]; exact Blk.new w4 55 _
    clear hW5
    replace r0 := r0.below hb
    replace r1 := r1.below hb
    replace q1 := q1.below hb
    replace r9 := r9.below hb
    replace x2 := x2.below hb x2.lt
    replace x3 := x3.below hb x3.lt
    replace x4 := x4.below hb x4.lt
    replace x5 := x5.below hb x5.lt
    replace hw := hw.trans (hb.mono hw.size)
    clear hb
    obtain ⟨m, hjm⟩ : ∃ m : Nat, j.sync = (m : Int) := ⟨j.sync.toNat, by omega⟩
    have hmr : m ≤ j.recs.length := by omega
    have HJM := Lib.hid hjm
    clear hjs0 hjs1 dm hjm
    have x3c0 := x3.cell 0
    have x3c1 := x3.cell 1
    have x3c2 := x3.cell 2
    have x3c3 := x3.cell 3
    simp only [List.getElem?_toArray, List.getElem?_cons_zero, List.getElem?_cons_succ] at x3c0 x3c1 x3c2 x3c3
    have x3l := x3.lt
    go_wp2_with (fail)
    go_loopw [10, 59] (fun v10 v59 wr => ∃ i : Nat, i ≤ d.secs.length ∧ v59 = .int .i64 i ∧ v10 = .int .u64 (genN (d.secs.take i) : Nat) ∧ Below W5.heap.size W5 wr) (fun _ v59 _ => d.secs.length - (intOf v59).toNat)
    case atStart => exact ⟨0, by omega, rfl, rfl, Below.refl _ _⟩
    case round =>
      obtain ⟨i, hi, rfl, rfl, hwr⟩ := hrel
      have hwr0 := hwr
      replace r0 := r0.below hwr
      replace r1 := r1.below hwr
      replace q1 := q1.below hwr
      replace r9 := r9.below hwr
      replace x2 := x2.below hwr x2.lt
      replace x3 := x3.below hwr x3.lt
      replace x4 := x4.below hwr x4.lt
      replace x5 := x5.below hwr x5.lt
      replace x9 := x9.below hwr x9.lt
      replace hw := hw.trans (hwr.mono hw.size)
      clear x3c0 x3c1 x3c2 x3c3 x3l
      clear hwr
      by_cases hlt : i < d.secs.length
      case pos =>
        obtain ⟨b, o, hSA, lb, hget⟩ := r1.get (by omega)
        subst hSA
        obtain ⟨A1, c1, z1, hc1, hbs1⟩ := hget i hlt
        have hs1 := H128.out _ (mem_getD hlt)
        have hgt := genN_take d.secs i hlt
        have hgi := genN_le (d.secs.take i) (fun b hb => H128.out b (List.mem_of_mem_take hb))
        obtain ⟨s, hs⟩ : ∃ s, s = d.secs.getD i [] := ⟨_, rfl⟩
        rw [← hs] at z1 hc1 hbs1 hs1 hgt
        rw [hs1] at z1 hc1
        obtain ⟨b1, o1, rfl, lb1, -⟩ := id hbs1 (by omega)
        have hl4 : (s.take 4).length = 4 := by rw [List.length_take, hs1]; rfl
        have hl5 : (s.drop 124).length = 4 := by rw [List.length_drop, hs1]
        have hga : ∀ W, Below wr.heap.size wr W → Calls Try.prog 88 #[.slice (some ⟨b1, o1, none⟩) 4 c1] W (fun e w' => e = .returned (.int .u64 (sGen s : Nat)) ∧ w' = W) := fun W hW => by
          have g4 : BsAt n₀ W (some ⟨b1, o1, none⟩) (s.take 4) := by have h := bs_part (hbs1.below hW) 0 4 (by omega); simpa using h
          have K := get_t (some ⟨b1, o1, none⟩) c1 (s.take 4) W (by rw [hl4]; decide) g4
          rw [hl4] at K
          exact K
        have hgb : ∀ W, Below wr.heap.size wr W → Calls Try.prog 88 #[.slice (some ⟨b1, o1 + 124, none⟩) 4 (c1 - 124)] W (fun e w' => e = .returned (.int .u64 (sEnd s : Nat)) ∧ w' = W) := fun W hW => by
          have g4 : BsAt n₀ W (some ⟨b1, o1 + 124, none⟩) (s.drop 124) := by have h := bs_part (hbs1.below hW) 124 4 (by omega); rw [List.take_of_length_le (by omega)] at h; exact h
          have K := get_t (some ⟨b1, o1 + 124, none⟩) (c1 - 124) (s.drop 124) W (by rw [hl5]; decide) g4
          rw [hl5] at K
          exact K
        have hgl : sGen s ≤ 4294967295 := getL4_le hl4
        have hel : sEnd s ≤ 4294967295 := getL4_le hl5
        obtain ⟨ga, hgae⟩ : ∃ x, x = sGen s := ⟨_, rfl⟩
        obtain ⟨gb, hgbe⟩ : ∃ x, x = sEnd s := ⟨_, rfl⟩
        rw [← hgae] at hga hgl hgt
        rw [← hgbe] at hgb hel hgt
        obtain ⟨gi, hgie⟩ : ∃ x, x = genN (d.secs.take i) := ⟨_, rfl⟩
        rw [← hgie] at hgt hgi
        rw [← hgie]
        have HGA := Lib.hid hga
        have HGB := Lib.hid hgb
        have HGT := Lib.hid hgt
        have c128 : (128 : Int) ≤ (c1 : Int) := by omega
        have c4 : (4 : Int) ≤ (c1 : Int) := by omega
        have n6 : ¬ c1 = 124 := by omega
        have i1 : (i : Int) < (d.secs.length : Int) := by omega
        have i0 : (0 : Int) ≤ (i : Int) := by omega
        have u1 : IntKind.u64.wrap ((ga : Int) + 1) = ga + 1 := IntWalk.u64_in _ (by omega)
        have u2 : IntKind.u64.wrap ((gb : Int) + 1) = gb + 1 := IntWalk.u64_in _ (by omega)
        clear hget hgt hga hgb hs hgae hgbe hgie hl4 hl5 hbs1 hs1
        go_upto_region 16 with (fail)
        refine wp_region_held_drew (S := fun W => Below wr.heap.size wr W) (by kernel_rfl) ((Below.refl _ _).drew) (fun hHeld => ?_)
        refine tkA 0 oJs0 ?_
        refine tkA 1 oJs1 ?_
        refine tkA 2 oJs2 ?_
        refine tkA 5 oJs3 ?_
        refine tkA 6 oJs4 ?_
        refine wpAnyH_ready (rs := [3]) (by kernel_rfl) (by simp) ?_
        refine AllReadyH.cons (o := oJs5) rfl (fun K hK => ?_) AllReadyH.nil
        go_simp
        go_at_call 88; refine (HGA.out _ hHeld).mono ?_; rintro e w8 ⟨rfl, hw8⟩; have hw8 := hw8.symm; subst hw8
        refine hK.out _ _ ?_ (fun hHeld => ?_)
        · exact hHeld
        clear hK K
        try simp only [Act.put, List.setIfInBounds_toArray, List.set_cons_zero, List.set_cons_succ]
        refine tkA 4 oJs6 ?_
        refine wpAnyH_ready (rs := [7]) (by kernel_rfl) (by simp) ?_
        refine AllReadyH.cons (o := oJs7) rfl (fun K hK => ?_) AllReadyH.nil
        go_simp
        go_at_call 88; refine (HGB.out _ hHeld).mono ?_; rintro e w8 ⟨rfl, hw8⟩; have hw8 := hw8.symm; subst hw8
        refine hK.out _ _ ?_ (fun hHeld => ?_)
        · exact hHeld
        clear hK K
        try simp only [Act.put, List.setIfInBounds_toArray, List.set_cons_zero, List.set_cons_succ]
        refine tkA 8 oJs8 ?_
        refine wpAnyH_ready (rs := [9]) (by kernel_rfl) (by simp) ?_
        refine AllReadyH.cons (o := oJs9) rfl (fun K hK => ?_) AllReadyH.nil
        go_simp
        refine hK.out _ _ ?_ (fun hHeld => ?_)
        · exact hHeld
        clear hK K
        try simp only [Act.put, List.setIfInBounds_toArray, List.set_cons_zero, List.set_cons_succ]
        refine wpAnyH_ready (rs := [10]) (by kernel_rfl) (by simp) ?_
        refine AllReadyH.cons (o := oJs10) rfl (fun K hK => ?_) AllReadyH.nil
        go_simp
        refine hK.out _ _ ?_ (fun hHeld => ?_)
        · exact hHeld
        clear hK K
        try simp only [Act.put, List.setIfInBounds_toArray, List.set_cons_zero, List.set_cons_succ]
        refine wpAnyH_done (by kernel_rfl) ?_ _

        go_wp2_with (fail)
        go_roundw
        case rel => exact ⟨i + 1, by omega, by go_num, congrArg (Value.int .u64) (by have := HGT.out; omega), hwr0.trans (hHeld.mono hwr0.size)⟩
        case measure => simp [intOf]; omega
      case neg =>
        obtain rfl : i = d.secs.length := by omega
        rw [List.take_length]
        clear hlt hi hwr0
        obtain ⟨gn, hgn⟩ : ∃ x, x = genN d.secs := ⟨_, rfl⟩
        rw [← hgn] at hgle
        rw [← hgn]
        have HGN := Lib.hid hgn
        clear hgn
        have hjm := HJM.out
        have hz : ∀ a : Option Addr, a.map (fun x => x.add 0) = a := fun a => by cases a <;> simp [Addr.add]
        obtain ⟨yq, hyq⟩ : ∃ y, y = decide (os = j.recs.take m) := ⟨_, rfl⟩
        have HYQ := Lib.hid hyq
        have hq : ∀ W, Below wr.heap.size wr W → Calls Try.prog 89 #[.slice A9 os.length c9, .slice RA m rc, .func (.func 90) #[] #[]] W (fun e w' => e = .returned (.bool yq) ∧ w' = W) := fun W hW => by
          have hl : (j.recs.take m).length = m := by rw [List.length_take]; omega
          have K := eqf_t A9 RA c9 rc os (j.recs.take m) W (by omega) (by rw [hl]; omega) (r9.below hW) (rows_take (r0.below hW) m)
          rw [hl, ← hyq] at K
          exact K
        have HEQ := Lib.hid hq
        clear hyq hq
        have m1 : (m : Int) ≤ (rc : Int) := by omega
        have m0 : (0 : Int) ≤ (m : Int) := by omega
        have x9c0 := x9.cell 0
        have x9c1 := x9.cell 1
        have x9c2 := x9.cell 2
        simp only [List.getElem?_toArray, List.getElem?_cons_zero, List.getElem?_cons_succ] at x9c0 x9c1 x9c2
        have x9l := x9.lt
        have x2c0 := x2.cell 0
        have x2c1 := x2.cell 1
        have x2c2 := x2.cell 2
        simp only [List.getElem?_toArray, List.getElem?_cons_zero, List.getElem?_cons_succ] at x2c0 x2c1 x2c2
        have x2l := x2.lt
        rw [hjm] at x2c2
        clear hjm
        go_upto_region 18 with (fail)
        cases yq
        case false =>
          refine wp_region_held_drew (S := (fun W => W.cell? ⟨w4.heap.size, 0, none⟩ = some (.slice A9 os.length c9) ∧ W.cell? ⟨w.heap.size, 0, none⟩ = some (.slice RA j.recs.length rc) ∧ W.cell? ⟨w.heap.size, 2, none⟩ = some (.int .i64 (m : Int)) ∧ Below wr.heap.size wr W)) (by kernel_rfl) ⟨x9c0, x2c0, x2c2, (Below.refl _ _).drew⟩ (fun hHeld => ?_)
          refine tkA 0 oJs11 ?_
          refine tkA 1 oJs12 ?_
          refine tkA 2 oJs13 ?_
          refine tkA 3 oJs14 ?_
          refine tkA 4 oJs15 ?_
          refine tkA 5 oJs16 ?_
          refine tkA 6 oJs17 ?_
          refine wpAnyH_ready (rs := [7]) (by kernel_rfl) (by simp) ?_
          refine AllReadyH.cons (o := oJs18) rfl (fun K hK => ?_) AllReadyH.nil
          go_simp
          go_at_call 89; refine (HEQ.out _ hHeld.2.2.2).mono ?_; rintro e w8 ⟨rfl, hw8⟩; have hw8 := hw8.symm; subst hw8
          refine hK.out _ _ ?_ (fun hHeld => ?_)
          · exact hHeld
          clear hK K
          try simp only [Act.put, List.setIfInBounds_toArray, List.set_cons_zero, List.set_cons_succ]
          refine tkA 8 oJs19 ?_
          refine tkA 9 oJs20 ?_
          refine tkB 10 oJs21 ?_
          refine tkB 11 oJs22 ?_
          refine tkB 12 oJs23 ?_
          refine tkA 13 oJs24 ?_
          refine wpAnyH_done (by kernel_rfl) ?_ _

          clear hHeld
          obtain ⟨W6, hW6⟩ : ∃ W, W = wr.drew := ⟨_, rfl⟩
          rw [← hW6]
          have hb : Below wr.heap.size wr W6 := by rw [hW6]; exact (Below.refl _ _).drew
          clear hW6
          replace r0 := r0.below hb
          replace r1 := r1.below hb
          replace q1 := q1.below hb
          replace r9 := r9.below hb
          replace x2 := x2.below hb x2.lt
          replace x3 := x3.below hb x3.lt
          replace x4 := x4.below hb x4.lt
          replace x5 := x5.below hb x5.lt
          replace x9 := x9.below hb x9.lt
          replace hw := hw.trans (hb.mono hw.size)
          clear x9c0 x9c1 x9c2 x9l x2c0 x2c1 x2c2 x2l
          clear hb
          have E := Lib.hid (gJs_log (j := j) (d := d) HK.out.1 HK.out.2.1 HK.out.2.2.1 HK.out.2.2.2.1 HK.out.2.2.2.2 (fun h => by
            have h1 := h.1
            rw [HJM.out, Int.toNat_natCast, ← HOS.out] at h1
            exact of_decide_eq_false HYQ.out.symm h1))
          have x4c0 := x4.cell 0
          have x4f0 := x4.frozen 0
          have x4c1 := x4.cell 1
          have x4f1 := x4.frozen 1
          have x4c2 := x4.cell 2
          have x4f2 := x4.frozen 2
          simp only [List.getElem?_toArray, List.getElem?_cons_zero, List.getElem?_cons_succ] at x4c0 x4c1 x4c2
          have x4l := x4.lt
          have x5c0 := x5.cell 0
          have x5f0 := x5.frozen 0
          have x5c1 := x5.cell 1
          have x5f1 := x5.frozen 1
          have x5c2 := x5.cell 2
          have x5f2 := x5.frozen 2
          have x5c3 := x5.cell 3
          have x5f3 := x5.frozen 3
          simp only [List.getElem?_toArray, List.getElem?_cons_zero, List.getElem?_cons_succ] at x5c0 x5c1 x5c2 x5c3
          have x5l := x5.lt
          have HWW := Lib.hid hw
          clear hw
          go_wp2
          refine bodyPost_ret (v := .tuple #[.agg #[.slice none 0 0, .int .i64 0, .int .i64 0], .agg #[.slice none 0 0, .slice none 0 0, .int .i64 0, .bool false], .int .i64 50]) (by simp [results, Try.results53, go_sem, x4c0, x4c1, x4c2, x5c0, x5c1, x5c2, x5c3]) rfl ?_
          rw [E.out]
          exact js_no (by repeat (first | with_reducible exact HWW.out | refine Below.setCell ?_ (by simp <;> omega) _))
        have hoq : os = j.recs.take m := of_decide_eq_true HYQ.out.symm
        have HOQ := Lib.hid hoq
        clear hoq
        by_cases kg : gn < 4294967296
        case neg =>
          obtain rfl : gn = 4294967296 := by omega
          clear kg hgle
          refine wp_region_held_drew (S := (fun W => W.cell? ⟨w4.heap.size, 0, none⟩ = some (.slice A9 os.length c9) ∧ W.cell? ⟨w.heap.size, 0, none⟩ = some (.slice RA j.recs.length rc) ∧ W.cell? ⟨w.heap.size, 2, none⟩ = some (.int .i64 (m : Int)) ∧ Below wr.heap.size wr W)) (by kernel_rfl) ⟨x9c0, x2c0, x2c2, (Below.refl _ _).drew⟩ (fun hHeld => ?_)
          refine tkA 0 oJs11 ?_
          refine tkA 1 oJs12 ?_
          refine tkA 2 oJs13 ?_
          refine tkA 3 oJs14 ?_
          refine tkA 4 oJs15 ?_
          refine tkA 5 oJs16 ?_
          refine tkA 6 oJs17 ?_
          refine wpAnyH_ready (rs := [7]) (by kernel_rfl) (by simp) ?_
          refine AllReadyH.cons (o := oJs18) rfl (fun K hK => ?_) AllReadyH.nil
          go_simp
          go_at_call 89; refine (HEQ.out _ hHeld.2.2.2).mono ?_; rintro e w8 ⟨rfl, hw8⟩; have hw8 := hw8.symm; subst hw8
          refine hK.out _ _ ?_ (fun hHeld => ?_)
          · exact hHeld
          clear hK K
          try simp only [Act.put, List.setIfInBounds_toArray, List.set_cons_zero, List.set_cons_succ]
          refine tkA 8 oJs19 ?_
          refine tkA 9 oJs20 ?_
          refine tkA 10 oJs21 ?_
          refine tkA 11 oJs22 ?_
          refine tkA 12 oJs23 ?_
          refine tkA 13 oJs24 ?_
          refine wpAnyH_done (by kernel_rfl) ?_ _

          clear hHeld
          obtain ⟨W6, hW6⟩ : ∃ W, W = wr.drew := ⟨_, rfl⟩
          rw [← hW6]
          have hb : Below wr.heap.size wr W6 := by rw [hW6]; exact (Below.refl _ _).drew
          clear hW6
          replace r0 := r0.below hb
          replace r1 := r1.below hb
          replace q1 := q1.below hb
          replace r9 := r9.below hb
          replace x2 := x2.below hb x2.lt
          replace x3 := x3.below hb x3.lt
          replace x4 := x4.below hb x4.lt
          replace x5 := x5.below hb x5.lt
          replace x9 := x9.below hb x9.lt
          replace hw := hw.trans (hb.mono hw.size)
          clear x9c0 x9c1 x9c2 x9l x2c0 x2c1 x2c2 x2l
          clear hb
          have E := Lib.hid (gJs_log (j := j) (d := d) HK.out.1 HK.out.2.1 HK.out.2.2.1 HK.out.2.2.2.1 HK.out.2.2.2.2 (fun h => by
            have h1 := h.2
            rw [← HGN.out] at h1
            exact absurd h1 (by decide)))
          have x4c0 := x4.cell 0
          have x4f0 := x4.frozen 0
          have x4c1 := x4.cell 1
          have x4f1 := x4.frozen 1
          have x4c2 := x4.cell 2
          have x4f2 := x4.frozen 2
          simp only [List.getElem?_toArray, List.getElem?_cons_zero, List.getElem?_cons_succ] at x4c0 x4c1 x4c2
          have x4l := x4.lt
          have x5c0 := x5.cell 0
          have x5f0 := x5.frozen 0
          have x5c1 := x5.cell 1
          have x5f1 := x5.frozen 1
          have x5c2 := x5.cell 2
          have x5f2 := x5.frozen 2
          have x5c3 := x5.cell 3
          have x5f3 := x5.frozen 3
          simp only [List.getElem?_toArray, List.getElem?_cons_zero, List.getElem?_cons_succ] at x5c0 x5c1 x5c2 x5c3
          have x5l := x5.lt
          have HWW := Lib.hid hw
          clear hw
          go_wp2
          refine bodyPost_ret (v := .tuple #[.agg #[.slice none 0 0, .int .i64 0, .int .i64 0], .agg #[.slice none 0 0, .slice none 0 0, .int .i64 0, .bool false], .int .i64 50]) (by simp [results, Try.results53, go_sem, x4c0, x4c1, x4c2, x5c0, x5c1, x5c2, x5c3]) rfl ?_
          rw [E.out]
          exact js_no (by repeat (first | with_reducible exact HWW.out | refine Below.setCell ?_ (by simp <;> omega) _))
        have hsh : ((gn : Int) / 4294967296 != 0) = false := by
          have h : (gn : Int) / 4294967296 = 0 := by omega
          rw [h]
          rfl
        refine wp_region_held_drew (S := (fun W => W.cell? ⟨w4.heap.size, 0, none⟩ = some (.slice A9 os.length c9) ∧ W.cell? ⟨w.heap.size, 0, none⟩ = some (.slice RA j.recs.length rc) ∧ W.cell? ⟨w.heap.size, 2, none⟩ = some (.int .i64 (m : Int)) ∧ Below wr.heap.size wr W)) (by kernel_rfl) ⟨x9c0, x2c0, x2c2, (Below.refl _ _).drew⟩ (fun hHeld => ?_)
        refine tkA 0 oJs11 ?_
        refine tkA 1 oJs12 ?_
        refine tkA 2 oJs13 ?_
        refine tkA 3 oJs14 ?_
        refine tkA 4 oJs15 ?_
        refine tkA 5 oJs16 ?_
        refine tkA 6 oJs17 ?_
        refine wpAnyH_ready (rs := [7]) (by kernel_rfl) (by simp) ?_
        refine AllReadyH.cons (o := oJs18) rfl (fun K hK => ?_) AllReadyH.nil
        go_simp
        go_at_call 89; refine (HEQ.out _ hHeld.2.2.2).mono ?_; rintro e w8 ⟨rfl, hw8⟩; have hw8 := hw8.symm; subst hw8
        refine hK.out _ _ ?_ (fun hHeld => ?_)
        · exact hHeld
        clear hK K
        try simp only [Act.put, List.setIfInBounds_toArray, List.set_cons_zero, List.set_cons_succ]
        refine tkA 8 oJs19 ?_
        refine tkA 9 oJs20 ?_
        refine tkA 10 oJs21 ?_
        refine tkA 11 oJs22 ?_
        refine tkA 12 oJs23 ?_
        refine tkA 13 oJs24 ?_
        refine wpAnyH_done (by kernel_rfl) ?_ _

        clear hHeld
        obtain ⟨W6, hW6⟩ : ∃ W, W = wr.drew := ⟨_, rfl⟩
        rw [← hW6]
        have hb : Below wr.heap.size wr W6 := by rw [hW6]; exact (Below.refl _ _).drew
        clear hW6
        replace r0 := r0.below hb
        replace r1 := r1.below hb
        replace q1 := q1.below hb
        replace r9 := r9.below hb
        replace x2 := x2.below hb x2.lt
        replace x3 := x3.below hb x3.lt
        replace x4 := x4.below hb x4.lt
        replace x5 := x5.below hb x5.lt
        replace x9 := x9.below hb x9.lt
        replace hw := hw.trans (hb.mono hw.size)
        clear x9c0 x9c1 x9c2 x9l x2c0 x2c1 x2c2 x2l
        clear hb
        clear hsh HEQ hz
        have HF : Hid (Fits j d) := Lib.hid ⟨HK.out.1, HK.out.2.1, HK.out.2.2.1, HK.out.2.2.2.1, List.eq_nil_of_length_eq_zero (by have := HK.out.2.2.2.2; omega), by rw [← HOS.out, HJM.out, Int.toNat_natCast]; exact HOQ.out, by rw [← HGN.out]; exact kg⟩
        clear r9
        clear x9
        by_cases ks : m = j.recs.length
        case pos =>
          have E := Lib.hid (gJs_same HF.out (by rw [HJM.out, ks]))
          have dk : ((m : Int) == (j.recs.length : Int)) = true := by rw [ks]; simp
          have x2c0 := x2.cell 0
          have x2c1 := x2.cell 1
          have x2c2 := x2.cell 2
          simp only [List.getElem?_toArray, List.getElem?_cons_zero, List.getElem?_cons_succ] at x2c0 x2c1 x2c2
          have x2l := x2.lt
          have x3c0 := x3.cell 0
          have x3c1 := x3.cell 1
          have x3c2 := x3.cell 2
          have x3c3 := x3.cell 3
          simp only [List.getElem?_toArray, List.getElem?_cons_zero, List.getElem?_cons_succ] at x3c0 x3c1 x3c2 x3c3
          have x3l := x3.lt
          have x4c0 := x4.cell 0
          have x4f0 := x4.frozen 0
          have x4c1 := x4.cell 1
          have x4f1 := x4.frozen 1
          have x4c2 := x4.cell 2
          have x4f2 := x4.frozen 2
          simp only [List.getElem?_toArray, List.getElem?_cons_zero, List.getElem?_cons_succ] at x4c0 x4c1 x4c2
          have x4l := x4.lt
          have x5c0 := x5.cell 0
          have x5f0 := x5.frozen 0
          have x5c1 := x5.cell 1
          have x5f1 := x5.frozen 1
          have x5c2 := x5.cell 2
          have x5f2 := x5.frozen 2
          have x5c3 := x5.cell 3
          have x5f3 := x5.frozen 3
          simp only [List.getElem?_toArray, List.getElem?_cons_zero, List.getElem?_cons_succ] at x5c0 x5c1 x5c2 x5c3
          have x5l := x5.lt
          rw [HJM.out] at x2c2
          have HWW := Lib.hid hw
          clear hw ks
          go_upto_region 21 with (fail)
          go_region
          all_goals
           obtain ⟨WE, hWE⟩ : ∃ W, W = (((((((W6.setCell ⟨(w.heap.size + 1 + 1), 0, none⟩ (.slice RA j.recs.length rc)).setCell ⟨(w.heap.size + 1 + 1), 1, none⟩ (.int .i64 j.many)).setCell ⟨(w.heap.size + 1 + 1), 2, none⟩ (.int .i64 (m : Int))).setCell ⟨(w.heap.size + 1 + 1 + 1), 0, none⟩ (.slice SA d.secs.length sc)).setCell ⟨(w.heap.size + 1 + 1 + 1), 1, none⟩ (.slice PA d.pend.length pc)).setCell ⟨(w.heap.size + 1 + 1 + 1), 2, none⟩ (.int .i64 d.left)).setCell ⟨(w.heap.size + 1 + 1 + 1), 3, none⟩ (.bool false)).drew := ⟨_, rfl⟩
           rw [← hWE]
           have hk : Keep (fun r => r = (w.heap.size + 1 + 1) ∨ r = (w.heap.size + 1 + 1 + 1)) W6 WE := by rw [hWE]; refine Keep.drew ?_; repeat (first | with_reducible exact Keep.refl _ _ | refine Keep.setCell ?_ (fun _ => by simp) _)
           have y4a := (((((((x4.set 0 (.slice RA j.recs.length rc)).set 1 (.int .i64 j.many)).set 2 (.int .i64 (m : Int))).other (p := ⟨(w.heap.size + 1 + 1 + 1), 0, none⟩) (by simp) (.slice SA d.secs.length sc)).other (p := ⟨(w.heap.size + 1 + 1 + 1), 1, none⟩) (by simp) (.slice PA d.pend.length pc)).other (p := ⟨(w.heap.size + 1 + 1 + 1), 2, none⟩) (by simp) (.int .i64 d.left)).other (p := ⟨(w.heap.size + 1 + 1 + 1), 3, none⟩) (by simp) (.bool false))
           have y5a := (((((((x5.other (p := ⟨(w.heap.size + 1 + 1), 0, none⟩) (by simp) (.slice RA j.recs.length rc)).other (p := ⟨(w.heap.size + 1 + 1), 1, none⟩) (by simp) (.int .i64 j.many)).other (p := ⟨(w.heap.size + 1 + 1), 2, none⟩) (by simp) (.int .i64 (m : Int))).set 0 (.slice SA d.secs.length sc)).set 1 (.slice PA d.pend.length pc)).set 2 (.int .i64 d.left)).set 3 (.bool false))
           simp only [List.setIfInBounds_toArray, List.set_cons_zero, List.set_cons_succ] at y4a y5a
           have y4 : Blk WE (w.heap.size + 1 + 1) 55 #[.slice RA j.recs.length rc, .int .i64 j.many, .int .i64 (m : Int)] := by rw [hWE]; exact blk_drew y4a
           have y5 : Blk WE (w.heap.size + 1 + 1 + 1) 25 #[.slice SA d.secs.length sc, .slice PA d.pend.length pc, .int .i64 d.left, .bool false] := by rw [hWE]; exact blk_drew y5a
           clear y4a y5a
           have hm := Boxes.two (n₀ := n₀) x4 rfl (Nat.le_trans hn (by omega)) x5 rfl (Nat.le_trans hn (by omega))
           replace r0 := r0.keep hk hm
           replace r1 := r1.keep hk hm
           replace q1 := q1.keep hk hm
           have hwE : Below w.heap.size w WE := HWW.out.trans (hk.below HWW.out.size (fun r hr h => by rcases h with h | h <;> omega))
           clear hWE hk hm
           have y4c0 := y4.cell 0
           have y4c1 := y4.cell 1
           have y4c2 := y4.cell 2
           simp only [List.getElem?_toArray, List.getElem?_cons_zero, List.getElem?_cons_succ] at y4c0 y4c1 y4c2
           have y5c0 := y5.cell 0
           have y5c1 := y5.cell 1
           have y5c2 := y5.cell 2
           have y5c3 := y5.cell 3
           simp only [List.getElem?_toArray, List.getElem?_cons_zero, List.getElem?_cons_succ] at y5c0 y5c1 y5c2 y5c3
           go_wp2
           refine bodyPost_ret (v := .tuple #[.agg #[.slice RA j.recs.length rc, .int .i64 j.many, .int .i64 (m : Int)], .agg #[.slice SA d.secs.length sc, .slice PA d.pend.length pc, .int .i64 d.left, .bool false], .int .i64 0]) (by simp [results, Try.results53, go_sem, y4c0, y4c1, y4c2, y5c0, y5c1, y5c2, y5c3]) rfl ?_
           rw [E.out]
           exact ⟨_, _, rfl, ⟨RA, rc, by rw [← HJM.out], hrc, r0⟩, ⟨SA, sc, PA, pc, by rw [HST.out], hsc, hpc, r1, q1⟩, hwE⟩
        have hml : m < j.recs.length := by omega
        have hsn : j.sync ≠ j.recs.length := by rw [HJM.out]; omega
        have HSN := Lib.hid hsn
        have dk : ((m : Int) == (j.recs.length : Int)) = false := beq_eq_false_iff_ne.2 (by omega)
        obtain ⟨u0, hu0⟩ : ∃ u, u = usedN (j.recs.take m) := ⟨_, rfl⟩
        have HU0 := Lib.hid hu0
        obtain ⟨rs, hrs⟩ : ∃ l, l = j.recs.drop m := ⟨_, rfl⟩
        have HRS := Lib.hid hrs
        have hrl : rs.length = j.recs.length - m := by rw [hrs, List.length_drop]
        have hfit : u0 + usedN rs ≤ d.secs.length := by
          have h := fits_fit HF.out
          rw [HJM.out, Int.toNat_natCast, ← hu0, ← hrs] at h
          exact h
        have hlall := layA_all (g := gn) kg rs u0
        have HLA := Lib.hid hlall
        have hlen : (layA gn u0 rs).length = usedN rs := layA_len _ _ _
        have HLEN := Lib.hid hlen
        obtain ⟨L, hL⟩ : ∃ l, l = layA gn u0 rs := ⟨_, rfl⟩
        have HL := Lib.hid hL
        rw [← hL] at hlen
        have hlen0 : L.length ≤ d.secs.length := by omega
        clear ks hsn hu0 hrs hlall hlen hL
        obtain ⟨rb, ro, hRA, lrb, -⟩ := r0.get (by omega)
        subst hRA
        have hus : ∀ W, Below W6.heap.size W6 W → Calls Try.prog 84 #[.slice (some ⟨rb, ro, none⟩) m rc] W (fun e w' => e = .returned (.int .i64 (u0 : Nat)) ∧ w' = W) := fun W hW => by
          have hl : (j.recs.take m).length = m := by rw [List.length_take]; omega
          have K := used_t (some ⟨rb, ro, none⟩) rc (j.recs.take m) W ⟨by rw [hl]; omega, fun b hb => HS.out.2 b (List.mem_of_mem_take hb)⟩ (rows_take (r0.below hW) m)
          rw [hl, ← HU0.out] at K
          exact K
        have HUS := Lib.hid hus
        clear hus
        have x2c0 := x2.cell 0
        have x2c1 := x2.cell 1
        have x2c2 := x2.cell 2
        simp only [List.getElem?_toArray, List.getElem?_cons_zero, List.getElem?_cons_succ] at x2c0 x2c1 x2c2
        have x2l := x2.lt
        rw [HJM.out] at x2c2
        have n7 : ¬ rc = m := by omega
        go_upto_region 23 with (go_at_call 84; refine (HUS.out _ (Below.refl _ _)).mono ?_; rintro e w8 ⟨rfl, hw8⟩; have hw8 := hw8.symm; subst hw8)
        go_wp2_with (fail)
        go_loopw [13, 110] (fun v13 v110 wr => ∃ (i : Nat) (dn : List Bs), i ≤ rs.length ∧ v110 = .int .i64 i ∧ v13 = .int .i64 (u0 + dn.length : Nat) ∧ Hid (L = dn ++ layA gn (u0 + dn.length) (rs.drop i)) ∧ DkB n₀ wr (w.heap.size + 1) (dnD d u0 dn) ∧ Keep (fun r => r = w.heap.size + 1) W6 wr) (fun _ v110 _ => rs.length - (intOf v110).toNat)
        case atStart => exact ⟨0, [], by omega, rfl, rfl, Lib.hid (by rw [HL.out]; rfl), ⟨SA, sc, PA, pc, by have h := x3; rw [HF.out.pend] at h; rw [← HST.out] at h; exact h, hsc, Nat.zero_le _, r1, WrsAt.nil _ _⟩, Keep.refl _ _⟩
        case round =>
          obtain ⟨i, dn, hi, rfl, rfl, HLI, hdk, hkp⟩ := hrel
          have hmB := Boxes.one (n₀ := n₀) x3 rfl (Nat.le_trans hn (by omega))
          have r0b := r0.keep hkp hmB
          clear x2c0 x2c1 x2c2 x2l
          have x2b := x2.keep hkp (by omega)
          have hkl := hkp.size
          by_cases hlt : i < rs.length
          case pos =>
            obtain ⟨rb2, ro2, hRA2, lrb2, hget⟩ := r0b.get (by omega)
            cases hRA2
            obtain ⟨A1, c1, z1, hc1, hbs1⟩ := hget (m + i) (by omega)
            rw [← Nat.add_assoc] at z1
            have hbl := HS.out.2 _ (mem_getD (show m + i < j.recs.length by omega))
            have hdi : rs.drop i = j.recs.getD (m + i) [] :: rs.drop (i + 1) := by
              rw [drop_at rs i hlt, HRS.out]
              congr 1
              simp [List.getD]
            obtain ⟨b0, hb0⟩ : ∃ b, b = j.recs.getD (m + i) [] := ⟨_, rfl⟩
            rw [← hb0] at z1 hc1 hbs1 hbl hdi
            have hli := HLI.out
            rw [hdi] at hli
            have HLI2 := Lib.hid (show L = dn ++ (lay gn (secN b0) (u0 + dn.length) 1 b0 ++ layA gn (u0 + dn.length + secN b0) (rs.drop (i + 1))) from hli)
            have K := sectors_t A1 c1 b0.length wr hbl
            rw [show max 1 ((b0.length + 111) / 112) = secN b0 from rfl] at K
            have hsl := (secN_le hbl).2
            obtain ⟨sn, hsn⟩ : ∃ s, s = secN b0 := ⟨_, rfl⟩
            rw [← hsn] at HLI2 K hsl
            obtain ⟨bn, hbn⟩ : ∃ n, n = b0.length := ⟨_, rfl⟩
            rw [← hbn] at z1 hc1 K hbl
            have HBN := Lib.hid hbn
            have i1 : (i : Int) < ((j.recs.length - m : Nat) : Int) := by omega
            have i0 : (0 : Int) ≤ (i : Int) := by omega
            clear hget hb0 hli hdi hsn hbn HLI
            go_wp2_with (go_at_call 83; refine K.mono ?_; rintro e w8 ⟨rfl, hw8⟩; have hw8 := hw8.symm; subst hw8; clear K)
            rename World => wo
            go_loopw [13, 15, 16, 17] (fun v13 v15 v16 v17 wr => ∃ (n : Nat) (b : Bs) (kind : UInt8) (dn : List Bs) (A : Option Addr) (c : Nat), n ≤ sn ∧ v17 = .int .i64 n ∧ v13 = .int .i64 (u0 + dn.length : Nat) ∧ v16 = .int .u8 kind.toNat ∧ v15 = .slice A b.length c ∧ b.length ≤ c ∧ b.length ≤ 140737488355328 ∧ (kind = 0 ∨ kind = 1) ∧ BsAt n₀ wr A b ∧ Hid (L = dn ++ (lay gn n (u0 + dn.length) kind b ++ layA gn (u0 + dn.length + n) (rs.drop (i + 1)))) ∧ DkB n₀ wr (w.heap.size + 1) (dnD d u0 dn) ∧ Keep (fun r => r = w.heap.size + 1) W6 wr) (fun _ _ _ v17 _ => (intOf v17).toNat)
            case atStart => exact ⟨sn, b0, 1, dn, A1, c1, Nat.le_refl _, rfl, rfl, rfl, by rw [← HBN.out], by rw [← HBN.out]; exact hc1, by rw [← HBN.out]; omega, .inr rfl, hbs1, HLI2, hdk, hkp⟩
            case round =>
              clear hdk hkp hbs1 HLI2 z1 hc1 r0b lrb2 x2b hkl HBN
              obtain ⟨n, b, kind, dn, A, c, hns, rfl, rfl, rfl, rfl, hbc, hbl2, hki, hbs, HLJ, hdk, hkp⟩ := hrel
              have hkl := hkp.size
              cases n
              case zero =>
                have HLK := Lib.hid (show L = dn ++ layA gn (u0 + dn.length) (rs.drop (i + 1)) from HLJ.out)
                clear HLJ hbs
                go_wp2_with (fail)
                go_roundw
                case rel => exact ⟨i + 1, dn, by omega, by go_num, rfl, HLK, hdk, hkp⟩
                case measure => simp [intOf]; omega
              rename_i n
              obtain ⟨kd, hkd⟩ : ∃ k, k = (if n = 0 then kind ||| 2 else kind) := ⟨_, rfl⟩
              have hli := HLJ.out
              rw [lay, ← hkd] at hli
              have hls : (enc gn (u0 + dn.length) kd (b.take 112)).length = 128 := enc_len _ _ _ (by rw [List.length_take]; omega)
              have hrest : dn.length + 1 ≤ usedN rs := by rw [← HLEN.out, ← HL.out, hli]; simp
              have hdn : ∀ s ∈ dn, s.length = 128 := fun s hs => (HLA.out s (by rw [← HL.out, hli]; exact List.mem_append_left _ hs)).1
              have HLM := Lib.hid (show L = (dn ++ [enc gn (u0 + dn.length) kd (b.take 112)]) ++ (lay gn n (u0 + dn.length + 1) 0 (b.drop 112) ++ layA gn (u0 + dn.length + (n + 1)) (rs.drop (i + 1))) by rw [hli]; simp)
              have hgw := dn_write (u := u0) (at_ := u0 + dn.length) (e := enc gn (u0 + dn.length) kd (b.take 112)) HK.out.2.1 HK.out.2.2.2.1 hdn hls rfl (by omega)
              obtain ⟨ec, hec⟩ : ∃ e, e = enc gn (u0 + dn.length) kd (b.take 112) := ⟨_, rfl⟩
              rw [← hec] at hls hgw HLM
              have HEC := Lib.hid hec
              have HGW := Lib.hid hgw
              have HKD := Lib.hid hkd
              have HKI := Lib.hid hki
              obtain ⟨at1, hat1⟩ : ∃ a, a = u0 + dn.length := ⟨_, rfl⟩
              rw [← hat1] at HLM HGW HEC
              rw [← hat1]
              have hat2 : at1 ≤ 4096 := by omega
              have HAT := Lib.hid hat1
              obtain ⟨kk, hkk⟩ : ∃ k, k = min b.length 112 := ⟨_, rfl⟩
              have hmin : (if (112 : Int) < (b.length : Int) then (112 : Int) else (b.length : Int)) = (kk : Int) := by split <;> omega
              have hkk2 : kk ≤ 112 := by omega
              have hkk3 : kk ≤ c := by omega
              have HKK := Lib.hid hkk
              clear hli hrest hdn hgw hec hkd hki hat1 hkk HLJ
              obtain ⟨yb, hyb⟩ : ∃ y, y = decide (n = 0) := ⟨_, rfl⟩
              have HYB := Lib.hid hyb
              clear hyb
              go_upto_region 30 with (fail)
              go_cut [121] (fun s wx => s = .bool yb ∧ wx = wr)
              case first =>
                have hyb := HYB.out
                by_cases hn0 : n = 0
                case pos =>
                  rw [decide_eq_true hn0] at hyb
                  subst hyb
                  subst hn0
                  go_wp2_with (fail)
                  go_meet
                  exact ⟨rfl, rfl⟩
                case neg =>
                  rw [decide_eq_false hn0] at hyb
                  subst hyb
                  have dn1 : (((n + 1 : Nat) : Int) == 1) = false := beq_eq_false_iff_ne.2 (by omega)
                  have dn2 : ((n : Int) + 1 == 1) = false := beq_eq_false_iff_ne.2 (by omega)
                  go_wp2_with (fail)
                  go_meet
                  exact ⟨rfl, rfl⟩
              case rest =>
                obtain ⟨rfl, hwc⟩ := hcut
                have hwc := hwc.symm
                subst hwc
                go_upto_if 121 with (fail)
                go_cut [16] (fun s16 wx => s16 = .int .u8 kd.toNat ∧ wx = wr)
                case first =>
                  have b0 := bits_or0
                  have b1 := bits_or1
                  have hkd := HKD.out
                  have hyb := HYB.out
                  cases yb
                  case true =>
                    rw [if_pos (of_decide_eq_true hyb.symm)] at hkd
                    clear hyb
                    rcases HKI.out with h | h
                    all_goals
                      subst h
                      subst hkd
                      go_wp2_with (fail)
                      go_meet
                      exact ⟨rfl, rfl⟩
                  case false =>
                    rw [if_neg (of_decide_eq_false hyb.symm)] at hkd
                    clear hyb
                    subst hkd
                    go_wp2_with (fail)
                    go_meet
                    exact ⟨rfl, rfl⟩
                case rest =>
                  obtain ⟨rfl, hwc⟩ := hcut
                  have hwc := hwc.symm
                  subst hwc
                  obtain ⟨S2, s2, P2, p2, x3d, hs2, hp2, r2, q2⟩ := hdk
                  have hpl : (dnD d u0 dn).pend.length = dn.length := mkW_len _ _
                  have x3e : Blk wr (w.heap.size + 1) 25 #[.slice S2 d.secs.length s2, .slice P2 dn.length p2, .int .i64 d.left, .bool false] := by have h := x3d; rw [hpl] at h; rw [← HST.out]; exact h
                  have hpl2 : (dnD d u0 (dn ++ [ec])).pend.length = dn.length + 1 := by simp [dnD, mkW_len]
                  have hdl9 : dn.length ≤ 4096 := by have := HAT.out; omega
                  have hpp : dn.length ≤ p2 := by rw [← hpl]; exact hp2
                  have hkl9 : (b.take 112).length = kk := by rw [List.length_take, HKK.out]; omega
                  have hen : ∀ W, Below wr.heap.size wr W → Calls Try.prog 91 #[.int .u64 (gn : Nat), .int .i64 (at1 : Nat), .int .u8 kd.toNat, .slice A kk c] W (fun e w' => ∃ B, e = .returned (.slice (some ⟨B, 0, none⟩) 128 128) ∧ Blk w' B 132 (bcells ec).toArray ∧ W.heap.size ≤ B ∧ Below W.heap.size W w') := fun W hW => by
                    have h := encode_t A c gn at1 kd (b.take 112) W (by omega) (by omega) (by rw [hkl9]; exact hkk2) (bs_takeJ (hbs.below hW) 112)
                    rw [hkl9, enc1_eq _ _ _ (by rw [hkl9]; exact hkk2), ← HEC.out] at h
                    exact h
                  have hwrt : ∀ B W, Below wr.heap.size wr W → Blk W B 132 (bcells ec).toArray → Calls Try.prog 32 #[.agg #[.slice S2 d.secs.length s2, .slice P2 dn.length p2, .int .i64 d.left, .bool false], .int .i64 (at1 : Nat), .slice (some ⟨B, 0, none⟩) 128 128] W (fun e w' => ∃ S3 s3 P3 p3, e = .returned (.tuple #[.agg #[.slice S3 d.secs.length s3, .slice P3 (dn.length + 1) p3, .int .i64 d.left, .bool false], .int .i64 0]) ∧ d.secs.length ≤ s3 ∧ dn.length + 1 ≤ p3 ∧ RowsAt n₀ w' S3 d.secs ∧ WrsAt n₀ w' P3 (mkW u0 (dn ++ [ec])) ∧ Below W.heap.size W w') := fun B W hW hB => by
                    have hb2 : BsAt n₀ W (some ⟨B, 0, none⟩) ec := by
                      have h := blk_part (n₀ := n₀) hB rfl 0 128 (by omega)
                      rw [List.drop_zero, List.take_of_length_le (by omega)] at h
                      exact h
                    have h := write_t S2 P2 (some ⟨B, 0, none⟩) s2 p2 128 (dnD d u0 dn) (at1 : Nat) ec W hl1 (by rw [hpl]; omega) (by omega) hs2 (r2.below hW) (q2.below hW) hb2
                    rw [HGW.out, hls, hpl] at h
                    have e1 : (dnD d u0 dn).stop = false := HST.out
                    rw [e1] at h
                    refine h.mono fun e w9 hx => ?_
                    obtain ⟨v, h1, ⟨S3, s3, P3, p3, h2, h3, h4, h5, h6⟩, h7⟩ := hx
                    rw [hpl2] at h2 h4
                    have e2 : (dnD d u0 (dn ++ [ec])).stop = false := HST.out
                    rw [e2] at h2
                    exact ⟨S3, s3, P3, p3, by rw [h1, h2]; rfl, h3, h4, h5, h6, h7⟩
                  have HEN := Lib.hid hen
                  have HWR := Lib.hid hwrt
                  have HPL := Lib.hid hpl2
                  have HBS := Lib.hid hbs
                  have hz : ∀ a : Option Addr, a.map (fun x => x.add 0) = a := fun a => by cases a <;> simp [Addr.add]
                  have kk0 : (0 : Int) ≤ (kk : Int) := by omega
                  have kk1 : (kk : Int) ≤ (c : Int) := by omega
                  clear hen hwrt x3d hpl hpl2 hbs hkl9
                  go_upto_region 33 with (fail)
                  have x3ec0 := x3e.cell 0
                  have x3ef0 := x3e.frozen 0
                  have x3ec1 := x3e.cell 1
                  have x3ef1 := x3e.frozen 1
                  have x3ec2 := x3e.cell 2
                  have x3ef2 := x3e.frozen 2
                  have x3ec3 := x3e.cell 3
                  have x3ef3 := x3e.frozen 3
                  simp only [List.getElem?_toArray, List.getElem?_cons_zero, List.getElem?_cons_succ] at x3ec0 x3ec1 x3ec2 x3ec3
                  have x3el := x3e.lt
                  go_region_with (first | (go_at_call 91; refine (HEN.out _ (by repeat (first | with_reducible exact h9 | with_reducible exact Below.refl _ _ | refine Below.drew ?_))).mono ?_; rintro e w9 ⟨Bk, rfl, xk, lk, hb9⟩; have h9 : Below wr.heap.size wr w9 := Below.trans (by repeat (first | with_reducible exact Below.refl _ _ | refine Below.drew ?_)) (Below.mono hb9 (Nat.le_refl _)); have x3g := x3e.below h9 x3e.lt; have x3gc0 := x3g.cell 0; have x3gf0 := x3g.frozen 0; have x3gc1 := x3g.cell 1; have x3gf1 := x3g.frozen 1; have x3gc2 := x3g.cell 2; have x3gf2 := x3g.frozen 2; have x3gc3 := x3g.cell 3; have x3gf3 := x3g.frozen 3; simp only [List.getElem?_toArray, List.getElem?_cons_zero, List.getElem?_cons_succ] at x3gc0 x3gc1 x3gc2 x3gc3; have x3gl := x3g.lt) | (go_at_call 32; refine (HWR.out _ _ (by with_reducible exact h9) xk).mono ?_; rintro e w10 ⟨S3, s3, P3, p3, rfl, hs3, hp3, r3, q3, hb10⟩; have h10 : Below wr.heap.size wr w10 := h9.trans (hb10.mono h9.size); have x3n := x3g.below hb10 x3g.lt; have x3nc0 := x3n.cell 0; have x3nf0 := x3n.frozen 0; have x3nc1 := x3n.cell 1; have x3nf1 := x3n.frozen 1; have x3nc2 := x3n.cell 2; have x3nf2 := x3n.frozen 2; have x3nc3 := x3n.cell 3; have x3nf3 := x3n.frozen 3; simp only [List.getElem?_toArray, List.getElem?_cons_zero, List.getElem?_cons_succ] at x3nc0 x3nc1 x3nc2 x3nc3; have x3nl := x3n.lt))
                  all_goals
                   obtain ⟨WE, hWE⟩ : ∃ W, W = ((((w10.setCell ⟨w.heap.size + 1, 0, none⟩ (.slice S3 d.secs.length s3)).setCell ⟨w.heap.size + 1, 1, none⟩ (.slice P3 (dn.length + 1) p3)).setCell ⟨w.heap.size + 1, 2, none⟩ (.int .i64 d.left)).setCell ⟨w.heap.size + 1, 3, none⟩ (.bool false)) := ⟨_, rfl⟩
                   rw [← hWE]
                   have hk4 : Keep (fun r => r = w.heap.size + 1) w10 WE := by rw [hWE]; exact keep4 w10 (w.heap.size + 1) _ _ _ _
                   have hmE := Boxes.one (n₀ := n₀) x3n rfl (Nat.le_trans hn (by omega))
                   have hdkE : DkB n₀ WE (w.heap.size + 1) (dnD d u0 (dn ++ [ec])) := by
                     have h := box_put (d := dnD d u0 (dn ++ [ec])) x3n (Nat.le_trans hn (by omega)) hs3 (by rw [HPL.out]; exact hp3) r3 q3
                     have e2 : (dnD d u0 (dn ++ [ec])).stop = false := HST.out
                     rw [HPL.out, e2] at h
                     rw [hWE]
                     exact h
                   have hkE : Keep (fun r => r = w.heap.size + 1) W6 WE := (hkp.trans (Keep.of_same h10 _)).trans hk4
                   have hbsE := (HBS.out.below h10).keep hk4 hmE
                   have HDK := Lib.hid hdkE
                   have HKE := Lib.hid hkE
                   clear hWE hk4 hmE hdkE hkE x3n x3nc0 x3nc1 x3nc2 x3nc3 x3nf0 x3nf1 x3nf2 x3nf3 x3nl x3g x3gc0 x3gc1 x3gc2 x3gc3 x3gf0 x3gf1 x3gf2 x3gf3 x3gl x3e x3ec0 x3ec1 x3ec2 x3ec3 x3ef0 x3ef1 x3ef2 x3ef3 x3el r3 q3 xk h9 h10 hb9 hb10 hmin
                   have hat3 : ((at1 + 1 : Nat) : Int) = (at1 : Int) + 1 := by omega
                   have hrel3 : u0 + (dn ++ [ec]).length = at1 + 1 := by rw [HAT.out, List.length_append, List.length_singleton]; omega
                   have HLN := Lib.hid (show L = (dn ++ [ec]) ++ (lay gn n (u0 + (dn ++ [ec]).length) 0 (b.drop 112) ++ layA gn (u0 + (dn ++ [ec]).length + n) (rs.drop (i + 1))) by rw [hrel3, show at1 + 1 + n = at1 + (n + 1) by omega]; exact HLM.out)
                   have HR3 := Lib.hid hrel3
                   clear hrel3 hat3
                   by_cases hb112 : b.length ≤ 112
                   case pos =>
                     obtain rfl : kk = b.length := by rw [HKK.out]; omega
                     have hdn0 : b.drop 112 = [] := List.drop_eq_nil_of_le hb112
                     have HDN := Lib.hid hdn0
                     clear hdn0
                     go_wp2_with (fail)
                     go_roundw
                     case rel => exact ⟨n, [], 0, dn ++ [ec], _, _, by omega, rfl, by rw [HR3.out]; go_num, rfl, rfl, Nat.zero_le _, Nat.zero_le _, .inl rfl, BsAt.nil _ _, Lib.hid (by have h := HLN.out; rw [HDN.out] at h; exact h), HDK.out, HKE.out⟩
                     case measure => simp [intOf] <;> omega
                   obtain ⟨bb, oo, hAe, lbb, -⟩ := id hbsE (by omega)
                   subst hAe
                   obtain rfl : kk = 112 := by rw [HKK.out]; omega
                   have n8 : ¬ c = 112 := by omega
                   go_wp2_with (fail)
                   go_roundw
                   case rel => exact ⟨n, b.drop 112, 0, dn ++ [ec], some ⟨bb, oo + 112, none⟩, c - 112, by omega, rfl, by rw [HR3.out]; go_num, rfl, by rw [List.length_drop], by rw [List.length_drop]; omega, by rw [List.length_drop]; omega, .inl rfl, bs_dropJ hbsE 112, HLN, HDK.out, HKE.out⟩
                   case measure => simp [intOf] <;> omega
          case neg =>
            obtain rfl : i = rs.length := by omega
            have hdl : dn = L := by
              have h := HLI.out
              rw [List.drop_length] at h
              rw [h]
              simp [layA]
            have HDL := Lib.hid hdl
            have x4b := x4.keep hkp (by omega)
            have x5b := x5.keep hkp (by omega)
            replace hw := hw.trans (hkp.below hw.size (fun r hr h => by omega))
            obtain ⟨S2, s2, P2, p2, x3d, hs2, hp2, r2, q2⟩ := hdk
            have hpl : (dnD d u0 dn).pend.length = dn.length := mkW_len _ _
            have x3e : Blk wr (w.heap.size + 1) 25 #[.slice S2 d.secs.length s2, .slice P2 dn.length p2, .int .i64 d.left, .bool false] := by have h := x3d; rw [hpl] at h; rw [← HST.out]; exact h
            have hdl9 : dn.length ≤ 4096 := by rw [hdl]; omega
            obtain ⟨⟨y, e⟩, hgs⟩ : ∃ r, r = gSync (dnD d u0 dn) := ⟨_, rfl⟩
            have hws : wsD d (usedN (j.recs.take j.sync.toNat)) (j.recs.drop j.sync.toNat) = dnD d u0 dn := by rw [HJM.out, Int.toNat_natCast, ← HU0.out, ← HRS.out, hdl, HL.out, HGN.out]; rfl
            have E := Lib.hid (gJs_go HF.out HSN.out (y := y) (e := e) (by rw [hws, ← hgs]))
            have K : Calls Try.prog 36 #[.agg #[.slice S2 d.secs.length s2, .slice P2 dn.length p2, .int .i64 d.left, .bool false]] wr (DkIs n₀ wr (y, e)) := by
              have h := sync_t S2 P2 s2 p2 (dnD d u0 dn) wr hl1 (by rw [hpl]; omega) hp2 r2 q2
              have e1 : (dnD d u0 dn).stop = false := HST.out
              rw [hpl, e1, ← hgs] at h
              exact h
            clear x3d hdl hws hgs hpl x2 x3 x4 x5 r0 r1 q1 hkp r2 q2 hmB HLI
            have x3ec0 := x3e.cell 0
            have x3ef0 := x3e.frozen 0
            have x3ec1 := x3e.cell 1
            have x3ef1 := x3e.frozen 1
            have x3ec2 := x3e.cell 2
            have x3ef2 := x3e.frozen 2
            have x3ec3 := x3e.cell 3
            have x3ef3 := x3e.frozen 3
            simp only [List.getElem?_toArray, List.getElem?_cons_zero, List.getElem?_cons_succ] at x3ec0 x3ec1 x3ec2 x3ec3
            have x3el := x3e.lt
            go_wp2_with (fail)
            go_at_call 36
            refine K.mono ?_
            rintro e9 w9 ⟨v9, rfl, ⟨S9, s9, P9, p9, rfl, hs9, hp9, r9, q9⟩, hb9⟩
            clear K
            dsimp only at hs9 hp9 r9 q9
            replace r0b := r0b.below hb9
            replace x2b := x2b.below hb9 x2b.lt
            replace x4b := x4b.below hb9 x4b.lt
            replace x5b := x5b.below hb9 x5b.lt
            replace x3e := x3e.below hb9 x3e.lt
            replace hw := hw.trans (hb9.mono hw.size)
            clear hb9 x3ec0 x3ec1 x3ec2 x3ec3 x3ef0 x3ef1 x3ef2 x3ef3 x3el
            have x3ec0 := x3e.cell 0
            have x3ef0 := x3e.frozen 0
            have x3ec1 := x3e.cell 1
            have x3ef1 := x3e.frozen 1
            have x3ec2 := x3e.cell 2
            have x3ef2 := x3e.frozen 2
            have x3ec3 := x3e.cell 3
            have x3ef3 := x3e.frozen 3
            simp only [List.getElem?_toArray, List.getElem?_cons_zero, List.getElem?_cons_succ] at x3ec0 x3ec1 x3ec2 x3ec3
            have x3el := x3e.lt
            go_upto_region 40 with (fail)
            obtain ⟨W8, hW8⟩ : ∃ W, W = ((((w9.setCell ⟨w.heap.size + 1, 0, none⟩ (.slice S9 y.secs.length s9)).setCell ⟨w.heap.size + 1, 1, none⟩ (.slice P9 y.pend.length p9)).setCell ⟨w.heap.size + 1, 2, none⟩ (.int .i64 y.left)).setCell ⟨w.heap.size + 1, 3, none⟩ (.bool y.stop)) := ⟨_, rfl⟩
            rw [← hW8]
            have hk : Keep (fun r => r = w.heap.size + 1) w9 W8 := by rw [hW8]; exact keep4 w9 (w.heap.size + 1) _ _ _ _
            have hm := Boxes.one (n₀ := n₀) x3e rfl (Nat.le_trans hn (by omega))
            have x3f : Blk W8 (w.heap.size + 1) 25 #[.slice S9 y.secs.length s9, .slice P9 y.pend.length p9, .int .i64 y.left, .bool y.stop] := by rw [hW8]; exact (((x3e.set 0 _).set 1 _).set 2 _).set 3 _
            have x4 := x4b.keep hk (by omega)
            have x5 := x5b.keep hk (by omega)
            have x2 := x2b.keep hk (by omega)
            have r0 := r0b.keep hk hm
            replace r9 := r9.keep hk hm
            replace q9 := q9.keep hk hm
            replace hw := hw.trans (hk.below hw.size (fun r hr h => by omega))
            clear hW8 hk hm x4b x5b x2b r0b x3e x3ec0 x3ec1 x3ec2 x3ec3 x3ef0 x3ef1 x3ef2 x3ef3 x3el
            have x3fc0 := x3f.cell 0
            have x3fc1 := x3f.cell 1
            have x3fc2 := x3f.cell 2
            have x3fc3 := x3f.cell 3
            simp only [List.getElem?_toArray, List.getElem?_cons_zero, List.getElem?_cons_succ] at x3fc0 x3fc1 x3fc2 x3fc3
            have x3fl := x3f.lt
            have x4c0 := x4.cell 0
            have x4f0 := x4.frozen 0
            have x4c1 := x4.cell 1
            have x4f1 := x4.frozen 1
            have x4c2 := x4.cell 2
            have x4f2 := x4.frozen 2
            simp only [List.getElem?_toArray, List.getElem?_cons_zero, List.getElem?_cons_succ] at x4c0 x4c1 x4c2
            have x4l := x4.lt
            have x5c0 := x5.cell 0
            have x5f0 := x5.frozen 0
            have x5c1 := x5.cell 1
            have x5f1 := x5.frozen 1
            have x5c2 := x5.cell 2
            have x5f2 := x5.frozen 2
            have x5c3 := x5.cell 3
            have x5f3 := x5.frozen 3
            simp only [List.getElem?_toArray, List.getElem?_cons_zero, List.getElem?_cons_succ] at x5c0 x5c1 x5c2 x5c3
            have x5l := x5.lt
            have x2c0 := x2.cell 0
            have x2f0 := x2.frozen 0
            have x2c1 := x2.cell 1
            have x2f1 := x2.frozen 1
            have x2c2 := x2.cell 2
            have x2f2 := x2.frozen 2
            simp only [List.getElem?_toArray, List.getElem?_cons_zero, List.getElem?_cons_succ] at x2c0 x2c1 x2c2
            have x2l := x2.lt
            by_cases he : e = 0
            case neg =>
              have de : (e != 0) = true := bne_iff_ne.2 he
              have E2 := E.out
              rw [if_pos he] at E2
              replace E := Lib.hid E2
              clear E2 he
              have HWW := Lib.hid hw
              clear hw
              go_upto_region 41 with (fail)
              go_region
              all_goals
               obtain ⟨WE, hWE⟩ : ∃ W, W = (((((((W8.setCell ⟨(w.heap.size + 1 + 1), 0, none⟩ (.slice none 0 0)).setCell ⟨(w.heap.size + 1 + 1), 1, none⟩ (.int .i64 0)).setCell ⟨(w.heap.size + 1 + 1), 2, none⟩ (.int .i64 0)).setCell ⟨(w.heap.size + 1 + 1 + 1), 0, none⟩ (.slice S9 y.secs.length s9)).setCell ⟨(w.heap.size + 1 + 1 + 1), 1, none⟩ (.slice P9 y.pend.length p9)).setCell ⟨(w.heap.size + 1 + 1 + 1), 2, none⟩ (.int .i64 y.left)).setCell ⟨(w.heap.size + 1 + 1 + 1), 3, none⟩ (.bool y.stop)).drew := ⟨_, rfl⟩
               rw [← hWE]
               have hk : Keep (fun r => r = (w.heap.size + 1 + 1) ∨ r = (w.heap.size + 1 + 1 + 1)) W8 WE := by rw [hWE]; refine Keep.drew ?_; repeat (first | with_reducible exact Keep.refl _ _ | refine Keep.setCell ?_ (fun _ => by simp) _)
               have y4a := (((((((x4.set 0 (.slice none 0 0)).set 1 (.int .i64 0)).set 2 (.int .i64 0)).other (p := ⟨(w.heap.size + 1 + 1 + 1), 0, none⟩) (by simp) (.slice S9 y.secs.length s9)).other (p := ⟨(w.heap.size + 1 + 1 + 1), 1, none⟩) (by simp) (.slice P9 y.pend.length p9)).other (p := ⟨(w.heap.size + 1 + 1 + 1), 2, none⟩) (by simp) (.int .i64 y.left)).other (p := ⟨(w.heap.size + 1 + 1 + 1), 3, none⟩) (by simp) (.bool y.stop))
               have y5a := (((((((x5.other (p := ⟨(w.heap.size + 1 + 1), 0, none⟩) (by simp) (.slice none 0 0)).other (p := ⟨(w.heap.size + 1 + 1), 1, none⟩) (by simp) (.int .i64 0)).other (p := ⟨(w.heap.size + 1 + 1), 2, none⟩) (by simp) (.int .i64 0)).set 0 (.slice S9 y.secs.length s9)).set 1 (.slice P9 y.pend.length p9)).set 2 (.int .i64 y.left)).set 3 (.bool y.stop))
               simp only [List.setIfInBounds_toArray, List.set_cons_zero, List.set_cons_succ] at y4a y5a
               have y4 : Blk WE (w.heap.size + 1 + 1) 55 #[.slice none 0 0, .int .i64 0, .int .i64 0] := by rw [hWE]; exact blk_drew y4a
               have y5 : Blk WE (w.heap.size + 1 + 1 + 1) 25 #[.slice S9 y.secs.length s9, .slice P9 y.pend.length p9, .int .i64 y.left, .bool y.stop] := by rw [hWE]; exact blk_drew y5a
               clear y4a y5a
               have hm := Boxes.two (n₀ := n₀) x4 rfl (Nat.le_trans hn (by omega)) x5 rfl (Nat.le_trans hn (by omega))
               replace r9 := r9.keep hk hm
               replace q9 := q9.keep hk hm
               have hwE : Below w.heap.size w WE := HWW.out.trans (hk.below HWW.out.size (fun r hr h => by rcases h with h | h <;> omega))
               clear hWE hk hm
               have y4c0 := y4.cell 0
               have y4c1 := y4.cell 1
               have y4c2 := y4.cell 2
               simp only [List.getElem?_toArray, List.getElem?_cons_zero, List.getElem?_cons_succ] at y4c0 y4c1 y4c2
               have y5c0 := y5.cell 0
               have y5c1 := y5.cell 1
               have y5c2 := y5.cell 2
               have y5c3 := y5.cell 3
               simp only [List.getElem?_toArray, List.getElem?_cons_zero, List.getElem?_cons_succ] at y5c0 y5c1 y5c2 y5c3
               go_wp2
               refine bodyPost_ret (v := .tuple #[.agg #[.slice none 0 0, .int .i64 0, .int .i64 0], .agg #[.slice S9 y.secs.length s9, .slice P9 y.pend.length p9, .int .i64 y.left, .bool y.stop], .int .i64 e]) (by simp [results, Try.results53, go_sem, y4c0, y4c1, y4c2, y5c0, y5c1, y5c2, y5c3]) rfl ?_
               rw [E.out]
               exact ⟨_, _, rfl, jn0V WE, ⟨S9, s9, P9, p9, rfl, hs9, hp9, r9, q9⟩, hwE⟩
            subst he
            have E2 := E.out
            rw [if_neg (by simp)] at E2
            replace E := Lib.hid E2
            clear E2
            go_upto_region 43 with (fail)
            obtain ⟨W7, hW7⟩ : ∃ W, W = W8.setCell ⟨w.heap.size, 2, none⟩ (.int .i64 (j.recs.length : Nat)) := ⟨_, rfl⟩
            rw [← hW7]
            have hk : Keep (fun r => r = w.heap.size) W8 W7 := by rw [hW7]; exact (Keep.refl (fun r => r = w.heap.size) _).setCell (fun _ => rfl) _
            have hm := Boxes.one (n₀ := n₀) x2 rfl (Nat.le_trans hn (Nat.le_refl _))
            have y2 : Blk W7 w.heap.size 55 #[.slice (some ⟨rb, ro, none⟩) j.recs.length rc, .int .i64 j.many, .int .i64 (j.recs.length : Nat)] := by rw [hW7]; exact x2.set 2 _
            replace x3f := x3f.keep hk (by omega)
            replace x4 := x4.keep hk (by omega)
            replace x5 := x5.keep hk (by omega)
            replace r0 := r0.keep hk hm
            replace r9 := r9.keep hk hm
            replace q9 := q9.keep hk hm
            replace hw := hw.trans (hk.below hw.size (fun r hr h => by omega))
            clear x3fc0 x3fc1 x3fc2 x3fc3 x3fl x4f0 x4f1 x4f2 x4c0 x4c1 x4c2 x4l x5f0 x5f1 x5f2 x5f3 x5c0 x5c1 x5c2 x5c3 x5l x2f0 x2f1 x2f2 x2c0 x2c1 x2c2 x2l
            clear hW7 hk hm x2
            have x2 := y2
            clear y2
            have x2c0 := x2.cell 0
            have x2c1 := x2.cell 1
            have x2c2 := x2.cell 2
            simp only [List.getElem?_toArray, List.getElem?_cons_zero, List.getElem?_cons_succ] at x2c0 x2c1 x2c2
            have x2l := x2.lt
            have x3fc0 := x3f.cell 0
            have x3fc1 := x3f.cell 1
            have x3fc2 := x3f.cell 2
            have x3fc3 := x3f.cell 3
            simp only [List.getElem?_toArray, List.getElem?_cons_zero, List.getElem?_cons_succ] at x3fc0 x3fc1 x3fc2 x3fc3
            have x3fl := x3f.lt
            have x4c0 := x4.cell 0
            have x4f0 := x4.frozen 0
            have x4c1 := x4.cell 1
            have x4f1 := x4.frozen 1
            have x4c2 := x4.cell 2
            have x4f2 := x4.frozen 2
            simp only [List.getElem?_toArray, List.getElem?_cons_zero, List.getElem?_cons_succ] at x4c0 x4c1 x4c2
            have x4l := x4.lt
            have x5c0 := x5.cell 0
            have x5f0 := x5.frozen 0
            have x5c1 := x5.cell 1
            have x5f1 := x5.frozen 1
            have x5c2 := x5.cell 2
            have x5f2 := x5.frozen 2
            have x5c3 := x5.cell 3
            have x5f3 := x5.frozen 3
            simp only [List.getElem?_toArray, List.getElem?_cons_zero, List.getElem?_cons_succ] at x5c0 x5c1 x5c2 x5c3
            have x5l := x5.lt
            have HWW := Lib.hid hw
            clear hw
            go_region
            all_goals
             obtain ⟨WE, hWE⟩ : ∃ W, W = (((((((W7.setCell ⟨(w.heap.size + 1 + 1), 0, none⟩ (.slice (some ⟨rb, ro, none⟩) j.recs.length rc)).setCell ⟨(w.heap.size + 1 + 1), 1, none⟩ (.int .i64 j.many)).setCell ⟨(w.heap.size + 1 + 1), 2, none⟩ (.int .i64 (j.recs.length : Nat))).setCell ⟨(w.heap.size + 1 + 1 + 1), 0, none⟩ (.slice S9 y.secs.length s9)).setCell ⟨(w.heap.size + 1 + 1 + 1), 1, none⟩ (.slice P9 y.pend.length p9)).setCell ⟨(w.heap.size + 1 + 1 + 1), 2, none⟩ (.int .i64 y.left)).setCell ⟨(w.heap.size + 1 + 1 + 1), 3, none⟩ (.bool y.stop)).drew := ⟨_, rfl⟩
             rw [← hWE]
             have hk : Keep (fun r => r = (w.heap.size + 1 + 1) ∨ r = (w.heap.size + 1 + 1 + 1)) W7 WE := by rw [hWE]; refine Keep.drew ?_; repeat (first | with_reducible exact Keep.refl _ _ | refine Keep.setCell ?_ (fun _ => by simp) _)
             have y4a := (((((((x4.set 0 (.slice (some ⟨rb, ro, none⟩) j.recs.length rc)).set 1 (.int .i64 j.many)).set 2 (.int .i64 (j.recs.length : Nat))).other (p := ⟨(w.heap.size + 1 + 1 + 1), 0, none⟩) (by simp) (.slice S9 y.secs.length s9)).other (p := ⟨(w.heap.size + 1 + 1 + 1), 1, none⟩) (by simp) (.slice P9 y.pend.length p9)).other (p := ⟨(w.heap.size + 1 + 1 + 1), 2, none⟩) (by simp) (.int .i64 y.left)).other (p := ⟨(w.heap.size + 1 + 1 + 1), 3, none⟩) (by simp) (.bool y.stop))
             have y5a := (((((((x5.other (p := ⟨(w.heap.size + 1 + 1), 0, none⟩) (by simp) (.slice (some ⟨rb, ro, none⟩) j.recs.length rc)).other (p := ⟨(w.heap.size + 1 + 1), 1, none⟩) (by simp) (.int .i64 j.many)).other (p := ⟨(w.heap.size + 1 + 1), 2, none⟩) (by simp) (.int .i64 (j.recs.length : Nat))).set 0 (.slice S9 y.secs.length s9)).set 1 (.slice P9 y.pend.length p9)).set 2 (.int .i64 y.left)).set 3 (.bool y.stop))
             simp only [List.setIfInBounds_toArray, List.set_cons_zero, List.set_cons_succ] at y4a y5a
             have y4 : Blk WE (w.heap.size + 1 + 1) 55 #[.slice (some ⟨rb, ro, none⟩) j.recs.length rc, .int .i64 j.many, .int .i64 (j.recs.length : Nat)] := by rw [hWE]; exact blk_drew y4a
             have y5 : Blk WE (w.heap.size + 1 + 1 + 1) 25 #[.slice S9 y.secs.length s9, .slice P9 y.pend.length p9, .int .i64 y.left, .bool y.stop] := by rw [hWE]; exact blk_drew y5a
             clear y4a y5a
             have hm := Boxes.two (n₀ := n₀) x4 rfl (Nat.le_trans hn (by omega)) x5 rfl (Nat.le_trans hn (by omega))
             replace r0 := r0.keep hk hm
             replace r9 := r9.keep hk hm
             replace q9 := q9.keep hk hm
             have hwE : Below w.heap.size w WE := HWW.out.trans (hk.below HWW.out.size (fun r hr h => by rcases h with h | h <;> omega))
             clear hWE hk hm
             have y4c0 := y4.cell 0
             have y4c1 := y4.cell 1
             have y4c2 := y4.cell 2
             simp only [List.getElem?_toArray, List.getElem?_cons_zero, List.getElem?_cons_succ] at y4c0 y4c1 y4c2
             have y5c0 := y5.cell 0
             have y5c1 := y5.cell 1
             have y5c2 := y5.cell 2
             have y5c3 := y5.cell 3
             simp only [List.getElem?_toArray, List.getElem?_cons_zero, List.getElem?_cons_succ] at y5c0 y5c1 y5c2 y5c3
             go_wp2
             refine bodyPost_ret (v := .tuple #[.agg #[.slice (some ⟨rb, ro, none⟩) j.recs.length rc, .int .i64 j.many, .int .i64 (j.recs.length : Nat)], .agg #[.slice S9 y.secs.length s9, .slice P9 y.pend.length p9, .int .i64 y.left, .bool y.stop], .int .i64 0]) (by simp [results, Try.results53, go_sem, y4c0, y4c1, y4c2, y5c0, y5c1, y5c2, y5c3]) rfl ?_
             rw [E.out]
             exact ⟨_, _, rfl, ⟨some ⟨rb, ro, none⟩, rc, rfl, hrc, r0⟩, ⟨S9, s9, P9, p9, rfl, hs9, hp9, r9, q9⟩, hwE⟩
end Go.Proofs.Ytckeopidedoohaa
