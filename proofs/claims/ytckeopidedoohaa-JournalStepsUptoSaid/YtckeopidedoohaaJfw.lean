/-
  Whether two lists of records, two journals are equal. Conditions: they lie as plain data. | Whether two journals are equal. Conditions: they lie as plain data. | Whether a disk has few sectors, records few bytes. Conditions: they lie as plain data, the records are not many and not long.
-/
import Derived.Test.YtckeopidedoohaaJap
import Derived.Deep.QuietTactic
namespace Go.Proofs.Ytckeopidedoohaa
open Go.RowKit
variable {n₀ : Nat}
attribute [local go_sem] Oper.semAt_some

theorem take_eq_snoc {a b : List Bs} {k : Nat} (ha : k < a.length) (hb : k < b.length) (h : a.take k = b.take k) (he : a.getD k [] = b.getD k []) : a.take (k + 1) = b.take (k + 1) := by rw [take_snocR a k ha, take_snocR b k hb, h, he]

set_option maxRecDepth 20000 in
set_option maxHeartbeats 4000000 in
theorem sameR_t (A B : Option Addr) (c d : Nat) (a b : List Bs) (w : World) (hl1 : a.length ≤ 140737488355328) (hl2 : b.length ≤ 140737488355328) (h1 : RowsAt n₀ w A a) (h2 : RowsAt n₀ w B b) :
    Calls Try.prog 55 #[.slice A a.length c, .slice B b.length d] w fun e w' => e = .returned (.bool (decide (a = b))) ∧ Below w.heap.size w w' := by
  by_cases hab : a.length = b.length
  case neg =>
    have E := Lib.hid (decide_eq_false (show ¬ a = b from fun h => hab (by rw [h])))
    obtain ⟨na, hna⟩ : ∃ n, n = a.length := ⟨_, rfl⟩
    obtain ⟨nb, hnb⟩ : ∃ n, n = b.length := ⟨_, rfl⟩
    rw [← hna, ← hnb] at hab
    rw [← hna] at hl1 ⊢
    rw [← hnb] at hl2 ⊢
    have dn : ((na : Int) != (nb : Int)) = true := bne_iff_ne.2 (by omega)
    clear hna hnb hab h1 h2
    go_enter Try.func55, Try.ntmps55
    go_wp2
    go_ret
    exact ⟨by rw [E.out]; rfl, Below.refl _ _⟩
  have H1 := Lib.hid h1
  have H2 := Lib.hid h2
  obtain ⟨n, hn⟩ : ∃ n, n = a.length := ⟨_, rfl⟩
  have hnb : n = b.length := by omega
  rw [← hn, ← hnb]
  have HN := Lib.hid (And.intro hn hnb)
  have hnl : n ≤ 140737488355328 := by omega
  clear h1 h2 hab hl1 hl2 hn hnb
  go_enter Try.func55, Try.ntmps55
  go_wp2_with (fail)
  go_loopw [5] (fun v5 wr => ∃ k : Nat, k ≤ n ∧ v5 = .int .i64 k ∧ Hid (a.take k = b.take k) ∧ Below w.heap.size w wr) (fun v5 _ => n - (intOf v5).toNat)
  case atStart => exact ⟨0, by omega, rfl, Lib.hid rfl, Below.refl _ _⟩
  case round =>
    obtain ⟨k, hk, rfl, HT, hw⟩ := hrel
    by_cases hlt : k < n
    case neg =>
      obtain rfl : k = n := by omega
      have E := Lib.hid (decide_eq_true (show a = b by
        have h := HT.out
        have h1 := HN.out.1
        have h2 := HN.out.2
        rw [List.take_of_length_le (by omega), List.take_of_length_le (by omega)] at h
        exact h))
      go_wp2
      go_ret
      exact ⟨by rw [E.out]; rfl, hw⟩
    case pos =>
      have hka : k < a.length := by rw [← HN.out.1]; exact hlt
      have hkb : k < b.length := by rw [← HN.out.2]; exact hlt
      obtain ⟨ba, oa, rfl, la, ca⟩ := (H1.out.below hw).get (by omega)
      obtain ⟨bb, ob, rfl, lb, cb⟩ := (H2.out.below hw).get (by omega)
      obtain ⟨A1, c1, z1, -, s1⟩ := ca k hka
      obtain ⟨A2, c2, z2, -, s2⟩ := cb k hkb
      obtain ⟨x, hx⟩ : ∃ x, x = a.getD k [] := ⟨_, rfl⟩
      obtain ⟨y, hy⟩ : ∃ y, y = b.getD k [] := ⟨_, rfl⟩
      rw [← hx] at z1 s1
      rw [← hy] at z2 s2
      have HXY := Lib.hid (And.intro hx hy)
      obtain ⟨t1, ht1⟩ : ∃ s, s = (⟨x.toArray⟩ : ByteArray) := ⟨_, rfl⟩
      obtain ⟨t2, ht2⟩ : ∃ s, s = (⟨y.toArray⟩ : ByteArray) := ⟨_, rfl⟩
      have hse := str_eq ht1 ht2
      have cv1 : ∀ m, (convert 35 9 (.slice A1 x.length c1)).run Try.prog (wr.drewN m) = .ok (.string t1) (wr.drewN m) := fun m => by rw [ht1]; exact conv_bs (s1.below (below_drewN (Below.refl _ _) m)) c1
      have cv2 : ∀ m, (convert 35 9 (.slice A2 y.length c2)).run Try.prog (wr.drewN m) = .ok (.string t2) (wr.drewN m) := fun m => by rw [ht2]; exact conv_bs (s2.below (below_drewN (Below.refl _ _) m)) c2
      obtain ⟨nx, hnx⟩ : ∃ m, m = x.length := ⟨_, rfl⟩
      obtain ⟨ny, hny⟩ : ∃ m, m = y.length := ⟨_, rfl⟩
      rw [← hnx] at z1 cv1
      rw [← hny] at z2 cv2
      have k0 : (0 : Int) ≤ (k : Int) := by omega
      have k1 : (k : Int) < (n : Int) := by omega
      clear ca cb s1 s2 hx hy ht1 ht2 hnx hny
      by_cases hxy : x = y
      case pos =>
        have hst := take_eq_snoc hka hkb HT.out (by rw [← HXY.out.1, ← HXY.out.2]; exact hxy)
        rw [decide_eq_true hxy] at hse
        have HST := Lib.hid hst
        clear hst hxy
        go_upto_region 6 with (fail)
        go_quiet (fail)
        all_goals
          go_wp2_with (fail)
          go_roundw
          case rel => exact ⟨k + 1, by omega, by go_num, Lib.hid HST.out, by first | exact hw | exact below_drewN hw _⟩
          case measure => simp [intOf] <;> omega
      case neg =>
        have E := Lib.hid (decide_eq_false (show ¬ a = b from fun h => hxy (by rw [HXY.out.1, HXY.out.2, h])))
        rw [decide_eq_false hxy] at hse
        clear hxy
        go_upto_region 6 with (fail)
        go_quiet (fail)
        all_goals
          go_wp2
          go_ret
          exact ⟨by rw [E.out]; rfl, by first | exact hw | exact below_drewN hw _⟩
end Go.Proofs.Ytckeopidedoohaa

namespace Go.Proofs.Ytckeopidedoohaa
open Go.RowKit
variable {n₀ : Nat}
attribute [local go_sem] Oper.semAt_some

def sameJ (a b : Jn) : Bool := decide (a.many = b.many) && (decide (a.sync = b.sync) && decide (a.recs = b.recs))
theorem sameJ_self (a : Jn) : sameJ a a = true := by unfold sameJ; simp

set_option maxRecDepth 20000 in
set_option maxHeartbeats 4000000 in
theorem jsame_t (RA RB : Option Addr) (ra rb : Nat) (a b : Jn) (w : World) (hl1 : a.recs.length ≤ 140737488355328) (hl2 : b.recs.length ≤ 140737488355328) (h1 : RowsAt n₀ w RA a.recs) (h2 : RowsAt n₀ w RB b.recs) :
    Calls Try.prog 46 #[.agg #[.slice RA a.recs.length ra, .int .i64 a.many, .int .i64 a.sync], .agg #[.slice RB b.recs.length rb, .int .i64 b.many, .int .i64 b.sync]] w fun e w' => e = .returned (.bool (sameJ a b)) ∧ Below w.heap.size w w' := by
  have hbb0 : Below w.heap.size w ((w.alloc (.cells #[.slice RA a.recs.length ra, .int .i64 a.many, .int .i64 a.sync] 55)).alloc (.cells #[.slice RB b.recs.length rb, .int .i64 b.many, .int .i64 b.sync] 55)) := ((Below.refl _ _).alloc (Nat.le_refl _) _).alloc (by simp) _
  by_cases k1 : a.many = b.many
  case neg =>
    have E := Lib.hid (show sameJ a b = false by unfold sameJ; rw [decide_eq_false k1]; rfl)
    have d1 : (a.many == b.many) = false := beq_eq_false_iff_ne.2 k1
    clear k1
    go_enter Try.func46, Try.ntmps46
    go_wp2
    go_ret
    exact ⟨by rw [E.out]; rfl, hbb0⟩
  have d1 : (a.many == b.many) = true := beq_iff_eq.2 k1
  by_cases k2 : a.sync = b.sync
  case neg =>
    have E := Lib.hid (show sameJ a b = false by unfold sameJ; rw [decide_eq_true k1, decide_eq_false k2]; rfl)
    have d2 : (a.sync == b.sync) = false := beq_eq_false_iff_ne.2 k2
    clear k1 k2
    go_enter Try.func46, Try.ntmps46
    go_wp2
    go_ret
    exact ⟨by rw [E.out]; rfl, hbb0⟩
  have d2 : (a.sync == b.sync) = true := beq_iff_eq.2 k2
  have E := Lib.hid (show sameJ a b = decide (a.recs = b.recs) by unfold sameJ; rw [decide_eq_true k1, decide_eq_true k2]; rfl)
  clear k1 k2
  obtain ⟨y, hy⟩ : ∃ y, y = decide (a.recs = b.recs) := ⟨_, rfl⟩
  have HY := Lib.hid hy
  clear hy
  have K := sameR_t RA RB ra rb a.recs b.recs _ hl1 hl2 (h1.below hbb0) (h2.below hbb0)
  rw [← HY.out] at K
  go_enter Try.func46, Try.ntmps46
  go_wp2_with (fail)
  go_at_call 55
  refine K.mono ?_
  rintro e w2 ⟨rfl, hw2⟩
  clear K
  go_wp2
  go_ret
  exact ⟨by rw [E.out, ← HY.out]; (first | rfl | (cases y <;> rfl)), hbb0.trans (hw2.mono hbb0.size)⟩
end Go.Proofs.Ytckeopidedoohaa

namespace Go.Proofs.Ytckeopidedoohaa
open Go.RowKit
variable {n₀ : Nat}
attribute [local go_sem] Oper.semAt_some

/-- How many bytes records have together, and one more for each. -/
def sumB : List Bs → Nat
  | [] => 0
  | b :: l => 1 + b.length + sumB l
theorem sumB_snoc (l : List Bs) (b : Bs) : sumB (l ++ [b]) = sumB l + (1 + b.length) := by
  induction l with
  | nil => simp [sumB]
  | cons x l ih => simp only [List.cons_append, sumB, ih]; omega
theorem sumB_le {l : List Bs} (h : ∀ b ∈ l, b.length ≤ 1048576) : sumB l ≤ l.length * 1048577 := by
  induction l with
  | nil => exact Nat.le_refl _
  | cons b l ih =>
    have h1 := ih (fun x hx => h x (List.mem_cons_of_mem _ hx))
    have h2 := h b List.mem_cons_self
    simp only [sumB, List.length_cons]
    omega
def fewB (ns np : Nat) (rs : List Bs) : Bool := decide (ns ≤ 40) && (decide (np ≤ 40) && decide (sumB rs ≤ 4000))
theorem sumB_len (l : List Bs) : l.length ≤ sumB l := by
  induction l with
  | nil => exact Nat.le_refl _
  | cons b l ih => simp only [sumB, List.length_cons]; omega
theorem sumB_mem {l : List Bs} {b : Bs} (h : b ∈ l) : b.length ≤ sumB l := by
  induction l with
  | nil => cases h
  | cons x l ih =>
    simp only [sumB]
    rcases List.mem_cons.1 h with rfl | h
    · omega
    · have := ih h; omega
theorem fewB_sm {ns np : Nat} {rs : List Bs} (h : fewB ns np rs = true) : ns ≤ 40 ∧ np ≤ 40 ∧ sumB rs ≤ 4000 ∧ Sm rs := by
  unfold fewB at h
  simp only [Bool.and_eq_true, decide_eq_true_eq] at h
  obtain ⟨h1, h2, h3⟩ := h
  exact ⟨h1, h2, h3, by have := sumB_len rs; omega, fun b hb => by have := sumB_mem hb; omega⟩

set_option maxRecDepth 20000 in
set_option maxHeartbeats 4000000 in
theorem few5_t (SA PA RA : Option Addr) (sc pc rc ns np : Nat) (lf : Int) (st : Bool) (rs : List Bs) (w : World) (h1 : ns ≤ 1048576) (h2 : np ≤ 1048576) (h3 : rs.length ≤ 1048576) (h4 : ∀ b ∈ rs, b.length ≤ 1048576) (h : RowsAt n₀ w RA rs) :
    Calls Try.prog 43 #[.agg #[.slice SA ns sc, .slice PA np pc, .int .i64 lf, .bool st], .slice RA rs.length rc] w fun e w' => e = .returned (.bool (fewB ns np rs)) ∧ Below w.heap.size w w' := by
  have HL := Lib.hid h4
  have H0 := Lib.hid h
  have hsb : sumB rs ≤ 1048576 * 1048577 := Nat.le_trans (sumB_le h4) (Nat.mul_le_mul_right _ h3)
  clear h4 h
  go_enter Try.func43, Try.ntmps43
  go_wp2_with (fail)
  obtain ⟨W1, hW1⟩ : ∃ W, W = w.alloc (.cells #[.slice SA ns sc, .slice PA np pc, .int .i64 lf, .bool st] 25) := ⟨_, rfl⟩
  rw [← hW1]
  have hw : Below w.heap.size w W1 := by rw [hW1]; exact (Below.refl _ _).alloc (Nat.le_refl _) _
  have x2 : Blk W1 w.heap.size 25 #[.slice SA ns sc, .slice PA np pc, .int .i64 lf, .bool st] := by rw [hW1]; exact Blk.new w 25 _
  have HX2 := Lib.hid x2
  clear hW1 x2
  go_loopw [5, 10] (fun v5 v10 wr => ∃ i : Nat, i ≤ rs.length ∧ v10 = .int .i64 i ∧ v5 = .int .i64 (sumB (rs.take i) : Nat) ∧ wr = W1) (fun _ v10 _ => rs.length - (intOf v10).toNat)
  case atStart => exact ⟨0, by omega, rfl, rfl, rfl⟩
  case round =>
    obtain ⟨i, hi, rfl, rfl, hwr⟩ := hrel
    have hwr := hwr.symm
    subst hwr
    by_cases hlt : i < rs.length
    case pos =>
      obtain ⟨b, o, rfl, hb, hc⟩ := (H0.out.below hw).get (by omega)
      obtain ⟨A', c', z0, -, -⟩ := hc i hlt
      have hst := take_snocR rs i hlt
      have hbl := HL.out _ (mem_getD hlt)
      have hu : sumB (rs.take i) ≤ 1048576 * 1048577 := by
        refine Nat.le_trans (sumB_le (fun b hb => HL.out b (List.mem_of_mem_take hb))) ?_
        rw [List.length_take]
        exact Nat.mul_le_mul_right _ (by omega)
      obtain ⟨x, hx⟩ : ∃ x, x = rs.getD i [] := ⟨_, rfl⟩
      rw [← hx] at z0 hst hbl
      have hst2 : sumB (rs.take (i + 1)) = sumB (rs.take i) + (1 + x.length) := by rw [hst, sumB_snoc]
      obtain ⟨u, hu2⟩ : ∃ u, u = sumB (rs.take i) := ⟨_, rfl⟩
      rw [← hu2] at hst2 hu
      rw [← hu2]
      obtain ⟨xn, hxn⟩ : ∃ n, n = x.length := ⟨_, rfl⟩
      rw [← hxn] at z0 hbl hst2
      have HST := Lib.hid hst2
      clear hc hst hx hu2 hxn hst2
      go_wp2_with (fail)
      go_roundw
      case rel => exact ⟨i + 1, by omega, by go_num, by rw [HST.out]; go_num, by trivial⟩
      case measure => simp [intOf]; omega
    case neg =>
      obtain rfl : i = rs.length := by omega
      rw [List.take_length]
      obtain ⟨u, hu⟩ : ∃ u, u = sumB rs := ⟨_, rfl⟩
      rw [← hu] at hsb ⊢
      have c0 := HX2.out.cell 0
      have c1 := HX2.out.cell 1
      simp only [List.getElem?_toArray, List.getElem?_cons_zero, List.getElem?_cons_succ] at c0 c1
      by_cases k1 : ns ≤ 40
      case neg =>
        have E := Lib.hid (show fewB ns np rs = false by unfold fewB; rw [decide_eq_false k1]; rfl)
        have d1 : decide ((ns : Int) ≤ 40) = false := decide_eq_false (by omega)
        clear k1
        go_wp2
        go_ret
        exact ⟨by rw [E.out]; rfl, hw⟩
      have d1 : decide ((ns : Int) ≤ 40) = true := decide_eq_true (by omega)
      by_cases k2 : np ≤ 40
      case neg =>
        have E := Lib.hid (show fewB ns np rs = false by unfold fewB; rw [decide_eq_true k1, decide_eq_false k2]; rfl)
        have d2 : decide ((np : Int) ≤ 40) = false := decide_eq_false (by omega)
        clear k1 k2
        go_wp2
        go_ret
        exact ⟨by rw [E.out]; rfl, hw⟩
      have d2 : decide ((np : Int) ≤ 40) = true := decide_eq_true (by omega)
      by_cases k3 : u ≤ 4000
      case neg =>
        have E := Lib.hid (show fewB ns np rs = false by unfold fewB; rw [decide_eq_true k1, decide_eq_true k2, ← hu, decide_eq_false k3]; rfl)
        have d3 : decide ((u : Int) ≤ 4000) = false := decide_eq_false (by omega)
        clear k1 k2 k3 hu
        go_wp2
        go_ret
        exact ⟨by rw [E.out]; rfl, hw⟩
      have E := Lib.hid (show fewB ns np rs = true by unfold fewB; rw [decide_eq_true k1, decide_eq_true k2, ← hu, decide_eq_true k3]; rfl)
      have d3 : decide ((u : Int) ≤ 4000) = true := decide_eq_true (by omega)
      clear k1 k2 k3 hu
      go_wp2
      go_ret
      exact ⟨by rw [E.out]; rfl, hw⟩
end Go.Proofs.Ytckeopidedoohaa
