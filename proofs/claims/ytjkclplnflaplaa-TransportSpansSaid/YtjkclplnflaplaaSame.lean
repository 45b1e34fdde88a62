/-
  Lists of spans compared by the reference; few orders. Conditions: rows as they lie.
-/
import Derived.Test.YtjkclplnflaplaaSpans
namespace Go.Proofs.Ytjkclplnflaplaa
open Go.RowKit
attribute [local go_sem] Oper.semAt_some

theorem few_t (A : Option Addr) (n c : Nat) (w : World) :
    Calls Try.prog 11 #[.slice A n c] w fun e w' => e = .returned (.bool (decide (n ≤ 300))) ∧ Below w.heap.size w w' := by
  by_cases h : n ≤ 300
  · have E := Lib.hid (decide_eq_true h)
    have d : decide ((n : Int) ≤ 300) = true := decide_eq_true (by omega)
    go_enter Try.func11, Try.ntmps11
    go_wp2
    go_ret
    exact ⟨by rw [E.out]; rfl, Below.refl _ _⟩
  · have E := Lib.hid (decide_eq_false h)
    have d : decide ((n : Int) ≤ 300) = false := decide_eq_false (by omega)
    go_enter Try.func11, Try.ntmps11
    go_wp2
    go_ret
    exact ⟨by rw [E.out]; rfl, Below.refl _ _⟩

theorem sp_ext {xs ys : List Sp} (hl : xs.length = ys.length) (h : ∀ i, i < xs.length → xs.getD i p0 = ys.getD i p0) : xs = ys := by
  refine List.ext_getElem hl fun i h1 h2 => ?_
  have := h i h1
  simpa [List.getD_eq_getElem?_getD, h1, h2] using this

set_option maxHeartbeats 2000000 in
open Classical in
theorem same_t (A B : Option Addr) (n m c d : Nat) (xs ys : List Sp) (w : World) (hn : n = xs.length) (hm : m = ys.length) (hx : SpAt w A xs) (hy : SpAt w B ys) (hl : xs.length ≤ 1000000000000) (hl2 : ys.length ≤ 1000000000000) :
    Calls Try.prog 18 #[.slice A n c, .slice B m d] w fun e w' => e = .returned (.bool (decide (xs = ys))) ∧ Below w.heap.size w w' := by
  subst hn hm
  by_cases he : xs.length = ys.length
  case neg =>
    have d : ((xs.length : Int) != (ys.length : Int)) = true := bne_iff_ne.2 (by omega)
    have E := Lib.hid (decide_eq_false (fun h : xs = ys => he (by rw [h])))
    clear he
    go_enter Try.func18, Try.ntmps18
    go_wp2
    go_ret
    exact ⟨by rw [E.out]; rfl, Below.refl _ _⟩
  rcases Nat.eq_zero_or_pos xs.length with h0 | h0
  · obtain rfl : xs = [] := List.eq_nil_of_length_eq_zero h0
    obtain rfl : ys = [] := List.eq_nil_of_length_eq_zero (by simpa using he.symm)
    have E := Lib.hid (decide_eq_true (show ([] : List Sp) = [] from rfl))
    go_enter Try.func18, Try.ntmps18
    go_wp2
    refine wp_loop_rounds 1 ?_
    rw [rounds_succ]
    go_wp2
    go_ret
    exact ⟨by rw [E.out]; rfl, Below.refl _ _⟩
  obtain ⟨b, o, rfl, hb, hc⟩ := hx h0
  obtain ⟨b', o', rfl, hb', hc'⟩ := hy (by omega)
  have HE := Lib.hid he
  have hne : ((xs.length : Int) != (ys.length : Int)) = false := by rw [he]; simp
  clear he
  go_enter Try.func18, Try.ntmps18
  go_wp2
  go_loopw [5] (fun i wr => ∃ k : Nat, k ≤ xs.length ∧ i = .int .i64 k ∧ (∃ m, wr = w.drewN m) ∧ Hid (∀ j, j < k → xs.getD j p0 = ys.getD j p0)) (fun i _ => xs.length - (intOf i).toNat)
  case atStart => exact ⟨0, by omega, rfl, ⟨0, rfl⟩, Lib.hid fun j hj => by omega⟩
  case round =>
    obtain ⟨k, hk, rfl, ⟨m, rfl⟩, hs⟩ := hrel
    by_cases hlt : k < xs.length
    · obtain ⟨p, hp⟩ : ∃ p, p = xs.getD k p0 := ⟨_, rfl⟩
      obtain ⟨q, hq⟩ : ∃ q, q = ys.getD k p0 := ⟨_, rfl⟩
      have hlt2 : (k : Int) < (ys.length : Int) := by have := HE.out; omega
      have c1 := fun c' h' => hc k hlt c' h'
      have c2 := fun c' h' => hc' k (by omega) c' h'
      rw [← hp] at c1
      rw [← hq] at c2
      have HP := Lib.hid hp
      have HQ := Lib.hid hq
      clear hp hq
      obtain ⟨pe, pl, ps, pr, pc⟩ := p
      obtain ⟨qe, ql, qs, qr, qc⟩ := q
      have a0 : w.cell? ⟨b, o + k * 5, none⟩ = some (.int .i64 pe) := c1 0 (by omega)
      have a1 : w.cell? ⟨b, o + k * 5 + 1, none⟩ = some (.int .i64 pl) := c1 1 (by omega)
      have a2 : w.cell? ⟨b, o + k * 5 + 2, none⟩ = some (.int .i64 ps) := c1 2 (by omega)
      have a3 : w.cell? ⟨b, o + k * 5 + 3, none⟩ = some (.bool pr) := c1 3 (by omega)
      have a4 : w.cell? ⟨b, o + k * 5 + 4, none⟩ = some (.bool pc) := c1 4 (by omega)
      have e0 : w.cell? ⟨b', o' + k * 5, none⟩ = some (.int .i64 qe) := c2 0 (by omega)
      have e1 : w.cell? ⟨b', o' + k * 5 + 1, none⟩ = some (.int .i64 ql) := c2 1 (by omega)
      have e2 : w.cell? ⟨b', o' + k * 5 + 2, none⟩ = some (.int .i64 qs) := c2 2 (by omega)
      have e3 : w.cell? ⟨b', o' + k * 5 + 3, none⟩ = some (.bool qr) := c2 3 (by omega)
      have e4 : w.cell? ⟨b', o' + k * 5 + 4, none⟩ = some (.bool qc) := c2 4 (by omega)
      clear c1 c2 hc hc' hx hy
      by_cases hq : (⟨pe, pl, ps, pr, pc⟩ : Sp) = ⟨qe, ql, qs, qr, qc⟩
      · cases hq
        go_wp2
        go_quiet (fail)
        go_wp2
        go_roundw
        case rel => exact ⟨k + 1, by omega, by go_num, ⟨_, rfl⟩, Lib.hid fun j hj => by
          rcases Nat.lt_or_ge j k with h | h
          · exact hs.out j h
          · obtain rfl : j = k := by omega
            exact HP.out.symm.trans HQ.out⟩
        case measure => simp [intOf]; omega
      · have E := Lib.hid (decide_eq_false (fun h : xs = ys => hq (by rw [HP.out, HQ.out, h])))
        have hz : ¬ pe = qe ∨ (pe = qe ∧ ¬ pl = ql) ∨ (pe = qe ∧ pl = ql ∧ ¬ ps = qs) ∨ (pe = qe ∧ pl = ql ∧ ps = qs ∧ ¬ pr = qr) ∨ (pe = qe ∧ pl = ql ∧ ps = qs ∧ pr = qr ∧ ¬ pc = qc) := by
          by_cases h1 : pe = qe
          · by_cases h2 : pl = ql
            · by_cases h3 : ps = qs
              · by_cases h4 : pr = qr
                · exact .inr (.inr (.inr (.inr ⟨h1, h2, h3, h4, fun h5 => hq (by rw [h1, h2, h3, h4, h5])⟩)))
                · exact .inr (.inr (.inr (.inl ⟨h1, h2, h3, h4⟩)))
              · exact .inr (.inr (.inl ⟨h1, h2, h3⟩))
            · exact .inr (.inl ⟨h1, h2⟩)
          · exact .inl h1
        clear hq
        rcases hz with h1 | ⟨rfl, h1⟩ | ⟨rfl, rfl, h1⟩ | ⟨rfl, rfl, rfl, h1⟩ | ⟨rfl, rfl, rfl, rfl, h1⟩
        all_goals (go_wp2; go_quiet (fail); go_wp2; go_ret; exact ⟨by rw [E.out]; rfl, below_of_drewN ⟨_, World.drewN_drewN _ _ _⟩⟩)
    · obtain rfl : k = xs.length := by omega
      have E := Lib.hid (decide_eq_true (sp_ext HE.out hs.out))
      go_wp2
      go_ret
      exact ⟨by rw [E.out]; rfl, below_of_drewN ⟨_, rfl⟩⟩
end Go.Proofs.Ytjkclplnflaplaa
