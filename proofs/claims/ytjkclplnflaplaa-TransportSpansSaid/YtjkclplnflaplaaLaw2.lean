/-
  The law TransportRecord: the punch that the orders show, as plain data, and the walk.
-/
import Derived.Test.YtjkclplnflaplaaLaw1
namespace Go.Proofs.Ytjkclplnflaplaa
open Go.RowKit
attribute [local go_sem] Oper.semAt_some

theorem advS_eq (s : St) (n : Int) : ∃ p, advS s n = { s with pos := p } := by
  unfold advS
  split
  · exact ⟨s.pos, rfl⟩
  · split
    · exact ⟨_, rfl⟩
    · exact ⟨_, rfl⟩
/-- The last punch order that does not come behind a sample, among the first k. -/
def punK (l : List Ord) (t : Int) : Nat → Ord
  | 0 => o0
  | k + 1 => if (l.getD k o0).kind = 6 ∧ (l.getD k o0).at_ ≤ t then l.getD k o0 else punK l t k
def PunOf (s : St) (x : Ord) : Prop := s.pon = decide (x.kind = 6) ∧ (s.pon = true → s.pa = x.a ∧ s.pb = x.b)
theorem PunOf.adv {s : St} {x : Ord} (h : PunOf s x) (n : Int) : PunOf (advS s n) x := by
  obtain ⟨p, e⟩ := advS_eq s n
  rw [e]
  exact h
theorem run_pun {l : List Ord} (hg : GoodTo l l.length) (t : Int) (k : Nat) (hk : k ≤ cutK l t) (hl : cutK l t ≤ l.length) : PunOf (runS l k) (punK l t k) := by
  induction k with
  | zero => exact ⟨rfl, fun h => by cases h⟩
  | succ k ih =>
    have hR := hg.1 k (by omega)
    have h := (ih (by omega)).adv (oT l k - nowK l k)
    have hle : (l.getD k o0).at_ ≤ t := cut_le t (by omega)
    unfold runS punK
    generalize advS (runS l k) (oT l k - nowK l k) = s at h
    generalize l.getD k o0 = x at *
    obtain ⟨xt, xk, xa, xb⟩ := x
    obtain ⟨_, _, hc⟩ := hR
    dsimp only at *
    rcases hc with ⟨rfl | rfl | rfl, _, _⟩ | ⟨rfl, _, _, _⟩ | ⟨rfl | rfl, _, _, _⟩ <;> first
      | (rw [if_pos ⟨rfl, hle⟩]; exact ⟨rfl, fun _ => ⟨rfl, rfl⟩⟩)
      | (rw [if_neg (fun h => absurd h.1 (by decide))]; exact h)
theorem good_le {l : List Ord} (hg : GoodTo l l.length) {i j : Nat} (hij : i ≤ j) (hj : j < l.length) : oT l i ≤ oT l j := by
  induction j with
  | zero => obtain rfl : i = 0 := by omega
            exact Int.le_refl _
  | succ j ih =>
    rcases Nat.lt_or_ge i (j + 1) with h | h
    · exact Int.le_trans (ih (by omega) (by omega)) (hg.2 j hj)
    · obtain rfl : i = j + 1 := by omega
      exact Int.le_refl _
theorem cut_len (l : List Ord) (t : Int) : cutK l t ≤ l.length := by
  unfold cutK
  exact List.Sublist.length_le (List.takeWhile_sublist _)
theorem cut_gt {l : List Ord} (hg : GoodTo l l.length) {t : Int} {i : Nat} (h : cutK l t ≤ i) (hi : i < l.length) : t < oT l i :=
  Int.lt_of_lt_of_le (cut_spec t (by omega)) (good_le hg h hi)
theorem pun_tail {l : List Ord} (hg : GoodTo l l.length) (t : Int) (k : Nat) (hk : cutK l t ≤ k) (hl : k ≤ l.length) : punK l t k = punK l t (cutK l t) := by
  induction k with
  | zero => obtain h : cutK l t = 0 := by omega
            rw [h]
  | succ k ih =>
    rcases Nat.lt_or_ge (cutK l t) (k + 1) with h | h
    · rw [← ih (by omega) (by omega)]
      show (if _ then _ else _) = _
      have := cut_gt hg (t := t) (i := k) (by omega) (by omega)
      unfold oT at this
      rw [if_neg (by omega)]
    · obtain h2 : cutK l t = k + 1 := by omega
      rw [h2]
theorem rec_pun {l : List Ord} (hg : GoodTo l l.length) (t : Int) : recB (atS l t) = ((atS l t).roll && decide ((punK l t l.length).kind = 6) && decide ((punK l t l.length).a ≤ (atS l t).pos) && decide ((atS l t).pos < (punK l t l.length).b)) := by
  have hl := cut_len l t
  have h := (run_pun hg t (cutK l t) (Nat.le_refl _) hl).adv (t - nowK l (cutK l t))
  rw [pun_tail hg t l.length hl (Nat.le_refl _)]
  show recB (atS l t) = _
  have h : PunOf (atS l t) (punK l t (cutK l t)) := h
  obtain ⟨h1, h2⟩ := h
  unfold recB
  rw [← h1]
  cases hp : (atS l t).pon with
  | false => simp
  | true =>
    obtain ⟨e1, e2⟩ := h2 hp
    rw [e1, e2]
/-- What the law compares. -/
def RecOk (r q : Bool) (p : Int) (x : Ord) : Prop := q = (r && decide (x.kind = 6) && decide (x.a ≤ p) && decide (p < x.b))
theorem song_cases (l : List Ord) (t : Int) : (∃ e, e ≠ 0 ∧ gSong l t = (0, false, false, e)) ∨ (∃ p r q, gSong l t = (p, r, q, 0) ∧ RecOk r q p (punK l t l.length)) := by
  unfold gSong
  split
  · exact .inl ⟨_, by assumption, rfl⟩
  · rename_i h
    split
    · exact .inl ⟨1, by decide, rfl⟩
    · refine .inr ⟨_, _, _, rfl, rec_pun ?_ t⟩
      have h : gCheck l = 0 := by omega
      unfold gCheck at h
      split at h
      · simp at h
      · split at h
        · assumption
        · simp at h

def oc (x : Ord) : Array Value := #[.int .i64 x.at_, .int .i64 x.kind, .int .i64 x.a, .int .i64 x.b]

set_option maxHeartbeats 2000000 in
theorem record_t (A : Option Addr) (c : Nat) (l : List Ord) (t : Int) (w : World) (h : SlAt w A l) (_ : l.length ≤ c) (_ : l.length ≤ maxLen) (_ : -9223372036854775808 ≤ t ∧ t ≤ 9223372036854775807) :
    Calls Try.prog 9 #[.slice A l.length c, .int .i64 t] w (Yes w) := by
  by_cases hl : l.length ≤ 300
  case neg =>
    have hf : decide (l.length ≤ 300) = false := decide_eq_false hl
    clear hl
    go_enter Try.func9, Try.ntmps9
    go_wp2_with (first
      | (go_at_call 10; refine (sane_t _).mono ?_; rintro e w1 ⟨rfl, hw1⟩)
      | (go_at_call 11; refine (few_t _ _ _ _).mono ?_; rintro e w2 ⟨rfl, hw2⟩; rw [hf]; have b2 := hw1.trans (hw2.mono hw1.size)))
    go_ret
    exact ⟨rfl, b2⟩
  have hn : l.length ≤ 1000000 := by omega
  have hf : decide (l.length ≤ 300) = true := decide_eq_true hl
  clear hl
  rcases song_cases l t with ⟨er, he, hg⟩ | ⟨p, r, q, hg, hr⟩
  · have d : (er != 0) = true := bne_iff_ne.2 he
    clear he
    go_enter Try.func9, Try.ntmps9
    go_wp2_with (first
      | (go_at_call 10; refine (sane_t _).mono ?_; rintro e w1 ⟨rfl, hw1⟩; have h1 := h.below hw1)
      | (go_at_call 11; refine (few_t _ _ _ _).mono ?_; rintro e w2 ⟨rfl, hw2⟩; rw [hf]; have h2 := h1.below hw2; have b2 := hw1.trans (hw2.mono hw1.size))
      | (go_at_call 14; refine (songIs hn hg h2).mono ?_; rintro e w3 ⟨rfl, hw3⟩; have b3 := b2.trans (hw3.mono b2.size)))
    go_ret
    exact ⟨rfl, b3⟩
  have HG := Lib.hid hg
  have HR := Lib.hid hr
  clear hg hr
  go_enter Try.func9, Try.ntmps9
  go_wp2_with (first
    | (go_at_call 10; refine (sane_t _).mono ?_; rintro e w1 ⟨rfl, hw1⟩; have h1 := h.below hw1)
    | (go_at_call 11; refine (few_t _ _ _ _).mono ?_; rintro e w2 ⟨rfl, hw2⟩; rw [hf]; have h2 := h1.below hw2; have b2 := hw1.trans (hw2.mono hw1.size))
    | (go_at_call 14; refine (songIs hn HG.out h2).mono ?_; rintro e w3 ⟨rfl, hw3⟩; have h3 := h2.below hw3; have b3 := b2.trans (hw3.mono b2.size)))
  clear h h1 h2 hw1 hw2 hw3 b2
  have b4 := b3.alloc b3.size (.cells #[.int .i64 0, .int .i64 0, .int .i64 0, .int .i64 0] 40)
  go_loopw [39] (fun i wr => ∃ k : Nat, k ≤ l.length ∧ i = .int .i64 k ∧ Blk wr w3.heap.size 40 (oc (punK l t k)) ∧ Below w3.heap.size w3 wr) (fun i _ => l.length - (intOf i).toNat)
  case atStart => exact ⟨0, by omega, rfl, Blk.new _ _ _, (Below.refl _ w3).alloc (Nat.le_refl _) _⟩
  case round =>
    obtain ⟨k, hk, rfl, hP, hwr⟩ := hrel
    by_cases hlt : k < l.length
    · obtain ⟨b, o, rfl, hm0⟩ := h3 (by omega)
      have hm := hm0.below hwr
      have hb := hm0.lt
      have lP := hP.lt
      have g0 := hm.c0 k hlt
      have g1 := hm.c1 k hlt
      have g2 := hm.c2 k hlt
      have g3 := hm.c3 k hlt
      obtain ⟨xt, ht⟩ : ∃ x, x = oT l k := ⟨_, rfl⟩
      obtain ⟨kd, hkd⟩ : ∃ x, x = oK l k := ⟨_, rfl⟩
      obtain ⟨xa, hxa⟩ : ∃ x, x = oA l k := ⟨_, rfl⟩
      obtain ⟨xb, hxb⟩ : ∃ x, x = oB l k := ⟨_, rfl⟩
      rw [← ht] at g0
      rw [← hkd] at g1
      rw [← hxa] at g2
      rw [← hxb] at g3
      have hx : l.getD k o0 = ⟨xt, kd, xa, xb⟩ := by rw [ht, hkd, hxa, hxb]; rfl
      have f0 := hP.frozen 0
      have f1 := hP.frozen 1
      have f2 := hP.frozen 2
      have f3 := hP.frozen 3
      have q0 : wr.cell? ⟨w3.heap.size, 0, none⟩ = some (.int .i64 (punK l t k).at_) := hP.cell 0
      have q1 : wr.cell? ⟨w3.heap.size, 1, none⟩ = some (.int .i64 (punK l t k).kind) := hP.cell 1
      have q2 : wr.cell? ⟨w3.heap.size, 2, none⟩ = some (.int .i64 (punK l t k).a) := hP.cell 2
      have q3 : wr.cell? ⟨w3.heap.size, 3, none⟩ = some (.int .i64 (punK l t k).b) := hP.cell 3
      by_cases hp : kd = 6 ∧ xt ≤ t
      · have hp2 : punK l t (k + 1) = ⟨xt, kd, xa, xb⟩ := by
          show (if _ then _ else _) = _
          rw [hx, if_pos hp]
        have HP2 := Lib.hid hp2
        obtain ⟨rfl, hp1⟩ := hp
        have d2 : decide (xt ≤ t) = true := decide_eq_true hp1
        clear hp1 hp2 hx ht hkd hxa hxb hm0 hm h3 b4
        have b5 := (Below.refl w3.heap.size w3).trans hwr
        go_wp2
        go_roundw
        case rel => exact ⟨k + 1, by omega, by go_num, by rw [HP2.out]; exact (((((hP.set 0 _).set 1 _).set 2 _).set 3 _).alloc _), ((((hwr.setCell (p := ⟨w3.heap.size, 0, none⟩) (Nat.le_refl _) _).setCell (p := ⟨w3.heap.size, 1, none⟩) (Nat.le_refl _) _).setCell (p := ⟨w3.heap.size, 2, none⟩) (Nat.le_refl _) _).setCell (p := ⟨w3.heap.size, 3, none⟩) (Nat.le_refl _) _).alloc (by simpa using hwr.size) _⟩
        case measure => simp [intOf]; omega
      · have hp2 : punK l t (k + 1) = punK l t k := by
          show (if _ then _ else _) = _
          rw [hx, if_neg hp]
        have HP2 := Lib.hid hp2
        clear hp2 hx ht hkd hxa hxb hm0 hm h3 b4
        by_cases hk6 : kd = 6
        · have d2 : decide (xt ≤ t) = false := decide_eq_false (fun h => hp ⟨hk6, h⟩)
          subst hk6
          clear hp
          go_wp2
          go_roundw
          case rel => exact ⟨k + 1, by omega, by go_num, by rw [HP2.out]; exact hP.alloc _, hwr.alloc hwr.size _⟩
          case measure => simp [intOf]; omega
        · have d2 : (kd == 6) = false := beq_eq_false_iff_ne.2 hk6
          clear hp hk6
          go_wp2
          go_roundw
          case rel => exact ⟨k + 1, by omega, by go_num, by rw [HP2.out]; exact hP.alloc _, hwr.alloc hwr.size _⟩
          case measure => simp [intOf]; omega
    · obtain rfl : k = l.length := by omega
      have b5 : Below w.heap.size w wr := b3.trans (hwr.mono b3.size)
      obtain ⟨⟨xt, kd, xa, xb⟩, hx⟩ : ∃ x, x = punK l t l.length := ⟨_, rfl⟩
      have hr := HR.out
      rw [← hx] at hP hr
      clear hx b4 h3 HR
      have q0 : wr.cell? ⟨w3.heap.size, 0, none⟩ = some (.int .i64 xt) := hP.cell 0
      have q1 : wr.cell? ⟨w3.heap.size, 1, none⟩ = some (.int .i64 kd) := hP.cell 1
      have q2 : wr.cell? ⟨w3.heap.size, 2, none⟩ = some (.int .i64 xa) := hP.cell 2
      have q3 : wr.cell? ⟨w3.heap.size, 3, none⟩ = some (.int .i64 xb) := hP.cell 3
      unfold RecOk at hr
      dsimp only at hr
      subst hr
      cases r
      · go_wp2
        go_ret
        exact ⟨rfl, b5⟩
      · by_cases e1 : kd = 6
        · by_cases e2 : xa ≤ p
          · by_cases e3 : p < xb
            · have d1 : decide (kd = 6) = true := decide_eq_true e1
              have d2 : decide (xa ≤ p) = true := decide_eq_true e2
              have d3 : decide (p < xb) = true := decide_eq_true e3
              subst e1
              clear e2 e3
              go_wp2
              go_ret
              exact ⟨by rfl, b5⟩
            · have d2 : decide (xa ≤ p) = true := decide_eq_true e2
              have d3 : decide (p < xb) = false := decide_eq_false e3
              subst e1
              clear e2 e3
              go_wp2
              go_ret
              exact ⟨by rfl, b5⟩
          · have d2 : decide (xa ≤ p) = false := decide_eq_false e2
            subst e1
            clear e2
            go_wp2
            go_ret
            exact ⟨by rfl, b5⟩
        · have d1 : (kd == 6) = false := beq_eq_false_iff_ne.2 e1
          have d2 : decide (kd = 6) = false := decide_eq_false e1
          clear e1
          go_wp2
          go_ret
          exact ⟨by rfl, b5⟩
end Go.Proofs.Ytjkclplnflaplaa
