/-
  The reference's state of a transport: what orders and samples do to it, and that it goes along with the program's. Conditions: orders that are fine.
-/
import Derived.Test.YtjkclplnflaplaaSong
import Derived.Test.YtjkclplnflaplaaPcs
namespace Go.Proofs.Ytjkclplnflaplaa
open Go.RowKit

/-- The reference's state: the last loop and the last punch as orders. -/
structure RS where
  pos : Int
  roll : Bool
  lt : Int
  lk : Int
  la : Int
  lb : Int
  pt : Int
  pk : Int
  pa : Int
  pb : Int
def r0 : RS := ⟨0, false, 0, 0, 0, 0, 0, 0, 0, 0⟩
def rsc (s : RS) : Array Value := #[.int .i64 s.pos, .bool s.roll, .int .i64 s.lt, .int .i64 s.lk, .int .i64 s.la, .int .i64 s.lb, .int .i64 s.pt, .int .i64 s.pk, .int .i64 s.pa, .int .i64 s.pb]
def rsv (s : RS) : Value := .agg (rsc s)
def ordR (s : RS) (x : Ord) : RS :=
  if x.kind = 1 then { s with roll := true } else if x.kind = 2 then { s with roll := false } else if x.kind = 3 then { s with pos := x.a }
  else if x.kind = 4 then { s with lt := x.at_, lk := x.kind, la := x.a, lb := x.b } else if x.kind = 5 then { s with lt := 0, lk := 0, la := 0, lb := 0 }
  else if x.kind = 6 then { s with pt := x.at_, pk := x.kind, pa := x.a, pb := x.b } else s
def nextR (s : RS) : RS :=
  if s.roll = false then s else if s.lk = 4 ∧ s.pos + 1 = s.lb then { s with pos := s.la } else { s with pos := s.pos + 1 }
def recR (s : RS) : Bool := s.roll && decide (s.pk = 6) && decide (s.pa ≤ s.pos) && decide (s.pos < s.pb)

/-- The two states say the same. -/
structure Sim (r : RS) (s : St) : Prop where
  pos : r.pos = s.pos
  roll : r.roll = s.roll
  lon : s.lon = decide (r.lk = 4)
  lab : s.lon = true → s.la = r.la ∧ s.lb = r.lb
  pon : s.pon = decide (r.pk = 6)
  pab : s.pon = true → s.pa = r.pa ∧ s.pb = r.pb
theorem sim0 : Sim r0 s0 := ⟨rfl, rfl, rfl, (fun h => by cases h), rfl, (fun h => by cases h)⟩
theorem Sim.ord {r : RS} {s : St} (h : Sim r s) {x : Ord} (hx : Right x) : Sim (ordR r x) (ordS s x) := by
  obtain ⟨a, b, c, d, e, f⟩ := h
  obtain ⟨xt, xk, xa, xb⟩ := x
  obtain ⟨_, _, hc⟩ := hx
  dsimp only at hc
  rcases hc with ⟨rfl | rfl | rfl, _, _⟩ | ⟨rfl, _, _, _⟩ | ⟨rfl | rfl, _, _, _⟩
  · exact ⟨a, rfl, c, d, e, f⟩
  · exact ⟨a, rfl, c, d, e, f⟩
  · exact ⟨a, b, rfl, (fun h => by cases h), e, f⟩
  · exact ⟨rfl, b, c, d, e, f⟩
  · exact ⟨a, b, rfl, fun _ => ⟨rfl, rfl⟩, e, f⟩
  · exact ⟨a, b, c, d, rfl, fun _ => ⟨rfl, rfl⟩⟩
theorem Sim.next {r : RS} {s : St} (h : Sim r s) (hs : OkS s) : Sim (nextR r) (advS s 1) := by
  obtain ⟨a, b, c, d, e, f⟩ := h
  obtain ⟨p0, p1, hl⟩ := hs
  unfold nextR advS
  cases hr : s.roll with
  | false =>
    rw [if_pos (by rw [b, hr]), if_pos (.inl rfl)]
    exact ⟨a, b, c, d, e, f⟩
  | true =>
    rw [if_neg (by rw [b, hr]; simp), if_neg (show ¬ (true = false ∨ (1 : Int) = 0) by simp)]
    by_cases h4 : r.lk = 4
    · have hlon : s.lon = true := by rw [c]; exact decide_eq_true h4
      obtain ⟨e1, e2⟩ := d hlon
      have h5 := hl hlon
      by_cases h6 : r.pos + 1 = r.lb
      · rw [if_pos ⟨h4, h6⟩, if_pos ⟨by unfold loopingB; simp [hr, hlon]; omega, by omega⟩]
        refine ⟨?_, by rw [b, hr], c, d, e, f⟩
        show r.la = s.la + (s.pos + 1 - s.lb) % (s.lb - s.la)
        rw [show s.pos + 1 - s.lb = 0 by omega, Int.zero_emod]
        omega
      · rw [if_neg (fun h => h6 h.2), if_neg (fun h => by
          have h7 := h.1
          unfold loopingB at h7
          simp only [Bool.and_eq_true, decide_eq_true_eq] at h7
          have := h7.2
          have := h.2
          omega)]
        exact ⟨by show r.pos + 1 = s.pos + 1; omega, by rw [b, hr], c, d, e, f⟩
    · have hlon : s.lon = false := by rw [c]; exact decide_eq_false h4
      rw [if_neg (fun h => h4 h.1), if_neg (fun h => by
        have h7 := h.1
        unfold loopingB at h7
        rw [hlon] at h7
        simp at h7)]
      exact ⟨by show r.pos + 1 = s.pos + 1; omega, by rw [b, hr], c, d, e, f⟩
theorem Sim.rec_ {r : RS} {s : St} (h : Sim r s) : recR r = recB s := by
  obtain ⟨a, b, c, d, e, f⟩ := h
  unfold recR recB
  rw [b, ← e]
  cases hp : s.pon with
  | false => simp
  | true =>
    obtain ⟨e1, e2⟩ := f hp
    rw [e1, e2, a]

theorem rsc_cells {w : World} {B : Nat} {s : RS} (h : Blk w B 53 (rsc s)) : w.cell? ⟨B, 0, none⟩ = some (.int .i64 s.pos) ∧ w.cell? ⟨B, 1, none⟩ = some (.bool s.roll) ∧ w.cell? ⟨B, 2, none⟩ = some (.int .i64 s.lt) ∧ w.cell? ⟨B, 3, none⟩ = some (.int .i64 s.lk) ∧ w.cell? ⟨B, 4, none⟩ = some (.int .i64 s.la) ∧ w.cell? ⟨B, 5, none⟩ = some (.int .i64 s.lb) ∧ w.cell? ⟨B, 6, none⟩ = some (.int .i64 s.pt) ∧ w.cell? ⟨B, 7, none⟩ = some (.int .i64 s.pk) ∧ w.cell? ⟨B, 8, none⟩ = some (.int .i64 s.pa) ∧ w.cell? ⟨B, 9, none⟩ = some (.int .i64 s.pb) ∧ ∀ i, w.frozen? ⟨B, i, none⟩ = false :=
  ⟨h.cell 0, h.cell 1, h.cell 2, h.cell 3, h.cell 4, h.cell 5, h.cell 6, h.cell 7, h.cell 8, h.cell 9, fun i => h.frozen i⟩

set_option maxHeartbeats 2000000 in
theorem ordered_t (s : RS) (x : Ord) (hx : Right x) (w : World) : Calls Try.prog 37 #[rsv s, .agg #[.int .i64 x.at_, .int .i64 x.kind, .int .i64 x.a, .int .i64 x.b]] w fun e w' => e = .returned (rsv (ordR s x)) ∧ Below w.heap.size w w' := by
  obtain ⟨xt, xk, xa, xb⟩ := x
  obtain ⟨_, _, hc⟩ := hx
  dsimp only at hc ⊢
  have hk : xk = 1 ∨ xk = 2 ∨ xk = 3 ∨ xk = 4 ∨ xk = 5 ∨ xk = 6 := by omega
  clear hc
  unfold rsv rsc
  rcases hk with rfl | rfl | rfl | rfl | rfl | rfl
  · go_enter Try.func37, Try.ntmps37
    go_wp2
    refine bodyPost_ret (v := rsv (ordR s ⟨xt, 1, xa, xb⟩)) (by simp [results, Try.results37, go_sem, rsv, rsc, ordR]) rfl ?_
    exact ⟨rfl, by repeat (first | exact Below.refl _ _ | refine Below.alloc ?_ (by simp <;> omega) _ | refine Below.setCell ?_ (by simp <;> omega) _)⟩
  · go_enter Try.func37, Try.ntmps37
    go_wp2
    refine bodyPost_ret (v := rsv (ordR s ⟨xt, 2, xa, xb⟩)) (by simp [results, Try.results37, go_sem, rsv, rsc, ordR]) rfl ?_
    exact ⟨rfl, by repeat (first | exact Below.refl _ _ | refine Below.alloc ?_ (by simp <;> omega) _ | refine Below.setCell ?_ (by simp <;> omega) _)⟩
  · go_enter Try.func37, Try.ntmps37
    go_wp2
    refine bodyPost_ret (v := rsv (ordR s ⟨xt, 3, xa, xb⟩)) (by simp [results, Try.results37, go_sem, rsv, rsc, ordR]) rfl ?_
    exact ⟨rfl, by repeat (first | exact Below.refl _ _ | refine Below.alloc ?_ (by simp <;> omega) _ | refine Below.setCell ?_ (by simp <;> omega) _)⟩
  · go_enter Try.func37, Try.ntmps37
    go_wp2
    refine bodyPost_ret (v := rsv (ordR s ⟨xt, 4, xa, xb⟩)) (by simp [results, Try.results37, go_sem, rsv, rsc, ordR]) rfl ?_
    exact ⟨rfl, by repeat (first | exact Below.refl _ _ | refine Below.alloc ?_ (by simp <;> omega) _ | refine Below.setCell ?_ (by simp <;> omega) _)⟩
  · go_enter Try.func37, Try.ntmps37
    go_wp2
    refine bodyPost_ret (v := rsv (ordR s ⟨xt, 5, xa, xb⟩)) (by simp [results, Try.results37, go_sem, rsv, rsc, ordR]) rfl ?_
    exact ⟨rfl, by repeat (first | exact Below.refl _ _ | refine Below.alloc ?_ (by simp <;> omega) _ | refine Below.setCell ?_ (by simp <;> omega) _)⟩
  · go_enter Try.func37, Try.ntmps37
    go_wp2
    refine bodyPost_ret (v := rsv (ordR s ⟨xt, 6, xa, xb⟩)) (by simp [results, Try.results37, go_sem, rsv, rsc, ordR]) rfl ?_
    exact ⟨rfl, by repeat (first | exact Below.refl _ _ | refine Below.alloc ?_ (by simp <;> omega) _ | refine Below.setCell ?_ (by simp <;> omega) _)⟩

set_option maxHeartbeats 2000000 in
theorem next_t (s : RS) (w : World) (h0 : 0 ≤ s.pos) (h1 : s.pos ≤ 4398046511104) : Calls Try.prog 36 #[rsv s] w fun e w' => e = .returned (rsv (nextR s)) ∧ Below w.heap.size w w' := by
  obtain ⟨pos, roll, lt, lk, la, lb, pt, pk, pa, pb⟩ := s
  dsimp only at h0 h1
  unfold rsv rsc
  dsimp only
  cases roll
  case false =>
    go_enter Try.func36, Try.ntmps36
    go_wp2
    refine bodyPost_ret (v := rsv (nextR ⟨pos, false, lt, lk, la, lb, pt, pk, pa, pb⟩)) (by simp [results, Try.results36, go_sem, rsv, rsc, nextR]) rfl ?_
    exact ⟨rfl, by repeat (first | exact Below.refl _ _ | refine Below.alloc ?_ (by simp <;> omega) _ | refine Below.setCell ?_ (by simp <;> omega) _)⟩
  by_cases hk : lk = 4
  case neg =>
    have E := Lib.hid (show nextR ⟨pos, true, lt, lk, la, lb, pt, pk, pa, pb⟩ = ⟨pos + 1, true, lt, lk, la, lb, pt, pk, pa, pb⟩ by unfold nextR; simp [hk])
    have d : (lk == 4) = false := beq_eq_false_iff_ne.2 hk
    clear hk
    go_enter Try.func36, Try.ntmps36
    go_wp2
    refine bodyPost_ret (v := rsv ⟨pos + 1, true, lt, lk, la, lb, pt, pk, pa, pb⟩) (by simp [results, Try.results36, go_sem, rsv, rsc]) rfl ?_
    exact ⟨by rw [E.out]; rfl, by repeat (first | exact Below.refl _ _ | refine Below.alloc ?_ (by simp <;> omega) _ | refine Below.setCell ?_ (by simp <;> omega) _)⟩
  subst hk
  by_cases hb : pos + 1 = lb
  case neg =>
    have E := Lib.hid (show nextR ⟨pos, true, lt, 4, la, lb, pt, pk, pa, pb⟩ = ⟨pos + 1, true, lt, 4, la, lb, pt, pk, pa, pb⟩ by unfold nextR; simp [hb])
    have d : (pos + 1 == lb) = false := beq_eq_false_iff_ne.2 hb
    clear hb
    go_enter Try.func36, Try.ntmps36
    go_wp2
    refine bodyPost_ret (v := rsv ⟨pos + 1, true, lt, 4, la, lb, pt, pk, pa, pb⟩) (by simp [results, Try.results36, go_sem, rsv, rsc]) rfl ?_
    exact ⟨by rw [E.out]; rfl, by repeat (first | exact Below.refl _ _ | refine Below.alloc ?_ (by simp <;> omega) _ | refine Below.setCell ?_ (by simp <;> omega) _)⟩
  subst hb
  have E := Lib.hid (show nextR ⟨pos, true, lt, 4, la, pos + 1, pt, pk, pa, pb⟩ = ⟨la, true, lt, 4, la, pos + 1, pt, pk, pa, pb⟩ by unfold nextR; simp)
  go_enter Try.func36, Try.ntmps36
  go_wp2
  refine bodyPost_ret (v := rsv ⟨la, true, lt, 4, la, pos + 1, pt, pk, pa, pb⟩) (by simp [results, Try.results36, go_sem, rsv, rsc]) rfl ?_
  exact ⟨by rw [E.out]; rfl, by repeat (first | exact Below.refl _ _ | refine Below.alloc ?_ (by simp <;> omega) _ | refine Below.setCell ?_ (by simp <;> omega) _)⟩

set_option maxHeartbeats 2000000 in
theorem rrec_t (s : RS) (w : World) : Calls Try.prog 25 #[rsv s] w fun e w' => e = .returned (.bool (recR s)) ∧ Below w.heap.size w w' := by
  obtain ⟨pos, roll, lt, lk, la, lb, pt, pk, pa, pb⟩ := s
  unfold rsv rsc
  dsimp only
  cases roll
  case false =>
    go_enter Try.func25, Try.ntmps25
    go_wp2
    go_ret
    exact ⟨rfl, (Below.refl _ w).alloc (Nat.le_refl _) _⟩
  by_cases hk : pk = 6
  case neg =>
    have d : (pk == 6) = false := beq_eq_false_iff_ne.2 hk
    have E := Lib.hid (show recR ⟨pos, true, lt, lk, la, lb, pt, pk, pa, pb⟩ = false by unfold recR; simp [hk])
    clear hk
    go_enter Try.func25, Try.ntmps25
    go_wp2
    go_ret
    exact ⟨by rw [E.out]; rfl, (Below.refl _ w).alloc (Nat.le_refl _) _⟩
  subst hk
  by_cases ha : pa ≤ pos
  case neg =>
    have d : decide (pa ≤ pos) = false := decide_eq_false ha
    have E := Lib.hid (show recR ⟨pos, true, lt, lk, la, lb, pt, 6, pa, pb⟩ = false by unfold recR; simp; omega)
    clear ha
    go_enter Try.func25, Try.ntmps25
    go_wp2
    go_ret
    exact ⟨by rw [E.out]; rfl, (Below.refl _ w).alloc (Nat.le_refl _) _⟩
  have d : decide (pa ≤ pos) = true := decide_eq_true ha
  by_cases hb : pos < pb
  case neg =>
    have d2 : decide (pos < pb) = false := decide_eq_false hb
    have E := Lib.hid (show recR ⟨pos, true, lt, lk, la, lb, pt, 6, pa, pb⟩ = false by unfold recR; simp; omega)
    clear ha hb
    go_enter Try.func25, Try.ntmps25
    go_wp2
    go_ret
    exact ⟨by rw [E.out]; rfl, (Below.refl _ w).alloc (Nat.le_refl _) _⟩
  have d2 : decide (pos < pb) = true := decide_eq_true hb
  have E := Lib.hid (show recR ⟨pos, true, lt, lk, la, lb, pt, 6, pa, pb⟩ = true by unfold recR; simp; omega)
  clear ha hb
  go_enter Try.func25, Try.ntmps25
  go_wp2
  go_ret
  exact ⟨by rw [E.out]; rfl, (Below.refl _ w).alloc (Nat.le_refl _) _⟩
end Go.Proofs.Ytjkclplnflaplaa
