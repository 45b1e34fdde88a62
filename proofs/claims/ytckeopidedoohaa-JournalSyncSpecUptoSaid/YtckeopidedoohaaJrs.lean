/-
  records of the journal's reference. Conditions: sectors of 128 bytes, at most 4096 of them.
-/
import Derived.Test.YtckeopidedoohaaJrr
import Derived.Test.YtckeopidedoohaaJop
namespace Go.Proofs.Ytckeopidedoohaa
open Go.RowKit
variable {n₀ : Nat}
attribute [local go_sem] Oper.semAt_some

theorem rc_ty {x : Rc} (h : RcOk x) {g : Nat} {t : TypeId} {cs : Array Value} (hb : x.bl = some (g, t, cs)) : t = 5 := by
  rcases h with ⟨_, _, h3⟩ | ⟨g', cap, cur, _, _, h3, _⟩
  · rw [h3] at hb; cases hb
  · rw [h3] at hb; cases hb; rfl
theorem rc_sl {x : Rc} (h : RcOk x) : ∃ A c, x.v = .slice A x.b.length c := by
  rcases h with ⟨h1, h2, _⟩ | ⟨g', cap, cur, h2, _, _, _⟩
  · exact ⟨none, 0, by rw [h1, h2]; rfl⟩
  · exact ⟨_, _, h2⟩
theorem rRec_zero {l : List Bs} {a : Nat} (h : (rRec l a).1 = 0) : recAt l a 0 = none := by
  cases e : recAt l a 0 with
  | none => rfl
  | some x =>
    obtain ⟨m, b⟩ := x
    have h1 := recAt_lt e
    rw [rRec_some e] at h
    dsimp only at h
    omega
theorem rRec_pos {l : List Bs} {a : Nat} (h : (rRec l a).1 ≠ 0) : recAt l a 0 = some (a + (rRec l a).1, (rRec l a).2) := by
  cases e : recAt l a 0 with
  | none => rw [rRec_none e] at h; exact absurd rfl h
  | some x =>
    obtain ⟨m, b⟩ := x
    have h1 := recAt_lt e
    rw [rRec_some e]
    dsimp only
    rw [show a + (m - a) = m by omega]
/-- The blocks of the records lie. -/
def RcB (xs : List Rc) (W : World) : Prop := ∀ x ∈ xs, RcOk x ∧ ∀ g t cs, x.bl = some (g, t, cs) → W.heap[g]? = some (.cells cs t (0, 0))
theorem RcB.below {xs : List Rc} {W W' : World} (h : RcB xs W) (hb : Below W.heap.size W W') : RcB xs W' := fun x hx => ⟨(h x hx).1, fun g t cs hg => by
  have h1 := (h x hx).2 g t cs hg
  exact (hb.block g (Array.getElem?_eq_some_iff.1 h1).1).trans h1⟩
theorem RcB.grown {xs : List Rc} {W W' : World} {base size n : Nat} {v : Value} {vs : List Value} (h : RcB xs W) (ho : W.ownsRow base 35 size v n vs) (hg : W.grownBy W' v.ownBlock) : RcB xs W' := fun x hx => ⟨(h x hx).1, fun g t cs hb => by
  have h1 := (h x hx).2 g t cs hb
  have ht := rc_ty (h x hx).1 hb
  have hne := own_ne ho h1 (by rw [ht]; decide)
  exact (hg.block g (Array.getElem?_eq_some_iff.1 h1).1 (fun e => hne e.symm)).trans h1⟩
theorem RcB.rows {xs : List Rc} {W : World} (h : RcB xs W) : Rws n₀ W (xs.map Rc.v) (xs.map Rc.b) := rc_rws h
def RsIs (n₀ : Nat) (w : World) (rs : List Bs) (e : Ending) (w' : World) : Prop := ∃ A c, e = .returned (.slice A rs.length c) ∧ rs.length ≤ c ∧ RowsAt n₀ w' A rs ∧ Below w.heap.size w w'
theorem rs_end {l : List Bs} {xs : List Rc} {w W : World} {v : Value} (hx : ∀ x ∈ xs, RcOk x) (hk : recs l.length l 0 0 = xs.map rcKey) (hb : RcB xs W) (ho : W.ownsRow w.heap.size 35 1 v xs.length (xs.map Rc.v)) (hw : Below w.heap.size w W) : RsIs n₀ w (gRecs l) (.returned v) W := by
  have e := rc_recs (l := l) (xs := xs) ⟨hx, hk.symm⟩
  obtain ⟨A, c, rfl, hc⟩ := own_slice ho
  have hl : (gRecs l).length = xs.length := by rw [e, List.length_map]
  refine ⟨A, c, by rw [hl], by rw [hl]; exact hc, ?_, hw⟩
  rw [e]
  exact ⟨xs.map Rc.v, hb.rows, own_ValsAt ho (by simp)⟩

set_option maxRecDepth 20000 in
set_option maxHeartbeats 8000000 in
theorem rrecords_t (LA : Option Addr) (c : Nat) (l : List Bs) (w : World) (hn0 : n₀ ≤ w.heap.size) (h128 : ∀ b ∈ l, b.length = 128) (hll : l.length ≤ 4096) (hr : RowsAt n₀ w LA l) :
    Calls Try.prog 82 #[.slice LA l.length c] w (RsIs n₀ w (gRecs l)) := by
  obtain ⟨i0, hi0, hz0, hz1, hz2⟩ := info_parts info35
  have HR := Lib.hid hr
  have H128 := Lib.hid h128
  clear hr h128
  go_enter Try.func82, Try.ntmps82
  go_wp2_with (fail)
  go_loopw [3, 4, 5] (fun v3 v4 v5 wr => ∃ (at_ last f : Nat) (xs : List Rc), v4 = .int .i64 (at_ : Nat) ∧ v5 = .int .u64 (last : Nat) ∧ at_ ≤ l.length ∧ xs.length ≤ at_ ∧ wr.ownsRow w.heap.size 35 1 v3 xs.length (xs.map Rc.v) ∧ Below w.heap.size w wr ∧ Hid ((∀ x ∈ xs, RcOk x) ∧ recs l.length l 0 0 = xs.map rcKey ++ recs f l at_ last ∧ l.length ≤ at_ + f) ∧ Hid (RcB xs wr)) (fun _ v4 _ _ => l.length - (intOf v4).toNat)
  case atStart => exact ⟨0, 0, l.length, [], rfl, rfl, by omega, by simp, World.ownsRow_lit (base := w.heap.size) (e := 35) (size := 1) w #[] 0 (Nat.le_refl _) (by simp [maxLen]) rfl, (Below.refl _ _).alloc (Nat.le_refl _) _, Lib.hid ⟨fun x hx => (by cases hx), by simp, by omega⟩, Lib.hid (fun x hx => (by cases hx))⟩
  case round =>
    obtain ⟨at_, last, f, xs, rfl, rfl, hat, hxl, hown, hb, HI, HB⟩ := hrel
    have hws := hb.size
    have hrw := HR.out.below hb
    have HRW := Lib.hid hrw
    obtain ⟨n, hnd⟩ : ∃ n, n = (rRec l at_).1 := ⟨_, rfl⟩
    obtain ⟨bs, hbd⟩ : ∃ n, n = (rRec l at_).2 := ⟨_, rfl⟩
    have HN := Lib.hid hnd
    have HBD := Lib.hid hbd
    have K : Calls Try.prog 106 #[.slice LA l.length c, .int .i64 (at_ : Nat)] wr (fun e w' => ∃ y : Rc, RcOk y ∧ y.b = bs ∧ e = .returned (.tuple #[y.v, .int .i64 (n : Nat)]) ∧ (∀ g t cs, y.bl = some (g, t, cs) → w'.heap[g]? = some (.cells cs t (0, 0)) ∧ wr.heap.size ≤ g) ∧ Below wr.heap.size wr w') := by rw [hnd, hbd]; exact rrec_t (n₀ := n₀) LA c at_ l wr (Nat.le_trans hn0 hws) H128.out hll hat hrw
    clear hrw hnd hbd
    go_wp2_with (fail)
    go_at_call 106
    refine K.mono ?_
    rintro e w1 ⟨y, hy, hyb, rfl, hyl, hb1⟩
    clear K
    have HY := Lib.hid (And.intro hy (And.intro hyb hyl))
    obtain ⟨YA, yc, hyv⟩ := rc_sl hy
    rw [hyv]
    have HYV := Lib.hid hyv
    clear hy hyb hyl hyv
    have hown1 := row_keep hown hb1
    have HB1 := Lib.hid (HB.out.below hb1)
    have hbw := hb.trans (hb1.mono hws)
    have hsw := hbw.size
    have HEND := Lib.hid (show recAt l at_ last = none → RsIs n₀ w (gRecs l) (.returned u3) w1 from fun h => rs_end HI.out.1 (by rw [HI.out.2.1, recs_none h, List.append_nil]) HB1.out hown1 hbw)
    by_cases hn : n = 0
    case pos =>
      have d1 : ((n : Int) == 0) = true := by rw [hn]; rfl
      have d1n : (n == 0) = true := by rw [hn]; rfl
      have hz : recAt l at_ 0 = none := rRec_zero (by rw [← HN.out]; exact hn)
      have HZ := Lib.hid hz
      clear hz hn
      go_wp2_with (fail)
      go_ret
      exact HEND.out (by rw [recAt_last, HZ.out]; split <;> rfl)
    have d1 : ((n : Int) == 0) = false := beq_eq_false_iff_ne.2 (by omega)
    have d1n : (n == 0) = false := beq_eq_false_iff_ne.2 hn
    have hz : recAt l at_ 0 = some (at_ + n, bs) := by rw [HN.out, HBD.out]; exact rRec_pos (by rw [← HN.out]; exact hn)
    have hlt := recAt_lt hz
    have HZ := Lib.hid hz
    clear hz hn
    obtain ⟨b, o, rfl, lb0, hget⟩ := HRW.out.get (by omega)
    obtain ⟨A0, c0, zat0, hc0, hbs0⟩ := hget at_ (by omega)
    have hs0 := H128.out _ (mem_getD (show at_ < l.length by omega))
    obtain ⟨s0, hs0e⟩ : ∃ s, s = l.getD at_ [] := ⟨_, rfl⟩
    rw [← hs0e] at zat0 hc0 hbs0 hs0
    rw [hs0] at zat0 hc0
    obtain ⟨b0, o0, rfl, hbl0, -⟩ := id hbs0 (by omega)
    have lbw : b < wr.heap.size := by omega
    have zat := (hb1.cell (p := ⟨b, _, none⟩) lbw).trans zat0
    obtain ⟨g0, hg0⟩ : ∃ x, x = sGen s0 := ⟨_, rfl⟩
    have HGB := Lib.hid (show ∀ W cx, Below wr.heap.size wr W → Calls Try.prog 107 #[.slice (some ⟨b0, o0, none⟩) 4 cx] W (fun e w' => e = .returned (.int .u64 (g0 : Nat)) ∧ w' = W) from fun W cx hW => by rw [hg0]; exact num_at hbs0 0 4 cx (by omega) (by decide) W hW)
    have HG0 := Lib.hid (And.intro hg0 hs0e)
    have c04 : (4 : Int) ≤ (c0 : Int) := by omega
    have hal2 : (at_ : Int) < (l.length : Int) := by omega
    have at0' : (0 : Int) ≤ (at_ : Int) := by omega
    clear hget hbs0 hg0 hs0e zat0
    by_cases hgl : g0 < last
    case pos =>
      have d2 : decide ((g0 : Int) < (last : Int)) = true := decide_eq_true (by omega)
      have d2n : decide (g0 < last) = true := decide_eq_true hgl
      have HGL := Lib.hid hgl
      clear hgl
      go_wp2_with (go_at_call 107; refine (HGB.out _ _ hb1).mono ?_; rintro e w8 ⟨rfl, hw8⟩; have hw8 := hw8.symm; subst hw8)
      go_ret
      exact HEND.out (by rw [recAt_last, ← HG0.out.2, ← HG0.out.1, if_neg (by have := HGL.out; omega)])
    have d2 : decide ((g0 : Int) < (last : Int)) = false := decide_eq_false (by omega)
    have d2n : decide (g0 < last) = false := decide_eq_false hgl
    have hz2 : recAt l at_ last = some (at_ + n, bs) := by rw [recAt_last, ← HG0.out.2, ← HG0.out.1, if_pos (by omega)]; exact HZ.out
    have HZ2 := Lib.hid hz2
    clear hz2 hgl
    have hok : RcOk ⟨at_ + n, y.b, y.v, y.bl⟩ := HY.out.1
    obtain ⟨f', hall, hrec, hf', -⟩ := rc_snoc (x := ⟨at_ + n, y.b, y.v, y.bl⟩) HI.out.1 HI.out.2.1 HI.out.2.2 (by omega) (by rw [HY.out.2.1]; exact HZ2.out) hok rfl
    rw [← HG0.out.2, ← HG0.out.1] at hrec
    have HNX := Lib.hid (And.intro hall (And.intro hrec hf'))
    clear hall hrec hf' hok
    have hbx : RcB (xs ++ [⟨at_ + n, y.b, y.v, y.bl⟩]) w1 := fun x hx => by
      rcases List.mem_append.1 hx with hx | hx
      · exact HB1.out x hx
      · rw [List.mem_singleton.1 hx]; exact ⟨HY.out.1, fun g t cs h => (HY.out.2.2 g t cs h).1⟩
    have HBX := Lib.hid hbx
    clear hbx
    have i1 : IntKind.i64.wrap ((at_ : Int) + (n : Int)) = (at_ : Int) + n := IntWalk.i64_in _ (by omega)
    have hxm : (xs ++ [(⟨at_ + n, y.b, y.v, y.bl⟩ : Rc)]).map Rc.v = xs.map Rc.v ++ [.slice YA y.b.length yc] := by rw [List.map_append, List.map_singleton, ← HYV.out]
    have HXM := Lib.hid hxm
    clear hxm
    go_upto_region 9 with (first | (go_at_call 107; refine (HGB.out _ _ hb1).mono ?_; rintro e w8 ⟨rfl, hw8⟩; have hw8 := hw8.symm; subst hw8) | (at_builtin; refine wpList_append_own _ rfl (.tmp 34) (.tmp 36) 22 rfl w.heap.size 35 i0 (.slice none 0 0) 1 24 Try.underlying22 hi0 hz0 hz1 hz2 rfl (by decide) _ xs.length (xs.map Rc.v) rfl (hown1.alloc _) ⟨w1.heap.size, 0, none⟩ 1 1 [.slice YA y.b.length yc] rfl rfl (cell_new1 w1 _ _) (by simp [Value.oneCell']) (by simp [maxLen]; omega) (by omega) (by simp <;> omega) ?_; intro v9 w9 hown9 hgrow9 _))
    have hb9 : Below w.heap.size w w9 := (hbw.alloc hsw _).grown hgrow9 (by simp <;> omega) (own_base hown1)
    have HB9 := Lib.hid ((HBX.out.below ((Below.refl _ _).alloc (Nat.le_refl _) _)).grown (hown1.alloc _) hgrow9)
    rw [← HXM.out] at hown9
    clear hgrow9 HB1 HBX
    go_wp2_with (fail)
    go_roundw
    case rel => exact ⟨at_ + n, g0, f', xs ++ [⟨at_ + n, y.b, y.v, y.bl⟩], by go_num, rfl, by omega, by rw [List.length_append, List.length_singleton]; omega, by rw [List.length_append, List.length_singleton]; exact hown9, hb9, HNX, HB9⟩
    case measure => simp [intOf]; omega
end Go.Proofs.Ytckeopidedoohaa
