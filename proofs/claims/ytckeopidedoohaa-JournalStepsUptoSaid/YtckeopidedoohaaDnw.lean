/-
  New disks. Conditions: none.
-/
import Derived.Test.YtckeopidedoohaaDnew
import Derived.Deep.RegionLaw
namespace Go.Proofs.Ytckeopidedoohaa
open Go.RowKit
variable {n₀ : Nat}
attribute [local go_sem] Oper.semAt_some

/-- A sector of zeros. -/
def zs : Bs := List.replicate 128 0
/-- What New answers. -/
def gNew (s : Int) : Dk × Int := if s < 1 ∨ 4096 < s then (dk0, 1) else (⟨List.replicate s.toNat zs, [], -1, false⟩, 0)
theorem zs_len : zs.length = 128 := by simp [zs]
theorem blk_zs {w : World} {g : Nat} (h : Blk w g 5 zc128.toArray) : BsAt n₀ w (some ⟨g, 0, none⟩) zs := by
  rw [zc128_b] at h
  exact blk_bs h
theorem bsV_zs {w : World} {g : Nat} (h : Blk w g 5 zc128.toArray) : BsV n₀ w (.slice (some ⟨g, 0, none⟩) 128 128) zs := ⟨_, _, by rw [zs_len], by rw [zs_len]; exact Nat.le_refl _, blk_zs h⟩
theorem rep_get {α : Type} (m i : Nat) (x d : α) (h : i < m) : (List.replicate m x).getD i d = x := by simp [List.getD, h]
theorem rws_rep {w : World} {v : Value} {r : Bs} (h : BsV n₀ w v r) (m : Nat) : Rws n₀ w (List.replicate m v) (List.replicate m r) := ⟨by simp, fun i hi => by
  rw [List.length_replicate] at hi
  rw [rep_get m i v undef hi, rep_get m i r [] hi]
  exact h⟩
theorem new_end {w w5 W : World} {m g gz B : Nat} (hb5 : Below w.heap.size w w5) (hg : Blk w5 g 35 (List.replicate m (.slice (some ⟨gz, 0, none⟩) 128 128)).toArray) (hz : Blk w5 gz 5 zc128.toArray) (hk : Keep (fun r => r = B) w5 W) (hB : w.heap.size ≤ B) (hgB : g ≠ B) (hzB : gz ≠ B) :
    DkIs n₀ w (⟨List.replicate m zs, [], -1, false⟩, 0) (.returned (.tuple #[.agg #[.slice (some ⟨g, 0, none⟩) m m, .slice none 0 0, .int .i64 (-1), .bool false], .int .i64 0])) W := by
  have hg2 := hg.keep hk hgB
  refine ⟨_, rfl, ⟨some ⟨g, 0, none⟩, m, none, 0, by rw [List.length_replicate]; rfl, by simp, Nat.le_refl _, ⟨_, rws_rep (bsV_zs (hz.keep hk hzB)) m, fun h0 => ⟨g, 0, rfl, .of_blk hg2 rfl, fun i hi => ?_⟩⟩, WrsAt.nil _ _⟩, hb5.trans (hk.below hb5.size (fun r hr h => by omega))⟩
  rw [List.length_replicate] at hi
  rw [Nat.zero_add, hg2.cell, List.getElem?_toArray, rep_get m i _ _ hi]
  simp [hi]

theorem row_ne {w : World} {base : Nat} {e t : TypeId} {size : Nat} {v : Value} {n B : Nat} {xs : List Value} {cs : Array Value} (h : w.ownsRow base e size v n xs) (hb : Blk w B t cs) (hne : e ≠ t) : v.ownBlock ≠ some B := fun hv => by
  rcases h.2 with ⟨rfl, _⟩ | ⟨g, cap, cur, rfl, _, hh, _⟩
  · cases hv
  · simp [Value.ownBlock] at hv
    subst hv
    exact (Blk.ne (t := e) (t' := t) hh hb hne) rfl
theorem Blk.grown {w w' : World} {B : Nat} {t : TypeId} {cs : Array Value} {row : Option Nat} (h : Blk w B t cs) (hg : w.grownBy w' row) (hne : row ≠ some B) : Blk w' B t cs := (hg.block B h.lt (fun e => hne e.symm)).trans h
/-- Each value is a sector of zeros of its own. -/
def ZB (w : World) (vs : List Value) : Prop := ∀ i, i < vs.length → ∃ g, vs.getD i undef = .slice (some ⟨g, 0, none⟩) 128 128 ∧ Blk w g 5 zc128.toArray
theorem ZB.rws {w : World} {vs : List Value} (h : ZB w vs) {k : Nat} (hk : vs.length = k) : Rws n₀ w vs (List.replicate k zs) := ⟨by simp [hk], fun i hi => by
  rw [List.length_replicate] at hi
  obtain ⟨g, e, hb⟩ := h i (by omega)
  rw [e, rep_get k i zs [] hi]
  exact bsV_zs hb⟩
theorem ZB.snoc {w : World} {vs : List Value} (h : ZB w vs) {g : Nat} (hg : Blk w g 5 zc128.toArray) : ZB w (vs ++ [.slice (some ⟨g, 0, none⟩) 128 128]) := fun i hi => by
  rw [List.length_append, List.length_singleton] at hi
  rcases Nat.lt_or_ge i vs.length with h1 | h1
  · obtain ⟨g', e, hb⟩ := h i h1
    exact ⟨g', by rw [← e]; simp [List.getD, List.getElem?_append, h1], hb⟩
  · obtain rfl : i = vs.length := by omega
    exact ⟨g, by simp [List.getD], hg⟩
theorem ZB.map {w w' : World} {vs : List Value} (h : ZB w vs) (hf : ∀ g, Blk w g 5 zc128.toArray → Blk w' g 5 zc128.toArray) : ZB w' vs := fun i hi => by
  obtain ⟨g, e, hb⟩ := h i hi
  exact ⟨g, e, hf g hb⟩
theorem rnew_end {w wr W : World} {m cp B : Nat} {V : Option Addr} {vs : List Value} {cs : Array Value} (hb : Below w.heap.size w wr) (hown : wr.ownsRow (w.heap.size + 2) 35 1 (.slice V m cp) m vs) (hcp : m ≤ cp) (hvl : vs.length = m) (hR : ZB wr vs) (hB : Blk wr B 25 cs) (hBw : B = w.heap.size) (hk : Keep (fun r => r = B) wr W) :
    DkIs n₀ w (⟨List.replicate m zs, [], -1, false⟩, 0) (.returned (.tuple #[.agg #[.slice V m cp, .slice none 0 0, .int .i64 (-1), .bool false], .int .i64 0])) W := by
  have hR2 : ZB W vs := hR.map fun g hg => hg.keep hk (hg.ne hB (by decide))
  have ho2 := own_keep hown hk (fun k h1 h2 => by omega)
  exact ⟨_, rfl, ⟨V, cp, none, 0, by rw [List.length_replicate]; rfl, by simpa using hcp, Nat.le_refl _, ⟨vs, hR2.rws hvl, own_ValsAt ho2 hvl.symm⟩, WrsAt.nil _ _⟩, hb.trans (hk.below hb.size (fun r hr h => by omega))⟩

set_option maxRecDepth 20000 in
set_option maxHeartbeats 4000000 in
theorem new_t (s : Int) (w : World) : Calls Try.prog 25 #[.int .i64 s] w (DkIs n₀ w (gNew s)) := by
  have b0 : Blk (w.alloc (.cells #[.slice none 0 0, .slice none 0 0, .int .i64 0, .bool false] 25)) w.heap.size 25 #[.slice none 0 0, .slice none 0 0, .int .i64 0, .bool false] := Blk.new w 25 _
  by_cases c1 : s < 1
  · have E := Lib.hid (show gNew s = (dk0, 1) by unfold gNew; rw [if_pos (.inl c1)])
    have d1 : decide (s < 1) = true := decide_eq_true c1
    clear c1
    go_enter Try.func25, Try.ntmps25
    go_wp2
    refine bodyPost_ret (v := .tuple #[.agg #[.slice none 0 0, .slice none 0 0, .int .i64 0, .bool false], .int .i64 1]) (by simp [results, Try.results25, go_sem]) rfl ?_
    rw [E.out]
    exact dk_end (fun W _ => dk0V W) (by repeat (first | refine Below.setCell ?_ (by simp <;> omega) _ | exact (Below.refl _ w).alloc (Nat.le_refl _) _))
  have d1 : decide (s < 1) = false := decide_eq_false c1
  by_cases c2 : 4096 < s
  · have E := Lib.hid (show gNew s = (dk0, 1) by unfold gNew; rw [if_pos (.inr c2)])
    have d2 : decide (4096 < s) = true := decide_eq_true c2
    clear c1 c2
    go_enter Try.func25, Try.ntmps25
    go_wp2
    refine bodyPost_ret (v := .tuple #[.agg #[.slice none 0 0, .slice none 0 0, .int .i64 0, .bool false], .int .i64 1]) (by simp [results, Try.results25, go_sem]) rfl ?_
    rw [E.out]
    exact dk_end (fun W _ => dk0V W) (by repeat (first | refine Below.setCell ?_ (by simp <;> omega) _ | exact (Below.refl _ w).alloc (Nat.le_refl _) _))
  have d2 : decide (4096 < s) = false := decide_eq_false c2
  obtain ⟨m, rfl⟩ : ∃ m : Nat, s = m := ⟨s.toNat, by omega⟩
  have E := Lib.hid (show gNew m = (⟨List.replicate m zs, [], -1, false⟩, 0) by unfold gNew; rw [if_neg (by omega), Int.toNat_natCast])
  have m1 : 1 ≤ m := by omega
  have m2 : m ≤ 4096 := by omega
  have hmk := make128
  obtain ⟨W3, hW3⟩ : ∃ W3, W3 = ((w.alloc (.cells #[.slice none 0 0, .slice none 0 0, .int .i64 0, .bool false] 25)).alloc (.cells zc128.toArray 5)).alloc (.cells #[.slice (some ⟨w.heap.size + 1, 0, none⟩) 128 128] 35) := ⟨_, rfl⟩
  have k3 : Below w.heap.size w W3 := by rw [hW3]; exact (((Below.refl _ w).alloc (Nat.le_refl _) _).alloc (by simp) _).alloc (by simp <;> omega) _
  have s3 : W3.heap.size = w.heap.size + 1 + 1 + 1 := by rw [hW3]; simp
  have x0 : Blk W3 w.heap.size 25 #[.slice none 0 0, .slice none 0 0, .int .i64 0, .bool false] := by rw [hW3]; exact (b0.alloc _).alloc _
  have x1 : Blk W3 (w.heap.size + 1) 5 zc128.toArray := by rw [hW3]; exact (Blk.newAt (by simp) 5 _).alloc _
  have x2 : Blk W3 (w.heap.size + 1 + 1) 35 #[.slice (some ⟨w.heap.size + 1, 0, none⟩) 128 128] := by rw [hW3]; exact Blk.newAt (by simp) 35 _
  have KR := repeat_t (w.heap.size + 1 + 1) 0 128 128 (some ⟨w.heap.size + 1, 0, none⟩) m W3 m1 m2 (by omega) x2.cell0
  rw [s3] at KR
  have HW3 := Lib.hid hW3
  clear c1 c2 b0 hW3
  go_enter Try.func25, Try.ntmps25
  go_wp2_with (fail)
  go_at_call 68
  rw [← HW3.out]
  refine KR.mono ?_
  rintro e w5 ⟨rfl, hg5, hw5⟩
  have hw5 : Below W3.heap.size W3 w5 := by rw [s3]; exact hw5
  have y0 := x0.below hw5 x0.lt
  have y1 := x1.below hw5 x1.lt
  have z0 := y0.cell 0
  have z1 := y0.cell 1
  have z2 := y0.cell 2
  have z3 := y0.cell 3
  have zf0 := y0.frozen 0
  have zf1 := y0.frozen 1
  have zf2 := y0.frozen 2
  have zf3 := y0.frozen 3
  simp only [List.getElem?_toArray, List.getElem?_cons_zero, List.getElem?_cons_succ] at z0 z1 z2 z3
  have hb5 := k3.trans (hw5.mono (by omega))
  clear x0 x1 x2 KR hw5
  go_wp2
  refine bodyPost_ret (v := .tuple #[.agg #[.slice (some ⟨w.heap.size + 1 + 1 + 1, 0, none⟩) m m, .slice none 0 0, .int .i64 (-1), .bool false], .int .i64 0]) (by simp [results, Try.results25, go_sem, z0, z1, z2, z3]) rfl ?_
  rw [E.out]
  exact new_end hb5 hg5 y1 (B := w.heap.size) (by repeat (first | refine Keep.setCell ?_ (fun _ => by simp) _ | exact Keep.refl _ _)) (Nat.le_refl _) (by omega) (by omega)

theorem step_append_own {P : Program} {ops : Array Oper} {o : Oper} {a : Act} {w : World} {K : Act → World → Prop} {Q : Exit → Act → World → Prop} {E : Prop} (hgd : o.guard = none) (s x : Operand) (t : TypeId)
    (ho : o.op = .call { callee := .builtin .append, args := #[s, x], argTypes := #[t, t] })
    (base : Nat) (e : TypeId) (i : TypeInfo) (z : Value) (size bytes : Nat) (ht : P.underlying t = some (.slice e)) (hi : P.info? e = some i) (hz : i.zero = some z)
    (hsize : i.size = size) (hby : i.bytes = bytes) (hzs : z.cells.size = size) (hsz : 0 < size)
    (v : Value) (n : Nat) (xs : List Value) (hs : a.eval s = v) (hown : w.ownsRow base e size v n xs)
    (ad : Addr) (m c : Nat) (news : List Value) (hx : a.eval x = .slice (some ad) m c) (hl : news.length = m * size) (hnews : ∀ j u, news[j]? = some u → w.cell? (ad.add j) = some u) (h1 : ∀ u ∈ news, u.oneCell' = true)
    (h63 : n + m ≤ maxLen) (hbytes : (n + m) * bytes ≤ 140737488355328) (hbase : base ≤ w.heap.size)
    (h : ∀ v' w', w'.ownsRow base e size v' (n + m) (xs ++ news) → w.grownBy w' v.ownBlock → K (a.put o.dst v') w') : if Region.wanted o (yielded ops a.tmps) = true then Oper.wp P o a w K Q else E := by
  have hw : Region.wanted o (yielded ops a.tmps) = true := by simp [Region.wanted, hgd]
  rw [if_pos hw]
  exact wp_append_own w s x t ho base e i z size bytes ht hi hz hsize hby hzs hsz v n xs hs hown ad m c news hx hl hnews h1 h63 hbytes hbase fun v' w' h2 h3 _ => h v' w' h2 h3

theorem own_other {w : World} {base : Nat} {e : TypeId} {size : Nat} {v : Value} {n : Nat} {xs : List Value} (h : w.ownsRow base e size v n xs) (B : Nat) (hB : B < base) (i : Nat) (u : Value) : (w.setCell ⟨B, i, none⟩ u).ownsRow base e size v n xs :=
  own_keep (may := fun r => r = B) h ((Keep.refl (fun r => r = B) w).setCell (p := ⟨B, i, none⟩) (fun _ => rfl) u) (fun k h1 h2 => by omega)
/-- The reference's loop: so many sectors have been made. -/
def RnI (w : World) (m : Nat) (iv : Value) (wr : World) : Prop := ∃ (k : Nat) (vs : List Value) (V : Option Addr) (cp : Nat), k ≤ m ∧ iv = .int .i64 k ∧ vs.length = k ∧ Hid (ZB wr vs) ∧ Blk wr w.heap.size 25 #[.slice none 0 0, .slice none 0 0, .int .i64 0, .bool false] ∧ Blk wr (w.heap.size + 1) 25 #[.slice V k cp, .slice none 0 0, .int .i64 (-1), .bool false] ∧ wr.ownsRow (w.heap.size + 2) 35 1 (.slice V k cp) k vs ∧ k ≤ cp ∧ Below w.heap.size w wr

set_option maxRecDepth 20000 in
set_option maxHeartbeats 4000000 in
theorem rnew_t (s : Int) (w : World) : Calls Try.prog 26 #[.int .i64 s] w (DkIs n₀ w (gNew s)) := by
  have b0 : Blk (w.alloc (.cells #[.slice none 0 0, .slice none 0 0, .int .i64 0, .bool false] 25)) w.heap.size 25 #[.slice none 0 0, .slice none 0 0, .int .i64 0, .bool false] := Blk.new w 25 _
  by_cases c1 : s < 1
  · have E := Lib.hid (show gNew s = (dk0, 1) by unfold gNew; rw [if_pos (.inl c1)])
    have d1 : decide (s < 1) = true := decide_eq_true c1
    clear c1
    go_enter Try.func26, Try.ntmps26
    go_wp2
    refine bodyPost_ret (v := .tuple #[.agg #[.slice none 0 0, .slice none 0 0, .int .i64 0, .bool false], .int .i64 1]) (by simp [results, Try.results26, go_sem]) rfl ?_
    rw [E.out]
    exact dk_end (fun W _ => dk0V W) (by repeat (first | refine Below.setCell ?_ (by simp <;> omega) _ | exact (Below.refl _ w).alloc (Nat.le_refl _) _))
  have d1 : decide (s < 1) = false := decide_eq_false c1
  by_cases c2 : 4096 < s
  · have E := Lib.hid (show gNew s = (dk0, 1) by unfold gNew; rw [if_pos (.inr c2)])
    have d2 : decide (4096 < s) = true := decide_eq_true c2
    clear c1 c2
    go_enter Try.func26, Try.ntmps26
    go_wp2
    refine bodyPost_ret (v := .tuple #[.agg #[.slice none 0 0, .slice none 0 0, .int .i64 0, .bool false], .int .i64 1]) (by simp [results, Try.results26, go_sem]) rfl ?_
    rw [E.out]
    exact dk_end (fun W _ => dk0V W) (by repeat (first | refine Below.setCell ?_ (by simp <;> omega) _ | exact (Below.refl _ w).alloc (Nat.le_refl _) _))
  have d2 : decide (4096 < s) = false := decide_eq_false c2
  obtain ⟨m, rfl⟩ : ∃ m : Nat, s = m := ⟨s.toNat, by omega⟩
  have E := Lib.hid (show gNew m = (⟨List.replicate m zs, [], -1, false⟩, 0) by unfold gNew; rw [if_neg (by omega), Int.toNat_natCast])
  have m1 : 1 ≤ m := by omega
  have m2 : m ≤ 4096 := by omega
  have hmk := make128
  obtain ⟨i0, hi0, hz0, hz1, hz2⟩ := info_parts info35
  have hal : Below w.heap.size w ((w.alloc (.cells #[.slice none 0 0, .slice none 0 0, .int .i64 0, .bool false] 25)).alloc (.cells #[.slice none 0 0, .slice none 0 0, .int .i64 (-1), .bool false] 25)) := ((Below.refl _ w).alloc (Nat.le_refl _) _).alloc (by simp) _
  clear c1 c2
  go_enter Try.func26, Try.ntmps26
  go_wp2
  go_loopw [5] (fun iv wr => RnI w m iv wr) (fun iv _ => m - (intOf iv).toNat)
  case atStart => exact ⟨0, [], none, 0, by omega, rfl, rfl, Lib.hid (fun i hi => by simp at hi), b0.alloc _, Blk.newAt (by simp) 25 _, World.ownsRow_nil _ _ _ _, Nat.le_refl _, hal⟩
  case round =>
    clear hal b0
    obtain ⟨k, vs, V, cp, hk, rfl, hvl, hR, x0, x1, hown, hcp, hwr⟩ := hrel
    have p0 := x1.cell 0
    have p1 := x1.cell 1
    have p2 := x1.cell 2
    have p3 := x1.cell 3
    have pf := x1.frozen 0
    have z0 := x0.cell 0
    have z1 := x0.cell 1
    have z2 := x0.cell 2
    have z3 := x0.cell 3
    have zf0 := x0.frozen 0
    have zf1 := x0.frozen 1
    have zf2 := x0.frozen 2
    have zf3 := x0.frozen 3
    simp only [List.getElem?_toArray, List.getElem?_cons_zero, List.getElem?_cons_succ] at p0 p1 p2 p3 z0 z1 z2 z3
    have lx0 := x0.lt
    have lx1 := x1.lt
    by_cases hlt : k < m
    case neg =>
      obtain rfl : k = m := by omega
      clear hlt
      go_wp2
      refine bodyPost_ret (v := .tuple #[.agg #[.slice V k cp, .slice none 0 0, .int .i64 (-1), .bool false], .int .i64 0]) (by simp [results, Try.results26, go_sem, z0, z1, z2, z3]) rfl ?_
      rw [E.out]
      exact rnew_end hwr hown hcp hvl hR.out x0 rfl (by repeat (first | refine Keep.setCell ?_ (fun _ => by simp) _ | exact Keep.refl _ _))
    case pos =>
      have hvl1 : vs.length = k * 1 := by omega
      have HVL := Lib.hid hvl1
      have HV := Lib.hid hvl
      have hck : Below wr.heap.size wr ((wr.alloc (.cells zc128.toArray 5)).alloc (.cells #[.slice (some ⟨wr.heap.size, 0, none⟩) 128 128] 35)).drew := (((Below.refl wr.heap.size wr).alloc (Nat.le_refl _) _).alloc (by simp) _).drew
      have hzb : Blk ((wr.alloc (.cells zc128.toArray 5)).alloc (.cells #[.slice (some ⟨wr.heap.size, 0, none⟩) 128 128] 35)).drew wr.heap.size 5 zc128.toArray := (Blk.new wr 5 _).alloc _
      have hcn := cell_new1 (wr.alloc (.cells zc128.toArray 5)) (.slice (some ⟨wr.heap.size, 0, none⟩) 128 128) 35
      rw [World.size_alloc] at hcn
      have HCN := Lib.hid hcn
      have hwrs := hwr.size
      clear hvl hvl1 hcn
      go_wp2_with (fail)
      go_region_law (refine step_append_own rfl (.tmp 20) (.tmp 22) 22 rfl (w.heap.size + 2) 35 i0 (.slice none 0 0) 1 24 Try.underlying22 hi0 hz0 hz1 hz2 rfl (by decide) _ k vs (by first | rfl | simp [Act.eval, Act.put]) (row_keep hown hck) ⟨wr.heap.size + 1, 0, none⟩ 1 1 [.slice (some ⟨wr.heap.size, 0, none⟩) 128 128] (by first | rfl | simp [Act.eval, Act.put]) rfl HCN.out (by simp [Value.oneCell']) (by simp [maxLen]; omega) (by omega) (by simp; omega) ?_; intro v9 w9 hown9 hgrow9; obtain ⟨A9, c9, rfl, hc9⟩ := own_slice hown9; have t0 := (x0.below hck lx0).grown hgrow9 (row_ne (row_keep hown hck) (x0.below hck lx0) (by decide)); have t1 := (x1.below hck lx1).grown hgrow9 (row_ne (row_keep hown hck) (x1.below hck lx1) (by decide)); have s0 := t1.cell 0; have s1 := t1.cell 1; have s2 := t1.cell 2; have s3 := t1.cell 3; have sf := t1.frozen 0; simp only [List.getElem?_toArray, List.getElem?_cons_zero, List.getElem?_cons_succ] at s0 s1 s2 s3)
      all_goals
        have hf : ∀ g, Blk ((wr.alloc (.cells zc128.toArray 5)).alloc (.cells #[.slice (some ⟨wr.heap.size, 0, none⟩) 128 128] 35)).drew g 5 zc128.toArray → Blk w9 g 5 zc128.toArray := fun g hg => hg.grown hgrow9 (row_ne (row_keep hown hck) hg (by decide))
        have hR9 := Lib.hid (((hR.out.map fun g hg => hf g (hg.below hck hg.lt)).snoc (hf _ hzb)))
        have b9 : Below w.heap.size w w9 := (hwr.trans (hck.mono hwrs)).grown hgrow9 (by simp; omega) (fun q hq => by have := own_base hown q hq; omega)
        have T0 := Lib.hid t0
        have T1 := Lib.hid t1
        have HO := Lib.hid hown9
        have hgne : ∀ g, Blk w9 g 5 zc128.toArray → g ≠ w.heap.size + 1 := fun g hg => hg.ne t1 (by decide)
        have HGN := Lib.hid hgne
        clear hf t0 t1 hown9 hgne hgrow9
        go_wp2_with (fail)
        go_roundw
        case rel => exact ⟨k + 1, vs ++ [.slice (some ⟨wr.heap.size, 0, none⟩) 128 128], A9, c9, by omega, by go_num, by rw [List.length_append, HV.out]; rfl, Lib.hid (hR9.out.map fun g hg => hg.other (HGN.out g hg) _), T0.out.other (by simp) _, T1.out.set 0 _, own_other HO.out (w.heap.size + 1) (by omega) _ _, hc9, b9.setCell (by simp) _⟩
        case measure => simp [intOf]; omega
end Go.Proofs.Ytckeopidedoohaa
