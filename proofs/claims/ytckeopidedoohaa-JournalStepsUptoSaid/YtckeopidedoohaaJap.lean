/-
  Room and Append of a journal. Conditions: the journal lies as plain data.
-/
import Derived.Test.YtckeopidedoohaaJck
import Derived.Test.YtckeopidedoohaaDsm
import Derived.Test.YtckeopidedoohaaDbx
import Derived.Test.YtckeopidedoohaaDnw
import Derived.ArgAppend
import Derived.Deep.RegionHeld3
import Derived.Deep.QuietTactic
import Derived.Deep.DeepCutAuto
namespace Go.Proofs.Ytckeopidedoohaa
open Go.RowKit
variable {n₀ : Nat}
attribute [local go_sem] Oper.semAt_some

/-- A value that reads as a journal. -/
def JnV (n₀ : Nat) (w : World) (v : Value) (j : Jn) : Prop := ∃ RA rc, v = .agg #[.slice RA j.recs.length rc, .int .i64 j.many, .int .i64 j.sync] ∧ j.recs.length ≤ rc ∧ RowsAt n₀ w RA j.recs
theorem JnV.below {w w' : World} {v : Value} {j : Jn} (h : JnV n₀ w v j) (hb : Below w.heap.size w w') : JnV n₀ w' v j := by
  obtain ⟨RA, rc, e, h1, h2⟩ := h
  exact ⟨RA, rc, e, h1, h2.below hb⟩
theorem jn0V (w : World) : JnV n₀ w (.agg #[.slice none 0 0, .int .i64 0, .int .i64 0]) jn0 := ⟨none, 0, rfl, Nat.le_refl _, RowsAt.nil _ _⟩
/-- What a function answers that gives a journal and an error. -/
def JnIs (n₀ : Nat) (w : World) (g : Jn × Int) (e : Ending) (w' : World) : Prop := ∃ v, e = .returned (.tuple #[v, .int .i64 g.2]) ∧ JnV n₀ w' v g.1 ∧ Below w.heap.size w w'
theorem jn_end {w W : World} {v : Value} {j : Jn} {e : Int} (h : ∀ W, Below w.heap.size w W → JnV n₀ W v j) (hb : Below w.heap.size w W) : JnIs n₀ w (j, e) (.returned (.tuple #[v, .int .i64 e])) W := ⟨v, rfl, h W hb, hb⟩
open Classical in
noncomputable def gRoom (j : Jn) : Int := if JVal j then 112 * (j.many - usedN j.recs) else 0
open Classical in
/-- What Append answers. -/
noncomputable def gApp (j : Jn) (b : Bs) : Jn × Int := if ¬ JVal j then (jn0, 1) else if j.many - usedN j.recs < secN b then (jn0, 2) else ({ j with recs := j.recs ++ [b] }, 0)
theorem gApp_no {j : Jn} {b : Bs} (h : ¬ JVal j) : gApp j b = (jn0, 1) := by unfold gApp; rw [if_pos h]
theorem gApp_lim {j : Jn} {b : Bs} (h : JVal j) (h1 : j.many - usedN j.recs < secN b) : gApp j b = (jn0, 2) := by unfold gApp; rw [if_neg (not_not_intro h), if_pos h1]
theorem gApp_ok {j : Jn} {b : Bs} (h : JVal j) (h1 : ¬ j.many - usedN j.recs < secN b) : gApp j b = ({ j with recs := j.recs ++ [b] }, 0) := by unfold gApp; rw [if_neg (not_not_intro h), if_neg h1]

theorem clipR_t (A : Option Addr) (n c : Nat) (w : World) (h : n ≤ c) (_hm : n ≤ 1000000000) : Calls Try.prog 85 #[.slice A n c] w fun e w' => e = .returned (.slice A n n) ∧ w' = w := by
  have hz : ∀ a : Option Addr, a.map (fun x => x.add 0) = a := fun a => by cases a <;> simp [Addr.add]
  go_enter Try.func85, Try.ntmps85
  go_wp2
  go_ret
  refine ⟨?_, rfl⟩
  simp
theorem equal_t (A B : Option Addr) (c d : Nat) (a b : Bs) (w : World) (h1 : BsAt n₀ w A a) (h2 : BsAt n₀ w B b) : Calls Try.prog 90 #[.slice A a.length c, .slice B b.length d] w fun e w' => e = .returned (.bool (decide (a = b))) ∧ w' = w := by
  have cv1 := conv_bs h1 c
  have cv2 := conv_bs h2 d
  obtain ⟨s1, hs1⟩ : ∃ s, s = (⟨a.toArray⟩ : ByteArray) := ⟨_, rfl⟩
  obtain ⟨s2, hs2⟩ : ∃ s, s = (⟨b.toArray⟩ : ByteArray) := ⟨_, rfl⟩
  have hse := str_eq hs1 hs2
  rw [← hs1] at cv1
  rw [← hs2] at cv2
  obtain ⟨y, hy⟩ : ∃ y, y = decide (a = b) := ⟨_, rfl⟩
  rw [← hy] at hse ⊢
  obtain ⟨n1, hn1⟩ : ∃ n, n = a.length := ⟨_, rfl⟩
  obtain ⟨n2, hn2⟩ : ∃ n, n = b.length := ⟨_, rfl⟩
  rw [← hn1] at cv1 ⊢
  rw [← hn2] at cv2 ⊢
  clear hs1 hs2 hy hn1 hn2 h1 h2
  go_enter Try.func90, Try.ntmps90
  go_wp2
  go_ret
  exact ⟨by first | rfl | rw [hse], rfl⟩

set_option maxRecDepth 20000 in
set_option maxHeartbeats 4000000 in
theorem room_t (RA : Option Addr) (rc : Nat) (j : Jn) (w : World) (hs : Sm j.recs) (h : RowsAt n₀ w RA j.recs) : Calls Try.prog 51 #[.agg #[.slice RA j.recs.length rc, .int .i64 j.many, .int .i64 j.sync]] w fun e w' => e = .returned (.int .i64 (gRoom j)) ∧ Below w.heap.size w w' := by
  have HS := Lib.hid hs
  have HJ := Lib.hid (rfl : gJchk j = gJchk j)
  obtain ⟨gc, hgc⟩ : ∃ x, x = gJchk j := ⟨_, rfl⟩
  have HGC := Lib.hid hgc
  clear hs
  go_enter Try.func51, Try.ntmps51
  go_wp2_with (fail)
  obtain ⟨W1, hW1⟩ : ∃ W, W = w.alloc (.cells #[.slice RA j.recs.length rc, .int .i64 j.many, .int .i64 j.sync] 55) := ⟨_, rfl⟩
  rw [← hW1]
  have hb : Below w.heap.size w W1 := by rw [hW1]; exact (Below.refl _ _).alloc (Nat.le_refl _) _
  have x1 : Blk W1 w.heap.size 55 #[.slice RA j.recs.length rc, .int .i64 j.many, .int .i64 j.sync] := by rw [hW1]; exact Blk.new w 55 _
  clear hW1
  replace h := h.below hb
  have hw := hb
  clear hb
  have K : Calls Try.prog 49 #[.agg #[.slice RA j.recs.length rc, .int .i64 j.many, .int .i64 j.sync]] W1 (fun e w' => e = .returned (.int .i64 gc) ∧ Below W1.heap.size W1 w') := by rw [HGC.out]; exact jcheck_t RA rc j W1 HS.out h
  go_at_call 49
  refine K.mono ?_
  rintro e w2 ⟨rfl, hb⟩
  clear K
  replace h := h.below hb
  replace x1 := x1.below hb x1.lt
  replace hw := hw.trans (hb.mono hw.size)
  clear hb
  by_cases k0 : gc = 0
  case neg =>
    have dk0 : (gc != 0) = true := bne_iff_ne.2 k0
    have HR : gRoom j = 0 := by
      unfold gRoom
      rw [if_neg (fun hv => k0 (by rw [hgc, jchk_yes hv]))]
    have HHR := Lib.hid HR
    clear HR k0 hgc
    go_wp2
    go_ret
    exact ⟨by rw [HHR.out]; rfl, hw⟩
  subst k0
  have hv := jchk_val HGC.out.symm
  have HR : gRoom j = 112 * (j.many - usedN j.recs) := by unfold gRoom; rw [if_pos hv]
  have HHR := Lib.hid HR
  have v1 : 1 ≤ j.many := hv.1
  have v2 : j.many ≤ 4096 := hv.2.1
  have v3 : (usedN j.recs : Int) ≤ j.many := hv.2.2.2.2
  obtain ⟨u, hu⟩ : ∃ u, u = usedN j.recs := ⟨_, rfl⟩
  rw [← hu] at v3
  have HU := Lib.hid hu
  clear HR hgc hv hu
  have x1c0 := x1.cell 0
  have x1c1 := x1.cell 1
  have x1c2 := x1.cell 2
  simp only [List.getElem?_toArray, List.getElem?_cons_zero, List.getElem?_cons_succ] at x1c0 x1c1 x1c2
  have x1l := x1.lt
  have hks : ∀ W : World, Below w2.heap.size w2 W → W.cell? ⟨w.heap.size, 0, none⟩ = some (.slice RA j.recs.length rc) ∧ W.cell? ⟨w.heap.size, 1, none⟩ = some (.int .i64 j.many) ∧ W.cell? ⟨w.heap.size, 2, none⟩ = some (.int .i64 j.sync) := fun W hb => ⟨(x1.below hb x1l).cell 0, (x1.below hb x1l).cell 1, (x1.below hb x1l).cell 2⟩
  have HKS := Lib.hid hks
  have hur : ∀ W : World, Below w2.heap.size w2 W → Calls Try.prog 84 #[.slice RA j.recs.length rc] W (fun e w' => e = .returned (.int .i64 (u : Nat)) ∧ w' = W) := fun W hb => by rw [HU.out]; exact used_t RA rc j.recs W HS.out (h.below hb)
  have HUR := Lib.hid hur
  clear hks hur
  go_upto_region 3 with (fail)
  clear x1 x1c0 x1c1 x1c2 x1l h
  have i1 : IntKind.i64.wrap (j.many - (u : Int)) = j.many - u := IntWalk.i64_in _ (by omega)
  have i2 : IntKind.i64.wrap (112 * (j.many - (u : Int))) = 112 * (j.many - u) := IntWalk.i64_in _ (by omega)
  go_region_held3 (fun W => W.cell? ⟨w.heap.size, 0, none⟩ = some (.slice RA j.recs.length rc) ∧ W.cell? ⟨w.heap.size, 1, none⟩ = some (.int .i64 j.many) ∧ W.cell? ⟨w.heap.size, 2, none⟩ = some (.int .i64 j.sync)) ((refine HKS.out _ ?_; repeat (first | with_reducible exact Below.refl _ _ | refine Below.drew ?_)))
    ((go_at_call 84; refine (HUR.out _ (by repeat (first | with_reducible exact Below.refl _ _ | refine Below.drew ?_))).mono ?_; rintro e w2 ⟨rfl, hw2⟩; subst hw2))
  all_goals
    go_wp2
    go_ret
    exact ⟨by rw [HHR.out, ← HU.out]; rfl, by first | exact hw.drew | exact below_drewN hw _⟩

theorem app_end {w W : World} {j : Jn} {b : Bs} {vs : List Value} {V V6 : Option Addr} {n c c6 base base6 : Nat} (hn : n = j.recs.length + 1) (hc : n ≤ c) (hc6 : b.length ≤ c6) (hR : Rws n₀ w vs j.recs) (hown : W.ownsRow base 35 1 (.slice V n c) n (vs ++ [.slice V6 b.length c6])) (hown6 : W.ownsRow base6 5 1 (.slice V6 b.length c6) b.length (bcells b)) (hW : Below w.heap.size w W) :
    JnIs n₀ w ({ j with recs := j.recs ++ [b] }, 0) (.returned (.tuple #[.agg #[.slice V n c, .int .i64 j.many, .int .i64 j.sync], .int .i64 0])) W := by
  have hl : (j.recs ++ [b]).length = n := by simp [hn]
  refine ⟨_, rfl, ⟨V, c, by rw [hl], by rw [hl]; exact hc, _, rws_snoc (hR.below hW) ⟨V6, c6, rfl, hc6, own_BsAt hown6 rfl⟩, ?_⟩, hW⟩
  exact own_ValsAt hown (by rw [List.length_append, List.length_singleton, hR.1]; exact hn)

set_option maxRecDepth 20000 in
set_option maxHeartbeats 4000000 in
theorem append_t (RA A : Option Addr) (rc c : Nat) (j : Jn) (b : Bs) (w : World) (hs : Sm j.recs) (hbl : b.length ≤ 1000000000) (hrc : j.recs.length ≤ rc) (h : RowsAt n₀ w RA j.recs) (hbb0 : BsAt n₀ w A b) :
    Calls Try.prog 47 #[.agg #[.slice RA j.recs.length rc, .int .i64 j.many, .int .i64 j.sync], .slice A b.length c] w (JnIs n₀ w (gApp j b)) := by
  obtain ⟨gc, hgc⟩ : ∃ x, x = gJchk j := ⟨_, rfl⟩
  have HGC := Lib.hid hgc
  have hjl := hs.1
  have HS := Lib.hid hs
  clear hs
  by_cases k0 : gc = 0
  case neg =>
    have hnv : ¬ JVal j := fun hv => k0 (by rw [hgc, jchk_yes hv])
    have E := Lib.hid (gApp_no (b := b) hnv)
    obtain rfl : gc = 1 := by rw [hgc, jchk_no hnv]
    clear k0 hgc hnv
    go_enter Try.func47, Try.ntmps47
    go_wp2_with (fail)
    obtain ⟨W1, hW1⟩ : ∃ W, W = (w.alloc (.cells #[.slice RA j.recs.length rc, .int .i64 j.many, .int .i64 j.sync] 55)).alloc (.cells #[.slice none 0 0, .int .i64 0, .int .i64 0] 55) := ⟨_, rfl⟩
    rw [← hW1]
    have hbb : Below w.heap.size w W1 := by rw [hW1]; exact ((Below.refl _ _).alloc (Nat.le_refl _) _).alloc (by simp) _
    have x2 : Blk W1 w.heap.size 55 #[.slice RA j.recs.length rc, .int .i64 j.many, .int .i64 j.sync] := by rw [hW1]; exact (Blk.new w 55 _).alloc _
    have x4 : Blk W1 (w.heap.size + 1) 55 #[.slice none 0 0, .int .i64 0, .int .i64 0] := by rw [hW1]; exact Blk.newAt (by simp) 55 _
    clear hW1
    replace h := h.below hbb
    replace hbb0 := hbb0.below hbb
    have hw := hbb
    clear hbb
    have K : Calls Try.prog 49 #[.agg #[.slice RA j.recs.length rc, .int .i64 j.many, .int .i64 j.sync]] W1 (fun e w' => e = .returned (.int .i64 1) ∧ Below W1.heap.size W1 w') := by rw [HGC.out]; exact jcheck_t RA rc j W1 HS.out h
    go_at_call 49
    refine K.mono ?_
    rintro e w1 ⟨rfl, hb⟩
    clear K
    replace h := h.below hb
    replace hbb0 := hbb0.below hb
    replace x2 := x2.below hb x2.lt
    replace x4 := x4.below hb x4.lt
    replace hw := hw.trans (hb.mono hw.size)
    clear hb
    have x4c0 := x4.cell 0
    have x4f0 := x4.frozen 0
    have x4c1 := x4.cell 1
    have x4f1 := x4.frozen 1
    have x4c2 := x4.cell 2
    have x4f2 := x4.frozen 2
    simp only [List.getElem?_toArray, List.getElem?_cons_zero, List.getElem?_cons_succ] at x4c0 x4c1 x4c2
    have x4l := x4.lt
    have HWW := Lib.hid hw
    clear hw
    go_wp2
    refine bodyPost_ret (v := .tuple #[.agg #[.slice none 0 0, .int .i64 0, .int .i64 0], .int .i64 1]) (by simp [results, Try.results47, go_sem, x4c0, x4c1, x4c2]) rfl ?_
    rw [E.out]
    exact jn_end (fun W BB => jn0V W) (by repeat (first | with_reducible exact HWW.out | refine Below.setCell ?_ (by simp <;> omega) _))
  subst k0
  have hv := jchk_val HGC.out.symm
  have v1 : 1 ≤ j.many := hv.1
  have v2 : j.many ≤ 4096 := hv.2.1
  have v3 : (usedN j.recs : Int) ≤ j.many := hv.2.2.2.2
  obtain ⟨u, hu⟩ : ∃ u, u = usedN j.recs := ⟨_, rfl⟩
  obtain ⟨sx, hsx⟩ : ∃ s, s = max 1 ((b.length + 111) / 112) := ⟨_, rfl⟩
  have hsl : sx ≤ 10000000 := by omega
  have hsn : secN b = sx := by rw [hsx]; rfl
  have HV := Lib.hid hv
  obtain ⟨vs, hR, hva⟩ := h
  have hvl := hR.1
  have HR := Lib.hid hR
  have HVA := Lib.hid hva
  have h : RowsAt n₀ w RA j.recs := ⟨vs, hR, hva⟩
  have HH0 := Lib.hid h
  have HB0 := Lib.hid hbb0
  clear hR hva
  by_cases k1 : j.many - usedN j.recs < secN b
  case pos =>
    have E := Lib.hid (gApp_lim HV.out k1)
    rw [← hu, hsn] at k1
    rw [← hu] at v3
    have HU := Lib.hid hu
    have HSX := Lib.hid hsx
    clear hv hu hsx hsn hgc
    have dk : decide (j.many - (u : Int) < (sx : Int)) = true := decide_eq_true k1
    clear k1
    go_enter Try.func47, Try.ntmps47
    go_wp2_with (fail)
    obtain ⟨W1, hW1⟩ : ∃ W, W = (w.alloc (.cells #[.slice RA j.recs.length rc, .int .i64 j.many, .int .i64 j.sync] 55)).alloc (.cells #[.slice none 0 0, .int .i64 0, .int .i64 0] 55) := ⟨_, rfl⟩
    rw [← hW1]
    have hbb : Below w.heap.size w W1 := by rw [hW1]; exact ((Below.refl _ _).alloc (Nat.le_refl _) _).alloc (by simp) _
    have x2 : Blk W1 w.heap.size 55 #[.slice RA j.recs.length rc, .int .i64 j.many, .int .i64 j.sync] := by rw [hW1]; exact (Blk.new w 55 _).alloc _
    have x4 : Blk W1 (w.heap.size + 1) 55 #[.slice none 0 0, .int .i64 0, .int .i64 0] := by rw [hW1]; exact Blk.newAt (by simp) 55 _
    clear hW1
    replace h := h.below hbb
    replace hbb0 := hbb0.below hbb
    have hw := hbb
    clear hbb
    have K : Calls Try.prog 49 #[.agg #[.slice RA j.recs.length rc, .int .i64 j.many, .int .i64 j.sync]] W1 (fun e w' => e = .returned (.int .i64 0) ∧ Below W1.heap.size W1 w') := by rw [HGC.out]; exact jcheck_t RA rc j W1 HS.out h
    go_at_call 49
    refine K.mono ?_
    rintro e w1 ⟨rfl, hb⟩
    clear K
    replace h := h.below hb
    replace hbb0 := hbb0.below hb
    replace x2 := x2.below hb x2.lt
    replace x4 := x4.below hb x4.lt
    replace hw := hw.trans (hb.mono hw.size)
    clear hb
    have x2c0 := x2.cell 0
    have x2c1 := x2.cell 1
    have x2c2 := x2.cell 2
    simp only [List.getElem?_toArray, List.getElem?_cons_zero, List.getElem?_cons_succ] at x2c0 x2c1 x2c2
    have x2l := x2.lt
    have x4l := x4.lt
    go_upto_region 4 with (fail)
    have hks : ∀ W : World, Below w1.heap.size w1 W → W.cell? ⟨w.heap.size, 0, none⟩ = some (.slice RA j.recs.length rc) ∧ W.cell? ⟨w.heap.size, 1, none⟩ = some (.int .i64 j.many) ∧ W.cell? ⟨w.heap.size, 2, none⟩ = some (.int .i64 j.sync) := fun W hb => ⟨(x2.below hb x2l).cell 0, (x2.below hb x2l).cell 1, (x2.below hb x2l).cell 2⟩
    have HKS := Lib.hid hks
    have hur : ∀ W : World, Below w1.heap.size w1 W → Calls Try.prog 84 #[.slice RA j.recs.length rc] W (fun e w' => e = .returned (.int .i64 (u : Nat)) ∧ w' = W) := fun W hb => by rw [HU.out]; exact used_t RA rc j.recs W HS.out (h.below hb)
    have HUR := Lib.hid hur
    clear hks hur
    have hse : ∀ W : World, Calls Try.prog 83 #[.slice A b.length c] W (fun e w' => e = .returned (.int .i64 (sx : Nat)) ∧ w' = W) := fun W => by rw [HSX.out]; exact sectors_t A c b.length W (by omega)
    have HSE := Lib.hid hse
    clear hse
    have i1 : IntKind.i64.wrap (j.many - (u : Int)) = j.many - u := IntWalk.i64_in _ (by omega)
    go_cut [21] (fun s21 wx => s21 = .bool true ∧ Below w1.heap.size w1 wx)
    case first =>
      have HX2 := Lib.hid x2
      have HX4 := Lib.hid x4
      clear x2 x4
      go_region_held3 (fun W => W.cell? ⟨w.heap.size, 0, none⟩ = some (.slice RA j.recs.length rc) ∧ W.cell? ⟨w.heap.size, 1, none⟩ = some (.int .i64 j.many) ∧ W.cell? ⟨w.heap.size, 2, none⟩ = some (.int .i64 j.sync)) ((refine HKS.out _ ?_; repeat (first | with_reducible exact Below.refl _ _ | refine Below.drew ?_)))
        (first | (go_at_call 83; refine (HSE.out _).mono ?_; rintro e w2 ⟨rfl, hw2⟩; subst hw2) | (go_at_call 84; refine (HUR.out _ (by repeat (first | with_reducible exact Below.refl _ _ | refine Below.drew ?_))).mono ?_; rintro e w2 ⟨rfl, hw2⟩; subst hw2))
      all_goals
        (try go_wp2_with (fail))
        go_meet
        exact ⟨by first | rfl | rw [dk], (Below.refl _ _).drew⟩
    case rest =>
      obtain ⟨rfl, hbb⟩ := hcut
      clear dk i1 x4l
      clear x2c0 x2c1 x2c2 x2l
      replace h := h.below hbb
      replace hbb0 := hbb0.below hbb
      replace x2 := x2.below hbb x2.lt
      replace x4 := x4.below hbb x4.lt
      replace hw := hw.trans (hbb.mono hw.size)
      clear hbb
      have x4c0 := x4.cell 0
      have x4f0 := x4.frozen 0
      have x4c1 := x4.cell 1
      have x4f1 := x4.frozen 1
      have x4c2 := x4.cell 2
      have x4f2 := x4.frozen 2
      simp only [List.getElem?_toArray, List.getElem?_cons_zero, List.getElem?_cons_succ] at x4c0 x4c1 x4c2
      have x4l := x4.lt
      have HWW := Lib.hid hw
      clear hw
      go_wp2
      refine bodyPost_ret (v := .tuple #[.agg #[.slice none 0 0, .int .i64 0, .int .i64 0], .int .i64 2]) (by simp [results, Try.results47, go_sem, x4c0, x4c1, x4c2]) rfl ?_
      rw [E.out]
      exact jn_end (fun W BB => jn0V W) (by repeat (first | with_reducible exact HWW.out | refine Below.setCell ?_ (by simp <;> omega) _))
  case neg =>
    have E := Lib.hid (gApp_ok HV.out k1)
    rw [← hu, hsn] at k1
    rw [← hu] at v3
    have HU := Lib.hid hu
    have HSX := Lib.hid hsx
    clear hv hu hsx hsn hgc
    have dk : decide (j.many - (u : Int) < (sx : Int)) = false := decide_eq_false k1
    clear k1
    go_enter Try.func47, Try.ntmps47
    go_wp2_with (fail)
    obtain ⟨W1, hW1⟩ : ∃ W, W = (w.alloc (.cells #[.slice RA j.recs.length rc, .int .i64 j.many, .int .i64 j.sync] 55)).alloc (.cells #[.slice none 0 0, .int .i64 0, .int .i64 0] 55) := ⟨_, rfl⟩
    rw [← hW1]
    have hbb : Below w.heap.size w W1 := by rw [hW1]; exact ((Below.refl _ _).alloc (Nat.le_refl _) _).alloc (by simp) _
    have x2 : Blk W1 w.heap.size 55 #[.slice RA j.recs.length rc, .int .i64 j.many, .int .i64 j.sync] := by rw [hW1]; exact (Blk.new w 55 _).alloc _
    have x4 : Blk W1 (w.heap.size + 1) 55 #[.slice none 0 0, .int .i64 0, .int .i64 0] := by rw [hW1]; exact Blk.newAt (by simp) 55 _
    clear hW1
    replace h := h.below hbb
    replace hbb0 := hbb0.below hbb
    have hw := hbb
    clear hbb
    have K : Calls Try.prog 49 #[.agg #[.slice RA j.recs.length rc, .int .i64 j.many, .int .i64 j.sync]] W1 (fun e w' => e = .returned (.int .i64 0) ∧ Below W1.heap.size W1 w') := by rw [HGC.out]; exact jcheck_t RA rc j W1 HS.out h
    go_at_call 49
    refine K.mono ?_
    rintro e w1 ⟨rfl, hb⟩
    clear K
    replace h := h.below hb
    replace hbb0 := hbb0.below hb
    replace x2 := x2.below hb x2.lt
    replace x4 := x4.below hb x4.lt
    replace hw := hw.trans (hb.mono hw.size)
    clear hb
    have x2c0 := x2.cell 0
    have x2c1 := x2.cell 1
    have x2c2 := x2.cell 2
    simp only [List.getElem?_toArray, List.getElem?_cons_zero, List.getElem?_cons_succ] at x2c0 x2c1 x2c2
    have x2l := x2.lt
    have x4l := x4.lt
    go_upto_region 4 with (fail)
    have hks : ∀ W : World, Below w1.heap.size w1 W → W.cell? ⟨w.heap.size, 0, none⟩ = some (.slice RA j.recs.length rc) ∧ W.cell? ⟨w.heap.size, 1, none⟩ = some (.int .i64 j.many) ∧ W.cell? ⟨w.heap.size, 2, none⟩ = some (.int .i64 j.sync) := fun W hb => ⟨(x2.below hb x2l).cell 0, (x2.below hb x2l).cell 1, (x2.below hb x2l).cell 2⟩
    have HKS := Lib.hid hks
    have hur : ∀ W : World, Below w1.heap.size w1 W → Calls Try.prog 84 #[.slice RA j.recs.length rc] W (fun e w' => e = .returned (.int .i64 (u : Nat)) ∧ w' = W) := fun W hb => by rw [HU.out]; exact used_t RA rc j.recs W HS.out (h.below hb)
    have HUR := Lib.hid hur
    clear hks hur
    have hse : ∀ W : World, Calls Try.prog 83 #[.slice A b.length c] W (fun e w' => e = .returned (.int .i64 (sx : Nat)) ∧ w' = W) := fun W => by rw [HSX.out]; exact sectors_t A c b.length W (by omega)
    have HSE := Lib.hid hse
    clear hse
    have i1 : IntKind.i64.wrap (j.many - (u : Int)) = j.many - u := IntWalk.i64_in _ (by omega)
    go_cut [21] (fun s21 wx => s21 = .bool false ∧ Below w1.heap.size w1 wx)
    case first =>
      have HX2 := Lib.hid x2
      have HX4 := Lib.hid x4
      clear x2 x4
      go_region_held3 (fun W => W.cell? ⟨w.heap.size, 0, none⟩ = some (.slice RA j.recs.length rc) ∧ W.cell? ⟨w.heap.size, 1, none⟩ = some (.int .i64 j.many) ∧ W.cell? ⟨w.heap.size, 2, none⟩ = some (.int .i64 j.sync)) ((refine HKS.out _ ?_; repeat (first | with_reducible exact Below.refl _ _ | refine Below.drew ?_)))
        (first | (go_at_call 83; refine (HSE.out _).mono ?_; rintro e w2 ⟨rfl, hw2⟩; subst hw2) | (go_at_call 84; refine (HUR.out _ (by repeat (first | with_reducible exact Below.refl _ _ | refine Below.drew ?_))).mono ?_; rintro e w2 ⟨rfl, hw2⟩; subst hw2))
      all_goals
        (try go_wp2_with (fail))
        go_meet
        exact ⟨by first | rfl | rw [dk], (Below.refl _ _).drew⟩
    case rest =>
      obtain ⟨rfl, hbb⟩ := hcut
      clear dk i1 x4l
      clear x2c0 x2c1 x2c2 x2l
      replace h := h.below hbb
      replace hbb0 := hbb0.below hbb
      replace x2 := x2.below hbb x2.lt
      replace x4 := x4.below hbb x4.lt
      replace hw := hw.trans (hbb.mono hw.size)
      clear hbb
      have lx2c := x2.lt
      have lx4c := x4.lt
      obtain ⟨i0, hi0, hz0, hz1, hz2⟩ := info_parts info35
      have x2c0 := x2.cell 0
      have x2c1 := x2.cell 1
      have x2c2 := x2.cell 2
      simp only [List.getElem?_toArray, List.getElem?_cons_zero, List.getElem?_cons_succ] at x2c0 x2c1 x2c2
      have x2l := x2.lt
      go_upto_region 7 with (fail)
      go_at_call 85
      refine (clipR_t RA j.recs.length rc wc hrc (by omega)).mono ?_
      rintro e w5 ⟨rfl, hw5⟩
      have hw5 := hw5.symm
      subst hw5
      go_upto_region 7 with (fail)
      have K : Calls Try.prog 80 #[.slice A b.length c] wc (OwnIs wc 5 1 b.length (bcells b)) := cloneB_t A b.length c b wc rfl hbb0 hbl
      go_at_call 80
      refine K.mono ?_
      rintro e w2 ⟨v6, rfl, hown6, hb⟩
      clear K
      replace h := h.below hb
      replace hbb0 := hbb0.below hb
      replace x2 := x2.below hb x2.lt
      replace x4 := x4.below hb x4.lt
      replace hw := hw.trans (hb.mono hw.size)
      clear x2c0 x2c1 x2c2 x2l
      clear hb
      obtain ⟨V6, c6, rfl, hc6⟩ := own_slice hown6
      have hnone : RA = none → j.recs.length = 0 ∧ j.recs.length = 0 := fun hn => by
        by_cases h0 : 0 < vs.length
        · obtain ⟨b', o', e', _⟩ := HVA.out h0
          rw [hn] at e'
          cases e'
        · omega
      have hold : ∀ W, Below w.heap.size w W → ∀ b', RA = some b' → ∀ q u, vs[q]? = some u → W.cell? (b'.add q) = some u := fun W hb b' hb' q u hu => by
        obtain ⟨ad, e, hc⟩ := vals_src HVA.out hb (by have := (List.getElem?_eq_some_iff.1 hu).1; omega)
        rw [hb'] at e
        cases e
        exact hc q u hu
      have HOLD := Lib.hid hold
      have HNONE := Lib.hid hnone
      have HOWN6 := Lib.hid hown6
      have HWW := Lib.hid hw
      have HX2 := Lib.hid x2
      have HX4 := Lib.hid x4
      have hw6s := hw.size
      have lx2 := x2.lt
      have lx4 := x4.lt
      clear hold hnone hown6 hw h hbb0
      obtain ⟨xb, hxb⟩ : ∃ n, n = b.length := ⟨_, rfl⟩
      rw [← hxb]
      have HXB := Lib.hid hxb
      clear x2 x4 hxb
      go_upto_region 7 with (at_builtin; refine wpList_append_grows _ rfl (.tmp 25) (.tmp 28) 22 rfl 35 i0 (.slice none 0 0) 1 24 Try.underlying22 hi0 hz0 hz1 hz2 rfl (by decide) RA j.recs.length j.recs.length vs rfl HNONE.out (by omega) (HOLD.out _ (HWW.out.alloc HWW.out.size _)) ⟨w2.heap.size, 0, none⟩ 1 1 [.slice V6 xb c6] rfl rfl (cell_new1 w2 _ _) (by simp [Value.oneCell']) (by omega) (by simp [maxLen]; omega) (by omega) ?_; intro v7 w7 hown7 hgrow7; obtain ⟨V7, c7, rfl, hc7⟩ := own_slice hown7; have y2 : Blk w7 w.heap.size 55 #[.slice RA j.recs.length rc, .int .i64 j.many, .int .i64 j.sync] := (hgrow7.block _ (HX2.out.alloc _).lt (by simp)).trans (HX2.out.alloc _); have y2c0 := y2.cell 0; have y2f0 := y2.frozen 0; simp only [List.getElem?_toArray, List.getElem?_cons_zero] at y2c0)
      have y4 : Blk w7 (w.heap.size + 1) 55 #[.slice none 0 0, .int .i64 0, .int .i64 0] := (hgrow7.block _ (HX4.out.alloc _).lt (by simp)).trans (HX4.out.alloc _)
      have hw7 : Below w.heap.size w w7 := (HWW.out.alloc HWW.out.size _).grown hgrow7 (by simp; omega) (fun k hk => by cases hk)
      have ho6 := (HOWN6.out.alloc _).kept hgrow7 (Classical.em _)
      obtain ⟨W8, hW8⟩ : ∃ W, W = w7.setCell ⟨w.heap.size, 0, none⟩ (.slice V7 (j.recs.length + 1) c7) := ⟨_, rfl⟩
      rw [← hW8]
      have x2 : Blk W8 w.heap.size 55 #[.slice V7 (j.recs.length + 1) c7, .int .i64 j.many, .int .i64 j.sync] := by rw [hW8]; exact y2.set 0 _
      have x4 : Blk W8 (w.heap.size + 1) 55 #[.slice none 0 0, .int .i64 0, .int .i64 0] := by rw [hW8]; exact y4.other (p := ⟨w.heap.size, 0, none⟩) (show w.heap.size + 1 ≠ w.heap.size by omega) _
      have ho7 : W8.ownsRow (w2.alloc (.cells #[.slice V6 xb c6] 35)).heap.size 35 1 (.slice V7 (j.recs.length + 1) c7) (j.recs.length + 1) (vs ++ [.slice V6 xb c6]) := by rw [hW8]; exact ownsRow_setCell_below hown7 (show w.heap.size < _ by simp; omega) _
      have ho8 := ownsRow_setCell_below ho6 (a := ⟨w.heap.size, 0, none⟩) (show w.heap.size < wc.heap.size from lx2c) (.slice V7 (j.recs.length + 1) c7)
      rw [← hW8] at ho8
      have hw8 : Below w.heap.size w W8 := by rw [hW8]; exact hw7.setCell (Nat.le_refl _) _
      have HO7 := Lib.hid ho7
      have HO8 := Lib.hid ho8
      have HW8 := Lib.hid hw8
      clear hW8 y2 y2c0 y2f0 y4 hown7 ho6 ho7 ho8 hw7 hw8 hgrow7
      have x2c0 := x2.cell 0
      have x2c1 := x2.cell 1
      have x2c2 := x2.cell 2
      simp only [List.getElem?_toArray, List.getElem?_cons_zero, List.getElem?_cons_succ] at x2c0 x2c1 x2c2
      have x2l := x2.lt
      have x4c0 := x4.cell 0
      have x4f0 := x4.frozen 0
      have x4c1 := x4.cell 1
      have x4f1 := x4.frozen 1
      have x4c2 := x4.cell 2
      have x4f2 := x4.frozen 2
      simp only [List.getElem?_toArray, List.getElem?_cons_zero, List.getElem?_cons_succ] at x4c0 x4c1 x4c2
      have x4l := x4.lt
      go_wp2
      refine bodyPost_ret (v := .tuple #[.agg #[.slice V7 (j.recs.length + 1) c7, .int .i64 j.many, .int .i64 j.sync], .int .i64 0]) (by simp [results, Try.results47, go_sem, x4c0, x4c1, x4c2]) rfl ?_
      rw [E.out]
      have hxb := HXB.out
      subst hxb
      exact app_end (V6 := V6) (base := (w2.alloc (.cells #[.slice V6 b.length c6] 35)).heap.size) (base6 := wc.heap.size) rfl hc7 hc6 HR.out (by repeat (first | with_reducible exact HO7.out | refine ownsRow_setCell_below ?_ (by simp <;> omega) _)) (by repeat (first | with_reducible exact HO8.out | refine ownsRow_setCell_below ?_ (by simp <;> omega) _)) (by repeat (first | with_reducible exact HW8.out | refine Below.setCell ?_ (by simp <;> omega) _))
end Go.Proofs.Ytckeopidedoohaa
