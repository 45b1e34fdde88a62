/-
  Plain laws on changes of a metre: the bars that the program collects, part by part, are the reference's. No program in sight.
-/
import Derived.Test.YtdphnlcppaaccaaAt
import Derived.Test.YtdphnlcppaaccaaRefe
namespace Go.Proofs.Ytdphnlcppaaccaa
open Go.RowKit

theorem int_lt_or_ge (a b : Int) : a < b ∨ b ≤ a := by omega
theorem tdiv_nonpos {x y : Int} (hx : x ≤ 0) (hy : 0 ≤ y) : x.tdiv y ≤ 0 := by
  have h := Int.tdiv_nonneg (a := -x) (b := y) (by omega) hy
  rw [Int.neg_tdiv] at h
  omega

theorem bg_step {ms : List Met} (hv : Valid ms) {k : Nat} (hk : k < ms.length) {bar : Int} (hb : InPart ms k bar) : bg ms (bar + 1) = bg ms bar + lg ms k := by
  rw [bg_part hv hk hb.1 (by have := hb.2; omega), bg_part hv hk (bar := bar + 1) (by have := hb.1; omega) (by have := hb.2; omega)]
  rw [show bar + 1 - mb ms k = (bar - mb ms k) + 1 by omega, Int.add_mul, Int.one_mul, Int.add_assoc]
  rfl
theorem bg_succ {ms : List Met} (hv : Valid ms) {bar : Int} (h0 : 0 ≤ bar) (h1 : bar ≤ 1048576) : bg ms bar < bg ms (bar + 1) := by
  obtain ⟨k, hk, hb⟩ := part_of_bar hv h0 h1
  have := (long_bd (hv.fine k hk)).1
  rw [bg_step hv hk hb]
  unfold lg
  omega
theorem bg_mono {ms : List Met} (hv : Valid ms) (d : Nat) {a : Int} (h0 : 0 ≤ a) (h1 : a + d ≤ 1048577) : bg ms a + d ≤ bg ms (a + d) := by
  induction d with
  | zero => simp
  | succ d ih =>
    have e : ((d + 1 : Nat) : Int) = (d : Int) + 1 := by omega
    have := ih (by omega)
    have h2 := bg_succ hv (bar := a + d) (by omega) (by omega)
    rw [e, show a + ((d : Int) + 1) = a + d + 1 by omega]
    omega
theorem bg_lt {ms : List Met} (hv : Valid ms) {a b : Int} (h0 : 0 ≤ a) (hab : a < b) (h1 : b ≤ 1048577) : bg ms a < bg ms b := by
  have := bg_mono hv (b - a).toNat h0 (by omega)
  rw [show a + ((b - a).toNat : Int) = b by omega] at this
  omega
theorem bg_lt_iff {ms : List Met} (hv : Valid ms) {a b : Int} (ha : 0 ≤ a) (ha1 : a ≤ 1048577) (hb : 0 ≤ b) (hb1 : b ≤ 1048577) : bg ms a < bg ms b ↔ a < b := by
  constructor
  · intro h
    rcases Int.lt_trichotomy a b with h1 | rfl | h1
    · exact h1
    · omega
    · have := bg_lt hv hb h1 ha1; omega
  · exact fun h => bg_lt hv ha h hb1

/-- The tick of some bar, in a part of the ticks. -/
def IsBar (ms : List Met) (lo hi : Int) (t : Int) : Prop := ∃ b, 0 ≤ b ∧ b ≤ 1048576 ∧ t = bg ms b ∧ lo ≤ t ∧ t < hi

/-- Sorted lists of the same members are one. -/
theorem sorted_sub {xs ys : List Int} (hx : xs.Pairwise (· < ·)) (hy : ys.Pairwise (· < ·)) (h : ∀ t ∈ xs, t ∈ ys) : xs.length ≤ ys.length ∧ ((∀ t ∈ ys, t ∈ xs) → xs = ys) := by
  induction ys generalizing xs with
  | nil =>
    cases xs with
    | nil => simp
    | cons x xs => exact absurd (h x (by simp)) (by simp)
  | cons y ys ih =>
    rw [List.pairwise_cons] at hy
    cases xs with
    | nil => exact ⟨by simp, fun h2 => absurd (h2 y (by simp)) (by simp)⟩
    | cons x xs =>
      rw [List.pairwise_cons] at hx
      have hsub : ∀ t ∈ xs, t ∈ ys := fun t ht => by
        rcases List.mem_cons.1 (h t (by simp [ht])) with e | e
        · have h1 := hx.1 t ht
          rcases List.mem_cons.1 (h x (by simp)) with e2 | e2
          · omega
          · have := hy.1 x e2; omega
        · exact e
      obtain ⟨i1, i2⟩ := ih hx.2 hy.2 hsub
      refine ⟨by simp; omega, fun h2 => ?_⟩
      have exy : x = y := by
        rcases List.mem_cons.1 (h x (by simp)) with e | e
        · exact e
        · have h1 := hy.1 x e
          rcases List.mem_cons.1 (h2 y (by simp)) with e3 | e3
          · exact e3.symm
          · have := hx.1 y e3; omega
      subst exy
      rw [i2 (fun t ht => by
        rcases List.mem_cons.1 (h2 t (by simp [ht])) with e | e
        · have := hy.1 t ht; omega
        · exact e)]

/-- The reference's list of bars from a bar on. -/
def brs (ms : List Met) (lo hi : Int) : Nat → Int → List Int
  | 0, _ => []
  | f + 1, bar => if bar ≤ 1048576 ∧ bg ms bar < hi then (if bg ms bar < lo then brs ms lo hi f (bar + 1) else bg ms bar :: brs ms lo hi f (bar + 1)) else []

theorem rbGo_brs (ms : List Met) (lo hi : Int) (f : Nat) : ∀ (bar : Int) (acc : List Int), acc.length ≤ 4096 →
    rbGo ms lo hi f bar acc = if acc.length + (brs ms lo hi f bar).length ≤ 4096 then (acc ++ brs ms lo hi f bar, 0) else ([], 2) := by
  induction f with
  | zero => intro bar acc h; simp [rbGo, brs, h]
  | succ f ih =>
    intro bar acc h
    unfold rbGo brs
    split
    · split
      · exact ih _ _ h
      · split
        · rename_i h4
          rw [if_neg (by simp; omega)]
        · rename_i h4
          rw [ih _ _ (by simp; omega)]
          simp only [List.length_append, List.length_cons, List.length_nil]
          split
          · rw [if_pos (by omega)]; simp
          · rw [if_neg (by omega)]
    · simp [h]

theorem brs_spec {ms : List Met} (hv : Valid ms) (lo hi : Int) (f : Nat) : ∀ (bar : Int), 0 ≤ bar → 1048577 - bar ≤ f →
    (brs ms lo hi f bar).Pairwise (· < ·) ∧ ∀ t, t ∈ brs ms lo hi f bar ↔ ∃ b, bar ≤ b ∧ b ≤ 1048576 ∧ t = bg ms b ∧ lo ≤ t ∧ t < hi := by
  induction f with
  | zero =>
    intro bar h0 hf
    refine ⟨by simp [brs], fun t => ⟨by simp [brs], ?_⟩⟩
    rintro ⟨b, h1, h2, _⟩
    omega
  | succ f ih =>
    intro bar h0 hf
    unfold brs
    split
    · rename_i hc
      obtain ⟨p, m⟩ := ih (bar + 1) (by omega) (by omega)
      split
      · rename_i hl
        refine ⟨p, fun t => ?_⟩
        rw [m t]
        constructor
        · rintro ⟨b, h1, h2⟩; exact ⟨b, by omega, h2⟩
        · rintro ⟨b, h1, h2, rfl, h3⟩
          refine ⟨b, ?_, h2, rfl, h3⟩
          rcases Int.lt_or_eq_of_le h1 with h | rfl
          · omega
          · omega
      · rename_i hl
        refine ⟨List.pairwise_cons.2 ⟨fun t ht => ?_, p⟩, fun t => ?_⟩
        · obtain ⟨b, h1, h2, rfl, _⟩ := (m t).1 ht
          exact bg_lt hv h0 (by omega) (by omega)
        · rw [List.mem_cons, m t]
          constructor
          · rintro (rfl | ⟨b, h1, h2⟩)
            · exact ⟨bar, Int.le_refl _, hc.1, rfl, by omega, hc.2⟩
            · exact ⟨b, by omega, h2⟩
          · rintro ⟨b, h1, h2, rfl, h3⟩
            rcases Int.lt_or_eq_of_le h1 with h | rfl
            · exact .inr ⟨b, by omega, h2, rfl, h3⟩
            · exact .inl rfl
    · rename_i hc
      refine ⟨by simp, fun t => ⟨by simp, ?_⟩⟩
      rintro ⟨b, h1, h2, rfl, h3, h4⟩
      exfalso
      apply hc
      refine ⟨by omega, ?_⟩
      rcases Int.lt_or_eq_of_le h1 with h | rfl
      · have := bg_lt hv h0 h (by omega); omega
      · exact h4

theorem last_part {ms : List Met} (hv : Valid ms) {lo : Int} (h0 : 0 ≤ lo) : ∃ k, k < ms.length ∧ tickN ms k ≤ lo ∧ (k + 1 < ms.length → lo < tickN ms (k + 1)) := by
  have key : ∀ j, j < ms.length → (∃ k, k < ms.length ∧ tickN ms k ≤ lo ∧ (k + 1 < ms.length → lo < tickN ms (k + 1))) ∨ tickN ms j ≤ lo := by
    intro j
    induction j with
    | zero => exact fun _ => .inr h0
    | succ j ih =>
      intro hj
      rcases ih (by omega) with h | h
      · exact .inl h
      · by_cases h2 : tickN ms (j + 1) ≤ lo
        · exact .inr h2
        · exact .inl ⟨j, by omega, h, fun _ => by omega⟩
  have hp := hv.pos
  rcases key (ms.length - 1) (by omega) with h | h
  · exact h
  · exact ⟨ms.length - 1, by omega, h, fun h => by omega⟩

theorem low_bar {ms : List Met} (hv : Valid ms) {lo : Int} (h0 : 0 ≤ lo) {b : Int} (hb0 : 0 ≤ b) (hb : b < atB ms lo ms.length) (hb1 : b ≤ 1048576) : bg ms b < lo := by
  obtain ⟨k, hk, h1, h2⟩ := last_part hv h0
  have ha := atB_part hv hk h1 h2 ms.length hk (Nat.le_refl _)
  have hl : 1 ≤ lg ms k := (long_bd (hv.fine k hk)).1
  have hq : 0 ≤ (lo - tickN ms k) / lg ms k := Int.ediv_nonneg (by omega) (by omega)
  have hm : (lo - tickN ms k) / lg ms k * lg ms k ≤ lo - tickN ms k := Int.ediv_mul_le _ (by omega)
  have hlast := lastN_le hv hk
  have hf := (hv.fine k hk).b0
  by_cases hc : atB ms lo ms.length ≤ lastN ms k + 1
  · have hg := bg_part hv hk (bar := atB ms lo ms.length) (by omega) hc
    have := bg_lt hv hb0 hb (by omega)
    rw [hg, ha, show mb ms k + (lo - tickN ms k) / lg ms k - mb ms k = (lo - tickN ms k) / lg ms k by omega] at this
    unfold lg at *
    omega
  · have hk1 : ¬ k + 1 < ms.length := fun hk1 => by
      have h3 := h2 hk1
      rw [← endN_next hk1] at h3
      have := bar_in hv hk h1 h3
      omega
    have hla : lastN ms k = 1048576 := by unfold lastN; rw [if_neg hk1]
    have hg := bg_part hv hk (bar := lastN ms k + 1) (by omega) (Int.le_refl _)
    have h4 := bg_lt hv (a := b) (b := lastN ms k + 1) hb0 (by omega) (by omega)
    have h5 : (lastN ms k + 1 - mb ms k) * lg ms k ≤ (lo - tickN ms k) / lg ms k * lg ms k := Int.mul_le_mul_of_nonneg_right (by omega) (by omega)
    rw [hg] at h4
    unfold lg at *
    omega

theorem rBars_spec {ms : List Met} (hv : Valid ms) {lo hi : Int} (h0 : 0 ≤ lo) (h1 : lo ≤ hi) (h2 : hi ≤ 16777216) :
    ∃ L : List Int, L.Pairwise (· < ·) ∧ (∀ t, t ∈ L ↔ IsBar ms lo hi t) ∧ rBars ms lo hi = if L.length ≤ 4096 then (L, 0) else ([], 2) := by
  have hab := atB_bd hv h0 (by omega) ms.length (Nat.le_refl _)
  obtain ⟨p, m⟩ := brs_spec hv lo hi ((1048577 - atB ms lo ms.length).toNat + 1) (atB ms lo ms.length) hab.1 (by omega)
  refine ⟨_, p, fun t => ?_, ?_⟩
  · rw [m t]
    constructor
    · rintro ⟨b, h3, h4, h5⟩
      exact ⟨b, by omega, h4, h5⟩
    · rintro ⟨b, h3, h4, rfl, h5, h6⟩
      refine ⟨b, ?_, h4, rfl, h5, h6⟩
      rcases int_lt_or_ge b (atB ms lo ms.length) with h | h
      · have := low_bar hv h0 h3 h h4; omega
      · exact h
  · unfold rBars
    rw [if_neg (by omega), rbGo_brs _ _ _ _ _ _ (by simp)]
    simp

/-- The first bar of part k that begins at lo or behind it. -/
def fstN (ms : List Met) (lo : Int) (k : Nat) : Int := mb ms k + max 0 ((lo - tickN ms k + mt ms k * mu ms k - 1).tdiv (mt ms k * mu ms k))
/-- The inner loop of the program's Bars. -/
def pbIn (ms : List Met) (hi : Int) : Nat → Int → Int → List Int → List Int
  | 0, _, _, acc => acc
  | f + 1, b, last, acc => if b ≤ last ∧ bg ms b < hi ∧ acc.length ≤ 4096 then pbIn ms hi f (b + 1) last (acc ++ [bg ms b]) else acc
def pbPart (ms : List Met) (lo hi : Int) (k : Nat) (acc : List Int) : List Int := pbIn ms hi (lastN ms k + 1 - fstN ms lo k).toNat (fstN ms lo k) (lastN ms k) acc
def pbAll (ms : List Met) (lo hi : Int) : Nat → List Int
  | 0 => []
  | k + 1 => pbPart ms lo hi k (pbAll ms lo hi k)

/-- What has been collected of the bars ahead of U. -/
structure Got (ms : List Met) (lo hi : Int) (acc : List Int) (U : Int) : Prop where
  up : acc.Pairwise (· < ·)
  mem : ∀ t ∈ acc, ∃ b, 0 ≤ b ∧ b < U ∧ b ≤ 1048576 ∧ t = bg ms b ∧ lo ≤ t ∧ t < hi
  few : acc.length ≤ 4097
  all : acc.length ≤ 4096 → ∀ b, 0 ≤ b → b < U → b ≤ 1048576 → lo ≤ bg ms b → bg ms b < hi → bg ms b ∈ acc

theorem Got.move {ms : List Met} {lo hi : Int} {acc : List Int} {U U' : Int} (h : Got ms lo hi acc U) (hU : U ≤ U') (hn : acc.length ≤ 4096 → ∀ b, U ≤ b → b < U' → b ≤ 1048576 → bg ms b < lo ∨ hi ≤ bg ms b) : Got ms lo hi acc U' :=
  ⟨h.up, fun t ht => by obtain ⟨b, h1, h2, h3⟩ := h.mem t ht; exact ⟨b, h1, by omega, h3⟩, h.few, fun hl b h1 h2 h3 h4 h5 => by
    rcases int_lt_or_ge b U with hb | hb
    · exact h.all hl b h1 hb h3 h4 h5
    · rcases hn hl b hb h2 h3 with h6 | h6
      · omega
      · omega⟩
theorem Got.add {ms : List Met} (hv : Valid ms) {lo hi : Int} {acc : List Int} {U : Int} (h : Got ms lo hi acc U) (h0 : 0 ≤ U) (h1 : U ≤ 1048576) (h2 : lo ≤ bg ms U) (h3 : bg ms U < hi) (hl : acc.length ≤ 4096) : Got ms lo hi (acc ++ [bg ms U]) (U + 1) := by
  refine ⟨?_, fun t ht => ?_, by simp; omega, fun hl' b g1 g2 g3 g4 g5 => ?_⟩
  · rw [List.pairwise_append]
    refine ⟨h.up, by simp, fun a ha c hc => ?_⟩
    rw [List.mem_singleton.1 hc]
    obtain ⟨b, g1, g2, g3, rfl, _⟩ := h.mem a ha
    exact bg_lt hv g1 g2 (by omega)
  · rcases List.mem_append.1 ht with h4 | h4
    · obtain ⟨b, g1, g2, g3⟩ := h.mem t h4
      exact ⟨b, g1, by omega, g3⟩
    · rw [List.mem_singleton.1 h4]
      exact ⟨U, h0, by omega, h1, rfl, h2, h3⟩
  · rcases int_lt_or_ge b U with hb | hb
    · exact List.mem_append_left _ (h.all hl b g1 hb g3 g4 g5)
    · obtain rfl : b = U := by omega
      simp

theorem Got.inner {ms : List Met} (hv : Valid ms) {lo hi last : Int} (hlast : last ≤ 1048576) (f : Nat) : ∀ {b : Int} {acc : List Int}, 0 ≤ b → (∀ c, b ≤ c → c ≤ last → lo ≤ bg ms c) → last + 1 - b ≤ f → b ≤ last + 1 → Got ms lo hi acc b → Got ms lo hi (pbIn ms hi f b last acc) (last + 1) := by
  induction f with
  | zero =>
    intro b acc h0 hlo hf hb h
    obtain rfl : b = last + 1 := by omega
    exact h
  | succ f ih =>
    intro b acc h0 hlo hf hb h
    unfold pbIn
    split
    · rename_i hc
      exact ih (by omega) (fun c h1 h2 => hlo c (by omega) h2) (by omega) (by omega) (h.add hv h0 (by omega) (hlo b (Int.le_refl _) hc.1) hc.2.1 hc.2.2)
    · rename_i hc
      refine h.move hb fun hl c h1 h2 h3 => .inr ?_
      have h4 : ¬ bg ms b < hi := fun hx => hc ⟨by omega, hx, hl⟩
      rcases Int.lt_or_eq_of_le h1 with h5 | rfl
      · have := bg_lt hv h0 h5 (by omega); omega
      · omega

theorem fst_spec {ms : List Met} (hv : Valid ms) {k : Nat} (hk : k < ms.length) {lo : Int} (_ : 0 ≤ lo) (b : Int) (hb : mb ms k ≤ b) (hb1 : b ≤ lastN ms k + 1) : mb ms k ≤ fstN ms lo k ∧ (lo ≤ bg ms b ↔ fstN ms lo k ≤ b) := by
  have hl : 1 ≤ mt ms k * mu ms k := (long_bd (hv.fine k hk)).1
  rw [bg_part hv hk hb hb1]
  unfold fstN
  by_cases hn : 0 ≤ lo - tickN ms k + mt ms k * mu ms k - 1
  · rw [Int.tdiv_eq_ediv_of_nonneg hn]
    have hq : 0 ≤ (lo - tickN ms k + mt ms k * mu ms k - 1) / (mt ms k * mu ms k) := Int.ediv_nonneg hn (by omega)
    rw [show max 0 ((lo - tickN ms k + mt ms k * mu ms k - 1) / (mt ms k * mu ms k)) = (lo - tickN ms k + mt ms k * mu ms k - 1) / (mt ms k * mu ms k) by omega]
    refine ⟨by omega, ?_⟩
    have e : (lo - tickN ms k + mt ms k * mu ms k - 1) / (mt ms k * mu ms k) ≤ b - mb ms k ↔ lo - tickN ms k ≤ (b - mb ms k) * (mt ms k * mu ms k) := by
      rw [← Int.lt_add_one_iff, Int.ediv_lt_iff_lt_mul (by omega), Int.add_mul, Int.one_mul]
      omega
    constructor
    · intro h; have := e.2 (by omega); omega
    · intro h; have := e.1 (by omega); omega
  · have hq : (lo - tickN ms k + mt ms k * mu ms k - 1).tdiv (mt ms k * mu ms k) ≤ 0 := tdiv_nonpos (by omega) (by omega)
    rw [show max 0 ((lo - tickN ms k + mt ms k * mu ms k - 1).tdiv (mt ms k * mu ms k)) = 0 by omega]
    have := Int.mul_nonneg (by omega : 0 ≤ b - mb ms k) (by omega : 0 ≤ mt ms k * mu ms k)
    refine ⟨by omega, ?_⟩
    constructor
    · intro _; omega
    · intro _; omega

def upB (ms : List Met) (k : Nat) : Int := if k < ms.length then mb ms k else 1048577
theorem upB_succ {ms : List Met} {k : Nat} : upB ms (k + 1) = lastN ms k + 1 := by
  unfold upB lastN
  split <;> omega

theorem Got.part {ms : List Met} (hv : Valid ms) {lo hi : Int} (h0 : 0 ≤ lo) {k : Nat} (hk : k < ms.length) {acc : List Int} (h : Got ms lo hi acc (mb ms k)) : Got ms lo hi (pbPart ms lo hi k acc) (lastN ms k + 1) := by
  have hl := lastN_le hv hk
  have f := (hv.fine k hk).b0
  have hf := fun b => fst_spec hv hk h0 b
  have hfl := (hf (mb ms k) (Int.le_refl _) (by omega)).1
  unfold pbPart
  by_cases hc : fstN ms lo k ≤ lastN ms k + 1
  · refine Got.inner hv hl.2 _ (by omega) (fun c h1 h2 => (hf c (by omega) (by omega)).2.2 h1) (by omega) hc (h.move hfl fun _ b h1 h2 h3 => .inl ?_)
    have := (hf b h1 (by omega)).2
    omega
  · have e : (lastN ms k + 1 - fstN ms lo k).toNat = 0 := by omega
    rw [e]
    refine h.move (by omega) fun _ b h1 h2 h3 => .inl ?_
    have := (hf b h1 (by omega)).2
    omega

theorem Got.upto {ms : List Met} (hv : Valid ms) {lo hi : Int} (h0 : 0 ≤ lo) (k : Nat) (hk : k ≤ ms.length) : Got ms lo hi (pbAll ms lo hi k) (upB ms k) := by
  induction k with
  | zero =>
    have e : upB ms 0 = 0 := by unfold upB; rw [if_pos (by have := hv.pos; omega), hv.zero]
    rw [e]
    exact ⟨by simp [pbAll], by simp [pbAll], by simp [pbAll], fun _ b h1 h2 => by omega⟩
  | succ k ih =>
    have h := ih (by omega)
    rw [upB_succ]
    unfold upB at h
    rw [if_pos (by omega)] at h
    exact h.part hv h0 (by omega)

/-- What the program's Bars gives is what the reference's gives. -/
theorem rBars_prog {ms : List Met} (hv : Valid ms) {lo hi : Int} (h0 : 0 ≤ lo) (h1 : lo ≤ hi) (h2 : hi ≤ 16777216) :
    rBars ms lo hi = if 4096 < (pbAll ms lo hi ms.length).length then ([], 2) else (pbAll ms lo hi ms.length, 0) := by
  obtain ⟨L, p, m, e⟩ := rBars_spec hv h0 h1 h2
  have g := Got.upto hv (hi := hi) h0 ms.length (Nat.le_refl _)
  have hu : upB ms ms.length = 1048577 := by unfold upB; rw [if_neg (by omega)]
  rw [hu] at g
  obtain ⟨s1, s2⟩ := sorted_sub g.up p (fun t ht => by
    obtain ⟨b, g1, g2, g3, g4⟩ := g.mem t ht
    exact (m t).2 ⟨b, g1, g3, g4⟩)
  rw [e]
  by_cases hc : 4096 < (pbAll ms lo hi ms.length).length
  · rw [if_pos hc, if_neg (by omega)]
  · rw [if_neg hc]
    have := s2 fun t ht => by
      obtain ⟨b, g1, g2, rfl, g3, g4⟩ := (m t).1 ht
      exact g.all (by omega) b g1 (by omega) g2 g3 g4
    rw [← this, if_pos (by omega)]
theorem pbAll_few {ms : List Met} (hv : Valid ms) {lo hi : Int} (h0 : 0 ≤ lo) (k : Nat) (hk : k ≤ ms.length) : (pbAll ms lo hi k).length ≤ 4097 := (Got.upto hv h0 k hk).few
end Go.Proofs.Ytdphnlcppaaccaa
