/-
  One byte that is changed: the sector is none of a record any more; exactly the records that lie ahead remain. Conditions: as each statement says. | The plain laws of JournalDamage: after a whole sync of records, one byte of a sector that they occupy changed, written and synced, exactly the records ahead of that sector are read.
-/
import Derived.Test.YtckeopidedoohaaJpn
import Derived.Test.YtckeopidedoohaaJsr
import Derived.Test.YtckeopidedoohaaJsn
namespace Go.Proofs.Ytckeopidedoohaa

theorem getL4_inj {a b : Bs} (ha : a.length = 4) (hb : b.length = 4) (h : getL a = getL b) : a = b := by
  match a, ha, b, hb with
  | [a0, a1, a2, a3], _, [b0, b1, b2, b3], _ =>
    have := a0.toNat_lt; have := a1.toNat_lt; have := a2.toNat_lt; have := a3.toNat_lt
    have := b0.toNat_lt; have := b1.toNat_lt; have := b2.toNat_lt; have := b3.toNat_lt
    simp [getL] at h
    have e0 : a0 = b0 := UInt8.toNat_inj.1 (by omega)
    have e1 : a1 = b1 := UInt8.toNat_inj.1 (by omega)
    have e2 : a2 = b2 := UInt8.toNat_inj.1 (by omega)
    have e3 : a3 = b3 := UInt8.toNat_inj.1 (by omega)
    rw [e0, e1, e2, e3]
/-- The sum that a good sector bears. -/
theorem good_sum {s : Bs} {num : Nat} (hl : s.length = 128) (h : gGood s num = true) : (s.drop 4).take 4 = beL 4 (gSum ((s.drop 8).take 116)) := by
  obtain ⟨h1, -, -, -, -, h2⟩ := good_parts h
  have hd : (sData s).length ≤ 112 := by rw [sData_len hl h1]; exact h1
  obtain ⟨d, hdd⟩ : ∃ d, d = sData s := ⟨_, rfl⟩
  rw [← hdd] at h2 hd
  have e8 : (s.drop 8).take 116 = mid num (sKind s) d := by
    conv => lhs; rw [h2]
    unfold enc
    rw [← List.append_assoc, drop_app (by simp [beL_len]), take_app (mid_len _ _ hd)]
  rw [e8]
  conv => lhs; rw [h2]
  unfold enc
  rw [drop_app (beL_len _ _), take_app (beL_len _ _)]
theorem part_same {s : Bs} {i : Nat} {y : UInt8} (o n : Nat) (h : i < o ∨ o + n ≤ i) : ((s.set i y).drop o).take n = (s.drop o).take n := by
  apply List.ext_getElem?
  intro j
  simp only [List.getElem?_take, List.getElem?_drop]
  split
  · rw [List.getElem?_set_ne (by omega)]
  · rfl
theorem part_set {s : Bs} {i : Nat} {y : UInt8} (o n : Nat) (h1 : o ≤ i) (_h2 : i < o + n) : ((s.set i y).drop o).take n = ((s.drop o).take n).set (i - o) y := by
  rw [List.drop_set, if_neg (by omega), List.take_set]
theorem set_ne_self {l : Bs} {i : Nat} {y : UInt8} (hi : i < l.length) (hy : y ≠ l.getD i 0) : l.set i y ≠ l := fun h => by
  have := congrArg (fun x => x.getD i 0) h
  simp only [set_getD _ _ _ _ _ hi, if_pos] at this
  exact hy this
/-- One byte that is changed makes a good sector bad. -/
theorem byte_bad {s : Bs} {num i : Nat} {y : UInt8} (hl : s.length = 128) (h : gGood s num = true) (hi : i < 128) (hy : y ≠ s.getD i 0) : ∀ num', gGood (s.set i y) num' = false := fun num' => by
  cases hg : gGood (s.set i y) num'
  · rfl
  exfalso
  have hl' : (s.set i y).length = 128 := by simp [hl]
  have g1 := good_ends hl h
  have g2 := good_ends hl' hg
  have s1 := good_sum hl h
  have s2 := good_sum hl' hg
  have d124 : ∀ x : Bs, x.length = 128 → x.drop 124 = (x.drop 124).take 4 := fun x hx => (List.take_of_length_le (by rw [List.length_drop, hx]; decide)).symm
  have d0 : ∀ x : Bs, x.take 4 = (x.drop 0).take 4 := fun x => rfl
  have l0 : (s.take 4).length = 4 := by rw [List.length_take, hl]; rfl
  have l0' : ((s.set i y).take 4).length = 4 := by rw [List.length_take, hl']; rfl
  have l4 : (s.drop 124).length = 4 := by rw [List.length_drop, hl]
  have l4' : ((s.set i y).drop 124).length = 4 := by rw [List.length_drop, hl']
  have a1 := getL4_inj l4 l0 g1
  have a2 := getL4_inj l4' l0' g2
  by_cases c1 : i < 4
  · have e1 : (s.set i y).drop 124 = s.drop 124 := by rw [d124 _ hl', d124 _ hl, part_same 124 4 (.inl (by omega))]
    have e2 : (s.set i y).take 4 = s.take 4 := by rw [← a2, e1, a1]
    rw [d0, d0 s, part_set 0 4 (by omega) (by omega)] at e2
    exact set_ne_self (by rw [List.length_take, List.length_drop]; omega) (by
      intro hh
      apply hy
      rw [hh]
      simp [List.getD, c1]) e2
  by_cases c2 : i < 8
  · rw [part_same 8 116 (.inl c2), ← s1, part_set 4 4 (by omega) (by omega)] at s2
    exact set_ne_self (by rw [List.length_take, List.length_drop]; omega) (by
      intro hh
      apply hy
      rw [hh]
      simp only [List.getD_eq_getElem?_getD, List.getElem?_take, List.getElem?_drop]
      rw [if_pos (by omega), show 4 + (i - 4) = i by omega]) s2
  by_cases c3 : i < 124
  · rw [part_same 4 4 (.inr (by omega)), s1, part_set 8 116 (by omega) (by omega)] at s2
    obtain ⟨m, hm⟩ : ∃ m, m = (s.drop 8).take 116 := ⟨_, rfl⟩
    have hml : m.length = 116 := by rw [hm, List.length_take, List.length_drop, hl]; rfl
    rw [← hm] at s2
    have e := getL4_inj (beL_len _ _) (beL_len _ _) (congrArg getL s2)
    have e2 : gSum m = gSum (m.set (i - 8) y) := by rw [← get_be4 (gSum_lt m), e, get_be4 (gSum_lt _)]
    have hsp : m = m.take (i - 8) ++ m.getD (i - 8) 0 :: m.drop (i - 8 + 1) := by
      rw [List.getD_eq_getElem?_getD, List.getElem?_eq_getElem (by omega)]
      simp
    have hst : m.set (i - 8) y = m.take (i - 8) ++ y :: m.drop (i - 8 + 1) := List.set_eq_take_append_cons_drop .. |>.trans (by rw [if_pos (by omega)])
    rw [hst] at e2
    conv at e2 => lhs; rw [hsp]
    have := gSum_one e2
    apply hy
    rw [← this, hm]
    simp only [List.getD_eq_getElem?_getD, List.getElem?_take, List.getElem?_drop]
    rw [if_pos (by omega), show 8 + (i - 8) = i by omega]
  · have e1 : (s.set i y).take 4 = s.take 4 := by rw [d0, d0 s, part_same 0 4 (.inr (by omega))]
    have e2 : (s.set i y).drop 124 = s.drop 124 := by rw [a2, e1, ← a1]
    rw [d124 _ hl', d124 _ hl, part_set 124 4 (by omega) (by omega)] at e2
    exact set_ne_self (by rw [List.length_take, List.length_drop]; omega) (by
      intro hh
      apply hy
      rw [hh]
      simp only [List.getD_eq_getElem?_getD, List.getElem?_take, List.getElem?_drop]
      rw [if_pos (by omega), show 124 + (i - 124) = i by omega]) e2
/-- Records that were laid from the beginning, one sector of theirs none of a record any more: exactly the records ahead remain. -/
theorem damage_recs {l post : List Bs} {g k : Nat} {rs : List Bs} {s : Bs} (h0 : 0 < g) (hg : g < 4294967296) (hl : l = layA g 0 rs ++ post) (hk : k < usedN rs) (hs : ∀ num, gGood s num = false) :
    ∃ rs1 rs2 b, rs = rs1 ++ b :: rs2 ∧ usedN rs1 ≤ k ∧ k < usedN rs1 + secN b ∧ gRecs (l.set k s) = rs1 := by
  obtain ⟨rs1, rs2, b, q, e, hq, hkq, ht⟩ := splitK (g := g) rs 0 k hk
  refine ⟨rs1, rs2, b, e, by omega, by omega, ?_⟩
  have hlen : k < l.length := by rw [hl, List.length_append, layA_len]; omega
  have htk : l.take k = (layA g 0 rs).take k := by rw [hl, List.take_append_of_le_length (by rw [layA_len]; omega)]
  have hset : l.set k s = [] ++ (layA g 0 rs1 ++ ((lay g (secN b) (0 + usedN rs1) 1 b).take q ++ s :: l.drop (k + 1))) := by
    rw [List.set_eq_take_append_cons_drop, if_pos hlen, htk, ht, List.nil_append, List.append_assoc]
  have hc := chain_lay h0 hg rs1 (last := 0) (n := 0) (Nat.zero_le _) hset rfl
  refine gRecs_of hc ?_
  exact recAt_torn (pre := layA g 0 rs1) (post := l.drop (k + 1)) (g := g) (m := q) (b := b) hs (by rw [hset, List.nil_append]) hq hg (by rw [layA_len, Nat.zero_add])
/-- What a laid sector is. -/
theorem lay_good {g : Nat} (h0 : 0 < g) (hg : g < 4294967296) : ∀ (k n : Nat) (kind : UInt8) (b : Bs), (kind = 1 ∨ kind = 0) → (1 < k ∨ kind = 0 → 112 * (k - 1) < b.length) → b.length ≤ 112 * k → ∀ i, i < k → ∃ num, gGood ((lay g k n kind b).getD i []) num = true
  | 0, _, _, _, _, _, _, i, hi => by omega
  | k + 1, n, kind, b, hk, h1, h2, i, hi => by
    cases i with
    | zero =>
      refine ⟨n, ?_⟩
      show gGood (enc g n (if k = 0 then kind ||| 2 else kind) (b.take 112)) n = true
      have hb : (b.take 112).length ≤ 112 := by rw [List.length_take]; omega
      by_cases hk0 : k = 0
      · subst hk0
        rw [if_pos rfl]
        refine good_enc h0 hg hb ?_ (.inl ?_) ?_
        · rcases hk with rfl | rfl <;> decide
        · rcases hk with rfl | rfl <;> decide
        · rcases hk with rfl | rfl
          · exact .inl (by decide)
          · exact .inr (by have := h1 (.inr rfl); rw [List.length_take]; omega)
      · rw [if_neg hk0]
        have hbl : (b.take 112).length = 112 := by have := h1 (.inl (by omega)); rw [List.length_take]; simp only [Nat.add_sub_cancel] at this; omega
        refine good_enc h0 hg hb ?_ (.inr hbl) (.inr (by omega))
        rcases hk with rfl | rfl <;> decide
    | succ i =>
      have hbl : 112 * k < b.length := by have := h1 (.inl (by omega)); simpa using this
      obtain ⟨num, h⟩ := lay_good h0 hg k (n + 1) 0 (b.drop 112) (.inr rfl) (fun _ => by rw [List.length_drop]; omega) (by rw [List.length_drop]; omega) i (by omega)
      exact ⟨num, h⟩
end Go.Proofs.Ytckeopidedoohaa

namespace Go.Proofs.Ytckeopidedoohaa
open Go.RowKit

theorem layA_good {g : Nat} (h0 : 0 < g) (hg : g < 4294967296) : ∀ (rs : List Bs) (n k : Nat), k < usedN rs → ∃ num, gGood ((layA g n rs).getD k []) num = true
  | [], _, k, h => by rw [usedN_nil] at h; omega
  | b :: rs, n, k, h => by
    rw [usedN_cons] at h
    rw [layA, List.getD_eq_getElem?_getD]
    by_cases hk : k < secN b
    · rw [List.getElem?_append_left (by rw [lay_len]; exact hk), ← List.getD_eq_getElem?_getD]
      refine lay_good h0 hg (secN b) n 1 b (.inl rfl) ?_ ?_ k hk
      · rintro (h1 | h1)
        · unfold secN at h1 ⊢; omega
        · cases h1
      · unfold secN; omega
    · rw [List.getElem?_append_right (by rw [lay_len]; omega), lay_len, ← List.getD_eq_getElem?_getD]
      exact layA_good h0 hg rs (n + secN b) (k - secN b) (by omega)
/-- The law's disk. -/
def dD40 : Dk := ⟨List.replicate 40 zs, [], -1, false⟩
theorem d40_new : gNew 40 = (dD40, 0) := by unfold gNew; rw [if_neg (by decide)]; rfl
theorem d40_val : Val dD40 := by
  refine ⟨by simp [dD40], by simp [dD40], by simp [dD40], by simp [dD40], by simp [dD40], fun x hx => by simp [dD40] at hx, fun b hb => ?_⟩
  have h := List.eq_of_mem_replicate hb
  rw [h, zs_len]
theorem d40_open : gOpen dD40 = (⟨[], 40, 0⟩, 0) := by
  rw [gOpen_ok d40_val rfl (by decide), show dD40.secs = List.replicate 40 zs from rfl, gRecs_zs]
  rfl
theorem d40_fit {R : List Bs} (hv : JVal ⟨R, 40, 0⟩) : Fits ⟨R, 40, 0⟩ dD40 := ⟨hv, d40_val, by simp [dD40], rfl, rfl, by show gRecs (List.replicate 40 zs) = _; rw [gRecs_zs]; simp, by show genN (List.replicate 40 zs) < _; rw [genN_zs]; decide⟩
theorem d40_none : gJs ⟨[], 40, 0⟩ dD40 = ((⟨[], 40, 0⟩, dD40), 0) := gJs_same (d40_fit (by simp [JVal, usedN_nil])) rfl
theorem usedN_take_le (R : List Bs) (i : Nat) : usedN (R.take i) ≤ usedN R := by
  have h := usedN_append (R.take i) (R.drop i)
  rw [List.take_append_drop] at h
  omega
theorem used_mono (R : List Bs) {i j : Nat} (h : i ≤ j) : usedN (R.take i) ≤ usedN (R.take j) := by
  have h1 := usedN_take_le (R.take j) i
  rw [List.take_take, Nat.min_eq_left h] at h1
  exact h1
theorem jv_snoc {rs : List Bs} {b : Bs} (h : JVal ⟨rs, 40, 0⟩) (h1 : ¬ (40 : Int) - usedN rs < secN b) : JVal ⟨rs ++ [b], 40, 0⟩ := by
  obtain ⟨v1, v2, v3, v4, v5⟩ := h
  refine ⟨v1, v2, v3, by simp <;> omega, ?_⟩
  rw [usedN_snoc]
  dsimp only
  omega
/-- The sync of what was appended to the new disk. -/
theorem dmg_sync {R : List Bs} (hv : JVal ⟨R, 40, 0⟩) (hR : 0 < R.length) : ∃ y, gJs ⟨R, 40, 0⟩ dD40 = ((⟨R, 40, R.length⟩, y), 0) ∧ Runs y ∧ y.pend = [] ∧ y.secs.length = 40 ∧ y.left = -1 ∧ (∃ post, y.secs = layA 1 0 R ++ post) ∧ usedN R ≤ 40 := by
  obtain ⟨y, h1, h2, h3, h4, -, h6, h7⟩ := gJs_ok (d40_fit hv) (by dsimp only; omega) (fun h => by have := h.1; revert this; decide)
  have hu : (usedN R : Int) ≤ 40 := hv.2.2.2.2
  have hu2 : usedN R ≤ 40 := by omega
  refine ⟨y, h1, h2, h3, by rw [h4]; simp [dD40], by rw [h6]; simp [dD40], ?_, hu2⟩
  simp only [wsD, Int.toNat_zero, List.take_zero, List.drop_zero, usedN_nil] at h7
  rw [show genN dD40.secs = 1 from genN_zs 40, perf_mkW _ _ _ (by rw [layA_len]; simp [dD40]; omega)] at h7
  exact ⟨_, by rw [h7, List.take_zero, List.nil_append]⟩
theorem xor_ne {a b : UInt8} (h : b ≠ 0) : a ^^^ b ≠ a := fun hx => h (by
  have h1 : a ^^^ (a ^^^ b) = a ^^^ a := by rw [hx]
  rw [← UInt8.xor_assoc, UInt8.xor_self, UInt8.zero_xor] at h1
  exact h1)
/-- A byte of a sector of theirs changed: exactly the records ahead remain. -/
theorem dmg_read {R : List Bs} {y : Dk} (hr : Runs y) (hp : y.pend = []) (hl : y.secs.length = 40) (hlf : y.left = -1) (hs : ∃ post, y.secs = layA 1 0 R ++ post) (hu : usedN R ≤ 40) {k i : Nat} {v : UInt8} (hk : k < usedN R) (hi : i < 128) (hv : v ≠ (y.secs.getD k []).getD i 0) :
    ∃ n x z, n < R.length ∧ (∀ j, j < n → usedN (R.take (j + 1)) ≤ k) ∧ k < usedN (R.take (n + 1)) ∧ gWrite y k ((y.secs.getD k []).set i v) = (x, 0) ∧ gSync x = (z, 0) ∧ gOpen z = (⟨R.take n, 40, n⟩, 0) ∧ x.secs.length = 40 ∧ x.pend.length = 1 ∧ z.secs.length = 40 ∧ z.pend.length = 0 := by
  obtain ⟨post, hs⟩ := hs
  have hkl : k < y.secs.length := by omega
  have hgk : y.secs.getD k [] = (layA 1 0 R).getD k [] := by
    rw [hs, List.getD_eq_getElem?_getD, List.getElem?_append_left (by rw [layA_len]; exact hk), ← List.getD_eq_getElem?_getD]
  obtain ⟨num, hgood⟩ := layA_good (g := 1) (by decide) (by decide) R 0 k hk
  rw [← hgk] at hgood
  have h128 : (y.secs.getD k []).length = 128 := secs_len hr hkl
  have hbad := byte_bad h128 hgood hi hv
  have hsl : ((y.secs.getD k []).set i v).length = 128 := by rw [List.length_set]; exact h128
  obtain ⟨rs1, rs2, b, e, h1, h2, h3⟩ := damage_recs (g := 1) (by decide) (by decide) hs hk hbad
  have hx := gWrite_ok (d := y) (at_ := (k : Int)) (b := (y.secs.getD k []).set i v) ⟨hr, by omega, by omega⟩ (by omega) (by rw [hp]; decide)
  rw [hp, List.nil_append, pad_128 hsl] at hx
  have hxr : Runs { y with pend := [⟨(k : Int), (y.secs.getD k []).set i v⟩] } := by
    have h9 := write_runs hr (at_ := (k : Int)) (b := (y.secs.getD k []).set i v) (by omega) (by omega) (by omega) (by rw [hp]; decide)
    rw [hp, List.nil_append, pad_128 hsl] at h9
    exact h9
  have hnl : ¬ (0 ≤ ({ y with pend := [⟨(k : Int), (y.secs.getD k []).set i v⟩] } : Dk).left ∧ ({ y with pend := [⟨(k : Int), (y.secs.getD k []).set i v⟩] } : Dk).left < ({ y with pend := [⟨(k : Int), (y.secs.getD k []).set i v⟩] } : Dk).pend.length) := by
    dsimp only
    rw [hlf]
    exact fun h => by have := h.1; revert this; decide
  have hz := gSync_ok hxr hnl
  have hzr := sync_runs hxr hnl
  have hset : perfL y.secs [⟨(k : Int), (y.secs.getD k []).set i v⟩] = y.secs.set k ((y.secs.getD k []).set i v) := by simp [perfL, putW]
  refine ⟨rs1.length, _, _, by rw [e]; simp, fun j hj => ?_, ?_, hx, hz, ?_, hl, rfl, ?_, rfl⟩
  · have h9 : R.take (j + 1) = rs1.take (j + 1) := by rw [e, List.take_append_of_le_length (by omega)]
    rw [h9]
    exact Nat.le_trans (usedN_take_le _ _) h1
  · have h9 : R.take (rs1.length + 1) = rs1 ++ [b] := by rw [e, List.take_append, List.take_of_length_le (by omega)]; simp
    rw [h9, usedN_snoc]
    exact h2
  · have ht : R.take rs1.length = rs1 := by rw [e]; simp
    refine (gOpen_ok (d := syncD _) hzr.1 hzr.2 (by show ¬ 0 < ([] : List Wr).length; simp)).trans ?_
    show ((⟨gRecs (perfL y.secs _), (perfL y.secs _).length, (gRecs (perfL y.secs _)).length⟩ : Jn), (0 : Int)) = _
    rw [hset, h3, ht, List.length_set, hl]
    rfl
  · show (perfL y.secs _).length = 40
    rw [perfL_len, hl]
end Go.Proofs.Ytckeopidedoohaa
