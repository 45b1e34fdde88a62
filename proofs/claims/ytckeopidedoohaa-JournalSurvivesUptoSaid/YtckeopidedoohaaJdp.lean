/-
  The plain laws of JournalDamage: after a whole sync of records, one byte of a sector that they occupy changed, written and synced, exactly the records ahead of that sector are read.
-/
import Derived.Test.YtckeopidedoohaaJsn
import Derived.Test.YtckeopidedoohaaJdm
namespace Go.Proofs.Ytckeopidedoohaa
open Go.RowKit

theorem layA_good {g : Nat} (h0 : 0 < g) (hg : g < 4294967296) : ∀ (rs : List Bs) (n k : Nat), k < usedN rs → ∃ num, gGood ((layA g n rs).getD k []) num = true
  | [], _, k, h => by rw [usedN_nil] at h; omega
  | b :: rs, n, k, h => by
    rw [usedN_cons] at h
    rw [layA, List.getD_eq_getElem?_getD]
    by_cases hk : k < secN b
    · rw [List.getElem?_append_left (by rw [lay_len]; exact hk), ← List.getD_eq_getElem?_getD]
      refine lay_good h0 hg (secN b) n 1 b (.inl rfl) ?_ ?_ k hk
      · rintro (h1 | h1)
        · unfold secN at h1 ⊢; omega
        · cases h1
      · unfold secN; omega
    · rw [List.getElem?_append_right (by rw [lay_len]; omega), lay_len, ← List.getD_eq_getElem?_getD]
      exact layA_good h0 hg rs (n + secN b) (k - secN b) (by omega)
/-- The law's disk. -/
def dD40 : Dk := ⟨List.replicate 40 zs, [], -1, false⟩
theorem genN_zs : ∀ n, genN (List.replicate n zs) = 1
  | 0 => rfl
  | n + 1 => by
    rw [List.replicate_succ', genN_snoc, genN_zs n]
    decide
theorem gRecs_zs (n : Nat) : gRecs (List.replicate n zs) = [] := by
  cases n with
  | zero => rfl
  | succ n =>
    unfold gRecs
    rw [recs_none]
    · rfl
    · unfold recAt
      rw [List.drop_zero, List.replicate_succ, scan_no (fun h => by rw [zs_bad] at h; cases h.1)]
theorem d40_new : gNew 40 = (dD40, 0) := by unfold gNew; rw [if_neg (by decide)]; rfl
theorem d40_val : Val dD40 := by
  refine ⟨by simp [dD40], by simp [dD40], by simp [dD40], by simp [dD40], by simp [dD40], fun x hx => by simp [dD40] at hx, fun b hb => ?_⟩
  have h := List.eq_of_mem_replicate hb
  rw [h, zs_len]
theorem d40_open : gOpen dD40 = (⟨[], 40, 0⟩, 0) := by
  rw [gOpen_ok d40_val rfl (by decide), show dD40.secs = List.replicate 40 zs from rfl, gRecs_zs]
  rfl
theorem d40_fit {R : List Bs} (hv : JVal ⟨R, 40, 0⟩) : Fits ⟨R, 40, 0⟩ dD40 := ⟨hv, d40_val, by simp [dD40], rfl, rfl, by show gRecs (List.replicate 40 zs) = _; rw [gRecs_zs]; simp, by show genN (List.replicate 40 zs) < _; rw [genN_zs]; decide⟩
theorem d40_none : gJs ⟨[], 40, 0⟩ dD40 = ((⟨[], 40, 0⟩, dD40), 0) := gJs_same (d40_fit (by simp [JVal, usedN_nil])) rfl
theorem usedN_take_le (R : List Bs) (i : Nat) : usedN (R.take i) ≤ usedN R := by
  have h := usedN_append (R.take i) (R.drop i)
  rw [List.take_append_drop] at h
  omega
theorem used_mono (R : List Bs) {i j : Nat} (h : i ≤ j) : usedN (R.take i) ≤ usedN (R.take j) := by
  have h1 := usedN_take_le (R.take j) i
  rw [List.take_take, Nat.min_eq_left h] at h1
  exact h1
theorem jv_snoc {rs : List Bs} {b : Bs} (h : JVal ⟨rs, 40, 0⟩) (h1 : ¬ (40 : Int) - usedN rs < secN b) : JVal ⟨rs ++ [b], 40, 0⟩ := by
  obtain ⟨v1, v2, v3, v4, v5⟩ := h
  refine ⟨v1, v2, v3, by simp <;> omega, ?_⟩
  rw [usedN_snoc]
  dsimp only
  omega
/-- The sync of what was appended to the new disk. -/
theorem dmg_sync {R : List Bs} (hv : JVal ⟨R, 40, 0⟩) (hR : 0 < R.length) : ∃ y, gJs ⟨R, 40, 0⟩ dD40 = ((⟨R, 40, R.length⟩, y), 0) ∧ Runs y ∧ y.pend = [] ∧ y.secs.length = 40 ∧ y.left = -1 ∧ (∃ post, y.secs = layA 1 0 R ++ post) ∧ usedN R ≤ 40 := by
  obtain ⟨y, h1, h2, h3, h4, -, h6, h7⟩ := gJs_ok (d40_fit hv) (by dsimp only; omega) (fun h => by have := h.1; revert this; decide)
  have hu : (usedN R : Int) ≤ 40 := hv.2.2.2.2
  have hu2 : usedN R ≤ 40 := by omega
  refine ⟨y, h1, h2, h3, by rw [h4]; simp [dD40], by rw [h6]; simp [dD40], ?_, hu2⟩
  simp only [wsD, Int.toNat_zero, List.take_zero, List.drop_zero, usedN_nil] at h7
  rw [show genN dD40.secs = 1 from genN_zs 40, perf_mkW _ _ _ (by rw [layA_len]; simp [dD40]; omega)] at h7
  exact ⟨_, by rw [h7, List.take_zero, List.nil_append]⟩
theorem xor_ne {a b : UInt8} (h : b ≠ 0) : a ^^^ b ≠ a := fun hx => h (by
  have h1 : a ^^^ (a ^^^ b) = a ^^^ a := by rw [hx]
  rw [← UInt8.xor_assoc, UInt8.xor_self, UInt8.zero_xor] at h1
  exact h1)
/-- A byte of a sector of theirs changed: exactly the records ahead remain. -/
theorem dmg_read {R : List Bs} {y : Dk} (hr : Runs y) (hp : y.pend = []) (hl : y.secs.length = 40) (hlf : y.left = -1) (hs : ∃ post, y.secs = layA 1 0 R ++ post) (hu : usedN R ≤ 40) {k i : Nat} {v : UInt8} (hk : k < usedN R) (hi : i < 128) (hv : v ≠ (y.secs.getD k []).getD i 0) :
    ∃ n x z, n < R.length ∧ (∀ j, j < n → usedN (R.take (j + 1)) ≤ k) ∧ k < usedN (R.take (n + 1)) ∧ gWrite y k ((y.secs.getD k []).set i v) = (x, 0) ∧ gSync x = (z, 0) ∧ gOpen z = (⟨R.take n, 40, n⟩, 0) ∧ x.secs.length = 40 ∧ x.pend.length = 1 ∧ z.secs.length = 40 ∧ z.pend.length = 0 := by
  obtain ⟨post, hs⟩ := hs
  have hkl : k < y.secs.length := by omega
  have hgk : y.secs.getD k [] = (layA 1 0 R).getD k [] := by
    rw [hs, List.getD_eq_getElem?_getD, List.getElem?_append_left (by rw [layA_len]; exact hk), ← List.getD_eq_getElem?_getD]
  obtain ⟨num, hgood⟩ := layA_good (g := 1) (by decide) (by decide) R 0 k hk
  rw [← hgk] at hgood
  have h128 : (y.secs.getD k []).length = 128 := secs_len hr hkl
  have hbad := byte_bad h128 hgood hi hv
  have hsl : ((y.secs.getD k []).set i v).length = 128 := by rw [List.length_set]; exact h128
  obtain ⟨rs1, rs2, b, e, h1, h2, h3⟩ := damage_recs (g := 1) (by decide) (by decide) hs hk hbad
  have hx := gWrite_ok (d := y) (at_ := (k : Int)) (b := (y.secs.getD k []).set i v) ⟨hr, by omega, by omega⟩ (by omega) (by rw [hp]; decide)
  rw [hp, List.nil_append, pad_128 hsl] at hx
  have hxr : Runs { y with pend := [⟨(k : Int), (y.secs.getD k []).set i v⟩] } := by
    have h9 := write_runs hr (at_ := (k : Int)) (b := (y.secs.getD k []).set i v) (by omega) (by omega) (by omega) (by rw [hp]; decide)
    rw [hp, List.nil_append, pad_128 hsl] at h9
    exact h9
  have hnl : ¬ (0 ≤ ({ y with pend := [⟨(k : Int), (y.secs.getD k []).set i v⟩] } : Dk).left ∧ ({ y with pend := [⟨(k : Int), (y.secs.getD k []).set i v⟩] } : Dk).left < ({ y with pend := [⟨(k : Int), (y.secs.getD k []).set i v⟩] } : Dk).pend.length) := by
    dsimp only
    rw [hlf]
    exact fun h => by have := h.1; revert this; decide
  have hz := gSync_ok hxr hnl
  have hzr := sync_runs hxr hnl
  have hset : perfL y.secs [⟨(k : Int), (y.secs.getD k []).set i v⟩] = y.secs.set k ((y.secs.getD k []).set i v) := by simp [perfL, putW]
  refine ⟨rs1.length, _, _, by rw [e]; simp, fun j hj => ?_, ?_, hx, hz, ?_, hl, rfl, ?_, rfl⟩
  · have h9 : R.take (j + 1) = rs1.take (j + 1) := by rw [e, List.take_append_of_le_length (by omega)]
    rw [h9]
    exact Nat.le_trans (usedN_take_le _ _) h1
  · have h9 : R.take (rs1.length + 1) = rs1 ++ [b] := by rw [e, List.take_append, List.take_of_length_le (by omega)]; simp
    rw [h9, usedN_snoc]
    exact h2
  · have ht : R.take rs1.length = rs1 := by rw [e]; simp
    refine (gOpen_ok (d := syncD _) hzr.1 hzr.2 (by show ¬ 0 < ([] : List Wr).length; simp)).trans ?_
    show ((⟨gRecs (perfL y.secs _), (perfL y.secs _).length, (gRecs (perfL y.secs _)).length⟩ : Jn), (0 : Int)) = _
    rw [hset, h3, ht, List.length_set, hl]
    rfl
  · show (perfL y.secs _).length = 40
    rw [perfL_len, hl]
end Go.Proofs.Ytckeopidedoohaa
