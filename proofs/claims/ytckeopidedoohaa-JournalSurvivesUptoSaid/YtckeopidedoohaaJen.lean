/-
  A sector of a record. Conditions: bytes lie as plain data.
-/
import Derived.Test.YtckeopidedoohaaJap
import Derived.Deep.CutBlock
import Derived.Deep.RegionHeld3
namespace Go.Proofs.Ytckeopidedoohaa
open Go.RowKit
variable {n₀ : Nat}
attribute [local go_sem] Oper.semAt_some

theorem zc132 : Try.zeroCells132 = (bcells zs).toArray := by rfl
theorem blk_part {w : World} {B t : Nat} {bs : Bs} (h : Blk w B t (bcells bs).toArray) (ht : rowT t = true) (o n : Nat) (hn : o + n ≤ bs.length) : BsAt n₀ w (some ⟨B, o, none⟩) ((bs.drop o).take n) := fun h0 => by
  refine ⟨B, o, rfl, .of_blk h ht, fun i hi => ?_⟩
  rw [List.length_take, List.length_drop] at hi
  rw [h.cell, List.getElem?_toArray, bcells_get bs (o + i) (by omega)]
  congr 2
  simp only [List.getD_eq_getElem?_getD, List.getElem?_take, List.getElem?_drop]
  rw [if_pos (by omega)]
/-- The bytes of a sector as they are written one by one. -/
def enc0 (g num : Nat) (kind : UInt8) (b : Bs) : Bs := putB (splice ((((putB (putB zs 0 4 g 4) 8 2 num 2).set 10 kind).set 11 (UInt8.ofNat b.length))) 12 b) 124 4 g 4
def enc1 (g num : Nat) (kind : UInt8) (b : Bs) : Bs := putB (enc0 g num kind b) 4 4 (gSum (((enc0 g num kind b).drop 8).take 116)) 4
theorem splice_lenB (l : Bs) (o : Nat) (b : Bs) (h : o + b.length ≤ l.length) : (splice l o b).length = l.length := by simp [splice]; omega
theorem bcells_splice (l : Bs) (o : Nat) (b : Bs) : splice (bcells l) o (bcells b) = bcells (splice l o b) := by simp [splice, bcells]
theorem enc0_len (g num : Nat) (kind : UInt8) {b : Bs} (hb : b.length ≤ 112) : (enc0 g num kind b).length = 128 := by
  unfold enc0
  rw [putB_len, splice_lenB _ _ _ (by simp [putB_len, zs_len]; omega)]
  simp [putB_len, zs_len]

set_option maxRecDepth 20000 in
set_option maxHeartbeats 4000000 in
theorem encode_t (A : Option Addr) (c g num : Nat) (kind : UInt8) (b : Bs) (w : World) (hg : g < 18446744073709551616) (hnum : num ≤ 100000) (hb : b.length ≤ 112) (h : BsAt n₀ w A b) :
    Calls Try.prog 91 #[.int .u64 (g : Nat), .int .i64 (num : Nat), .int .u8 kind.toNat, .slice A b.length c] w fun e w' => ∃ B, e = .returned (.slice (some ⟨B, 0, none⟩) 128 128) ∧ Blk w' B 132 (bcells (enc1 g num kind b)).toArray ∧ w.heap.size ≤ B ∧ Below w.heap.size w w' := by
  obtain ⟨bn, hbn⟩ : ∃ n, n = b.length := ⟨_, rfl⟩
  rw [← hbn]
  rw [← hbn] at hb
  have HBN := Lib.hid hbn
  clear hbn
  have hkl : (kind.toNat : Int) ≤ 255 := by have := kind.toNat_lt; omega
  go_enter Try.func91, Try.ntmps91
  go_upto_region 2 with (fail)
  obtain ⟨B, hB⟩ : ∃ B, B = w.heap.size := ⟨_, rfl⟩
  obtain ⟨W1, hW1⟩ : ∃ W, W = w.alloc (.cells Try.zeroCells132 132) := ⟨_, rfl⟩
  rw [← hW1, ← hB]
  have hw : Below w.heap.size w W1 := by rw [hW1]; exact (Below.refl _ _).alloc (Nat.le_refl _) _
  have x : Blk W1 B 132 (bcells zs).toArray := by rw [hW1, hB, ← zc132]; exact Blk.new w 132 _
  have HBE := Lib.hid hB
  clear hW1 hB
  have K := put_t B 0 4 128 g (zs) 132 W1 (by decide) (by rw [zs_len]; decide) (by omega) x
  go_wp2_with (fail)
  go_at_call 108
  refine K.mono ?_
  rintro e W2 ⟨rfl, x2, hk⟩
  clear K
  replace hw := hw.trans (hk.below hw.size (fun r hr h => by have := HBE.out; omega))
  clear x hk
  have x := x2
  clear x2
  have K := put_t B 8 2 120 num (putB zs 0 4 g 4) 132 W2 (by decide) (by rw [putB_len, zs_len]; decide) (by omega) x
  go_wp2_with (fail)
  go_at_call 108
  refine K.mono ?_
  rintro e W3 ⟨rfl, x2, hk⟩
  clear K
  replace hw := hw.trans (hk.below hw.size (fun r hr h => by have := HBE.out; omega))
  clear x hk
  have x := x2
  clear x2
  obtain ⟨l3, hl3⟩ : ∃ l, l = putB (putB zs 0 4 g 4) 8 2 num 2 := ⟨_, rfl⟩
  rw [← hl3] at x
  have hl3n : l3.length = 128 := by rw [hl3, putB_len, putB_len, zs_len]
  have HL3 := Lib.hid hl3
  clear hl3
  obtain ⟨v10, hv10⟩ : ∃ v, W3.cell? ⟨B, 10, none⟩ = some v := by
    rw [x.cell, List.getElem?_toArray]
    exact ⟨_, List.getElem?_eq_getElem (by rw [bcells_len]; omega)⟩
  obtain ⟨v11, hv11⟩ : ∃ v, W3.cell? ⟨B, 11, none⟩ = some v := by
    rw [x.cell, List.getElem?_toArray]
    exact ⟨_, List.getElem?_eq_getElem (by rw [bcells_len]; omega)⟩
  have f10 := x.frozen 10
  have f11 := x.frozen 11
  have hbi : (bn : Int) ≤ 112 := by omega
  go_upto_region 5 with (fail)
  obtain ⟨W4, hW4⟩ : ∃ W, W = (W3.setCell ⟨B, 10, none⟩ (.int .u8 kind.toNat)).setCell ⟨B, 11, none⟩ (.int .u8 (bn : Nat)) := ⟨_, rfl⟩
  rw [← hW4]
  obtain ⟨l4, hl4⟩ : ∃ l, l = (l3.set 10 kind).set 11 (UInt8.ofNat bn) := ⟨_, rfl⟩
  have x4 : Blk W4 B 132 (bcells l4).toArray := by
    have h1 := (x.set 10 (.int .u8 kind.toNat)).set 11 (.int .u8 (bn : Nat))
    have e1 : (Value.int .u8 (bn : Nat)) = u8v (UInt8.ofNat bn) := by
      unfold u8v
      congr 1
      simp
      omega
    rw [hW4, hl4, ← bcells_set, ← bcells_set, ← e1]
    exact h1
  replace hw : Below w.heap.size w W4 := by rw [hW4]; exact (hw.setCell (by rw [HBE.out]; exact Nat.le_refl _) _).setCell (by rw [HBE.out]; exact Nat.le_refl _) _
  have hl4n : l4.length = 128 := by rw [hl4]; simp [hl3n]
  have HL4 := Lib.hid hl4
  have H0 := Lib.hid h
  have HW4 := Lib.hid hw
  have hgz : W4.heap[B]? = some (.cells (bcells l4).toArray 132 (0, 0)) := x4
  have HGZ := Lib.hid hgz
  clear hgz
  clear hW4 hl4 x hv10 hv11 f10 f11 hw x4 h
  go_wp2_with (with_reducible refine wpList_copy_splice rfl (.tmp 23) (.tmp 24) 35 35 rfl 5 Try.underlying35 (by kernel_rfl) (some ⟨B, 12, none⟩) A 116 116 bn c rfl rfl B 12 (bcells l4) 132 HGZ.out (bcells b) (by rw [bcells_len, ← HBN.out]; simp [Nat.min_def]; omega) (fun hp => ⟨rfl, bs_src H0.out HW4.out (by rw [bcells_len] at hp; exact hp)⟩) (by rw [bcells_len, bcells_len, ← HBN.out]; omega) (bcells_one b) w.heap.size w HW4.out (by rw [HBE.out]; exact Nat.le_refl _) ?_; intro w5 hx5 hw5)
  have x : Blk w5 B 132 (bcells (splice l4 12 b)).toArray := by rw [← bcells_splice]; exact hx5.out
  have hw := hw5
  clear hx5 hw5
  obtain ⟨l5, hl5⟩ : ∃ l, l = splice l4 12 b := ⟨_, rfl⟩
  rw [← hl5] at x
  have hl5n : l5.length = 128 := by rw [hl5, splice_lenB _ _ _ (by rw [← HBN.out]; omega), hl4n]
  have HL5 := Lib.hid hl5
  clear hl5
  have K := put_t B 124 4 4 g (l5) 132 w5 (by decide) (by rw [hl5n]; decide) (by omega) x
  go_wp2_with (fail)
  go_at_call 108
  refine K.mono ?_
  rintro e W6 ⟨rfl, x2, hk⟩
  clear K
  replace hw := hw.trans (hk.below hw.size (fun r hr h => by have := HBE.out; omega))
  clear x hk
  have x := x2
  clear x2
  obtain ⟨l6, hl6⟩ : ∃ l, l = putB l5 124 4 g 4 := ⟨_, rfl⟩
  rw [← hl6] at x
  have hl6n : l6.length = 128 := by rw [hl6, putB_len, hl5n]
  have HL6 := Lib.hid hl6
  clear hl6
  obtain ⟨gs, hgs⟩ : ∃ n, n = gSum ((l6.drop 8).take 116) := ⟨_, rfl⟩
  have hgl : gs < 4294967296 := by rw [hgs]; exact gSum_lt _
  have hsum : ∀ W', Blk W' B 132 (bcells l6).toArray → Calls Try.prog 109 #[.slice (some ⟨B, 8, none⟩) 116 120] W' (fun e w' => e = .returned (.int .u32 (gs : Nat)) ∧ w' = W') := fun W' hx => by
    have hl : ((l6.drop 8).take 116).length = 116 := by simp [hl6n]
    have h := sum_t (n₀ := 0) (some ⟨B, 8, none⟩) 120 _ W' (by rw [hl]; decide) (blk_part hx rfl 8 116 (by omega))
    rw [hl, ← hgs] at h
    exact h
  have HSUM := Lib.hid hsum
  have HGS := Lib.hid hgs
  have hgi : (gs : Int) ≤ 4294967295 := by omega
  clear hsum hgs
  have hput : ∀ W', Blk W' B 132 (bcells l6).toArray → Calls Try.prog 108 #[.slice (some ⟨B, 4, none⟩) 4 124, .int .u64 (gs : Nat)] W' (fun e w' => e = .returned (.tuple #[]) ∧ Blk w' B 132 (bcells (putB l6 4 4 gs 4)).toArray ∧ Keep (fun r => r = B) W' w') := fun W' hx => put_t B 4 4 124 gs l6 132 W' (by decide) (by rw [hl6n]; decide) (by omega) hx
  have HPUT := Lib.hid hput
  have hx6d : Blk W6.drew B 132 (bcells l6).toArray := x.below (Below.drew (Below.refl _ _)) x.lt
  have HK6 := HSUM.out W6.drew hx6d
  have HK7 := HPUT.out W6.drew hx6d
  have ew : IntKind.u64.wrap (gs : Int) = (gs : Int) := by rw [IntKind.wrap_u64]; omega
  rw [← ew] at HK7
  clear ew
  have HKA := Lib.hid HK6
  have HKB := Lib.hid HK7
  clear HK6 HK7 HSUM HPUT
  have HX6 := Lib.hid x
  have hx6l := x.lt
  have HW6 := Lib.hid hw
  clear hput x hw
  go_upto_region 7 with (fail)
  go_region_held3 (fun W => B < W.heap.size) (first | exact hx6l | exact x8.lt)
    (first | (go_at_call 109; refine HKA.out.mono ?_; rintro e w7 ⟨rfl, hw7⟩; subst hw7) | (go_at_call 108; refine HKB.out.mono ?_; rintro e w8 ⟨rfl, x8, hk8⟩))
  all_goals
    go_wp2
    go_ret
    refine ⟨B, rfl, ?_, by rw [HBE.out]; exact Nat.le_refl _, ?_⟩
    · unfold enc1 enc0
      have e6 : l6 = putB (splice ((((putB (putB zs 0 4 g 4) 8 2 num 2).set 10 kind).set 11 (UInt8.ofNat b.length))) 12 b) 124 4 g 4 := by rw [HL6.out, HL5.out, HL4.out, HL3.out, HBN.out]
      rw [← e6, ← HGS.out]
      exact x8
    · have hwd : Below w.heap.size w W6.drew := HW6.out.drew
      exact hwd.trans (hk8.below hwd.size (fun r hr h => by have := HBE.out; omega))
end Go.Proofs.Ytckeopidedoohaa
