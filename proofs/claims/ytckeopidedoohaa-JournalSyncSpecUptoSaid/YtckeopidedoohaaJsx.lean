/-
  Sector of the journal's reference. Conditions: a piece of at most 112 bytes.
-/
import Derived.Test.YtckeopidedoohaaJnu
import Derived.Test.YtckeopidedoohaaApz
import Derived.Test.YtckeopidedoohaaDop
import Derived.Deep.CutBlock
import Derived.Deep.DeepCutAuto
namespace Go.Proofs.Ytckeopidedoohaa
open Go.RowKit
variable {n₀ : Nat}
attribute [local go_sem] Oper.semAt_some

/-- The kind of a sector. -/
def kindB (bg fn : Bool) : UInt8 := (if bg = true then 1 else 0) + (if fn = true then 2 else 0)
theorem own_blk {w : World} {base g n : Nat} {bs : Bs} (h : Blk w g 5 (bcells bs).toArray) (hb : base ≤ g) (hl : bs.length = n) (hm : n ≤ maxLen) : w.ownsRow base 5 1 (.slice (some ⟨g, 0, none⟩) n n) n (bcells bs) := by
  have e : (bcells bs).length = n * 1 := by rw [bcells_len, hl, Nat.mul_one]
  exact ⟨e, .inr ⟨g, n, (bcells bs).toArray, rfl, hb, h, Nat.le_refl _, hm, by simpa using e, by rw [← e]; simp⟩⟩
theorem src_new (W : World) (bs : Bs) : ∀ j u, (bcells bs)[j]? = some u → (W.alloc (.cells (bcells bs).toArray 5)).cell? ((⟨W.heap.size, 0, none⟩ : Addr).add j) = some u := fun j u hu => by
  rw [addr_at, Nat.zero_add, (Blk.new W 5 _).cell]
  simpa using hu
theorem src_blk {W W' : World} {B : Nat} {bs : Bs} (h : Blk W B 5 (bcells bs).toArray) (hb : Below W.heap.size W W') : ∀ j u, (bcells bs)[j]? = some u → W'.cell? ((⟨B, 0, none⟩ : Addr).add j) = some u := fun j u hu => by
  rw [addr_at, Nat.zero_add, (h.below hb h.lt).cell]
  simpa using hu
theorem zeros_bcells (k : Nat) : (Builtin.zeroCells (Value.int .u8 0).cells k).toList = bcells (List.replicate k 0) := by
  have e : bcells (List.replicate k 0) = List.replicate k (.int .u8 0) := by simp [bcells, u8v]
  rw [e, List.eq_replicate_iff]
  refine ⟨by rw [Array.length_toList, size_zeroCells]; simp [Value.cells], fun u hu => ?_⟩
  simp only [Builtin.zeroCells, Array.toList_map, List.mem_map] at hu
  obtain ⟨j, -, rfl⟩ := hu
  simp [Value.cells, Nat.mod_one]
theorem own_aside {w w' : World} {base : Nat} {e : TypeId} {size n : Nat} {v : Value} {xs : List Value} {row : Option Nat} (h : w.ownsRow base e size v n xs) (hg : w.grownBy w' row) (hne : ∀ k, v.ownBlock = some k → row ≠ some k) : w'.ownsRow base e size v n xs := by
  refine ⟨h.1, ?_⟩
  rcases h.2 with h2 | ⟨g, cap, cur, rfl, h1, h2, h3⟩
  · exact .inl h2
  · exact .inr ⟨g, cap, cur, rfl, h1, (hg.block g (Array.getElem?_eq_some_iff.1 h2).1 (fun e => hne g rfl e.symm)).trans h2, h3⟩
theorem own_src {w : World} {base : Nat} {e : TypeId} {n c : Nat} {A : Option Addr} {xs : List Value} (h : w.ownsRow base e 1 (.slice A n c) n xs) : 0 < n → ∃ ad, A = some ad ∧ ∀ j u, xs[j]? = some u → w.cell? (ad.add j) = some u := fun h0 => by
  rcases id h.2 with ⟨-, rfl⟩ | ⟨g, cap, cur, e1, -⟩
  · omega
  · cases e1
    exact ⟨_, rfl, h.cells (g := g) rfl⟩
theorem bcells_app (a b : Bs) : bcells a ++ bcells b = bcells (a ++ b) := by simp [bcells]

set_option maxRecDepth 20000 in
set_option maxHeartbeats 4000000 in
theorem rsector_t (A : Option Addr) (c g num : Nat) (bg fn : Bool) (b : Bs) (w : World) (hg : g < 18446744073709551616) (hnum : num ≤ 100000) (hb : b.length ≤ 112) (h : BsAt n₀ w A b) :
    Calls Try.prog 93 #[.int .u64 (g : Nat), .int .i64 (num : Nat), .bool bg, .bool fn, .slice A b.length c] w fun e w' => ∃ A' c', e = .returned (.slice A' 128 c') ∧ 128 ≤ c' ∧ BsAt n₀ w' A' (enc g num (kindB bg fn) b) ∧ Below w.heap.size w w' := by
  have HB := Lib.hid h
  clear h
  obtain ⟨i0, hi0, hz0, hz1, hz2⟩ := info_parts info5
  obtain ⟨kd, hkd⟩ : ∃ k, k = kindB bg fn := ⟨_, rfl⟩
  rw [← hkd]
  have HKD := Lib.hid hkd
  clear hkd
  obtain ⟨z, hz⟩ : ∃ z : Nat, b.length + z = 112 := ⟨112 - b.length, by omega⟩
  obtain ⟨x, hx⟩ : ∃ x : UInt8, x = UInt8.ofNat b.length := ⟨_, rfl⟩
  have hxn : (x.toNat : Int) = (b.length : Int) := by rw [hx, UInt8.toNat_ofNat', Nat.mod_eq_of_lt (by omega)]
  have hmid : beL 2 num ++ ([kd, x] ++ (b ++ List.replicate z 0)) = mid num kd b := by rw [hx, show z = 112 - b.length by omega]; rfl
  have HMID := Lib.hid hmid
  obtain ⟨M, hM⟩ : ∃ m, m = mid num kd b := ⟨_, rfl⟩
  have hMl : M.length = 116 := by rw [hM]; exact mid_len num kd hb
  have HM := Lib.hid hM
  have hsm : gSum M < 4294967296 := gSum_lt M
  obtain ⟨sm, hsme⟩ : ∃ s, s = gSum M := ⟨_, rfl⟩
  rw [← hsme] at hsm
  have HSM := Lib.hid hsme
  have HN2 := Lib.hid (show ∀ W, Calls Try.prog 110 #[.int .u64 (num : Nat), .int .i64 2] W (fun e w' => e = .returned (.slice (some ⟨W.heap.size, 0, none⟩) 2 2) ∧ Blk w' W.heap.size 5 (bcells (beL 2 num)).toArray ∧ Below W.heap.size W w') from fun W => rnumeral_t num 2 W (by decide) (by decide) (by omega))
  have HNG := Lib.hid (show ∀ W, Calls Try.prog 110 #[.int .u64 (g : Nat), .int .i64 4] W (fun e w' => e = .returned (.slice (some ⟨W.heap.size, 0, none⟩) 4 4) ∧ Blk w' W.heap.size 5 (bcells (beL 4 g)).toArray ∧ Below W.heap.size W w') from fun W => rnumeral_t g 4 W (by decide) (by decide) hg)
  have HNS := Lib.hid (show ∀ W, Calls Try.prog 110 #[.int .u64 (sm : Nat), .int .i64 4] W (fun e w' => e = .returned (.slice (some ⟨W.heap.size, 0, none⟩) 4 4) ∧ Blk w' W.heap.size 5 (bcells (beL 4 sm)).toArray ∧ Below W.heap.size W w') from fun W => rnumeral_t sm 4 W (by decide) (by decide) (by omega))
  have HSUM := Lib.hid (show ∀ W V cc, BsAt n₀ W V M → Calls Try.prog 111 #[.slice V 116 cc] W (fun e w' => e = .returned (.int .u32 (sm : Nat)) ∧ w' = W) from fun W V cc hV => by
    have k := rsum_t (n₀ := n₀) V cc M W (by rw [hMl]; decide) hV
    rw [hMl, ← HSM.out] at k
    exact k)
  have iu : IntKind.u64.wrap (num : Int) = num := by simp [IntKind.wrap, IntKind.bits, IntKind.signed]; omega
  have is : IntKind.u64.wrap (sm : Int) = sm := by simp [IntKind.wrap, IntKind.bits, IntKind.signed]; omega
  have i8 : IntKind.u8.wrap (b.length : Int) = (x.toNat : Int) := by rw [hxn]; simp [IntKind.wrap, IntKind.bits, IntKind.signed]; omega
  have i9 : IntKind.i64.wrap (112 - (b.length : Int)) = (z : Int) := by rw [IntWalk.i64_in _ (by omega)]; omega
  have HX := Lib.hid (And.intro hx hxn)
  have HZ := Lib.hid hz
  have HML := Lib.hid hMl
  have hzle : z ≤ 112 := by omega
  clear hx hxn hmid hM hsme hMl hz
  go_enter Try.func93, Try.ntmps93
  go_upto_if 14 with (fail)
  go_cut [11] (fun s wx => s = .int .u8 (if bg = true then 1 else 0) ∧ wx = w)
  case first =>
    cases bg
    all_goals
      go_wp2_with (fail)
      go_meet
      exact ⟨rfl, rfl⟩
  case rest =>
    obtain ⟨rfl, hwc⟩ := hcut
    have hwc := hwc.symm
    subst hwc
    go_upto_if 17 with (fail)
    go_cut [11] (fun s wx => s = .int .u8 (kd.toNat : Int) ∧ wx = w)
    case first =>
      have hkd := HKD.out
      cases bg
      all_goals
        cases fn
        all_goals
          subst hkd
          go_wp2_with (fail)
          go_meet
          exact ⟨rfl, rfl⟩
    case rest =>
      obtain ⟨rfl, hwc⟩ := hcut
      have hwc := hwc.symm
      subst hwc
      clear HKD
      go_wp2_with (fail)
      go_at_call 110
      refine (HN2.out _).mono ?_
      rintro e w1 ⟨rfl, x1, hb1⟩
      have s1 := hb1.size
      have o1 := own_blk (base := w.heap.size) x1 (Nat.le_refl _) (beL_len 2 num) (by decide)
      have o2 := row_keep o1 ((Below.refl w1.heap.size w1).alloc (Nat.le_refl _) (.cells (bcells [kd, x]).toArray 5))
      go_wp2_with (first | (at_builtin; refine wpList_append_any (by rfl) (.tmp 22) (.tmp 27) 35 rfl w.heap.size 5 i0 (.int .u8 0) 1 1 Try.underlying35 hi0 hz0 hz1 hz2 rfl (by decide) _ 2 (bcells (beL 2 num)) rfl o2 (some ⟨w1.heap.size, 0, none⟩) 2 2 (bcells [kd, x]) rfl rfl (fun _ => ⟨_, rfl, src_new w1 [kd, x]⟩) (bcells_one _) (by simp [maxLen] <;> omega) (by omega) (Nat.le_trans s1 (by simp)) ?_; intro v2 w2 ownw2 groww2; have bw2 : Below w.heap.size w w2 := Below.grown (hb1.alloc s1 _) groww2 (Nat.le_trans s1 (by simp)) (own_base o2); rw [bcells_app] at ownw2; have own2 : w2.ownsRow w.heap.size 5 1 v2 4 (bcells (beL 2 num ++ [kd, x])) := ownw2; clear ownw2) | (at_builtin; refine wpList_append_any (by rfl) (.tmp 29) (.tmp 30) 35 rfl w.heap.size 5 i0 (.int .u8 0) 1 1 Try.underlying35 hi0 hz0 hz1 hz2 rfl (by decide) _ 4 (bcells (beL 2 num ++ [kd, x])) rfl own2 A b.length c (bcells b) rfl (by rw [bcells_len, Nat.mul_one]) (bs_src HB.out bw2) (bcells_one _) (by simp [maxLen] <;> omega) (by omega) bw2.size ?_; intro v3 w3 ownw3 groww3; have bw3 : Below w.heap.size w w3 := Below.grown bw2 groww3 bw2.size (own_base own2); rw [bcells_app] at ownw3) | (at_builtin; refine wpList_append_zeros (by rfl) (.tmp 32) (.tmp 35) 35 3 rfl w.heap.size 5 i0 (.int .u8 0) .i64 .i64 Try.underlying35 Try.underlying3 hi0 hz0 hz1 hz2 rfl (by decide) _ (4 + b.length) (bcells (beL 2 num ++ [kd, x] ++ b)) rfl (by omega) ownw3 z rfl (by omega) (by omega) bw3.size ?_; intro v4 w4 ownw4 growv4; have bw4 : Below w.heap.size w w4 := bw3.grown growv4 bw3.size (own_base ownw3); rw [zeros_bcells, bcells_app, List.append_assoc, List.append_assoc, HMID.out, ← HM.out, show 4 + b.length + z = 116 by have := HZ.out; omega] at ownw4; obtain ⟨V4, c4, rfl, hc4⟩ := own_slice ownw4))
      go_at_call 110
      refine (HNG.out _).mono ?_
      rintro e w5 ⟨rfl, x5, hb5⟩
      have bw5 := bw4.trans (hb5.mono bw4.size)
      have own5 := row_keep ownw4 hb5
      go_wp2_with (fail)
      go_at_call 111
      refine (HSUM.out _ _ _ (own_BsAt own5 HML.out.symm)).mono ?_
      rintro e w6 ⟨rfl, hw6⟩
      have hw6 := hw6.symm
      subst hw6
      go_wp2_with (fail)
      go_at_call 110
      refine (HNS.out _).mono ?_
      rintro e w7 ⟨rfl, x7, hb7⟩
      have bw7 := bw5.trans (hb7.mono bw5.size)
      have own7 := row_keep own5 hb7
      have o7 := row_keep (own_blk (base := w.heap.size) x5 bw4.size (beL_len 4 g) (by decide)) hb7
      have hne : ∀ k, (Value.slice V4 116 c4).ownBlock = some k → (Value.slice (some ⟨w4.heap.size, 0, none⟩) 4 4).ownBlock ≠ some k := fun k hk e => by
        have h1 := (ownw4.lt k hk).2
        have h2 : some w4.heap.size = some k := e
        injection h2 with h2
        omega
      have HNE := Lib.hid hne
      clear hne
      go_wp2_with (first | (at_builtin; refine wpList_append_any (by rfl) (.tmp 38) (.tmp 42) 35 rfl w.heap.size 5 i0 (.int .u8 0) 1 1 Try.underlying35 hi0 hz0 hz1 hz2 rfl (by decide) _ 4 (bcells (beL 4 g)) rfl o7 (some ⟨w5.heap.size, 0, none⟩) 4 4 (bcells (beL 4 sm)) rfl (by rw [bcells_len, beL_len]) (fun _ => ⟨_, rfl, src_blk x7 (Below.refl _ _)⟩) (bcells_one _) (by simp [maxLen] <;> omega) (by omega) bw7.size ?_; intro v9 w9 ownw9 groww9; have bw9 : Below w.heap.size w w9 := Below.grown bw7 groww9 bw7.size (own_base o7); rw [bcells_app] at ownw9; have own9 : w9.ownsRow w.heap.size 5 1 v9 8 (bcells (beL 4 g ++ beL 4 sm)) := ownw9; clear ownw9; have ownM9 := own_aside own7 groww9 HNE.out) | (at_builtin; refine wpList_append_any (by rfl) (.tmp 44) (.tmp 45) 35 rfl w.heap.size 5 i0 (.int .u8 0) 1 1 Try.underlying35 hi0 hz0 hz1 hz2 rfl (by decide) _ 8 (bcells (beL 4 g ++ beL 4 sm)) rfl own9 V4 116 c4 (bcells M) rfl (by rw [bcells_len, HML.out]) (fun _ => own_src ownM9 (by decide)) (bcells_one _) (by simp [maxLen] <;> omega) (by omega) bw9.size ?_; intro v10 w10 ownw10 groww10; have bw10 : Below w.heap.size w w10 := Below.grown bw9 groww10 bw9.size (own_base own9); rw [bcells_app] at ownw10; have own10 : w10.ownsRow w.heap.size 5 1 v10 124 (bcells (beL 4 g ++ beL 4 sm ++ M)) := ownw10; clear ownw10))
      go_at_call 110
      refine (HNG.out _).mono ?_
      rintro e w11 ⟨rfl, x11, hb11⟩
      have bw11 := bw10.trans (hb11.mono bw10.size)
      have own11 := row_keep own10 hb11
      go_wp2_with ((at_builtin; refine wpList_append_any (by rfl) (.tmp 46) (.tmp 48) 35 rfl w.heap.size 5 i0 (.int .u8 0) 1 1 Try.underlying35 hi0 hz0 hz1 hz2 rfl (by decide) _ 124 (bcells (beL 4 g ++ beL 4 sm ++ M)) rfl own11 (some ⟨w10.heap.size, 0, none⟩) 4 4 (bcells (beL 4 g)) rfl (by rw [bcells_len, beL_len]) (fun _ => ⟨_, rfl, src_blk x11 (Below.refl _ _)⟩) (bcells_one _) (by simp [maxLen] <;> omega) (by omega) bw11.size ?_; intro v12 w12 ownw12 groww12; have bw12 : Below w.heap.size w w12 := Below.grown bw11 groww12 bw11.size (own_base own11); rw [bcells_app] at ownw12; have own12 : w12.ownsRow w.heap.size 5 1 v12 128 (bcells (beL 4 g ++ beL 4 sm ++ M ++ beL 4 g)) := ownw12; clear ownw12; obtain ⟨V12, c12, rfl, hc12⟩ := own_slice own12))
      go_ret
      rw [HSM.out, HM.out, ← enc_assoc] at own12
      exact ⟨V12, c12, rfl, hc12, own_BsAt own12 (enc_len _ _ _ hb).symm, bw12⟩
end Go.Proofs.Ytckeopidedoohaa
