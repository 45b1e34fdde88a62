/-
  The samples of a record's bytes, as plain mathematics. Conditions: none. | Whether bytes are the record of a block; the iterator over its samples as a value. Conditions: none. | The iterator over the samples of a record. Conditions: the record of a block, its bytes in memory. | Numbers in memory: where rows of ints lie; marks of ranges over functions that a frame leaves with. Conditions: none. | Samples and their bytes, blocks and their records, as plain mathematics. Conditions: none. | The samples of records, as the recorder reads them. Conditions: the records lie as plain data.
-/
import Derived.Test.YtckeopidedoohaaDk
import Derived.Deep.QuietTactic
import Derived.Deep.CutBlock
import Derived.Deep.DeepCutAuto
import Derived.Deep.RegionLaw
import Derived.Laws.CopyOwn
import Derived.Laws.BitsAllLaws
import Derived.Test.YtckeopidedoohaaDop
import Derived.Test.YtckeopidedoohaaDsy
import Derived.Test.YtckeopidedoohaaApp
import Derived.Test.YtckeopidedoohaaJgo
import Derived.Test.YtckeopidedoohaaJpl
import Derived.Test.YtckeopidedoohaaJop
namespace Go.Proofs.Ytckeopidedoohaa

/-- The sample that four bytes mean. -/
def smp (a b c d : UInt8) : Int := if a.toNat < 128 then ((a.toNat * 16777216 + b.toNat * 65536 + c.toNat * 256 + d.toNat : Nat) : Int) else ((a.toNat * 16777216 + b.toNat * 65536 + c.toNat * 256 + d.toNat : Nat) : Int) - 4294967296
/-- The samples of a record. -/
def smpL : Bs → List Int
  | a :: b :: c :: d :: r => smp a b c d :: smpL r
  | _ => []
theorem smpL_app (x y : Bs) (h : x.length % 4 = 0) : smpL (x ++ y) = smpL x ++ smpL y := by
  match x with
  | [] => rfl
  | [_] => simp at h
  | [_, _] => simp at h
  | [_, _, _] => simp at h
  | a :: b :: c :: d :: r =>
    have := smpL_app r y (by simp only [List.length_cons] at h; omega)
    simp [smpL, this]
theorem smpL_len (x : Bs) : (smpL x).length = x.length / 4 := by
  match x with
  | [] => rfl
  | [_] => simp [smpL]
  | [_, _] => simp [smpL]
  | [_, _, _] => simp [smpL]
  | a :: b :: c :: d :: r =>
    have := smpL_len r
    simp only [smpL, List.length_cons, this]
    omega
theorem smpL_get (x : Bs) (k : Nat) (h : 4 * k + 3 < x.length) : (smpL x).getD k 0 = smp (x.getD (4 * k) 0) (x.getD (4 * k + 1) 0) (x.getD (4 * k + 2) 0) (x.getD (4 * k + 3) 0) := by
  match x, k with
  | [], _ => simp at h
  | [_], _ => exact absurd h (by simp only [List.length_cons, List.length_nil]; omega)
  | [_, _], _ => exact absurd h (by simp only [List.length_cons, List.length_nil]; omega)
  | [_, _, _], _ => exact absurd h (by simp only [List.length_cons, List.length_nil]; omega)
  | a :: b :: c :: d :: r, 0 => rfl
  | a :: b :: c :: d :: r, k + 1 =>
    have := smpL_get r k (by simp only [List.length_cons] at h; omega)
    simp only [smpL, List.getD_cons_succ, this]
    rw [show 4 * (k + 1) = 4 * k + 4 by omega]
    rfl
end Go.Proofs.Ytckeopidedoohaa

namespace Go.Proofs.Ytckeopidedoohaa
open Go.RowKit
variable {n₀ : Nat}
attribute [local go_sem] Oper.semAt_some

set_option maxRecDepth 20000 in
set_option maxHeartbeats 2000000 in
theorem right_t (A : Option Addr) (n c : Nat) (w : World) (hl : n ≤ 140737488355328) : Calls Try.prog 112 #[.slice A n c] w fun e w' => e = .returned (.bool (decide (0 < n ∧ n % 4 = 0 ∧ n ≤ 64))) ∧ w' = w := by
  have e0 : (n : Int).tmod 4 = ((n % 4 : Nat) : Int) := rfl
  by_cases h1 : 0 < n
  case neg =>
    have d1 : decide (0 < (n : Int)) = false := decide_eq_false (by omega)
    have d1n : decide (0 < n) = false := decide_eq_false h1
    have dd : decide (0 < n ∧ n % 4 = 0 ∧ n ≤ 64) = false := decide_eq_false (fun h => h1 h.1)
    rw [dd]
    clear dd h1
    go_enter Try.func112, Try.ntmps112
    go_wp2
    go_ret
    exact ⟨rfl, rfl⟩
  have d1 : decide (0 < (n : Int)) = true := decide_eq_true (by omega)
  have d1n : decide (0 < n) = true := decide_eq_true h1
  by_cases h2 : n % 4 = 0
  case neg =>
    have dd : decide (0 < n ∧ n % 4 = 0 ∧ n ≤ 64) = false := decide_eq_false (fun h => h2 h.2.1)
    rw [dd]
    have d2 : ((n : Int).tmod 4 == 0) = false := beq_eq_false_iff_ne.2 (by rw [e0]; omega)
    have d3 : ((n : Int) % 4 == 0) = false := beq_eq_false_iff_ne.2 (by omega)
    clear dd h1 h2
    go_enter Try.func112, Try.ntmps112
    go_wp2
    go_ret
    exact ⟨rfl, rfl⟩
  have d2 : ((n : Int).tmod 4 == 0) = true := beq_iff_eq.2 (by rw [e0]; omega)
  have d3 : ((n : Int) % 4 == 0) = true := beq_iff_eq.2 (by omega)
  obtain ⟨y, hy⟩ : ∃ y, y = decide (n ≤ 64) := ⟨_, rfl⟩
  have dd : decide (0 < n ∧ n % 4 = 0 ∧ n ≤ 64) = y := by
    rw [hy]
    exact decide_eq_decide.2 ⟨fun h => h.2.2, fun h => ⟨h1, h2, h⟩⟩
  rw [dd]
  have d4 : decide ((n : Int) ≤ 64) = y := by rw [hy]; exact decide_eq_decide.2 (by omega)
  have d5 : decide (n ≤ 64) = y := hy.symm
  clear dd h1 h2 hy
  go_enter Try.func112, Try.ntmps112
  go_wp2
  go_ret
  exact ⟨rfl, rfl⟩
theorem samples_t (A : Option Addr) (n c : Nat) (w : World) :
    Calls Try.prog 113 #[.slice A n c] w fun e w' => e = .returned (.func (.func 119) #[] #[.pointer (some ⟨w.heap.size, 0, none⟩)]) ∧ w' = w.alloc (.cells #[.slice A n c] 117) := by
  have hmf : ∀ (fn : Fn) (first cap : Array Value) (w : World), (Instr.makeFunc fn first cap).run Try.prog w = .ok (.func fn first cap) w := fun _ _ _ _ => rfl
  go_enter Try.func113, Try.ntmps113
  go_wp2
  go_ret
  exact ⟨rfl, rfl⟩
end Go.Proofs.Ytckeopidedoohaa

namespace Go.Proofs.Ytckeopidedoohaa
open Go.RowKit
variable {n₀ : Nat}
attribute [local go_sem] Oper.semAt_some

theorem or_add (x k c : Nat) (hc : c < 2 ^ k) : x * 2 ^ k ||| c = x * 2 ^ k + c := by
  have := Nat.shiftLeft_add_eq_or_of_lt (i := k) (b := c) hc x
  rw [Nat.shiftLeft_eq] at this
  exact this.symm
theorem or_s1 (a b : Nat) (ha : a < 256) (hb : b < 256) : bits .or .u32 ((a : Int) * 16777216) ((b : Int) * 65536) = ((a * 16777216 + b * 65536 : Nat) : Int) := by
  have h := u32_or_nat (a * 16777216) (b * 65536) (by omega) (by omega)
  rw [or_add a 24 (b * 65536) (by omega)] at h
  rw [show ((a * 16777216 : Nat) : Int) = (a : Int) * 16777216 by omega, show ((b * 65536 : Nat) : Int) = (b : Int) * 65536 by omega] at h
  exact h
theorem or_s2 (a b c : Nat) (ha : a < 256) (hb : b < 256) (hc : c < 256) : bits .or .u32 ((a * 16777216 + b * 65536 : Nat) : Int) ((c : Int) * 256) = ((a * 16777216 + b * 65536 + c * 256 : Nat) : Int) := by
  have h := u32_or_nat (a * 16777216 + b * 65536) (c * 256) (by omega) (by omega)
  rw [show a * 16777216 + b * 65536 = (a * 256 + b) * 2 ^ 16 by omega, or_add _ 16 (c * 256) (by omega)] at h
  rw [show ((c * 256 : Nat) : Int) = (c : Int) * 256 by omega] at h
  rw [show a * 16777216 + b * 65536 = (a * 256 + b) * 2 ^ 16 by omega]
  exact h
theorem or_s3 (a b c d : Nat) (ha : a < 256) (hb : b < 256) (hc : c < 256) (hd : d < 256) : bits .or .u32 ((a * 16777216 + b * 65536 + c * 256 : Nat) : Int) (d : Int) = ((a * 16777216 + b * 65536 + c * 256 + d : Nat) : Int) := by
  have h := u32_or_nat (a * 16777216 + b * 65536 + c * 256) d (by omega) (by omega)
  rw [show a * 16777216 + b * 65536 + c * 256 = (a * 65536 + b * 256 + c) * 2 ^ 8 by omega, or_add _ 8 d (by omega)] at h
  rw [show a * 16777216 + b * 65536 + c * 256 = (a * 65536 + b * 256 + c) * 2 ^ 8 by omega]
  exact h
theorem wrap_smp (a b c d : UInt8) : wrap32 ((a.toNat * 16777216 + b.toNat * 65536 + c.toNat * 256 + d.toNat : Nat) : Int) = smp a b c d ∧ wrap64 (smp a b c d) = smp a b c d := by
  have h1 := a.toNat_lt
  have h2 := b.toNat_lt
  have h3 := c.toNat_lt
  have h4 := d.toNat_lt
  unfold wrap32 wrap64 smp
  constructor <;> split <;> omega
theorem smp_lt (x : Bs) (k : Nat) : (smpL x).length = x.length / 4 := smpL_len x
theorem take_smp {l : List Int} {k : Nat} (h : k < l.length) : l.take (k + 1) = l.take k ++ [l.getD k 0] := by
  rw [List.take_succ_eq_append_getElem h]
  simp [List.getD, h]

set_option maxRecDepth 20000 in
set_option maxHeartbeats 4000000 in
theorem samples_iter (n0 Bl bb o : Nat) (c : Nat) (b : Bs) (w : World) (hc : b.length ≤ c) (h4 : b.length % 4 = 0) (hl : b.length ≤ 64) (hBl : w.cell? ⟨Bl, 0, none⟩ = some (.slice (some ⟨bb, o, none⟩) b.length c)) (lBl : Bl < w.heap.size) (lbb : bb < w.heap.size)
    (hbs : ∀ i, i < b.length → w.cell? ⟨bb, o + i, none⟩ = some (u8v (b.getD i 0))) :
    IterC n0 Try.prog 119 #[.pointer (some ⟨Bl, 0, none⟩)] (fun x : Int => #[.int .i64 x]) (fun xs => xs = smpL b) (fun pre => pre <+: smpL b) w (fun _ => False) (fun r => r = bb ∨ r = Bl) := by
  intro lp J Jx c0 W hW hJ hJx _ hros hY h0
  refine callsIn_of_wp Try.func119 rfl trivial (wpIn_wide.2 ?_) rfl
  have hsl := smpL_len b
  have HSL := Lib.hid hsl
  clear hsl
  simp only [Try.ntmps119, List.size_toArray, List.length_cons, List.length_nil, Nat.reduceAdd, Nat.reduceSub, Array.replicate_succ, Array.replicate_zero, List.push_toArray, List.append_toArray, List.nil_append, List.cons_append]
  go_wp2_with (fail)
  go_loopw [3] (fun i wr => ∃ (k : Nat) (cc : Col), 4 * k ≤ b.length ∧ i = .int .i64 (4 * k : Nat) ∧ Keep (fun r => r ≠ bb ∧ r ≠ Bl) w wr ∧ Hid (¬ cc.cl bb ∧ ¬ cc.cl Bl) ∧ J cc ((smpL b).take k) wr) (fun i _ => b.length - (intOf i).toNat)
  case atStart => exact ⟨0, c0, by omega, rfl, Keep.of_same hW _, ⟨hros bb (.inr (.inl rfl)), hros Bl (.inr (.inr rfl))⟩, h0⟩
  case round =>
    obtain ⟨k, cc, hk, rfl, hw, hcc, hj⟩ := hrel
    have g0 := (hw.cell (p := ⟨Bl, 0, none⟩) lBl (fun h => h.2 rfl)).trans hBl
    obtain ⟨q, hq⟩ : ∃ q, q = 4 * k := ⟨_, rfl⟩
    rw [← hq] at hk ⊢
    by_cases hlt : q < b.length
    case neg =>
      have hqe : q = b.length := by omega
      have hd : ((q : Nat) : Int) = (b.length : Int) := by omega
      have he : (smpL b).take k = smpL b := List.take_of_length_le (by rw [HSL.out]; omega)
      rw [he] at hj
      go_wp2_with (fail)
      refine bodyPost_end (results_none rfl _ _ _) rfl ?_
      exact ⟨⟨_, rfl⟩, .inl ⟨_, _, rfl, hj⟩⟩
    have hsz := hw.size
    have HQ := Lib.hid hq
    have hq3 : q + 3 < b.length := by omega
    obtain ⟨b0, hb0⟩ : ∃ x, x = b.getD q 0 := ⟨_, rfl⟩
    obtain ⟨b1, hb1⟩ : ∃ x, x = b.getD (q + 1) 0 := ⟨_, rfl⟩
    obtain ⟨b2, hb2⟩ : ∃ x, x = b.getD (q + 2) 0 := ⟨_, rfl⟩
    obtain ⟨b3, hb3⟩ : ∃ x, x = b.getD (q + 3) 0 := ⟨_, rfl⟩
    have HBV := Lib.hid (And.intro hb0 (And.intro hb1 (And.intro hb2 hb3)))
    have hcell : ∀ j, j < b.length → wr.cell? ⟨bb, o + j, none⟩ = some (u8v (b.getD j 0)) := fun j hj => (hw.cell (p := ⟨bb, _, none⟩) lbb (fun h => h.1 rfl)).trans (hbs j hj)
    have hsrc : ∀ j v, [u8v b0, u8v b1, u8v b2, u8v b3][j]? = some v → wr.cell? ⟨bb, o + (q + j), none⟩ = some v := fun j v hv => by
      have h0 := hcell (q + 0) (by omega)
      have h1 := hcell (q + 1) (by omega)
      have h2 := hcell (q + 2) (by omega)
      have h3 := hcell (q + 3) (by omega)
      rw [Nat.add_zero, ← hb0] at h0
      rw [← hb1] at h1
      rw [← hb2] at h2
      rw [← hb3] at h3
      rcases j with _ | _ | _ | _ | j
      · cases hv; exact h0
      · cases hv; exact h1
      · cases hv; exact h2
      · cases hv; exact h3
      · simp at hv
    have hs2 : ∀ W, Below wr.heap.size wr W → ∀ j v, [u8v b0, u8v b1, u8v b2, u8v b3][j]? = some v → W.cell? ((⟨bb, o + q, none⟩ : Addr).add j) = some v := fun W hb j v hv => by
      have h := hsrc j v hv
      rw [← Nat.add_assoc] at h
      have ea : (⟨bb, o + q, none⟩ : Addr).add j = ⟨bb, o + q + j, none⟩ := by simp [Addr.add]
      rw [ea]
      exact (hb.cell (p := ⟨bb, o + q + j, none⟩) (show bb < wr.heap.size by omega)).trans h
    have HSRC := Lib.hid hs2
    have lbr : bb < wr.heap.size := by omega
    have lBr : Bl < wr.heap.size := by omega
    clear hq hb0 hb1 hb2 hb3 hcell hsrc hs2
    go_upto_region 4 with (fail)
    obtain ⟨B4, hB4⟩ : ∃ B, B = wr.heap.size := ⟨_, rfl⟩
    obtain ⟨W1, hW1⟩ : ∃ W, W = wr.alloc (.cells #[.int .u8 0, .int .u8 0, .int .u8 0, .int .u8 0] 44) := ⟨_, rfl⟩
    rw [← hW1, ← hB4]
    have hbl1 : Below wr.heap.size wr W1 := by rw [hW1]; exact (Below.refl _ _).alloc (Nat.le_refl _) _
    have x4 : Blk W1 B4 44 #[.int .u8 0, .int .u8 0, .int .u8 0, .int .u8 0] := by rw [hW1, hB4]; exact Blk.new wr 44 _
    have g1 := (hbl1.cell (p := ⟨Bl, 0, none⟩) lBr).trans g0
    have hgz : W1.heap[B4]? = some (.cells [Value.int .u8 0, .int .u8 0, .int .u8 0, .int .u8 0].toArray 44 (0, 0)) := x4
    have HGZ := Lib.hid hgz
    have HB4 := Lib.hid hB4
    have HBL := Lib.hid hbl1
    have i4 : IntKind.i64.wrap ((q : Int) + 4) = (q : Int) + 4 := IntWalk.i64_in _ (by omega)
    have n1 : (0 : Int) ≤ (q : Int) := by omega
    have n2 : (q : Int) + 4 ≤ (c : Int) := by omega
    have n3 : (q : Int) ≤ (q : Int) + 4 := by omega
    have nq : ((q : Int) + 4).toNat = q + 4 := by omega
    clear hgz hW1 hB4 hbl1
    go_region_law (refine step_copy_splice rfl (.tmp 11) (.tmp 18) 35 117 rfl 5 Try.underlying35 (by kernel_rfl) (some ⟨B4, 0, none⟩) (some ⟨bb, o + q, none⟩) 4 4 4 4 rfl rfl B4 0 [.int .u8 0, .int .u8 0, .int .u8 0, .int .u8 0] 44 HGZ.out [u8v b0, u8v b1, u8v b2, u8v b3] rfl (fun _ => ⟨rfl, _, rfl, HSRC.out _ HBL.out.drew⟩) (by simp) (by simp [u8v, Value.oneCell']) B4 W1 (Below.drew (Below.refl _ _)) (Nat.le_refl _) ?_; intro w5 hx5 hw5)
    have x5 : Blk w5 B4 44 #[.int .u8 b0.toNat, .int .u8 b1.toNat, .int .u8 b2.toNat, .int .u8 b3.toNat] := hx5.out
    have c0' := x5.cell 0
    have c1' := x5.cell 1
    have c2' := x5.cell 2
    have c3' := x5.cell 3
    simp only [List.getElem?_toArray, List.getElem?_cons_zero, List.getElem?_cons_succ] at c0' c1' c2' c3'
    have hw5' : Below wr.heap.size wr w5 := by
      have h1 := HBL.out
      rw [HB4.out] at hw5
      exact h1.trans hw5
    have l0 := b0.toNat_lt
    have l1 := b1.toNat_lt
    have l2 := b2.toNat_lt
    have l3 := b3.toNat_lt
    have e1 := or_s1 b0.toNat b1.toNat l0 l1
    have e2 := or_s2 b0.toNat b1.toNat b2.toNat l0 l1 l2
    have e3 := or_s3 b0.toNat b1.toNat b2.toNat b3.toNat l0 l1 l2 l3
    obtain ⟨e4, e5⟩ := wrap_smp b0 b1 b2 b3
    obtain ⟨x1, hx1⟩ : ∃ x : Int, x = ((b0.toNat * 16777216 + b1.toNat * 65536 : Nat) : Int) := ⟨_, rfl⟩
    obtain ⟨x2, hx2⟩ : ∃ x : Int, x = ((b0.toNat * 16777216 + b1.toNat * 65536 + b2.toNat * 256 : Nat) : Int) := ⟨_, rfl⟩
    obtain ⟨x3, hx3⟩ : ∃ x : Int, x = ((b0.toNat * 16777216 + b1.toNat * 65536 + b2.toNat * 256 + b3.toNat : Nat) : Int) := ⟨_, rfl⟩
    obtain ⟨v, hv⟩ : ∃ v : Int, v = smp b0 b1 b2 b3 := ⟨_, rfl⟩
    rw [← hx1] at e1 e2
    rw [← hx2] at e2 e3
    rw [← hx3] at e3 e4
    rw [← hv] at e4 e5
    have hkl : k < (smpL b).length := by rw [HSL.out]; have := HQ.out; omega
    have hvk : v = (smpL b).getD k 0 := by
      rw [smpL_get b k (by have := HQ.out; omega), ← HQ.out, hv, HBV.out.1, HBV.out.2.1, HBV.out.2.2.1, HBV.out.2.2.2]
    have htk : (smpL b).take (k + 1) = (smpL b).take k ++ [v] := by rw [take_smp hkl, hvk]
    have hpre : (smpL b).take k ++ [v] <+: smpL b := by rw [← htk]; exact List.take_prefix _ _
    have HTK := Lib.hid htk
    have HPRE := Lib.hid hpre
    have hj5 := hJ _ _ _ _ _ hj (Keep.of_same hw5' cc.it) (cc.same_own wr.heap.size)
    obtain ⟨fn, tmps, assign, bodyc, hy, hR⟩ := hY _ _ v _ hj5 hpre
    have hsz5 := hw5'.size
    have HW5 := Lib.hid hw5'
    clear hx5 x4 g1 hx1 hx2 hx3 hv hvk htk hkl hpre hj5 hw5 hw5'
    go_upto_region 5 with (fail)
    refine (wpIn_wide (n := n0)).1 ?_
    gi_wp2
    refine hR.mono ?_
    rintro e W' ⟨hkp, (⟨rfl, hj'⟩ | ⟨rfl, hjx⟩)⟩
    · clear hR hy
      have hk1 : Keep (fun r => r ≠ bb ∧ r ≠ Bl) w W' := (hw.trans (Keep.of_same HW5.out _)).then hkp (fun r hr h => ⟨fun e => hcc.out.1 (e ▸ h.2), fun e => hcc.out.2 (e ▸ h.2)⟩)
      have hcl : Hid (¬ ((cc.own wr.heap.size).by w5.heap.size).cl bb ∧ ¬ ((cc.own wr.heap.size).by w5.heap.size).cl Bl) := ⟨fun h => h.elim (fun h => by omega) (fun h => hcc.out.1 h.2), fun h => h.elim (fun h => by omega) (fun h => hcc.out.2 h.2)⟩
      clear hkp
      (try gi_wp2_with (fail))
      (try go_wp2_with (fail))
      go_roundw
      case rel => exact ⟨k + 1, _, by have := HQ.out; omega, by have := HQ.out; go_num, hk1, hcl, HTK.out ▸ hj'⟩
      case measure => simp [intOf]; omega
    · clear hR hy
      (try gi_wp2_with (fail))
      (try go_wp2_with (fail))
      refine bodyPost_ret (results_none rfl _ _ _) rfl ?_
      exact ⟨⟨_, rfl⟩, .inr ⟨_, _, HPRE.out, hjx⟩⟩
end Go.Proofs.Ytckeopidedoohaa

namespace Go.Proofs.Ytckeopidedoohaa
open Go.RowKit
variable {n₀ : Nat}

/-- A block in which ints may lie: one that stood at the beginning, or one that was made for them. -/
structure LiesI (n₀ : Nat) (w : World) (b : Nat) : Prop where
  lt : b < w.heap.size
  off : b < n₀ ∨ ∃ cs f, w.heap[b]? = some (.cells cs 3 f)
theorem LiesI.below {w w' : World} {b : Nat} (h : LiesI n₀ w b) (hb : Below w.heap.size w w') : LiesI n₀ w' b := by
  refine ⟨Nat.lt_of_lt_of_le h.lt hb.size, ?_⟩
  rcases h.off with h1 | ⟨cs, f, h1⟩
  · exact .inl h1
  · exact .inr ⟨cs, f, (hb.block b h.lt).trans h1⟩
theorem LiesI.ne {w : World} {b B : Nat} {t : TypeId} {cs : Array Value} (h : LiesI n₀ w b) (hB : Blk w B t cs) (ht : t ≠ 3) (hn : n₀ ≤ B) : b ≠ B := by
  rintro rfl
  rcases h.off with h1 | ⟨cs', f, h1⟩
  · omega
  · unfold Blk at hB
    rw [hB] at h1
    simp only [Option.some.injEq, Obj.cells.injEq] at h1
    exact ht h1.2.1
theorem LiesI.keep {w w' : World} {b : Nat} {may : Nat → Prop} (h : LiesI n₀ w b) (hk : Keep may w w') (hm : ¬ may b) : LiesI n₀ w' b := by
  refine ⟨Nat.lt_of_lt_of_le h.lt hk.size, ?_⟩
  rcases h.off with h1 | ⟨cs, f, h1⟩
  · exact .inl h1
  · exact .inr ⟨cs, f, (hk.block b h.lt hm).trans h1⟩
/-- An address at which ints lie. -/
def NumsAt (n₀ : Nat) (w : World) (A : Option Addr) (xs : List Int) : Prop := 0 < xs.length → ∃ b o, A = some ⟨b, o, none⟩ ∧ LiesI n₀ w b ∧ ∀ i, i < xs.length → w.cell? ⟨b, o + i, none⟩ = some (.int .i64 (xs.getD i 0))
theorem NumsAt.nil (w : World) (A : Option Addr) : NumsAt n₀ w A [] := fun h => absurd h (by simp)
theorem NumsAt.below {w w' : World} {A : Option Addr} {xs : List Int} (h : NumsAt n₀ w A xs) (hb : Below w.heap.size w w') : NumsAt n₀ w' A xs := fun h0 => by
  obtain ⟨b, o, e, hlt, hc⟩ := h h0
  exact ⟨b, o, e, hlt.below hb, fun i hi => (hb.cell (p := ⟨b, _, none⟩) hlt.lt).trans (hc i hi)⟩
theorem NumsAt.keepI {w w' : World} {A : Option Addr} {xs : List Int} {may : Nat → Prop} (h : NumsAt n₀ w A xs) (hk : Keep may w w') (hm : ∀ b, LiesI n₀ w b → ¬ may b) : NumsAt n₀ w' A xs := fun h0 => by
  obtain ⟨b, o, e, hlt, hc⟩ := h h0
  exact ⟨b, o, e, hlt.keep hk (hm b hlt), fun i hi => (hk.cell (p := ⟨b, _, none⟩) hlt.lt (hm b hlt)).trans (hc i hi)⟩
/-- A store into a box that is none of theirs leaves ints alone. -/
theorem NumsAt.box {w w' : World} {A : Option Addr} {xs : List Int} {B : Nat} {t : TypeId} {cs : Array Value} (h : NumsAt n₀ w A xs) (hk : Keep (fun r => r = B) w w') (hB : Blk w B t cs) (ht : t ≠ 3) (hn : n₀ ≤ B) : NumsAt n₀ w' A xs :=
  h.keepI hk fun b hb e => hb.ne hB ht hn e
def icells (xs : List Int) : List Value := xs.map (fun x => .int .i64 x)
theorem icells_len (xs : List Int) : (icells xs).length = xs.length := by simp [icells]
theorem icells_get (xs : List Int) (i : Nat) (h : i < xs.length) : (icells xs)[i]? = some (.int .i64 (xs.getD i 0)) := by simp [icells, List.getD, h]
theorem icells_append (xs ys : List Int) : icells (xs ++ ys) = icells xs ++ icells ys := by simp [icells]
theorem icells_one (xs : List Int) : ∀ u ∈ icells xs, u.oneCell' = true := fun u hu => by
  obtain ⟨x, _, rfl⟩ := List.mem_map.1 hu
  rfl
theorem own_nums {w : World} {base n c : Nat} {A : Option Addr} {xs : List Int} (h : w.ownsRow base 3 1 (.slice A n c) n (icells xs)) (hn : n = xs.length) : NumsAt n₀ w A xs := fun h0 => by
  subst hn
  obtain ⟨g, rfl, _, hlt⟩ := own_some h h0
  obtain ⟨cur, h1, h2, h3⟩ := own_cur h
  have hb : Blk w g 3 cur.toArray := h1
  refine ⟨g, 0, rfl, ⟨hlt, .inr ⟨_, _, h1⟩⟩, fun i hi => ?_⟩
  rw [Nat.zero_add, hb.cell i]
  have h4 := icells_get xs i hi
  rw [← h2, List.getElem?_take, if_pos hi] at h4
  simpa using h4
theorem own_boxesI {w : World} {base : Nat} {v : Value} {n : Nat} {xs : List Value} (h : w.ownsRow base 3 1 v n xs) (hn : n₀ ≤ base) : Boxes n₀ w (fun r => v.ownBlock = some r) := fun r _ hb => by
  rcases h.2 with ⟨rfl, _⟩ | ⟨g, cap, cur, rfl, hg, hh, _⟩
  · simp [Value.ownBlock] at hb
  · simp only [Value.ownBlock, Option.some.injEq] at hb
    subst hb
    refine ⟨by omega, 3, _, (show Blk w g 3 _ from hh), rfl⟩

/-- Marks that ranges over functions have left in a frame. -/
def Marks (base : Nat) (ds : List Deferred) (W : World) : Prop := (∀ d ∈ ds, ∃ r, d.target = .collected r ∧ base ≤ r ∧ W.heap[r]? = some (.deferred (some []))) ∧ ds.Pairwise (fun d e => d.target ≠ e.target)
theorem Marks.nil (base : Nat) (W : World) : Marks base [] W := ⟨fun d hd => (by cases hd), List.Pairwise.nil⟩
theorem Marks.keep {base : Nat} {ds : List Deferred} {W W' : World} {may : Nat → Prop} (h : Marks base ds W) (hk : Keep may W W') (hm : ∀ r o, base ≤ r → W.heap[r]? = some (.deferred o) → ¬ may r) : Marks base ds W' :=
  by
  refine ⟨fun d hd => ?_, h.2⟩
  obtain ⟨r, h1, h2, h3⟩ := h.1 d hd
  exact ⟨r, h1, h2, (hk.block r (Array.getElem?_eq_some_iff.1 h3).1 (hm r _ h2 h3)).trans h3⟩
theorem Marks.cons {base D : Nat} {ds : List Deferred} {W : World} {n : Nat} (h : Marks base ds W) (hd : W.heap[D]? = some (.deferred (some []))) (hb : base ≤ D) (hn : n ≤ D) (hlt : ∀ d ∈ ds, ∀ r, d.target = .collected r → r < n) : Marks base ({ target := .collected D, args := #[] } :: ds) W := by
  refine ⟨fun d hd' => ?_, List.Pairwise.cons (fun d hd' he => ?_) h.2⟩
  · rcases List.mem_cons.1 hd' with rfl | hd'
    · exact ⟨D, rfl, hb, hd⟩
    · exact h.1 d hd'
  · have := hlt d hd' D he.symm
    omega
theorem Marks.lt {base : Nat} {ds : List Deferred} {W : World} (h : Marks base ds W) : ∀ d ∈ ds, ∀ r, d.target = .collected r → r < W.heap.size := fun d hd r hr => by
  obtain ⟨r', h1, _, h3⟩ := h.1 d hd
  rw [hr] at h1
  cases h1
  exact (Array.getElem?_eq_some_iff.1 h3).1
/-- A frame leaves with marks alone: what it answers is said of the world in which they are shut. -/
theorem leavesM_marks {F : Fence} {n : Nat} {P : Program} {fn : Func} {tmps : Array Value} {R : Ending → World → Prop} {base : Nat} : ∀ (ds : List Deferred) (W : World), Marks base ds W →
    (∀ W', Keep (fun r => base ≤ r ∧ ∃ o, W.heap[r]? = some (.deferred o)) W W' → LeavesIn F n P fn tmps R [] .returning W') → LeavesInM F n P fn tmps R ds .returning W
  | [], W, _, h => h W (Keep.refl _ _)
  | d :: ds, W, hm, h => by
    obtain ⟨r, h1, h2, h3⟩ := hm.1 d List.mem_cons_self
    have hk : Keep (fun r => base ≤ r ∧ ∃ o, W.heap[r]? = some (.deferred o)) W (W.putObj r (.deferred none)) := (Keep.refl _ W).putObj (l := r) ⟨h2, _, h3⟩ _
    refine ⟨by simp, .inl ⟨r, _, h1, run_takeDeferred h3, ?_⟩⟩
    refine leavesM_marks (base := base) ds _ ⟨fun e he => ?_, (List.pairwise_cons.1 hm.2).2⟩ fun W' hk' => h W' ?_
    · obtain ⟨r', q1, q2, q3⟩ := hm.1 e (List.mem_cons_of_mem _ he)
      have hne : r' ≠ r := fun hx => (List.pairwise_cons.1 hm.2).1 e he (by rw [h1, q1, hx])
      exact ⟨r', q1, q2, (World.putObj_heap_other hne).trans q3⟩
    · refine hk.then hk' fun x hx hy => ⟨hy.1, ?_⟩
      by_cases e : x = r
      · subst e; exact ⟨_, h3⟩
      · obtain ⟨o, ho⟩ := hy.2
        exact ⟨o, (World.putObj_heap_other e).symm.trans ho⟩
end Go.Proofs.Ytckeopidedoohaa

namespace Go.Proofs.Ytckeopidedoohaa

/-- The bytes of a sample. -/
def be32 (v : Int) : Bs := beL 4 (v % 4294967296).toNat
/-- The record of a block. -/
def encB (l : List Int) : Bs := l.flatMap be32
def rRight (b : Bs) : Bool := decide (0 < b.length ∧ b.length % 4 = 0 ∧ b.length ≤ 64)
/-- The samples of records, and whether each is a block's. -/
def rdR (l : List Bs) : List Int × Int := if l.all rRight = true then (l.flatMap smpL, 0) else ([], 430)
def OkV (v : Int) : Prop := -2147483648 ≤ v ∧ v ≤ 2147483647
def OkB (l : List Int) : Prop := 1 ≤ l.length ∧ l.length ≤ 16 ∧ ∀ v ∈ l, OkV v

theorem be32_len (v : Int) : (be32 v).length = 4 := beL_len _ _
theorem smp_be {v : Int} (h : OkV v) : ∃ a b c d, be32 v = [a, b, c, d] ∧ smp a b c d = v := by
  obtain ⟨h1, h2⟩ := h
  obtain ⟨n, hn⟩ : ∃ n, n = (v % 4294967296).toNat := ⟨_, rfl⟩
  refine ⟨UInt8.ofNat (n / 16777216), UInt8.ofNat (n / 65536), UInt8.ofNat (n / 256), UInt8.ofNat n, ?_, ?_⟩
  · unfold be32
    rw [← hn]
    simp [beL]
  · unfold smp
    simp only [UInt8.toNat_ofNat']
    split <;> omega
theorem encB_cons (v : Int) (l : List Int) : encB (v :: l) = be32 v ++ encB l := rfl
theorem encB_snoc (v : Int) (l : List Int) : encB (l ++ [v]) = encB l ++ be32 v := by simp [encB]
theorem encB_len (l : List Int) : (encB l).length = 4 * l.length := by
  induction l with
  | nil => rfl
  | cons v l ih => rw [encB_cons, List.length_append, ih, be32_len, List.length_cons]; omega
theorem smpL_enc {l : List Int} (h : ∀ v ∈ l, OkV v) : smpL (encB l) = l := by
  induction l with
  | nil => rfl
  | cons v l ih =>
    obtain ⟨a, b, c, d, e, e2⟩ := smp_be (h v List.mem_cons_self)
    rw [encB_cons, e, smpL_app _ _ (by simp), ih (fun x hx => h x (List.mem_cons_of_mem _ hx))]
    simp [smpL, e2]
theorem right_enc {l : List Int} (h1 : 1 ≤ l.length) (h2 : l.length ≤ 16) : rRight (encB l) = true := by
  unfold rRight
  rw [encB_len]
  exact decide_eq_true ⟨by omega, by omega, by omega⟩
theorem rdR_ok {l : List Bs} (h : l.all rRight = true) : rdR l = (l.flatMap smpL, 0) := if_pos h
theorem rdR_no {l : List Bs} (h : ¬ l.all rRight = true) : rdR l = ([], 430) := if_neg h
theorem rdR_all {l : List Bs} (h : (rdR l).2 = 0) : l.all rRight = true := by
  unfold rdR at h
  split at h
  · assumption
  · cases h
theorem rdR_snoc {l : List Bs} {b : Bs} (h : l.all rRight = true) (hb : rRight b = true) : (l ++ [b]).all rRight = true ∧ (l ++ [b]).flatMap smpL = l.flatMap smpL ++ smpL b := by
  constructor
  · simp [List.all_append, h, hb]
  · simp
end Go.Proofs.Ytckeopidedoohaa

namespace Go.Proofs.Ytckeopidedoohaa
open Go.RowKit
variable {n₀ : Nat}
attribute [local go_sem] Oper.semAt_some

theorem info3r : (Try.prog.info? 3).map (fun i => (i.zero, i.size, i.bytes)) = some (some (.int .i64 0), 1, 8) := by kernel_rfl
/-- What a function answers that gives ints and an error. -/
def NsIs (n₀ : Nat) (w : World) (g : List Int × Int) (e : Ending) (w' : World) : Prop := ∃ A c, e = .returned (.tuple #[.slice A g.1.length c, .int .i64 g.2]) ∧ g.1.length ≤ c ∧ NumsAt n₀ w' A g.1 ∧ Below w.heap.size w w'
def T3 (base : Nat) (W : World) (r : Nat) : Prop := base ≤ r ∧ ∃ cs f, W.heap[r]? = some (.cells cs 3 f)
/-- What the loop's owner holds between two samples. -/
def ReI (B2 : Nat) (acc : List Int) (w Wl : World) (c : Col) (xs : List Int) (W : World) : Prop :=
  (∃ A cap, (Mine c B2 ∧ Blk W B2 67 #[.slice A (acc ++ xs).length cap]) ∧ (acc ++ xs).length ≤ cap ∧ W.ownsRow w.heap.size 3 1 (.slice A (acc ++ xs).length cap) (acc ++ xs).length (icells (acc ++ xs)) ∧ ∀ k, (Value.slice A (acc ++ xs).length cap).ownBlock = some k → Mine c k) ∧
  ((∀ r, r < Wl.heap.size → ¬ c.it r) ∧ Keep (fun r => r = B2 ∨ T3 w.heap.size Wl r) Wl W)
theorem ReI.stable {B2 : Nat} {acc : List Int} {w Wl : World} : Stable (ReI B2 acc w Wl) := fun c c' s W W' ⟨⟨A, cap, ⟨m, b⟩, hcap, ho, hm⟩, hold⟩ hk hc => by
  refine ⟨⟨A, cap, ⟨m.same hc b.lt, b.keep hk m.2⟩, hcap, own_keepB ho hk (fun k hk' => (hm k hk').2), fun k hk' => (hm k hk').same hc (ho.lt k hk').2⟩, ?_, hold.2.then hk fun r hr hx => absurd hx (hold.1 r hr)⟩
  intro r hr hx
  exact hold.1 r hr ((hc r (Nat.lt_of_lt_of_le hr hold.2.size)).1.1 hx)

/-- What the loop holds between two records. -/
def ReL (B2 : Nat) (rs : List Bs) (w : World) (i : Nat) (ds : List Deferred) (W : World) : Prop :=
  ∃ A cap acc, acc = (rs.take i).flatMap smpL ∧ acc.length ≤ 16 * i ∧ (rs.take i).all rRight = true ∧ Blk W B2 67 #[.slice A (List.length acc) cap] ∧ acc.length ≤ cap ∧ W.ownsRow w.heap.size 3 1 (.slice A acc.length cap) acc.length (icells acc) ∧ Marks w.heap.size ds W ∧ Below w.heap.size w W
theorem all_take {rs : List Bs} {i : Nat} {b : Bs} (h : (rs.take i).all rRight = true) (e : rs.take (i + 1) = rs.take i ++ [b]) (hb : rRight b = true) : (rs.take (i + 1)).all rRight = true := by
  rw [e, List.all_append, h]
  simp [hb]
theorem not_all {rs : List Bs} {b : Bs} (h : b ∈ rs) (hb : rRight b = false) : ¬ rs.all rRight = true := fun h1 => by
  have := List.all_eq_true.1 h1 b h
  rw [hb] at this
  cases this

set_option maxRecDepth 20000 in
set_option maxHeartbeats 8000000 in
theorem recread_t (RA : Option Addr) (rc : Nat) (rs : List Bs) (w : World) (hn : n₀ ≤ w.heap.size) (hs : Sm rs) (h : RowsAt n₀ w RA rs) : Calls Try.prog 94 #[.slice RA rs.length rc] w (NsIs n₀ w (rdR rs)) := by
  have HS := Lib.hid hs
  have HH := Lib.hid h
  have hrl := hs.1
  clear hs h
  obtain ⟨i0, hi0, hz0, hz1, hz2⟩ := info_parts info3r
  refine (callsIn_wide (n := 5)).1 ?_
  refine callsIn_of_wp_marks Try.func94 rfl trivial (wpIn_wide.2 ?_) rfl
  simp only [Try.ntmps94, List.size_toArray, List.length_cons, List.length_nil, Nat.reduceAdd, Nat.reduceSub, Array.replicate_succ, Array.replicate_zero, List.push_toArray, List.append_toArray, List.nil_append, List.cons_append]
  go_upto_region 1 with (fail)
  obtain ⟨B2, hB2⟩ : ∃ B, B = w.heap.size := ⟨_, rfl⟩
  obtain ⟨W1, hW1⟩ : ∃ W, W = w.alloc (.cells #[.slice none 0 0] 67) := ⟨_, rfl⟩
  rw [← hW1, ← hB2]
  have hb1 : Below w.heap.size w W1 := by rw [hW1]; exact (Below.refl _ _).alloc (Nat.le_refl _) _
  have x2 : Blk W1 B2 67 #[.slice none 0 0] := by rw [hW1, hB2]; exact Blk.new w 67 _
  have HB2 := Lib.hid hB2
  clear hW1 hB2
  go_wp2_with (fail)
  refine wp_loop (fun a' w' => ∃ (u5 u6 u10 u11 u12 u13 u14 u15 u16 u17 u18 u19 u20 u21 u22 u23 u24 : Value) (i : Nat) (ds : List Deferred), (i ≤ rs.length ∧ ReL B2 rs w i ds w') ∧ a' = ⟨#[Value.slice RA rs.length rc, undef, .pointer (some ⟨B2, 0, none⟩), .int .i64 0, undef, u5, u6, .slice RA rs.length rc, .int .i64 (rs.length : Nat), .int .i64 (i : Nat), u10, u11, u12, u13, u14, u15, u16, u17, u18, u19, u20, u21, u22, u23, u24], ds⟩) (fun a' _ => rs.length - (intOf (a'.tmps.getD 9 undef)).toNat) ?_ ?_
  · exact ⟨_, _, _, _, _, _, _, _, _, _, _, _, _, _, _, _, _, 0, [], ⟨Nat.zero_le _, none, 0, [], rfl, Nat.le_refl _, rfl, x2, Nat.le_refl _, World.ownsRow_nil _ _ _ _, Marks.nil _ _, hb1⟩, rfl⟩
  clear x2 hb1
  rintro _ wr ⟨u5, u6, u10, u11, u12, u13, u14, u15, u16, u17, u18, u19, u20, u21, u22, u23, u24, i, ds, ⟨hi, A, cap, acc, hacc, hal, hall, x2, hcap, ho, hmk, hb1⟩, rfl⟩
  have HAC := Lib.hid hacc
  clear hacc
  have x2l := x2.lt
  have x20 := x2.cell0
  have x2f := x2.frozen 0
  by_cases hlt : i < rs.length
  case neg =>
    have hil : i = rs.length := by omega
    have hE : rdR rs = (acc, 0) := by
      have h1 := HAC.out
      rw [hil, List.take_length] at h1 hall
      rw [h1]
      exact rdR_ok hall
    have HE := Lib.hid hE
    have HM := Lib.hid hmk
    have dlt : decide ((i : Int) < (rs.length : Int)) = false := decide_eq_false (by omega)
    have dltn : decide (i < rs.length) = false := decide_eq_false hlt
    clear hE hmk hall hil hlt hi hal
    go_wp2_with (fail)
    obtain ⟨W9, hW9⟩ : ∃ W, W = wr.setCell ⟨B2, 0, none⟩ (.slice A acc.length cap) := ⟨_, rfl⟩
    rw [← hW9]
    have y2 : Blk W9 B2 67 #[.slice A acc.length cap] := by rw [hW9]; exact x2.set0 _
    have hk9 : Keep (fun r => r = B2) wr W9 := by rw [hW9]; repeat (first | with_reducible exact Keep.refl _ _ | refine Keep.setCell ?_ (fun _ => by simp) _)
    have hns := own_nums (n₀ := n₀) ho rfl
    have hns9 := hns.box hk9 x2 (by decide) (by have := HB2.out; omega)
    have hb9 := hb1.trans (hk9.below hb1.size (fun r hr h => by have := HB2.out; omega))
    have hm9 : Marks w.heap.size ds W9 := HM.out.keep hk9 (fun r o h1 h2 h3 => by
      subst h3
      have h4 : wr.heap[r]? = _ := x2
      rw [h2] at h4
      cases h4)
    refine leavesM_marks ds W9 hm9 (fun W' hk' => ?_)
    have z2 : Blk W' B2 67 #[.slice A acc.length cap] := y2.keep hk' (fun h => by
      obtain ⟨-, o, h2⟩ := h
      have h4 : W9.heap[B2]? = _ := y2
      rw [h2] at h4
      cases h4)
    have z20 := z2.cell0
    have hns' : NumsAt n₀ W' A acc := hns9.keepI hk' (fun b hb h => by
      obtain ⟨h1, o, h2⟩ := h
      rcases hb.off with h3 | ⟨cs, f, h3⟩
      · omega
      · rw [h2] at h3; cases h3)
    have hb' := hb9.trans (hk'.below hb9.size (fun r hr h => by have := h.1; omega))
    refine ⟨.tuple #[.slice A acc.length cap, .int .i64 0], by simp [results, Try.results94, go_sem, z20], ?_⟩
    rw [HE.out]
    exact ⟨A, cap, rfl, hcap, hns', hb'⟩
  obtain ⟨ga, oa, hRA, lga, hget⟩ := (HH.out.below hb1).get (by omega)
  subst hRA
  obtain ⟨Ab, cb, zb, hcb, hbb⟩ := hget i hlt
  clear hget
  obtain ⟨b, hbd⟩ : ∃ b, b = rs.getD i [] := ⟨_, rfl⟩
  have hts := take_snocR rs i hlt
  have hbm := mem_getD hlt
  rw [← hbd] at zb hcb hbb hts hbm
  have hbl := HS.out.2 b hbm
  have HTS := Lib.hid hts
  have HBM := Lib.hid hbm
  have HBB := Lib.hid hbb
  have dlt : decide ((i : Int) < (rs.length : Int)) = true := decide_eq_true (by omega)
  have k0 : (0 : Int) ≤ (i : Int) := by omega
  have k1 : (i : Int) < (rs.length : Int) := by omega
  clear hbd hts hbm hbb
  obtain ⟨y, hy⟩ : ∃ y, y = rRight b := ⟨_, rfl⟩
  have hyd : decide (0 < b.length ∧ b.length % 4 = 0 ∧ b.length ≤ 64) = y := hy.symm
  have HY := Lib.hid hy
  clear hy
  go_upto_region 4 with (fail)
  have K := right_t Ab b.length cb wr hbl
  rw [hyd] at K
  go_wp2_with (fail)
  go_at_call 112
  refine K.mono ?_
  rintro e w5 ⟨rfl, hw5⟩
  have hw5 := hw5.symm
  subst hw5
  clear K
  cases y
  case false =>
    have hE : rdR rs = ([], 430) := rdR_no (not_all HBM.out HY.out.symm)
    have HE := Lib.hid hE
    have HM := Lib.hid hmk
    clear hE hmk hall
    go_wp2_with (fail)
    obtain ⟨W9, hW9⟩ : ∃ W, W = wr.setCell ⟨B2, 0, none⟩ (.slice none 0 0) := ⟨_, rfl⟩
    rw [← hW9]
    have y2 : Blk W9 B2 67 #[.slice none 0 0] := by rw [hW9]; exact x2.set0 _
    have hk9 : Keep (fun r => r = B2) wr W9 := by rw [hW9]; repeat (first | with_reducible exact Keep.refl _ _ | refine Keep.setCell ?_ (fun _ => by simp) _)
    skip
    have hb9 := hb1.trans (hk9.below hb1.size (fun r hr h => by have := HB2.out; omega))
    have hm9 : Marks w.heap.size ds W9 := HM.out.keep hk9 (fun r o h1 h2 h3 => by
      subst h3
      have h4 : wr.heap[r]? = _ := x2
      rw [h2] at h4
      cases h4)
    refine leavesM_marks ds W9 hm9 (fun W' hk' => ?_)
    have z2 : Blk W' B2 67 #[.slice none 0 0] := y2.keep hk' (fun h => by
      obtain ⟨-, o, h2⟩ := h
      have h4 : W9.heap[B2]? = _ := y2
      rw [h2] at h4
      cases h4)
    have z20 := z2.cell0
    have hb' := hb9.trans (hk'.below hb9.size (fun r hr h => by have := h.1; omega))
    refine ⟨.tuple #[.slice none 0 0, .int .i64 430], by simp [results, Try.results94, go_sem, z20], ?_⟩
    rw [HE.out]
    exact ⟨none, 0, rfl, Nat.le_refl _, NumsAt.nil _ _, hb'⟩
  have hb3 := of_decide_eq_true hyd
  go_upto_region 6 with (fail)
  go_wp2_with (fail)
  go_at_call 113
  refine (samples_t _ _ _ _).mono ?_
  rintro e w5 ⟨rfl, rfl⟩
  obtain ⟨Wl, hWl⟩ : ∃ W, W = wr.alloc (.cells #[.slice Ab b.length cb] 117) := ⟨_, rfl⟩
  rw [← hWl]
  obtain ⟨bb, o, rfl, hlb, hcell⟩ := HBB.out (by omega)
  have hal1 : Below wr.heap.size wr Wl := by rw [hWl]; exact (Below.refl _ _).alloc (Nat.le_refl _) _
  have xBl : Blk Wl wr.heap.size 117 #[.slice (some ⟨bb, o, none⟩) b.length cb] := by rw [hWl]; exact Blk.new wr 117 _
  have hcell1 : ∀ i, i < b.length → Wl.cell? ⟨bb, o + i, none⟩ = some (u8v (b.getD i 0)) := fun i hi => (hal1.cell (p := ⟨bb, o + i, none⟩) hlb.lt).trans (hcell i hi)
  have z2 : Blk Wl B2 67 #[.slice A acc.length cap] := x2.below hal1 x2l
  have hol : Wl.ownsRow w.heap.size 3 1 (.slice A acc.length cap) acc.length (icells acc) := row_keep ho hal1
  have hbl' := hb1.trans (hal1.mono hb1.size)
  have hsl : Wl.heap.size = wr.heap.size + 1 := by rw [hWl]; simp
  have hmkl := hmk.keep (Keep.of_same hal1 (fun _ => False)) (fun _ _ _ _ => id)
  have hbw := hb1.size
  have hbbl := hlb.lt
  have hlbl := hlb.below hal1
  have HC1 := Lib.hid hcell1
  clear hWl hcell hcell1 x20 x2f zb
  go_wp2_with (fail)
  refine (wpIn_wide (n := 5)).1 ?_
  refine wpIn_range (by omega) rfl (enters_of Try.func119 (by kernel_rfl) rfl) (samples_iter _ wr.heap.size bb o cb b Wl hcb hb3.2.1 hb3.2.2 xBl.cell0 (by omega) (by omega) HC1.out) (fun _ => rfl)
    (ReI B2 acc w Wl) (fun _ _ _ _ => False) ?hI ?hIx ⟨fun _ => False, fun r => r = B2 ∨ (Value.slice A acc.length cap).ownBlock = some r⟩ ?hc1 ?hc2 ?hc3 ?h0
    (fun a x _ => (a.put (some 18) (.int .i64 x)).put (some 6) (.int .i64 x)) (fun _ _ _ => True) ?hAx ?assign ?body ?done ?stop
  case hI => exact ReI.stable
  case hIx => exact fun j c c' s W W' h _ _ => h
  case hc1 => exact fun r h => h.elim
  case hc2 =>
    rintro r (h | rfl | rfl) (hr | hr)
    · exact h
    · exact h
    · exact hlbl.ne z2 rfl (by have := HB2.out; omega) hr
    · rcases hlbl.off with h1 | ⟨cs, t, f, h1, h2⟩
      · have := (hol.lt r hr).1; omega
      · exact own_ne hol h1 (fun e => by subst e; cases h2) hr
    · have hr2 : wr.heap.size = B2 := hr
      omega
    · have := (ho.lt _ hr).2; omega
  case hc3 =>
    rintro r (h | rfl | rfl)
    · exact h.elim
    · omega
    · omega
  case h0 => exact ⟨⟨A, cap, by rw [List.append_nil]; exact ⟨⟨.inl rfl, id⟩, z2⟩, by rw [List.append_nil]; exact hcap, by rw [List.append_nil]; exact hol, fun k hk => by rw [List.append_nil] at hk; exact ⟨.inr hk, id⟩⟩, fun _ _ => id, Keep.refl _ _⟩
  case hAx => exact fun _ _ _ _ _ _ => trivial
  case assign =>
    intro l x W K hK
    gi_wp2
    exact hK _ (Below.refl _ _) trivial
  case body =>
    clear z2 xBl hol hbl' hmkl
    rintro l cc pre x B W ⟨⟨A', cap', ⟨m1, b1⟩, hcap', ho', hm'⟩, hold⟩ - hBle hcol hlen
    have hpl : pre.length ≤ 16 := by
      have h1 := hlen.length_le
      rw [List.length_append, smpL_len] at h1
      omega
    obtain ⟨n, hn'⟩ : ∃ n, n = (acc ++ pre).length := ⟨_, rfl⟩
    have hnl : n ≤ 200000 := by rw [hn', List.length_append]; omega
    rw [← hn'] at b1 hcap' ho' hm'
    have HN := Lib.hid hn'
    have c0 := b1.cell0
    have f0 := b1.frozen 0
    have bl1 := b1.lt
    have hws := hold.2.size
    have hwW : w.heap.size ≤ W.heap.size := by omega
    simp only [Act.put, List.setIfInBounds_toArray, List.set_cons_zero, List.set_cons_succ]
    clear hlen hn'
    gi_wp2_with (gi_at_builtin; refine wpListIn_append_own_at _ rfl (.tmp 19) (.tmp 21) 67 rfl w.heap.size 3 i0 (.int .i64 0) 1 8 Try.underlying67 hi0 hz0 hz1 hz2 rfl (by decide) _ n (icells (acc ++ pre)) rfl (ho'.alloc _) ⟨W.heap.size, 0, none⟩ 1 1 [.int .i64 x] rfl rfl (cell_new1 W _ _) (by simp [Value.oneCell']) (by simp [maxLen]; omega) (by omega) (by simp <;> omega) ?_; intro v9 w9 hown9 hgrow9 _ hat9; obtain ⟨A9, c9, rfl, hc9⟩ := own_slice hown9; have hne : (Value.slice A' n cap').ownBlock ≠ some B2 := own_ne (w := W) ho' (show W.heap[B2]? = _ from b1) (show (67 : Nat) ≠ 3 by decide); have y1 := jgrow_blk (b1.alloc (.cells #[.int .i64 x] 3)) hgrow9 (fun h => hne h.symm); have y1c0 := y1.cell 0; have y1f0 := y1.frozen 0; have y1l := y1.lt)
    have hl : (acc ++ (pre ++ [x])).length = n + 1 := by rw [← List.append_assoc, List.length_append, ← HN.out]; rfl
    have hkg : Keep cc.cl W w9 := ((Keep.refl cc.cl W).alloc (.cells #[.int .i64 x] 3)).grown hgrow9 (fun k hk _ => (hm' k hk).1)
    have hks := hkg.setCell (p := ⟨B2, 0, none⟩) (fun _ => m1.1) (.slice A9 (n + 1) c9)
    have hne9 : (Value.slice A9 (n + 1) c9).ownBlock ≠ some B2 := own_ne (w := w9) hown9 (show w9.heap[B2]? = _ from y1) (show (67 : Nat) ≠ 3 by decide)
    have hown10 := ownsRow_setCell_other hown9 (a := ⟨B2, 0, none⟩) hne9 (.slice A9 (n + 1) c9)
    have hmap : icells (acc ++ (pre ++ [x])) = icells (acc ++ pre) ++ [.int .i64 x] := by rw [← List.append_assoc, icells_append]; rfl
    have hkeep : Keep (fun r => r = B2 ∨ (Value.slice A' n cap').ownBlock = some r) W (w9.setCell ⟨B2, 0, none⟩ (.slice A9 (n + 1) c9)) := by
      refine Keep.setCell ?_ (fun _ => .inl rfl) _
      exact ((Keep.refl _ W).alloc (.cells #[.int .i64 x] 3)).grown hgrow9 (fun k hk hkl => .inr hk)
    have hmore : ∀ r, r < Wl.heap.size → (r = B2 ∨ (Value.slice A' n cap').ownBlock = some r) → (r = B2 ∨ T3 w.heap.size Wl r) := fun r hr h => by
      rcases h with h | h
      · exact .inl h
      · refine Classical.byContradiction fun hno => ?_
        have h1 := hold.2.block r hr hno
        refine hno (.inr ⟨(ho'.lt r h).1, ?_⟩)
        rcases ho'.2 with ⟨h2, _⟩ | ⟨g, cp, cur, h2, hg, hh, _⟩
        · rw [h2] at h; simp [Value.ownBlock] at h
        · rw [h2] at h
          simp only [Value.ownBlock, Option.some.injEq] at h
          subst h
          exact ⟨_, _, h1.symm.trans hh⟩
    refine ⟨hks, ⟨A9, c9, ⟨m1.by _, by rw [hl]; exact y1.set0 _⟩, by rw [hl]; exact hc9, by rw [hl, hmap]; exact hown10, fun k hk => ?_⟩, fun r hr hx => hold.1 r hr hx.2, hold.2.then hkeep hmore⟩
    rw [hl] at hk
    rcases hat9 with h | h
    · exact (hm' k (h.symm.trans hk)).by _
    · have e := hk.symm.trans h
      simp only [World.size_alloc, Option.some.injEq] at e
      exact Mine.new cc (by omega)
  case done =>
    clear z2 xBl hol
    rintro D cc xs W hD rfl ⟨⟨A', cap', ⟨m1, b1⟩, hcap', ho', hm'⟩, hold⟩ hK
    have hws := hold.2.size
    have hb9 : Below w.heap.size w W := hbl'.trans (hold.2.below hbl'.size (fun r hr h => by
      rcases h with h | h
      · have := HB2.out; omega
      · have := h.1; omega))
    have hmW : Marks w.heap.size ds W := hmkl.keep hold.2 (fun r o h1 h2 h3 => by
      rcases h3 with h3 | ⟨-, cs, f, h3⟩
      · subst h3
        have h4 : Wl.heap[r]? = _ := x2.below hal1 x2l
        rw [h2] at h4
        cases h4
      · rw [h2] at h3
        cases h3)
    have hm9 := hmW.cons hK (by omega) (Nat.le_refl _) (fun d hd r hr => Nat.lt_of_lt_of_le (hmkl.lt d hd r hr) hD)
    have hsum : acc ++ smpL b = (rs.take (i + 1)).flatMap smpL := by rw [HTS.out, List.flatMap_append, ← HAC.out]; simp
    have hal2 := all_take hall HTS.out HY.out.symm
    have hlen : (acc ++ smpL b).length ≤ 16 * (i + 1) := by rw [List.length_append, smpL_len]; omega
    have HD := Lib.hid (And.intro hm9 (And.intro hsum (And.intro hal2 hlen)))
    clear hm9 hmW hsum hal2 hlen hmkl hmk hall hK hws hbl' hal1
    go_wp2_with (fail)
    refine ⟨⟨_, _, _, _, _, _, _, _, _, _, _, _, _, _, _, _, _, i + 1, _, ⟨by omega, A', cap', acc ++ smpL b, HD.out.2.1, HD.out.2.2.2, HD.out.2.2.1, b1, hcap', ho', HD.out.1, hb9⟩, rfl⟩, ?_⟩
    show rs.length - (intOf (.int .i64 ((i : Int) + 1))).toNat < rs.length - (intOf (.int .i64 (i : Int))).toNat
    simp [intOf]
    omega
  case stop => exact fun D j c pre W _ _ h _ => h.elim
end Go.Proofs.Ytckeopidedoohaa
