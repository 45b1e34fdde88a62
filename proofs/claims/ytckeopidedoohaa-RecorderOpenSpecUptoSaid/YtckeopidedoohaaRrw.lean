/-
  What the reference's functions over samples answer. Conditions: the arguments lie as plain data. | What the reference gives as samples of records and of a journal. Conditions: the arguments lie as plain data.
-/
import Derived.Test.YtckeopidedoohaaRda
import Derived.Deep.CutBlock
import Derived.Deep.DeepCutAuto
import Derived.Test.YtckeopidedoohaaL22
import Derived.Test.YtckeopidedoohaaJra
namespace Go.Proofs.Ytckeopidedoohaa
open Go.RowKit
variable {n₀ : Nat}
attribute [local go_sem] Oper.semAt_some

theorem bytesR_t (v : Int) (w : World) (hv : OkV v) : Calls Try.prog 115 #[.int .i64 v] w fun e w' => e = .returned (.slice (some ⟨w.heap.size, 0, none⟩) 4 4) ∧ w' = w.alloc (.cells (bcells (be32 v)).toArray 5) := by
  have hc := be_cells v
  obtain ⟨h1, h2⟩ := hv
  have HC := Lib.hid hc
  clear hc
  by_cases k : v < 0
  · have d1 : decide (v < 0) = true := decide_eq_true k
    have i1 : IntKind.i64.wrap (v + 4294967296) = v + 4294967296 := IntWalk.i64_in _ (by omega)
    have t1 : (v + 4294967296).tdiv 16777216 = (v + 4294967296) / 16777216 := Int.tdiv_eq_ediv_of_nonneg (by omega)
    have t2 : (v + 4294967296).tdiv 65536 = (v + 4294967296) / 65536 := Int.tdiv_eq_ediv_of_nonneg (by omega)
    have t3 : (v + 4294967296).tdiv 256 = (v + 4294967296) / 256 := Int.tdiv_eq_ediv_of_nonneg (by omega)
    have m1 : ((v + 4294967296) / 65536).tmod 256 = (v + 4294967296) / 65536 % 256 := Int.tmod_eq_emod_of_nonneg (by omega)
    have m2 : ((v + 4294967296) / 256).tmod 256 = (v + 4294967296) / 256 % 256 := Int.tmod_eq_emod_of_nonneg (by omega)
    have m3 : (v + 4294967296).tmod 256 = (v + 4294967296) % 256 := Int.tmod_eq_emod_of_nonneg (by omega)
    have w0 : (v + 4294967296) / 16777216 % 256 = v / 16777216 % 256 := by omega
    have w1 : (v + 4294967296) / 65536 % 256 = v / 65536 % 256 := by omega
    have w2 : (v + 4294967296) / 256 % 256 = v / 256 % 256 := by omega
    have w3 : (v + 4294967296) % 256 = v % 256 := by omega
    have hb0 := Int.ediv_nonneg (show 0 ≤ v + 4294967296 by omega) (show (0 : Int) ≤ 16777216 by decide)
    have hb1 := Int.ediv_nonneg (show 0 ≤ v + 4294967296 by omega) (show (0 : Int) ≤ 65536 by decide)
    have hb2 := Int.ediv_nonneg (show 0 ≤ v + 4294967296 by omega) (show (0 : Int) ≤ 256 by decide)
    go_enter Try.func115, Try.ntmps115
    go_wp2
    go_ret
    refine ⟨rfl, ?_⟩
    rw [HC.out]
    have e : (v + 4294967296) / 16777216 = v / 16777216 % 256 := by omega
    rw [e]
  · have d1 : decide (v < 0) = false := decide_eq_false k
    have t1 : v.tdiv 16777216 = v / 16777216 := Int.tdiv_eq_ediv_of_nonneg (by omega)
    have t2 : v.tdiv 65536 = v / 65536 := Int.tdiv_eq_ediv_of_nonneg (by omega)
    have t3 : v.tdiv 256 = v / 256 := Int.tdiv_eq_ediv_of_nonneg (by omega)
    have m1 : (v / 65536).tmod 256 = v / 65536 % 256 := Int.tmod_eq_emod_of_nonneg (by omega)
    have m2 : (v / 256).tmod 256 = v / 256 % 256 := Int.tmod_eq_emod_of_nonneg (by omega)
    have m3 : v.tmod 256 = v % 256 := Int.tmod_eq_emod_of_nonneg (by omega)
    go_enter Try.func115, Try.ntmps115
    go_wp2
    go_ret
    refine ⟨rfl, ?_⟩
    rw [HC.out]
    have e : v / 16777216 % 256 = v / 16777216 := by omega
    rw [e]
set_option maxRecDepth 20000 in
set_option maxHeartbeats 4000000 in
theorem recordR_t (A : Option Addr) (c : Nat) (l : List Int) (w : World) (hl : l.length ≤ 1000000) (hv : ∀ v ∈ l, OkV v) (h : NumsAt n₀ w A l) : Calls Try.prog 98 #[.slice A l.length c] w fun e w' => ∃ A' c', e = .returned (.slice A' (4 * l.length) c') ∧ 4 * l.length ≤ c' ∧ BsAt n₀ w' A' (encB l) ∧ Below w.heap.size w w' := by
  have HN := Lib.hid h
  have HV := Lib.hid hv
  clear h hv
  obtain ⟨i0, hi0, hz0, hz1, hz2⟩ := info_parts info5
  go_enter Try.func98, Try.ntmps98
  go_wp2_with (fail)
  go_loopw [3, 4] (fun v3 v4 wr => ∃ i : Nat, i ≤ l.length ∧ v4 = .int .i64 i ∧ wr.ownsRow w.heap.size 5 1 v3 (4 * i) (bcells (encB (l.take i))) ∧ Below w.heap.size w wr) (fun _ v4 _ => l.length - (intOf v4).toNat)
  case atStart => exact ⟨0, by omega, rfl, World.ownsRow_lit (base := w.heap.size) (e := 5) (size := 1) w #[] 0 (Nat.le_refl _) (by simp [maxLen]) rfl, (Below.refl _ _).alloc (Nat.le_refl _) _⟩
  case round =>
    obtain ⟨i, hi, rfl, ho, hb⟩ := hrel
    by_cases hlt : i < l.length
    case neg =>
      obtain rfl : i = l.length := by omega
      rw [List.take_length] at ho
      obtain ⟨A9, c9, rfl, hc9⟩ := own_slice ho
      go_wp2
      go_ret
      exact ⟨A9, c9, rfl, hc9, own_BsAt ho (encB_len l).symm, hb⟩
    obtain ⟨b, o, rfl, hlb, hcell⟩ := HN.out (by omega)
    have z0 := (hb.cell (p := ⟨b, o + i, none⟩) hlb.lt).trans (hcell i hlt)
    have hts := take_snocI l i hlt
    obtain ⟨x, hx⟩ : ∃ x, x = l.getD i 0 := ⟨_, rfl⟩
    rw [← hx] at z0 hts
    have hxv : OkV x := HV.out x (by rw [hx, List.getD_eq_getElem?_getD, List.getElem?_eq_getElem hlt]; exact List.getElem_mem hlt)
    have HXV := Lib.hid hxv
    have HTS := Lib.hid hts
    have k0 : (0 : Int) ≤ (i : Int) := by omega
    have k1 : (i : Int) < (l.length : Int) := by omega
    have hb1 : Below wr.heap.size wr (wr.alloc (.cells (bcells (be32 x)).toArray 5)) := (Below.refl _ _).alloc (Nat.le_refl _) _
    have hsrc : ∀ j u, (bcells (be32 x))[j]? = some u → (wr.alloc (.cells (bcells (be32 x)).toArray 5)).cell? ((⟨wr.heap.size, 0, none⟩ : Addr).add j) = some u := fun j u hu => by
      rw [addr_at, Nat.zero_add, (Blk.new wr 5 _).cell]
      simpa using hu
    have ho1 := row_keep ho hb1
    have hbw := hb.trans (hb1.mono hb.size)
    have hbs := hbw.size
    have hbc : (bcells (be32 x)).length = 4 * 1 := by rw [bcells_len, be32_len]
    have HSRC := Lib.hid hsrc
    have HBC := Lib.hid hbc
    have HO := Lib.hid ho1
    have HB := Lib.hid hbw
    clear hx hts hcell hxv hb1 hsrc ho1 ho hb hbw hbc
    go_wp2_with (first | (go_at_call 115; refine (bytesR_t x wr HXV.out).mono ?_; rintro e w5 ⟨rfl, rfl⟩) | (at_builtin; refine wpList_append_any (by rfl) (.tmp 12) (.tmp 17) 35 rfl w.heap.size 5 i0 (.int .u8 0) 1 1 Try.underlying35 hi0 hz0 hz1 hz2 rfl (by decide) u3 (4 * i) (bcells (encB (l.take i))) rfl HO.out (some ⟨wr.heap.size, 0, none⟩) 4 4 (bcells (be32 x)) rfl HBC.out (fun _ => ⟨_, rfl, HSRC.out⟩) (bcells_one _) (by simp [maxLen]; omega) (by omega) hbs ?_; intro v7 w7 hown7 hgrow7))
    have b7 : Below w.heap.size w w7 := HB.out.grown hgrow7 hbs (own_base HO.out)
    have e8 : bcells (encB (l.take i)) ++ bcells (be32 x) = bcells (encB (l.take (i + 1))) := by rw [HTS.out, encB_snoc]; simp [bcells]
    have e7 : 4 * i + 4 = 4 * (i + 1) := by omega
    rw [e8, e7] at hown7
    go_roundw
    case rel => exact ⟨i + 1, by omega, by go_num, hown7, b7⟩
    case measure => simp [intOf]; omega
open Classical in
set_option maxRecDepth 20000 in
set_option maxHeartbeats 4000000 in
theorem blockR_t (A : Option Addr) (c : Nat) (l : List Int) (w : World) (hl : l.length ≤ 140737488355328) (h : NumsAt n₀ w A l) : Calls Try.prog 97 #[.slice A l.length c] w fun e w' => e = .returned (.bool (decide (OkB l))) ∧ w' = w := by
  have HN := Lib.hid h
  clear h
  go_enter Try.func97, Try.ntmps97
  go_wp2_with (fail)
  go_loopw [3] (fun v3 wr => ∃ i : Nat, i ≤ l.length ∧ v3 = .int .i64 i ∧ Hid (∀ v ∈ l.take i, OkV v) ∧ wr = w) (fun v3 _ => l.length - (intOf v3).toNat)
  case atStart => exact ⟨0, by omega, rfl, Lib.hid (fun v hv => by rw [List.take_zero] at hv; cases hv), rfl⟩
  case round =>
    obtain ⟨i, hi, rfl, HA, hwr⟩ := hrel
    have hwr := hwr.symm
    subst hwr
    by_cases hlt : i < l.length
    case neg =>
      obtain rfl : i = l.length := by omega
      have ha := HA.out
      rw [List.take_length] at ha
      have E : decide (OkB l) = (decide (1 ≤ l.length) && decide (l.length ≤ 16)) := by
        rw [← Bool.decide_and]
        exact decide_eq_decide.2 ⟨fun h => ⟨h.1, h.2.1⟩, fun h => ⟨h.1, h.2, ha⟩⟩
      have HE := Lib.hid E
      clear E ha
      obtain ⟨n, hn⟩ : ∃ n, n = l.length := ⟨_, rfl⟩
      rw [← hn] at HE hl ⊢
      clear hi hlt hn
      by_cases k1 : 1 ≤ n
      · have d1 : decide (1 ≤ (n : Int)) = true := decide_eq_true (by omega)
        have d1n : decide (1 ≤ n) = true := decide_eq_true k1
        obtain ⟨y, hy⟩ : ∃ y, y = decide (n ≤ 16) := ⟨_, rfl⟩
        have d2 : decide ((n : Int) ≤ 16) = y := by rw [hy]; exact decide_eq_decide.2 (by omega)
        have d2n : decide (n ≤ 16) = y := hy.symm
        rw [d1n, d2n, Bool.true_and] at HE
        clear hy k1
        go_wp2
        go_ret
        exact ⟨by rw [HE.out]; rfl, rfl⟩
      · have d1 : decide (1 ≤ (n : Int)) = false := decide_eq_false (by omega)
        have d1n : decide (1 ≤ n) = false := decide_eq_false k1
        rw [d1n, Bool.false_and] at HE
        clear k1
        go_wp2
        go_ret
        exact ⟨by rw [HE.out]; rfl, rfl⟩
    obtain ⟨b, o, rfl, hlb, hcell⟩ := HN.out (by omega)
    have z0 := hcell i hlt
    have hts := take_snocI l i hlt
    obtain ⟨v, hv⟩ : ∃ x, x = l.getD i 0 := ⟨_, rfl⟩
    rw [← hv] at z0 hts
    have hvm : v ∈ l := by rw [hv, List.getD_eq_getElem?_getD, List.getElem?_eq_getElem hlt]; exact List.getElem_mem hlt
    have HVM := Lib.hid hvm
    have HTS := Lib.hid hts
    have k0 : (0 : Int) ≤ (i : Int) := by omega
    have k1 : (i : Int) < (l.length : Int) := by omega
    clear hv hts hcell hvm
    by_cases k3 : -2147483648 ≤ v
    case neg =>
      have d3 : decide (v < -2147483648) = true := decide_eq_true (by omega)
      have E := Lib.hid (decide_eq_false (show ¬ OkB l from fun h => k3 (h.2.2 v HVM.out).1))
      clear k3
      go_wp2
      go_ret
      exact ⟨by rw [E.out]; rfl, rfl⟩
    by_cases k4 : v ≤ 2147483647
    case neg =>
      have d3 : decide (v < -2147483648) = false := decide_eq_false (by omega)
      have d4 : decide (2147483647 < v) = true := decide_eq_true (by omega)
      have E := Lib.hid (decide_eq_false (show ¬ OkB l from fun h => k4 (h.2.2 v HVM.out).2))
      clear k3 k4
      go_wp2
      go_ret
      exact ⟨by rw [E.out]; rfl, rfl⟩
    have d3 : decide (v < -2147483648) = false := decide_eq_false (by omega)
    have d4 : decide (2147483647 < v) = false := decide_eq_false (by omega)
    have hall : ∀ u ∈ l.take (i + 1), OkV u := fun u hu => by
      rw [HTS.out] at hu
      rcases List.mem_append.1 hu with hu | hu
      · exact HA.out u hu
      · rw [List.mem_singleton.1 hu]; exact ⟨k3, k4⟩
    have HAL := Lib.hid hall
    clear hall k3 k4
    go_wp2_with (fail)
    go_roundw
    case rel => exact ⟨i + 1, by omega, by go_num, HAL.out, by first | trivial | rfl⟩
    case measure => simp [intOf]; omega
def q4 (x0 x1 x2 x3 : Int) : Nat → Int
  | 0 => 0
  | 1 => x0
  | 2 => x0 * 256 + x1
  | 3 => (x0 * 256 + x1) * 256 + x2
  | _ => ((x0 * 256 + x1) * 256 + x2) * 256 + x3
set_option maxRecDepth 20000 in
set_option maxHeartbeats 4000000 in
theorem sampleR_t (bb o c : Nat) (a b d e : UInt8) (w : World) (h0 : w.cell? ⟨bb, o, none⟩ = some (u8v a)) (h1 : w.cell? ⟨bb, o + 1, none⟩ = some (u8v b)) (h2 : w.cell? ⟨bb, o + 2, none⟩ = some (u8v d)) (h3 : w.cell? ⟨bb, o + 3, none⟩ = some (u8v e)) : Calls Try.prog 120 #[.slice (some ⟨bb, o, none⟩) 4 c] w fun x w' => x = .returned (.int .i64 (smp a b d e)) ∧ w' = w := by
  unfold u8v at h0 h1 h2 h3
  have l0 := a.toNat_lt
  have l1 := b.toNat_lt
  have l2 := d.toNat_lt
  have l3 := e.toNat_lt
  have HS : Hid (smp a b d e = if a.toNat < 128 then (((a.toNat * 256 + b.toNat) * 256 + d.toNat) * 256 + e.toNat : Int) else (((a.toNat * 256 + b.toNat) * 256 + d.toNat) * 256 + e.toNat : Int) - 4294967296) := Lib.hid (by unfold smp; split <;> omega)
  obtain ⟨x0, hx0⟩ : ∃ x : Int, x = (a.toNat : Int) := ⟨_, rfl⟩
  obtain ⟨x1, hx1⟩ : ∃ x : Int, x = (b.toNat : Int) := ⟨_, rfl⟩
  obtain ⟨x2, hx2⟩ : ∃ x : Int, x = (d.toNat : Int) := ⟨_, rfl⟩
  obtain ⟨x3, hx3⟩ : ∃ x : Int, x = (e.toNat : Int) := ⟨_, rfl⟩
  have g0 : 0 ≤ x0 ∧ x0 < 256 := by omega
  have g1 : 0 ≤ x1 ∧ x1 < 256 := by omega
  have g2 : 0 ≤ x2 ∧ x2 < 256 := by omega
  have g3 : 0 ≤ x3 ∧ x3 < 256 := by omega
  have hlt : a.toNat < 128 ↔ x0 < 128 := by omega
  rw [← hx0] at h0
  rw [← hx1] at h1
  rw [← hx2] at h2
  rw [← hx3] at h3
  rw [← hx0, ← hx1, ← hx2, ← hx3] at HS
  obtain ⟨s, hs⟩ : ∃ s, s = smp a b d e := ⟨_, rfl⟩
  rw [← hs] at HS ⊢
  simp only [hlt] at HS
  clear l0 l1 l2 l3 hx0 hx1 hx2 hx3 hs hlt
  obtain ⟨g00, g01⟩ := g0
  obtain ⟨g10, g11⟩ := g1
  obtain ⟨g20, g21⟩ := g2
  obtain ⟨g30, g31⟩ := g3
  go_enter Try.func120, Try.ntmps120
  go_wp2_with (fail)
  go_loopw [3, 4] (fun v3 v4 wr => ∃ (i : Nat) (n : Int), i ≤ 4 ∧ v4 = .int .i64 i ∧ v3 = .int .i64 n ∧ Hid (n = q4 x0 x1 x2 x3 i) ∧ wr = w) (fun _ v4 _ => 4 - (intOf v4).toNat)
  case atStart => exact ⟨0, 0, by omega, rfl, rfl, Lib.hid rfl, rfl⟩
  case round =>
    obtain ⟨i, n, hi, rfl, rfl, HV, hwr⟩ := hrel
    have hwr := hwr.symm
    subst hwr
    by_cases hi4 : i < 4
    case neg =>
      obtain rfl : i = 4 := by omega
      have hv : n = ((x0 * 256 + x1) * 256 + x2) * 256 + x3 := HV.out
      by_cases k : x0 < 128
      · rw [if_pos k] at HS
        have hn : n < 2147483648 := by omega
        have d1 : decide (2147483648 ≤ n) = false := decide_eq_false (by omega)
        have hsn : s = n := by rw [HS.out, hv]
        have HE := Lib.hid hsn
        clear hv hsn k HS
        go_wp2
        go_ret
        exact ⟨by rw [HE.out]; rfl, rfl⟩
      · rw [if_neg k] at HS
        have hn : 2147483648 ≤ n := by omega
        have hn2 : n < 4294967296 := by omega
        have d1 : decide (2147483648 ≤ n) = true := decide_eq_true hn
        have i1 : IntKind.i64.wrap (n - 4294967296) = n - 4294967296 := IntWalk.i64_in _ (by omega)
        have hsn : s = n - 4294967296 := by rw [HS.out, hv]
        have HE := Lib.hid hsn
        clear hv hsn k HS
        go_wp2
        go_ret
        exact ⟨by rw [HE.out]; rfl, rfl⟩
    have hi4' : i = 0 ∨ i = 1 ∨ i = 2 ∨ i = 3 := by omega
    rcases hi4' with rfl | rfl | rfl | rfl
    · have hv : n = 0 := HV.out
      have hb0 : 0 ≤ n ∧ n < 16777216 := by omega
      obtain ⟨hb1, hb2⟩ := hb0
      have i1 : IntKind.i64.wrap (256 * n) = 256 * n := IntWalk.i64_in _ (by omega)
      have i2 : IntKind.i64.wrap (256 * n + x0) = 256 * n + x0 := IntWalk.i64_in _ (by omega)
      have HV2 := Lib.hid hv
      clear hv
      go_wp2_with (fail)
      go_roundw
      case rel => exact ⟨1, _, by omega, by go_num, rfl, Lib.hid (by have := HV2.out; show _ = x0; omega), by first | trivial | rfl⟩
      case measure => simp [intOf]
    · have hv : n = x0 := HV.out
      have hb0 : 0 ≤ n ∧ n < 16777216 := by omega
      obtain ⟨hb1, hb2⟩ := hb0
      have i1 : IntKind.i64.wrap (256 * n) = 256 * n := IntWalk.i64_in _ (by omega)
      have i2 : IntKind.i64.wrap (256 * n + x1) = 256 * n + x1 := IntWalk.i64_in _ (by omega)
      have HV2 := Lib.hid hv
      clear hv
      go_wp2_with (fail)
      go_roundw
      case rel => exact ⟨2, _, by omega, by go_num, rfl, Lib.hid (by have := HV2.out; show _ = x0 * 256 + x1; omega), by first | trivial | rfl⟩
      case measure => simp [intOf]
    · have hv : n = x0 * 256 + x1 := HV.out
      have hb0 : 0 ≤ n ∧ n < 16777216 := by omega
      obtain ⟨hb1, hb2⟩ := hb0
      have i1 : IntKind.i64.wrap (256 * n) = 256 * n := IntWalk.i64_in _ (by omega)
      have i2 : IntKind.i64.wrap (256 * n + x2) = 256 * n + x2 := IntWalk.i64_in _ (by omega)
      have HV2 := Lib.hid hv
      clear hv
      go_wp2_with (fail)
      go_roundw
      case rel => exact ⟨3, _, by omega, by go_num, rfl, Lib.hid (by have := HV2.out; show _ = (x0 * 256 + x1) * 256 + x2; omega), by first | trivial | rfl⟩
      case measure => simp [intOf]
    · have hv : n = (x0 * 256 + x1) * 256 + x2 := HV.out
      have hb0 : 0 ≤ n ∧ n < 16777216 := by omega
      obtain ⟨hb1, hb2⟩ := hb0
      have i1 : IntKind.i64.wrap (256 * n) = 256 * n := IntWalk.i64_in _ (by omega)
      have i2 : IntKind.i64.wrap (256 * n + x3) = 256 * n + x3 := IntWalk.i64_in _ (by omega)
      have HV2 := Lib.hid hv
      clear hv
      go_wp2_with (fail)
      go_roundw
      case rel => exact ⟨4, _, by omega, by go_num, rfl, Lib.hid (by have := HV2.out; show _ = ((x0 * 256 + x1) * 256 + x2) * 256 + x3; omega), by first | trivial | rfl⟩
      case measure => simp [intOf]
end Go.Proofs.Ytckeopidedoohaa

namespace Go.Proofs.Ytckeopidedoohaa
open Go.RowKit
variable {n₀ : Nat}
attribute [local go_sem] Oper.semAt_some

def smpO (b : Bs) : List Int := if rRight b = true then smpL b else []
theorem smpO_no {b : Bs} (h : rRight b = false) : smpO b = [] := by unfold smpO; rw [h]; rfl
theorem smpO_yes {b : Bs} (h : rRight b = true) : smpO b = smpL b := by unfold smpO; rw [if_pos h]
set_option maxRecDepth 20000 in
set_option maxHeartbeats 4000000 in
theorem samplesR_t (A : Option Addr) (c : Nat) (b : Bs) (w : World) (hl : b.length ≤ 140737488355328) (hc : b.length ≤ c) (h : BsAt n₀ w A b) : Calls Try.prog 114 #[.slice A b.length c] w fun e w' => ∃ V cv, e = .returned (.tuple #[.slice V (smpO b).length cv, .bool (rRight b)]) ∧ NumsAt n₀ w' V (smpO b) ∧ Below w.heap.size w w' := by
  have HB := Lib.hid h
  clear h
  by_cases hr : rRight b = true
  case neg =>
    have hr2 : rRight b = false := by simpa using hr
    have HR := Lib.hid hr2
    have hno : ¬ (0 < b.length ∧ b.length % 4 = 0 ∧ b.length ≤ 64) := of_decide_eq_false hr2
    obtain ⟨n, hn⟩ : ∃ n, n = b.length := ⟨_, rfl⟩
    have ret : ∀ W, Below w.heap.size w W → (∃ V cv, Ending.returned (Value.tuple #[.slice none 0 0, .bool false]) = .returned (.tuple #[.slice V (smpO b).length cv, .bool (rRight b)]) ∧ NumsAt n₀ W V (smpO b) ∧ Below w.heap.size w W) := fun W hW => by
      rw [smpO_no HR.out, HR.out]
      exact ⟨none, 0, rfl, NumsAt.nil _ _, hW⟩
    have RET := Lib.hid ret
    rw [← hn] at hl hc hno ⊢
    clear hn hr hr2 ret
    by_cases k1 : n = 0
    · have d1 : ((n : Int) == 0) = true := by rw [k1]; rfl
      have d1n : (n == 0) = true := by rw [k1]; rfl
      clear k1 hno
      go_enter Try.func114, Try.ntmps114
      go_wp2
      refine bodyPost_ret (v := .tuple #[.slice none 0 0, .bool false]) (by simp [results, Try.results114, go_sem]) rfl ?_
      exact RET.out _ (Below.refl _ _)
    have d1 : ((n : Int) == 0) = false := beq_eq_false_iff_ne.2 (by omega)
    have d1n : (n == 0) = false := beq_eq_false_iff_ne.2 k1
    by_cases k2 : n % 4 = 0
    · have d2 : ((n : Int) % 4 != 0) = false := by rw [bne_eq_false_iff_eq]; omega
      have d2t : ((n : Int).tmod 4 != 0) = false := by rw [bne_eq_false_iff_eq, Int.tmod_eq_emod_of_nonneg (by omega)]; omega
      have d2n : (n % 4 != 0) = false := by rw [bne_eq_false_iff_eq]; exact k2
      have k3 : 64 < n := by omega
      have d3 : decide (64 < (n : Int)) = true := decide_eq_true (by omega)
      have d3n : decide (64 < n) = true := decide_eq_true k3
      clear k1 k2 hno
      go_enter Try.func114, Try.ntmps114
      go_wp2
      refine bodyPost_ret (v := .tuple #[.slice none 0 0, .bool false]) (by simp [results, Try.results114, go_sem]) rfl ?_
      exact RET.out _ (Below.refl _ _)
    · have d2 : ((n : Int) % 4 != 0) = true := by rw [bne_iff_ne]; omega
      have d2t : ((n : Int).tmod 4 != 0) = true := by rw [bne_iff_ne, Int.tmod_eq_emod_of_nonneg (by omega)]; omega
      have d2n : (n % 4 != 0) = true := by rw [bne_iff_ne]; exact k2
      clear k1 k2 hno
      go_enter Try.func114, Try.ntmps114
      go_wp2
      refine bodyPost_ret (v := .tuple #[.slice none 0 0, .bool false]) (by simp [results, Try.results114, go_sem]) rfl ?_
      exact RET.out _ (Below.refl _ _)
  obtain ⟨h1, h2, h3⟩ := of_decide_eq_true hr
  have HSL := Lib.hid (smpL_len b)
  rw [smpO_yes hr, hr]
  obtain ⟨bb, o, rfl, hlb, hcell⟩ := HB.out h1
  have HC := Lib.hid hcell
  have lbb := hlb.lt
  obtain ⟨i0, hi0, hz0, hz1, hz2⟩ := info_parts info3r
  obtain ⟨n, hn⟩ : ∃ n, n = b.length := ⟨_, rfl⟩
  have HN := Lib.hid hn
  rw [← hn] at hl hc h1 h2 h3 ⊢
  clear hcell hlb hr hn
  have d1 : ((n : Int) == 0) = false := beq_eq_false_iff_ne.2 (by omega)
  have d1n : (n == 0) = false := beq_eq_false_iff_ne.2 (by omega)
  have d2 : ((n : Int) % 4 != 0) = false := by rw [bne_eq_false_iff_eq]; omega
  have d2t : ((n : Int).tmod 4 != 0) = false := by rw [bne_eq_false_iff_eq, Int.tmod_eq_emod_of_nonneg (by omega)]; omega
  have d2n : (n % 4 != 0) = false := by rw [bne_eq_false_iff_eq]; exact h2
  have d3 : decide (64 < (n : Int)) = false := decide_eq_false (by omega)
  have d3n : decide (64 < n) = false := decide_eq_false (by omega)
  have H2 := Lib.hid h2
  have n1 : ¬ n = 0 := by omega
  clear h2
  go_enter Try.func114, Try.ntmps114
  go_wp2_with (fail)
  go_loopw [4, 5] (fun v4 v5 wr => ∃ k : Nat, 4 * k ≤ n ∧ v5 = .int .i64 (4 * k : Nat) ∧ wr.ownsRow w.heap.size 3 1 v4 k (icells ((smpL b).take k)) ∧ Below w.heap.size w wr) (fun _ v5 _ => n - (intOf v5).toNat)
  case atStart => exact ⟨0, by omega, rfl, World.ownsRow_lit (base := w.heap.size) (e := 3) (size := 1) w #[] 0 (Nat.le_refl _) (by simp [maxLen]) rfl, (Below.refl _ _).alloc (Nat.le_refl _) _⟩
  case round =>
    clear d1 d1n d2 d2t d2n d3 d3n
    obtain ⟨k, hk, rfl, ho, hb⟩ := hrel
    obtain ⟨q, hq⟩ : ∃ q, q = 4 * k := ⟨_, rfl⟩
    rw [← hq] at hk ⊢
    have HQ := Lib.hid hq
    clear hq
    by_cases hlt : q < n
    case neg =>
      have hkl : k = (smpL b).length := by rw [HSL.out, ← HN.out]; have := HQ.out; have := H2.out; omega
      have ho2 : wr.ownsRow w.heap.size 3 1 u4 (smpL b).length (icells (smpL b)) := by rw [hkl, List.take_length] at ho; exact ho
      obtain ⟨A9, c9, rfl, hc9⟩ := own_slice ho2
      have dl : decide ((q : Int) < (n : Int)) = false := decide_eq_false (by omega)
      have dln : decide (q < n) = false := decide_eq_false hlt
      have HO := Lib.hid ho2
      clear ho ho2 hkl
      go_wp2
      refine bodyPost_ret (v := .tuple #[.slice A9 (smpL b).length c9, .bool true]) (by simp [results, Try.results114, go_sem]) rfl ?_
      exact ⟨A9, c9, rfl, own_nums HO.out rfl, hb⟩
    have hq3 : q + 3 < b.length := by rw [← HN.out]; have := HQ.out; have := H2.out; omega
    have cells : ∀ j, j < b.length → wr.cell? ⟨bb, o + j, none⟩ = some (u8v (b.getD j 0)) := fun j hj => (hb.cell (p := ⟨bb, o + j, none⟩) lbb).trans (HC.out j hj)
    have z0 := cells q (by omega)
    have z1 := cells (q + 1) (by omega)
    have z2 := cells (q + 2) (by omega)
    have z3 := cells (q + 3) (by omega)
    rw [← Nat.add_assoc] at z1 z2 z3
    have K := sampleR_t bb (o + q) (c - q) (b.getD q 0) (b.getD (q + 1) 0) (b.getD (q + 2) 0) (b.getD (q + 3) 0) wr z0 z1 z2 z3
    have hgd := smpL_get b k (by have := HQ.out; omega)
    rw [← HQ.out] at hgd
    obtain ⟨v, hv⟩ : ∃ v, v = (smpL b).getD k 0 := ⟨_, rfl⟩
    rw [← hgd, ← hv] at K
    have hts := take_smp (l := smpL b) (k := k) (by rw [HSL.out, ← HN.out]; have := HQ.out; have := H2.out; omega)
    rw [← hv] at hts
    have HTS := Lib.hid hts
    have HK := Lib.hid K
    have q0 : (0 : Int) ≤ (q : Int) := by omega
    have q4' : q + 4 ≤ n := by have := HN.out; omega
    have i4 : IntKind.i64.wrap ((q : Int) + 4) = (q : Int) + 4 := IntWalk.i64_in _ (by omega)
    have n2 : (q : Int) ≤ (q : Int) + 4 := by omega
    have n3 : (q : Int) + 4 ≤ (c : Int) := by omega
    have n4 : ¬ c = q := by omega
    have nq : ((q : Int) + 4).toNat = q + 4 := by omega
    have dl : decide ((q : Int) < (n : Int)) = true := decide_eq_true (by omega)
    have dln : decide (q < n) = true := decide_eq_true hlt
    have hbs := hb.size
    have hkn : k ≤ 64 := by have := HQ.out; omega
    have HO := Lib.hid ho
    have HBW := Lib.hid hb
    clear cells z0 z1 z2 z3 K hgd hv hts hq3 ho hb
    go_wp2_with (first | (go_at_call 120; refine HK.out.mono ?_; rintro e w5 ⟨rfl, hw5⟩; have hw5 := hw5.symm; subst hw5) | (at_builtin; refine wpList_append_own _ rfl (.tmp 27) (.tmp 34) 67 rfl w.heap.size 3 i0 (.int .i64 0) 1 8 Try.underlying67 hi0 hz0 hz1 hz2 rfl (by decide) u4 k (icells ((smpL b).take k)) rfl (HO.out.alloc _) ⟨wr.heap.size, 0, none⟩ 1 1 [.int .i64 v] rfl rfl (cell_new1 wr _ _) (by simp [Value.oneCell']) (by simp [maxLen]; omega) (by omega) (by simp <;> omega) ?_; intro v7 w7 hown7 hgrow7 _))
    have b7 : Below w.heap.size w w7 := (HBW.out.alloc hbs (.cells #[.int .i64 v] 3)).grown hgrow7 (by simp <;> omega) (own_base HO.out)
    have e8 : icells ((smpL b).take k) ++ [.int .i64 v] = icells ((smpL b).take (k + 1)) := by rw [HTS.out, icells_append]; rfl
    rw [e8] at hown7
    go_roundw
    case rel => exact ⟨k + 1, by have := HQ.out; omega, by have := HQ.out; go_num, hown7, b7⟩
    case measure => simp [intOf]; omega
/-- The samples of records as the reference gives them. -/
def okRd (rs : List Bs) : Bool := rs.all rRight
set_option maxRecDepth 20000 in
set_option maxHeartbeats 4000000 in
theorem recsR_t (RA : Option Addr) (rc : Nat) (rs : List Bs) (w : World) (hs : Sm rs) (h : RowsAt n₀ w RA rs) : Calls Try.prog 96 #[.slice RA rs.length rc] w fun e w' => ∃ V cv, e = .returned (.tuple #[.slice V (rdR rs).1.length cv, .bool (okRd rs)]) ∧ NumsAt n₀ w' V (rdR rs).1 ∧ Below w.heap.size w w' := by
  have HS := Lib.hid hs
  have HH := Lib.hid h
  have hrl := hs.1
  clear hs h
  obtain ⟨i0, hi0, hz0, hz1, hz2⟩ := info_parts info3r
  go_enter Try.func96, Try.ntmps96
  go_wp2_with (fail)
  go_loopw [4, 5] (fun v4 v5 wr => ∃ (i na : Nat) (acc : List Int), i ≤ rs.length ∧ v5 = .int .i64 i ∧ Hid (acc = (rs.take i).flatMap smpL) ∧ na ≤ 16 * i ∧ na = acc.length ∧ Hid ((rs.take i).all rRight = true) ∧ wr.ownsRow w.heap.size 3 1 v4 na (icells acc) ∧ Below w.heap.size w wr) (fun _ v5 _ => rs.length - (intOf v5).toNat)
  case atStart => exact ⟨0, 0, [], by omega, rfl, Lib.hid rfl, by omega, rfl, Lib.hid rfl, World.ownsRow_lit (base := w.heap.size) (e := 3) (size := 1) w #[] 0 (Nat.le_refl _) (by simp [maxLen]) rfl, (Below.refl _ _).alloc (Nat.le_refl _) _⟩
  case round =>
    obtain ⟨i, na, acc, hi, rfl, HAC, hal, hna, HALL, ho, hb⟩ := hrel
    have HNA := Lib.hid hna
    clear hna
    by_cases hlt : i < rs.length
    case neg =>
      have hil : i = rs.length := by omega
      have hE : rdR rs = (acc, 0) ∧ okRd rs = true := by
        have h1 := HAC.out
        have h2 := HALL.out
        rw [hil, List.take_length] at h1 h2
        exact ⟨by rw [h1]; exact rdR_ok h2, h2⟩
      have HE := Lib.hid hE
      obtain ⟨A9, c9, rfl, hc9⟩ := own_slice ho
      have dl : decide ((i : Int) < (rs.length : Int)) = false := decide_eq_false (by omega)
      have dln : decide (i < rs.length) = false := decide_eq_false hlt
      have HO := Lib.hid ho
      clear hE ho hil hi
      go_wp2
      refine bodyPost_ret (v := .tuple #[.slice A9 na c9, .bool true]) (by simp [results, Try.results96, go_sem]) rfl ?_
      rw [HE.out.1, HE.out.2]
      exact ⟨A9, c9, by rw [HNA.out], own_nums HO.out HNA.out, hb⟩
    obtain ⟨ga, oa, hRA, lga, hget⟩ := (HH.out.below hb).get (by omega)
    subst hRA
    obtain ⟨Ab, cb, zb, hcb, hbb⟩ := hget i hlt
    clear hget
    obtain ⟨b, hbd⟩ : ∃ b, b = rs.getD i [] := ⟨_, rfl⟩
    have hts := take_snocR rs i hlt
    have hbm := mem_getD hlt
    rw [← hbd] at zb hcb hbb hts hbm
    have hbl := HS.out.2 b hbm
    have K := samplesR_t Ab cb b wr hbl hcb hbb
    have HTS := Lib.hid hts
    have HBM := Lib.hid hbm
    have dl : decide ((i : Int) < (rs.length : Int)) = true := decide_eq_true (by omega)
    have dln : decide (i < rs.length) = true := decide_eq_true hlt
    have k0 : (0 : Int) ≤ (i : Int) := by omega
    have k1 : (i : Int) < (rs.length : Int) := by omega
    clear hbd hts hbm hbb
    cases hy : rRight b
    case false =>
      have hE : rdR rs = ([], 430) ∧ okRd rs = false := ⟨rdR_no (not_all HBM.out hy), by unfold okRd; exact Bool.eq_false_iff.2 (not_all HBM.out hy)⟩
      have HE := Lib.hid hE
      rw [smpO_no hy, hy] at K
      have HK := Lib.hid K
      clear hE K hy
      go_wp2_with (go_at_call 114; refine HK.out.mono ?_; rintro e w5 ⟨V5, c5, rfl, -, hb5⟩)
      refine bodyPost_ret (v := .tuple #[.slice none 0 0, .bool false]) (by simp [results, Try.results96, go_sem]) rfl ?_
      rw [HE.out.1, HE.out.2]
      exact ⟨none, 0, rfl, NumsAt.nil _ _, hb.trans (hb5.mono hb.size)⟩
    rw [smpO_yes hy, hy] at K
    have hal2 := all_take HALL.out HTS.out hy
    have hb64 := (of_decide_eq_true hy).2.2
    have hsl := smpL_len b
    obtain ⟨ys, hys⟩ : ∃ y, y = smpL b := ⟨_, rfl⟩
    rw [← hys] at K hsl
    have hsum : acc ++ ys = (rs.take (i + 1)).flatMap smpL := by rw [HTS.out, List.flatMap_append, ← HAC.out, hys]; simp
    obtain ⟨ny, hny⟩ : ∃ n, n = ys.length := ⟨_, rfl⟩
    rw [← hny] at K hsl
    have HNY := Lib.hid hny
    have HK := Lib.hid K
    have HSUM := Lib.hid hsum
    have HAL2 := Lib.hid hal2
    have hnyl : ny ≤ 16 := by omega
    have HO := Lib.hid ho
    have hbs := hb.size
    clear K hy hal2 hsum hny hys hb64 hsl ho
    go_wp2_with (first | (go_at_call 114; refine HK.out.mono ?_; rintro e w5 ⟨V5, c5, rfl, hn5, hb5⟩; have hbw := hb.trans (hb5.mono hb.size); have hs5 := hbw.size; have HO5 := Lib.hid (row_keep HO.out hb5); have HN5 := Lib.hid hn5) | (at_builtin; refine wpList_append_any (by rfl) (.tmp 25) (.tmp 26) 67 rfl w.heap.size 3 i0 (.int .i64 0) 1 8 Try.underlying67 hi0 hz0 hz1 hz2 rfl (by decide) u4 na (icells acc) rfl HO5.out V5 ny c5 (icells ys) rfl (by rw [icells_len, ← HNY.out, Nat.mul_one]) (fun h => nums_src HN5.out (Below.refl _ _) (by rw [← HNY.out]; exact h)) (icells_one _) (by simp [maxLen]; omega) (by omega) hs5 ?_; intro v7 w7 hown7 hgrow7))
    have b7 : Below w.heap.size w w7 := hbw.grown hgrow7 hs5 (own_base HO5.out)
    rw [← icells_append] at hown7
    go_roundw
    case rel => exact ⟨i + 1, na + ny, acc ++ ys, by omega, by go_num, HSUM, by omega, by rw [List.length_append, ← HNA.out, ← HNY.out], HAL2, hown7, b7⟩
    case measure => simp [intOf]; omega
set_option maxRecDepth 20000 in
set_option maxHeartbeats 4000000 in
theorem rdata43_t (RA : Option Addr) (rc : Nat) (j : Jn) (w : World) (hs : Sm j.recs) (h : RowsAt n₀ w RA j.recs) : Calls Try.prog 66 #[.agg #[.slice RA j.recs.length rc, .int .i64 j.many, .int .i64 j.sync]] w fun e w' => ∃ A c, e = .returned (.tuple #[.slice A (rData j).1.length c, .int .i64 (rData j).2]) ∧ NumsAt n₀ w' A (rData j).1 ∧ Below w.heap.size w w' := by
  have HS := Lib.hid hs
  obtain ⟨gc, hgc⟩ : ∃ x, x = gJchk j := ⟨_, rfl⟩
  have HGC := Lib.hid hgc
  clear hs
  go_enter Try.func66, Try.ntmps66
  go_wp2_with (fail)
  obtain ⟨W1, hW1⟩ : ∃ W, W = w.alloc (.cells #[.slice RA j.recs.length rc, .int .i64 j.many, .int .i64 j.sync] 55) := ⟨_, rfl⟩
  rw [← hW1]
  have hb : Below w.heap.size w W1 := by rw [hW1]; exact (Below.refl _ _).alloc (Nat.le_refl _) _
  have x1 : Blk W1 w.heap.size 55 #[.slice RA j.recs.length rc, .int .i64 j.many, .int .i64 j.sync] := by rw [hW1]; exact Blk.new w 55 _
  clear hW1
  replace h := h.below hb
  have hw := hb
  clear hb
  have K : Calls Try.prog 50 #[.agg #[.slice RA j.recs.length rc, .int .i64 j.many, .int .i64 j.sync]] W1 (fun e w' => e = .returned (.int .i64 gc) ∧ Below W1.heap.size W1 w') := by rw [HGC.out]; exact rjcheck_t RA rc j W1 HS.out h
  go_at_call 50
  refine K.mono ?_
  rintro e w2 ⟨rfl, hb⟩
  clear K
  replace h := h.below hb
  replace x1 := x1.below hb x1.lt
  replace hw := hw.trans (hb.mono hw.size)
  clear hb
  by_cases k0 : gc = 0
  case neg =>
    have dk0 : (gc != 0) = true := bne_iff_ne.2 k0
    have HR : rData j = ([], 1) := rData_no (fun hv => k0 (by rw [hgc, jchk_yes hv]))
    have HHR := Lib.hid HR
    obtain rfl : gc = 1 := by rw [hgc, jchk_no (fun hv => k0 (by rw [hgc, jchk_yes hv]))]
    clear HR k0 hgc
    go_wp2
    refine bodyPost_ret (v := .tuple #[.slice none 0 0, .int .i64 1]) (by simp [results, Try.results66, go_sem]) rfl ?_
    rw [HHR.out]
    exact ⟨none, 0, rfl, NumsAt.nil _ _, hw⟩
  subst k0
  have hv := jchk_val HGC.out.symm
  have HR := Lib.hid (rData_ok hv)
  clear hgc hv
  have x1c0 := x1.cell 0
  have x1c1 := x1.cell 1
  have x1c2 := x1.cell 2
  simp only [List.getElem?_toArray, List.getElem?_cons_zero, List.getElem?_cons_succ] at x1c0 x1c1 x1c2
  have x1l := x1.lt
  go_wp2_with (fail)
  have K := recsR_t RA rc j.recs w2 HS.out h
  cases hy : okRd j.recs
  case false =>
    have hE : rdR j.recs = ([], 430) := rdR_no (by unfold okRd at hy; rw [hy]; simp)
    have HE := Lib.hid hE
    rw [hy, hE] at K
    clear hE hy
    go_at_call 96
    refine K.mono ?_
    rintro e w9 ⟨A9, c9, rfl, -, hb9⟩
    clear K
    go_wp2
    refine bodyPost_ret (v := .tuple #[.slice none 0 0, .int .i64 430]) (by simp [results, Try.results66, go_sem]) rfl ?_
    rw [HR.out, HE.out]
    exact ⟨none, 0, rfl, NumsAt.nil _ _, hw.trans (hb9.mono hw.size)⟩
  have hE : (rdR j.recs).2 = 0 := by unfold okRd at hy; rw [rdR_ok hy]
  have HE := Lib.hid hE
  rw [hy] at K
  clear hE hy
  go_at_call 96
  refine K.mono ?_
  rintro e w9 ⟨A9, c9, rfl, hn9, hb9⟩
  clear K
  go_wp2
  refine bodyPost_ret (v := .tuple #[.slice A9 (rdR j.recs).1.length c9, .int .i64 0]) (by simp [results, Try.results66, go_sem]) rfl ?_
  rw [HR.out, HE.out]
  exact ⟨A9, c9, rfl, hn9, hw.trans (hb9.mono hw.size)⟩
end Go.Proofs.Ytckeopidedoohaa
