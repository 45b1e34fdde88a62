/-
  Whether the halves of the sectors of a disk begin with some bytes: it says yes where they do. Conditions: a disk of four sectors that runs.
-/
import Derived.Test.YtckeopidedoohaaDbx
namespace Go.Proofs.Ytckeopidedoohaa
open Go.RowKit
variable {n₀ : Nat}
attribute [local go_sem] Oper.semAt_some

theorem hv_0 (a b : UInt8) : (hv a b).getD 0 0 = a := by rw [hv_get a b 0 (by omega)]; rfl
theorem hv_1 (a b : UInt8) : (hv a b).getD 1 0 = 0 := by rw [hv_get a b 1 (by omega)]; rfl
theorem hv_64 (a b : UInt8) : (hv a b).getD 64 0 = b := by rw [hv_get a b 64 (by omega)]; rfl
theorem hv_127 (a b : UInt8) : (hv a b).getD 127 0 = 0 := by rw [hv_get a b 127 (by omega)]; rfl

set_option maxRecDepth 20000 in
set_option maxHeartbeats 2000000 in
theorem holds_t (SA PA : Option Addr) (sc pc : Nat) (d : Dk) (f s : Bs) (w : World) (hr : Runs d) (hl : d.secs.length = 4) (hf : f.length = 4) (hs : s.length = 4) (hh : ∀ i : Nat, i < 4 → rdW d.pend (i : Int) (d.secs.getD i []) = hv (f.getD i 0) (s.getD i 0)) (h1 : RowsAt n₀ w SA d.secs) (h2 : WrsAt n₀ w PA d.pend) :
    Calls Try.prog 41 #[.agg #[.slice SA d.secs.length sc, .slice PA d.pend.length pc, .int .i64 d.left, .bool d.stop], .agg (bcells f).toArray, .agg (bcells s).toArray] w fun e w' => e = .returned (.bool true) ∧ Below w.heap.size w w' := by
  have hp : d.pend.length ≤ 4096 := hr.1.2.2.1
  have KR := fun (k : Nat) (hk : k < 4) (W : World) (hb : Below w.heap.size w W) => read_t SA PA sc pc d k W (by omega) (by omega) (h1.below hb) (h2.below hb)
  have HKR : Hid (∀ (k : Nat) (_ : k < 4) (W : World) (_ : Below w.heap.size w W), Calls Try.prog 34 #[.agg #[.slice SA d.secs.length sc, .slice PA d.pend.length pc, .int .i64 d.left, .bool d.stop], .int .i64 k] W (RdIs n₀ W (hv (f.getD k 0) (s.getD k 0), 0))) := Lib.hid fun k hk W hb => by
    have := KR k hk W hb
    rw [gRead_ok ⟨hr, by omega, by omega⟩, Int.toNat_natCast, hh k hk] at this
    exact this
  clear KR hh hr h1 h2 hp
  obtain ⟨fc, hfc⟩ : ∃ c, c = (bcells f).toArray := ⟨_, rfl⟩
  obtain ⟨sd, hsd⟩ : ∃ c, c = (bcells s).toArray := ⟨_, rfl⟩
  rw [← hfc, ← hsd]
  obtain ⟨W1, hW1⟩ : ∃ W, W = ((w.alloc (.cells #[.slice SA d.secs.length sc, .slice PA d.pend.length pc, .int .i64 d.left, .bool d.stop] 25)).alloc (.cells fc 44)).alloc (.cells sd 44) := ⟨_, rfl⟩
  have b1 : Below w.heap.size w W1 := by rw [hW1]; exact (((Below.refl _ w).alloc (Nat.le_refl _) _).alloc (by simp) _).alloc (by simp <;> omega) _
  have x1 : Blk W1 w.heap.size 25 #[.slice SA d.secs.length sc, .slice PA d.pend.length pc, .int .i64 d.left, .bool d.stop] := by rw [hW1]; exact ((Blk.new w 25 _).alloc _).alloc _
  have y1 : Blk W1 (w.heap.size + 1) 44 (bcells f).toArray := by rw [hW1, ← hfc]; exact (Blk.newAt (by simp) 44 _).alloc _
  have z1 : Blk W1 (w.heap.size + 2) 44 (bcells s).toArray := by rw [hW1, ← hsd]; exact Blk.newAt (by simp) 44 _
  have HW1 := Lib.hid hW1
  clear hW1 hl hfc hsd
  have HX := Lib.hid x1
  have HY := Lib.hid y1
  have HZ := Lib.hid z1
  have HF := Lib.hid hf
  have HS := Lib.hid hs
  clear x1 y1 z1 hf hs
  go_enter Try.func41, Try.ntmps41
  go_wp2_with (fail)
  rw [← HW1.out]
  go_loopw [7] (fun v wr => ∃ k : Nat, k ≤ 4 ∧ v = .int .i64 k ∧ Below W1.heap.size W1 wr) (fun v _ => 4 - (intOf v).toNat)
  case atStart => exact ⟨0, by omega, rfl, Below.refl _ _⟩
  case round =>
    obtain ⟨k, hk, rfl, hwr⟩ := hrel
    by_cases hlt : k < 4
    case neg =>
      obtain rfl : k = 4 := by omega
      go_wp2
      go_ret
      exact ⟨rfl, b1.trans (hwr.mono b1.size)⟩
    case pos =>
      have bw := b1.trans (hwr.mono b1.size)
      have x2 := HX.out.below hwr HX.out.lt
      have e0 := x2.cell 0
      have e1 := x2.cell 1
      have e2 := x2.cell 2
      have e3 := x2.cell 3
      simp only [List.getElem?_toArray, List.getElem?_cons_zero, List.getElem?_cons_succ] at e0 e1 e2 e3
      go_wp2_with (fail)
      refine (HKR.out k hlt wr bw).mono ?_
      intro e w2 h2
      obtain ⟨A, c, rfl, hc, hB, hb⟩ := rd128 h2 (hv_len _ _)
      obtain ⟨ab, ao, rfl, la, q0, q1, q2, q3⟩ := bs_looks hB (hv_len _ _)
      rw [hv_0] at q0
      rw [hv_1] at q1
      rw [hv_64] at q2
      rw [hv_127] at q3
      have h12 := hwr.trans (hb.mono hwr.size)
      have p1 : w2.cell? ⟨w.heap.size + 1, k, none⟩ = some (u8v (f.getD k 0)) := by rw [(HY.out.below h12 HY.out.lt).cell, List.getElem?_toArray, bcells_get f k (by rw [HF.out]; exact hlt)]
      have p2 : w2.cell? ⟨w.heap.size + 2, k, none⟩ = some (u8v (s.getD k 0)) := by rw [(HZ.out.below h12 HZ.out.lt).cell, List.getElem?_toArray, bcells_get s k (by rw [HS.out]; exact hlt)]
      unfold u8v at q0 q1 q2 q3 p1 p2
      obtain ⟨fk, hfk⟩ : ∃ n : Int, n = ((f.getD k 0).toNat : Int) := ⟨_, rfl⟩
      obtain ⟨sk, hsk⟩ : ∃ n : Int, n = ((s.getD k 0).toNat : Int) := ⟨_, rfl⟩
      rw [← hfk] at q0 p1
      rw [← hsk] at q2 p2
      replace q1 : w2.cell? ⟨ab, ao + 1, none⟩ = some (.int .u8 0) := q1
      replace q3 : w2.cell? ⟨ab, ao + 127, none⟩ = some (.int .u8 0) := q3
      have k0 : (0 : Int) ≤ k := by omega
      have k4 : (k : Int) < 4 := by omega
      clear h2 hB hb x2 e0 e1 e2 e3 hfk hsk
      go_wp2_with (fail)
      go_quiet (fail)
      go_wp2
      go_roundw
      case rel => exact ⟨k + 1, by omega, by go_num, by exact below_drewN h12 _⟩
      case measure => simp [intOf]; omega
end Go.Proofs.Ytckeopidedoohaa
