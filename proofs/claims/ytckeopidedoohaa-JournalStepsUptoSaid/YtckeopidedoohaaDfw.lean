/-
  Whether a disk is small. Conditions: the disk lies as plain data, its slices in the machine's reach.
-/
import Derived.Test.YtckeopidedoohaaDsv
namespace Go.Proofs.Ytckeopidedoohaa
open Go.RowKit
variable {n₀ : Nat}
attribute [local go_sem] Oper.semAt_some

/-- The first loop of Few. -/
def FwI (secs : List Bs) (v iv : Value) : Prop := ∃ (n i : Nat), v = .int .i64 n ∧ iv = .int .i64 i ∧ i ≤ secs.length ∧ i ≤ n ∧ n ≤ 140737488399999
/-- The second loop of Few. -/
def FwJ (secs : List Bs) (pend : List Wr) (v iv : Value) : Prop := ∃ (n i : Nat), v = .int .i64 n ∧ iv = .int .i64 i ∧ i ≤ pend.length ∧ i ≤ n ∧ n ≤ 140737488399999 ∧ Hid (n ≤ 9000 → secs.length ≤ 9000)
/-- A disk whose slices lie in the machine's reach. -/
def Reach (d : Dk) : Prop := d.secs.length ≤ 140737488355328 ∧ d.pend.length ≤ 140737488355328 ∧ (∀ b ∈ d.secs, b.length ≤ 140737488355328) ∧ ∀ x ∈ d.pend, x.data.length ≤ 140737488355328
def FewIs (w : World) (d : Dk) (e : Ending) (w' : World) : Prop := ∃ y, e = .returned (.bool y) ∧ (y = true → d.secs.length ≤ 9000 ∧ d.pend.length ≤ 9000) ∧ Below w.heap.size w w'

set_option maxRecDepth 20000 in
set_option maxHeartbeats 2000000 in
theorem few_t (SA PA : Option Addr) (sc pc : Nat) (d : Dk) (w : World) (hre : Reach d) (h1 : RowsAt n₀ w SA d.secs) (h2 : WrsAt n₀ w PA d.pend) :
    Calls Try.prog 24 #[.agg #[.slice SA d.secs.length sc, .slice PA d.pend.length pc, .int .i64 d.left, .bool d.stop]] w (FewIs w d) := by
  obtain ⟨secs, pend, lf, st⟩ := d
  obtain ⟨hl1, hl2, hs, hp⟩ := hre
  dsimp only at hl1 hl2 hs hp h1 h2 ⊢
  have HBx : Below w.heap.size w (w.alloc (.cells #[.slice SA secs.length sc, .slice PA pend.length pc, .int .i64 lf, .bool st] 25)) := (Below.refl _ w).alloc (Nat.le_refl _) _
  have h1b := Lib.hid (h1.below HBx)
  have h2b := Lib.hid (h2.below HBx)
  have HS := Lib.hid hs
  have HP := Lib.hid hp
  have HB := Lib.hid HBx
  clear hs hp h1 h2 HBx
  go_enter Try.func24, Try.ntmps24
  go_wp2_with (fail)
  go_loop [3, 4] (fun v i => FwI secs v i) (fun _ i => secs.length - (intOf i).toNat)
  case atStart => exact ⟨0, 0, rfl, rfl, by omega, by omega, by omega⟩
  case round =>
    obtain ⟨n, i, rfl, rfl, hi, hin, hn⟩ := hrel
    by_cases hlt : i < secs.length
    case pos =>
      obtain ⟨b, o, rfl, hb, hc⟩ := h1b.out.get (by omega)
      obtain ⟨A', c', g, hcl, hbs⟩ := hc i hlt
      have hbl : (secs.getD i []).length ≤ 140737488355328 := by
        rw [List.getD_eq_getElem?_getD, List.getElem?_eq_getElem hlt]
        exact HS.out _ (List.getElem_mem hlt)
      obtain ⟨sn, hsn⟩ : ∃ n, n = (secs.getD i []).length := ⟨_, rfl⟩
      rw [← hsn] at g hbl
      clear hc hsn hcl hbs h1b
      by_cases hq : n ≤ 9000
      case pos =>
        go_wp2
        go_round
        case rel => exact ⟨n + 1 + sn, i + 1, by go_num, by go_num, by omega, by omega, by omega⟩
        case measure => simp [intOf]; omega
      case neg =>
        have dq : decide ((n : Int) ≤ 9000) = false := decide_eq_false (by omega)
        go_wp2_with (fail)
        have HN : Hid (n ≤ 9000 → secs.length ≤ 9000) := Lib.hid (fun h => by omega)
        clear g hbl hb dq
        go_loop [3, 5] (fun v i => FwJ secs pend v i) (fun _ i => pend.length - (intOf i).toNat)
        case atStart => exact ⟨n, 0, rfl, rfl, by omega, by omega, hn, HN⟩
        case round =>
          obtain ⟨n2, j, rfl, rfl, hj, hjn, hn2, HN2⟩ := hrel
          by_cases hlt2 : j < pend.length
          case pos =>
            obtain ⟨b2, o2, rfl, hb2, hc2⟩ := h2b.out.get (by omega)
            obtain ⟨g0, A2, c2, g1, _, _⟩ := hc2 j hlt2
            have hbl2 : (pend.getD j wr0).data.length ≤ 140737488355328 := by
              rw [List.getD_eq_getElem?_getD, List.getElem?_eq_getElem hlt2]
              exact HP.out _ (List.getElem_mem hlt2)
            obtain ⟨sm, hsm⟩ : ∃ n, n = (pend.getD j wr0).data.length := ⟨_, rfl⟩
            rw [← hsm] at g1 hbl2
            clear hc2 hsm h2b g0
            by_cases hq2 : n2 ≤ 9000
            case pos =>
              go_wp2
              go_round
              case rel => exact ⟨n2 + 1 + sm, j + 1, by go_num, by go_num, by omega, by omega, by omega, Lib.hid (fun h => HN2.out hq2)⟩
              case measure => simp [intOf]; omega
            case neg =>
              have dq : decide ((n2 : Int) ≤ 9000) = false := decide_eq_false (by omega)
              go_wp2
              go_ret
              exact ⟨false, by simp, (fun h => by cases h), HB.out⟩
          case neg =>
            obtain rfl : j = pend.length := by omega
            go_wp2
            go_ret
            exact ⟨_, rfl, (fun h => by have h := of_decide_eq_true h; have h9 : n2 ≤ 9000 := (by omega); exact ⟨HN2.out h9, by show pend.length ≤ 9000; omega⟩), HB.out⟩
    case neg =>
      obtain rfl : i = secs.length := by omega
      go_wp2_with (fail)
      have HN : Hid (n ≤ 9000 → secs.length ≤ 9000) := Lib.hid (fun h => by omega)
      go_loop [3, 5] (fun v i => FwJ secs pend v i) (fun _ i => pend.length - (intOf i).toNat)
      case atStart => exact ⟨n, 0, rfl, rfl, by omega, by omega, hn, HN⟩
      case round =>
        obtain ⟨n2, j, rfl, rfl, hj, hjn, hn2, HN2⟩ := hrel
        by_cases hlt2 : j < pend.length
        case pos =>
          obtain ⟨b2, o2, rfl, hb2, hc2⟩ := h2b.out.get (by omega)
          obtain ⟨g0, A2, c2, g1, _, _⟩ := hc2 j hlt2
          have hbl2 : (pend.getD j wr0).data.length ≤ 140737488355328 := by
            rw [List.getD_eq_getElem?_getD, List.getElem?_eq_getElem hlt2]
            exact HP.out _ (List.getElem_mem hlt2)
          obtain ⟨sm, hsm⟩ : ∃ n, n = (pend.getD j wr0).data.length := ⟨_, rfl⟩
          rw [← hsm] at g1 hbl2
          clear hc2 hsm h2b g0
          by_cases hq2 : n2 ≤ 9000
          case pos =>
            go_wp2
            go_round
            case rel => exact ⟨n2 + 1 + sm, j + 1, by go_num, by go_num, by omega, by omega, by omega, Lib.hid (fun h => HN2.out hq2)⟩
            case measure => simp [intOf]; omega
          case neg =>
            have dq : decide ((n2 : Int) ≤ 9000) = false := decide_eq_false (by omega)
            go_wp2
            go_ret
            exact ⟨false, by simp, (fun h => by cases h), HB.out⟩
        case neg =>
          obtain rfl : j = pend.length := by omega
          go_wp2
          go_ret
          exact ⟨_, rfl, (fun h => by have h := of_decide_eq_true h; have h9 : n2 ≤ 9000 := (by omega); exact ⟨HN2.out h9, by show pend.length ≤ 9000; omega⟩), HB.out⟩
end Go.Proofs.Ytckeopidedoohaa
