/-
  The library's Backward over the digits of a number. Conditions: a slice that reads as a list.
-/
import Derived.Test.YtoeigfkllamplaaMean
namespace Go.Proofs.Ytoeigfkllamplaa
open Go.RowKit
attribute [local go_sem] Oper.semAt_some

/-- The places from behind, so many of them. -/
def Dn (m k : Nat) : List Nat := (List.range k).map (fun j => m - 1 - j)
theorem Dn_succ (m k : Nat) : Dn m (k + 1) = Dn m k ++ [m - 1 - k] := by simp [Dn, List.range_succ]
theorem Dn_len (m k : Nat) : (Dn m k).length = k := by simp [Dn]
theorem Dn_next {m k x : Nat} {pre : List Nat} (h : pre ++ [x] = Dn m k) : ∃ j, k = j + 1 ∧ pre = Dn m j ∧ x = m - 1 - j := by
  cases k with
  | zero => simp [Dn] at h
  | succ j =>
    rw [Dn_succ] at h
    have := List.append_inj' h rfl
    exact ⟨j, rfl, this.1, by simpa using this.2⟩

set_option maxHeartbeats 1000000 in
theorem back_iter (n Bn b o c : Nat) (l : List Int) (w : World) (hBn : w.cell? ⟨Bn, 0, none⟩ = some (.slice (some ⟨b, o, none⟩) l.length c)) (hBl : Bn < w.heap.size) (hb : b < w.heap.size)
    (hc : ∀ i, i < l.length → w.cell? ⟨b, o + i, none⟩ = some (.int .u32 (gi l i))) (hn : l.length ≤ 1000000000) :
    IterC n Try.prog 29 #[.pointer (some ⟨Bn, 0, none⟩)] (fun x : Nat => #[.int .i64 x, .int .u32 (gi l x)]) (fun xs => xs = Dn l.length l.length) (fun pre => ∃ k, k ≤ l.length ∧ pre = Dn l.length k) w (fun _ => False) (fun r => r = b ∨ r = Bn) := by
  intro lp J Jx c0 W hW hJ hJx _ hros hY h0
  refine callsIn_of_wp Try.func29 rfl trivial ?_ rfl
  have g0 := (hW.cell (p := ⟨Bn, 0, none⟩) hBl).trans hBn
  simp only [Try.ntmps29, List.size_toArray, List.length_cons, List.length_nil, Nat.reduceAdd, Nat.reduceSub, Array.replicate_succ, Array.replicate_zero, List.push_toArray, List.append_toArray, List.nil_append, List.cons_append]
  gi_wp2
  gi_loopw [3] (fun i wr => ∃ (k : Nat) (v : Int) (cc : Col), k ≤ l.length ∧ i = .int .i64 v ∧ Hid (v = (l.length : Int) - 1 - k) ∧ Keep (fun r => r ≠ b ∧ r ≠ Bn) w wr ∧ Hid (¬ cc.cl b ∧ ¬ cc.cl Bn) ∧ J cc (Dn l.length k) wr) (fun i _ => (intOf i + 1).toNat)
  case atStart => exact ⟨0, _, c0, by omega, rfl, Lib.hid (by omega), Keep.of_same hW _, ⟨hros b (.inr (.inl rfl)), hros Bn (.inr (.inr rfl))⟩, h0⟩
  case round =>
    obtain ⟨k, v, cc, hk, rfl, hv, hw, hcc, hj⟩ := hrel
    by_cases hlt : k < l.length
    · obtain ⟨i, rfl⟩ : ∃ i : Nat, v = i := ⟨v.toNat, by have := hv.out; omega⟩
      have hi : i < l.length := by have := hv.out; omega
      have hie : l.length - 1 - k = i := by have := hv.out; omega
      have HIE := Lib.hid hie
      clear hie
      have g1 := (hw.cell (p := ⟨b, o + i, none⟩) hb (fun h => h.1 rfl)).trans (hc i hi)
      have g2 := (hw.cell (p := ⟨Bn, 0, none⟩) hBl (fun h => h.2 rfl)).trans hBn
      have hbl : b < wr.heap.size := Nat.lt_of_lt_of_le hb hw.size
      have hBl' : Bn < wr.heap.size := Nat.lt_of_lt_of_le hBl hw.size
      obtain ⟨fn, tmps, assign, bodyc, hy, hR⟩ := hY _ _ i _ hj ⟨k + 1, hlt, by rw [Dn_succ, HIE.out]⟩
      gi_wp2
      refine hR.mono ?_
      rintro e W' ⟨hkp, (⟨rfl, hj'⟩ | ⟨rfl, hjx⟩)⟩
      · have hbw : Keep (fun r => r ≠ b ∧ r ≠ Bn) w W' := hw.then hkp (fun r hr h => ⟨fun e => hcc.out.1 (e ▸ h), fun e => hcc.out.2 (e ▸ h)⟩)
        have hcl : Hid (¬ (cc.by wr.heap.size).cl b ∧ ¬ (cc.by wr.heap.size).cl Bn) := ⟨fun h => h.elim (fun h => by omega) hcc.out.1, fun h => h.elim (fun h => by omega) hcc.out.2⟩
        gi_wp2
        go_roundw
        case rel => exact ⟨k + 1, _, _, by omega, rfl, Lib.hid (by have := hv.out; omega), hbw, hcl, by rw [Dn_succ, HIE.out]; exact hj'⟩
        case measure => simp [intOf]
      · gi_wp2
        refine bodyPost_ret (results_none rfl _ _ _) rfl ?_
        exact ⟨⟨_, rfl⟩, .inr ⟨_, _, ⟨k + 1, hlt, by rw [Dn_succ, HIE.out]⟩, hjx⟩⟩
    · obtain rfl : k = l.length := by omega
      obtain rfl : v = -1 := by have := hv.out; omega
      gi_wp2
      refine bodyPost_end (results_none rfl _ _ _) rfl ?_
      exact ⟨⟨_, rfl⟩, .inl ⟨_, _, rfl, hj⟩⟩

theorem back_t (A : Option Addr) (n c : Nat) (w : World) :
    Calls Try.prog 23 #[.slice A n c] w fun e w' => e = .returned (.func (.func 29) #[] #[.pointer (some ⟨w.heap.size, 0, none⟩)]) ∧ w' = w.alloc (.cells #[.slice A n c] 44) := by
  have hmf : ∀ (fn : Fn) (first cap : Array Value) (w : World), (Instr.makeFunc fn first cap).run Try.prog w = .ok (.func fn first cap) w := fun _ _ _ _ => rfl
  go_enter Try.func23, Try.ntmps23
  go_wp2
  go_ret
  exact ⟨rfl, rfl⟩
end Go.Proofs.Ytoeigfkllamplaa
