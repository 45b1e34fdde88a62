/-
  EqualFunc over two lists of records with bytes.Equal. Conditions: they lie as plain data.
-/
import Derived.Test.YtckeopidedoohaaJfw
namespace Go.Proofs.Ytckeopidedoohaa
open Go.RowKit
variable {n₀ : Nat}
attribute [local go_sem] Oper.semAt_some

set_option maxRecDepth 20000 in
set_option maxHeartbeats 4000000 in
theorem eqf_t (A B : Option Addr) (c d : Nat) (a b : List Bs) (w : World) (hl1 : a.length ≤ 140737488355328) (hl2 : b.length ≤ 140737488355328) (h1 : RowsAt n₀ w A a) (h2 : RowsAt n₀ w B b) :
    Calls Try.prog 89 #[.slice A a.length c, .slice B b.length d, .func (.func 90) #[] #[]] w fun e w' => e = .returned (.bool (decide (a = b))) ∧ w' = w := by
  by_cases hab : a.length = b.length
  case neg =>
    have E := Lib.hid (decide_eq_false (show ¬ a = b from fun h => hab (by rw [h])))
    obtain ⟨na, hna⟩ : ∃ n, n = a.length := ⟨_, rfl⟩
    obtain ⟨nb, hnb⟩ : ∃ n, n = b.length := ⟨_, rfl⟩
    rw [← hna, ← hnb] at hab
    rw [← hna] at hl1 ⊢
    rw [← hnb] at hl2 ⊢
    have dn : ((na : Int) != (nb : Int)) = true := bne_iff_ne.2 (by omega)
    clear hna hnb hab h1 h2
    go_enter Try.func89, Try.ntmps89
    go_wp2
    go_ret
    exact ⟨by rw [E.out]; rfl, rfl⟩
  have H1 := Lib.hid h1
  have H2 := Lib.hid h2
  obtain ⟨n, hn⟩ : ∃ n, n = a.length := ⟨_, rfl⟩
  have hnb : n = b.length := by omega
  rw [← hn, ← hnb]
  have HN := Lib.hid (And.intro hn hnb)
  have hnl : n ≤ 140737488355328 := by omega
  clear h1 h2 hab hl1 hl2 hn hnb
  go_enter Try.func89, Try.ntmps89
  go_wp2_with (fail)
  go_loopw [17] (fun v17 wr => ∃ k : Nat, k ≤ n ∧ v17 = .int .i64 k ∧ Hid (a.take k = b.take k) ∧ wr = w) (fun v17 _ => n - (intOf v17).toNat)
  case atStart => exact ⟨0, by omega, rfl, Lib.hid rfl, rfl⟩
  case round =>
    obtain ⟨k, hk, rfl, HT, hwr⟩ := hrel
    have hwr := hwr.symm
    subst hwr
    by_cases hlt : k < n
    case neg =>
      obtain rfl : k = n := by omega
      have E := Lib.hid (decide_eq_true (show a = b by
        have h := HT.out
        have h1 := HN.out.1
        have h2 := HN.out.2
        rw [List.take_of_length_le (by omega), List.take_of_length_le (by omega)] at h
        exact h))
      go_wp2
      go_ret
      exact ⟨by rw [E.out]; rfl, rfl⟩
    case pos =>
      have hka : k < a.length := by rw [← HN.out.1]; exact hlt
      have hkb : k < b.length := by rw [← HN.out.2]; exact hlt
      obtain ⟨ba, oa, rfl, la, ca⟩ := H1.out.get (by omega)
      obtain ⟨bb, ob, rfl, lb, cb⟩ := H2.out.get (by omega)
      obtain ⟨A1, c1, z1, -, s1⟩ := ca k hka
      obtain ⟨A2, c2, z2, -, s2⟩ := cb k hkb
      obtain ⟨x, hx⟩ : ∃ x, x = a.getD k [] := ⟨_, rfl⟩
      obtain ⟨y, hy⟩ : ∃ y, y = b.getD k [] := ⟨_, rfl⟩
      rw [← hx] at z1 s1
      rw [← hy] at z2 s2
      have HXY := Lib.hid (And.intro hx hy)
      have K := equal_t A1 A2 c1 c2 x y w s1 s2
      obtain ⟨nx, hnx⟩ : ∃ m, m = x.length := ⟨_, rfl⟩
      obtain ⟨ny, hny⟩ : ∃ m, m = y.length := ⟨_, rfl⟩
      rw [← hnx] at z1 K
      rw [← hny] at z2 K
      have k0 : (0 : Int) ≤ (k : Int) := by omega
      have k1 : (k : Int) < (n : Int) := by omega
      clear ca cb s1 s2 hx hy hnx hny
      by_cases hxy : x = y
      case pos =>
        have hst := take_eq_snoc hka hkb HT.out (by rw [← HXY.out.1, ← HXY.out.2]; exact hxy)
        rw [decide_eq_true hxy] at K
        have HST := Lib.hid hst
        clear hst hxy
        go_wp2_with (fail)
        go_at_call 90
        refine K.mono ?_
        rintro e w2 ⟨rfl, hw2⟩
        have hw2 := hw2.symm
        subst hw2
        go_wp2_with (fail)
        go_roundw
        case rel => exact ⟨k + 1, by omega, by go_num, Lib.hid HST.out, by trivial⟩
        case measure => simp [intOf] <;> omega
      case neg =>
        have E := Lib.hid (decide_eq_false (show ¬ a = b from fun h => hxy (by rw [HXY.out.1, HXY.out.2, h])))
        rw [decide_eq_false hxy] at K
        clear hxy
        go_wp2_with (fail)
        go_at_call 90
        refine K.mono ?_
        rintro e w2 ⟨rfl, hw2⟩
        have hw2 := hw2.symm
        subst hw2
        go_wp2
        go_ret
        exact ⟨by rw [E.out]; rfl, rfl⟩
end Go.Proofs.Ytckeopidedoohaa
