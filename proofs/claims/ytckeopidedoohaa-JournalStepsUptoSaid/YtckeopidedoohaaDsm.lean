/-
  Whether two disks are equal, and whether a disk is small. Conditions: the disks lie as plain data.
-/
import Derived.Test.YtckeopidedoohaaDnw
namespace Go.Proofs.Ytckeopidedoohaa
open Go.RowKit
variable {n₀ : Nat}
attribute [local go_sem] Oper.semAt_some

theorem conv_bs {w : World} {A : Option Addr} {bs : Bs} (h : BsAt n₀ w A bs) (c : Nat) : (convert 35 9 (.slice A bs.length c)).run Try.prog w = .ok (.string ⟨bs.toArray⟩) w := by
  cases bs with
  | nil =>
    show (convert 35 9 (.slice A 0 c)).run Try.prog w = _
    rw [run_convert_bytes_string w 35 9 5 A 0 c Try.underlying35 Try.underlying5 Try.underlying9]
    cases A <;> simp [Conv.bytesToString, loadCells]
    all_goals rfl
  | cons x xs =>
    obtain ⟨b, o, rfl, _, hc⟩ := h (by simp)
    have hr := run_convert_bytes_arg (P := Try.prog) w 35 5 Try.underlying35 Try.underlying5 b o (x :: xs).length c ((x :: xs).map fun y => (y.toNat : Int)) (by simp) (fun i hi => by
      rw [hc i hi]
      unfold u8v
      have e : ((x :: xs).map fun y => (y.toNat : Int)).getD i 0 = (((x :: xs).getD i 0).toNat : Int) := by
        rw [List.getD_eq_getElem?_getD, List.getD_eq_getElem?_getD, List.getElem?_map, List.getElem?_eq_getElem hi]
        rfl
      rw [e]) 9 Try.underlying9
    have e : strOfNums ((x :: xs).map fun y => (y.toNat : Int)) = ⟨(x :: xs).toArray⟩ := by
      unfold strOfNums
      rw [List.map_map]
      have : ((fun n : Int => UInt8.ofNat n.toNat) ∘ fun y : UInt8 => (y.toNat : Int)) = id := by
        funext y
        simp
      rw [this, List.map_id]
    rw [hr, e]
theorem str_eq {x y : Bs} {s t : ByteArray} (hs : s = ⟨x.toArray⟩) (ht : t = ⟨y.toArray⟩) : (s.toList == t.toList) = decide (x = y) := by
  rw [hs, ht, ByteArray.toList_mk, ByteArray.toList_mk]
  by_cases h : x = y
  · simp [h]
  · rw [decide_eq_false h]
    exact beq_eq_false_iff_ne.2 h
theorem list_ext_getD {α : Type} {xs ys : List α} (d : α) (hl : xs.length = ys.length) (h : ∀ i, i < xs.length → xs.getD i d = ys.getD i d) : xs = ys := by
  refine List.ext_getElem hl fun i h1 h2 => ?_
  have := h i h1
  simpa [List.getD, h1, h2] using this
theorem wr_ext {x y : Wr} (h1 : x.at_ = y.at_) (h2 : x.data = y.data) : x = y := by
  cases x
  cases y
  simp_all
open Classical in
noncomputable def sameD (a b : Dk) : Bool := decide (a = b)
open Classical in
theorem same_no {a b : Dk} (h : a ≠ b) : sameD a b = false := decide_eq_false h
open Classical in
theorem same_yes {a b : Dk} (h : a = b) : sameD a b = true := decide_eq_true h

set_option maxRecDepth 20000 in
set_option maxHeartbeats 8000000 in
theorem same_t (SA PA SB PB : Option Addr) (sc pc sd pd na ma nb mb : Nat) (a b : Dk) (w : World) (hna : na = a.secs.length) (hma : ma = a.pend.length) (hnb : nb = b.secs.length) (hmb : mb = b.pend.length) (hl1 : na ≤ 140737488355328) (hl2 : ma ≤ 140737488355328) (hl3 : nb ≤ 140737488355328) (hl4 : mb ≤ 140737488355328)
    (h1 : RowsAt n₀ w SA a.secs) (h2 : WrsAt n₀ w PA a.pend) (h3 : RowsAt n₀ w SB b.secs) (h4 : WrsAt n₀ w PB b.pend) :
    Calls Try.prog 27 #[.agg #[.slice SA na sc, .slice PA ma pc, .int .i64 a.left, .bool a.stop], .agg #[.slice SB nb sd, .slice PB mb pd, .int .i64 b.left, .bool b.stop]] w fun e w' => e = .returned (.bool (sameD a b)) ∧ Below w.heap.size w w' := by
  obtain ⟨sa, pa, la, ta⟩ := a
  obtain ⟨sb, pb, lb, tb⟩ := b
  dsimp only at *
  have HBx : Below w.heap.size w ((w.alloc (.cells #[.slice SA na sc, .slice PA ma pc, .int .i64 la, .bool ta] 25)).alloc (.cells #[.slice SB nb sd, .slice PB mb pd, .int .i64 lb, .bool tb] 25)) := ((Below.refl _ w).alloc (Nat.le_refl _) _).alloc (by simp) _
  have b0 : Blk ((w.alloc (.cells #[.slice SA na sc, .slice PA ma pc, .int .i64 la, .bool ta] 25)).alloc (.cells #[.slice SB nb sd, .slice PB mb pd, .int .i64 lb, .bool tb] 25)) w.heap.size 25 #[.slice SA na sc, .slice PA ma pc, .int .i64 la, .bool ta] := (Blk.new w 25 _).alloc _
  have b1 : Blk ((w.alloc (.cells #[.slice SA na sc, .slice PA ma pc, .int .i64 la, .bool ta] 25)).alloc (.cells #[.slice SB nb sd, .slice PB mb pd, .int .i64 lb, .bool tb] 25)) (w.heap.size + 1) 25 #[.slice SB nb sd, .slice PB mb pd, .int .i64 lb, .bool tb] := Blk.newAt (by simp) 25 _
  have HNA := Lib.hid hna
  have HMA := Lib.hid hma
  have HNB := Lib.hid hnb
  have HMB := Lib.hid hmb
  clear hna hma hnb hmb
  by_cases c1 : na = nb
  case neg =>
    have d1 : ((na : Int) != nb) = true := bne_iff_ne.2 (by omega)
    have E := Lib.hid (same_no (a := ⟨sa, pa, la, ta⟩) (b := ⟨sb, pb, lb, tb⟩) (fun h => c1 (by rw [HNA.out, HNB.out]; injection h with h; rw [h])))
    clear c1
    go_enter Try.func27, Try.ntmps27
    go_wp2
    go_ret
    exact ⟨by rw [E.out]; rfl, HBx⟩
  subst c1
  by_cases c2 : ma = mb
  case neg =>
    have d1 : ((ma : Int) != mb) = true := bne_iff_ne.2 (by omega)
    have E := Lib.hid (same_no (a := ⟨sa, pa, la, ta⟩) (b := ⟨sb, pb, lb, tb⟩) (fun h => c2 (by rw [HMA.out, HMB.out]; injection h with _ h; rw [h])))
    clear c2
    go_enter Try.func27, Try.ntmps27
    go_wp2
    go_ret
    exact ⟨by rw [E.out]; rfl, HBx⟩
  subst c2
  by_cases c3 : la = lb
  case neg =>
    have d1 : (la != lb) = true := bne_iff_ne.2 c3
    have E := Lib.hid (same_no (a := ⟨sa, pa, la, ta⟩) (b := ⟨sb, pb, lb, tb⟩) (fun h => c3 (by injection h)))
    clear c3
    go_enter Try.func27, Try.ntmps27
    go_wp2
    go_ret
    exact ⟨by rw [E.out]; rfl, HBx⟩
  subst c3
  by_cases c4 : ta = tb
  case neg =>
    have E := Lib.hid (same_no (a := ⟨sa, pa, la, ta⟩) (b := ⟨sb, pb, la, tb⟩) (fun h => c4 (by injection h)))
    cases ta <;> cases tb <;> first | exact absurd rfl c4 | skip
    all_goals
      clear c4
      go_enter Try.func27, Try.ntmps27
      go_wp2
      go_ret
      exact ⟨by rw [E.out]; rfl, HBx⟩
  subst c4
  go_enter Try.func27, Try.ntmps27
  go_wp2
  go_loopw [5] (fun iv wr => ∃ k : Nat, k ≤ na ∧ iv = .int .i64 k ∧ Hid (∀ j, j < k → sa.getD j [] = sb.getD j []) ∧ Below ((w.alloc (.cells #[.slice SA na sc, .slice PA ma pc, .int .i64 la, .bool ta] 25)).alloc (.cells #[.slice SB na sd, .slice PB ma pd, .int .i64 la, .bool ta] 25)).heap.size ((w.alloc (.cells #[.slice SA na sc, .slice PA ma pc, .int .i64 la, .bool ta] 25)).alloc (.cells #[.slice SB na sd, .slice PB ma pd, .int .i64 la, .bool ta] 25)) wr) (fun iv _ => na - (intOf iv).toNat)
  case atStart => exact ⟨0, by omega, rfl, Lib.hid (fun j hj => by omega), Below.refl _ _⟩
  case round =>
    obtain ⟨k, hk, rfl, hT, hwr⟩ := hrel
    have x0 := b0.below hwr b0.lt
    have x1 := b1.below hwr b1.lt
    have q0 := x0.cell 0
    have q1 := x0.cell 1
    have q2 := x1.cell 0
    have q3 := x1.cell 1
    simp only [List.getElem?_toArray, List.getElem?_cons_zero, List.getElem?_cons_succ] at q0 q1 q2 q3
    have hw1 := HBx.trans (hwr.mono (by simp <;> omega))
    by_cases hlt : k < na
    case pos =>
      obtain ⟨ba, oa, rfl, hba, hca⟩ := (h1.below hw1).get (by rw [← HNA.out]; omega)
      obtain ⟨A1, c1, g1, _, hb1⟩ := hca k (by rw [← HNA.out]; omega)
      obtain ⟨bb, ob, rfl, hbb, hcb⟩ := (h3.below hw1).get (by rw [← HNB.out]; omega)
      obtain ⟨A2, c2, g2, _, hb2⟩ := hcb k (by rw [← HNB.out]; omega)
      have cv1 : (convert 35 9 (.slice A1 (sa.getD k []).length c1)).run Try.prog wr.drew = .ok (.string ⟨(sa.getD k []).toArray⟩) wr.drew := conv_bs (w := wr.drew) (hb1.below (Below.drew (Below.refl wr.heap.size wr))) c1
      have cv2 : (convert 35 9 (.slice A2 (sb.getD k []).length c2)).run Try.prog wr.drew = .ok (.string ⟨(sb.getD k []).toArray⟩) wr.drew := conv_bs (w := wr.drew) (hb2.below (Below.drew (Below.refl wr.heap.size wr))) c2
      obtain ⟨s1, hs1⟩ : ∃ s, s = (⟨(sa.getD k []).toArray⟩ : ByteArray) := ⟨_, rfl⟩
      obtain ⟨s2, hs2⟩ : ∃ s, s = (⟨(sb.getD k []).toArray⟩ : ByteArray) := ⟨_, rfl⟩
      rw [← hs1] at cv1
      rw [← hs2] at cv2
      have hcmp := str_eq hs1 hs2
      obtain ⟨n1, hn1⟩ : ∃ n, n = (sa.getD k []).length := ⟨_, rfl⟩
      obtain ⟨n2, hn2⟩ : ∃ n, n = (sb.getD k []).length := ⟨_, rfl⟩
      rw [← hn1] at g1 cv1
      rw [← hn2] at g2 cv2
      have CV1 := Lib.hid cv1
      have CV2 := Lib.hid cv2
      clear hca hcb hb1 hb2 hs1 hs2 hn1 hn2 cv1 cv2
      by_cases hq : sa.getD k [] = sb.getD k []
      · have hc : (s1.toList == s2.toList) = true := by rw [hcmp]; exact decide_eq_true hq
        have HQ := Lib.hid hq
        clear hcmp hq
        go_wp2_with (fail)
        refine wp_region_held_drew (S := (fun W => W.cell? ⟨w.heap.size, 0, none⟩ = some (.slice (some ⟨ba, oa, none⟩) na sc) ∧ W.cell? ⟨w.heap.size + 1, 0, none⟩ = some (.slice (some ⟨bb, ob, none⟩) na sd) ∧ W.cell? ⟨ba, oa + k, none⟩ = some (.slice A1 n1 c1) ∧ W.cell? ⟨bb, ob + k, none⟩ = some (.slice A2 n2 c2) ∧ (convert 35 9 (.slice A1 n1 c1)).run Try.prog W = .ok (.string s1) W ∧ (convert 35 9 (.slice A2 n2 c2)).run Try.prog W = .ok (.string s2) W)) (by kernel_rfl) ?_ (fun hHeld => ?_)
        · exact ⟨q0, q2, g1, g2, CV1.out, CV2.out⟩
        try dsimp only at hHeld
        refine wpAnyH_take (i := 0) (oi := { dst := some 44, op := Op.fieldAddr 25 (Operand.tmp 2) 0, type := 0, pos := "ref.go:119", after := #[], guard := none }) (v := ?_) rfl (by kernel_rfl) (by kernel_rfl) (by kernel_rfl) (fun _ _ _ h => h) (Or.inl ⟨by rfl, ?_⟩) (by assumption) ?_
        rotate_left
        · intro wS hSw; go_split_ands; go_simp; first | done | with_reducible rfl
        simp only [Act.put, List.setIfInBounds_toArray, List.set_cons_zero, List.set_cons_succ]
        refine wpAnyH_take (i := 1) (oi := { dst := some 45, op := Op.load 22 (Operand.tmp 44), type := 22, pos := "ref.go:119", after := #[{ on := 0, ground := Ground.data }], guard := none }) (v := ?_) rfl (by kernel_rfl) (by kernel_rfl) (by kernel_rfl) (fun _ _ _ h => h) (Or.inl ⟨by rfl, ?_⟩) (by assumption) ?_
        rotate_left
        · intro wS hSw; go_split_ands; go_simp; first | done | with_reducible rfl
        simp only [Act.put, List.setIfInBounds_toArray, List.set_cons_zero, List.set_cons_succ]
        refine wpAnyH_take (i := 2) (oi := { dst := some 46, op := Op.move (Operand.tmp 5), type := 3, pos := "ref.go:119", after := #[], guard := none }) (v := ?_) rfl (by kernel_rfl) (by kernel_rfl) (by kernel_rfl) (fun _ _ _ h => h) (Or.inl ⟨by rfl, ?_⟩) (by assumption) ?_
        rotate_left
        · intro wS hSw; go_split_ands; go_simp; first | done | with_reducible rfl
        simp only [Act.put, List.setIfInBounds_toArray, List.set_cons_zero, List.set_cons_succ]
        refine wpAnyH_take (i := 3) (oi := { dst := some 47, op := Op.indexAddr 22 (Operand.tmp 45) (Operand.tmp 46), type := 0, pos := "ref.go:119", after := #[{ on := 1, ground := Ground.data }, { on := 2, ground := Ground.data }], guard := none }) (v := ?_) rfl (by kernel_rfl) (by kernel_rfl) (by kernel_rfl) (fun _ _ _ h => h) (Or.inl ⟨by rfl, ?_⟩) (by assumption) ?_
        rotate_left
        · intro wS hSw; go_split_ands; go_simp; first | done | with_reducible rfl
        simp only [Act.put, List.setIfInBounds_toArray, List.set_cons_zero, List.set_cons_succ]
        refine wpAnyH_take (i := 4) (oi := { dst := some 48, op := Op.load 35 (Operand.tmp 47), type := 35, pos := "ref.go:119", after := #[{ on := 3, ground := Ground.data }], guard := none }) (v := ?_) rfl (by kernel_rfl) (by kernel_rfl) (by kernel_rfl) (fun _ _ _ h => h) (Or.inl ⟨by rfl, ?_⟩) (by assumption) ?_
        rotate_left
        · intro wS hSw; go_split_ands; go_simp; first | done | with_reducible rfl
        simp only [Act.put, List.setIfInBounds_toArray, List.set_cons_zero, List.set_cons_succ]
        refine wpAnyH_take (i := 5) (oi := { dst := some 49, op := Op.convert 35 9 (Operand.tmp 48), type := 9, pos := "ref.go:119", after := #[{ on := 4, ground := Ground.data }], guard := none }) (v := ?_) rfl (by kernel_rfl) (by kernel_rfl) (by kernel_rfl) (fun _ _ _ h => h) (Or.inl ⟨by rfl, ?_⟩) (by assumption) ?_
        rotate_left
        · intro wS hSw; go_split_ands; go_simp; first | done | with_reducible rfl
        simp only [Act.put, List.setIfInBounds_toArray, List.set_cons_zero, List.set_cons_succ]
        refine wpAnyH_take (i := 6) (oi := { dst := some 50, op := Op.fieldAddr 25 (Operand.tmp 3) 0, type := 0, pos := "ref.go:119", after := #[], guard := none }) (v := ?_) rfl (by kernel_rfl) (by kernel_rfl) (by kernel_rfl) (fun _ _ _ h => h) (Or.inl ⟨by rfl, ?_⟩) (by assumption) ?_
        rotate_left
        · intro wS hSw; go_split_ands; go_simp; first | done | with_reducible rfl
        simp only [Act.put, List.setIfInBounds_toArray, List.set_cons_zero, List.set_cons_succ]
        refine wpAnyH_take (i := 7) (oi := { dst := some 51, op := Op.load 22 (Operand.tmp 50), type := 22, pos := "ref.go:119", after := #[{ on := 6, ground := Ground.data }], guard := none }) (v := ?_) rfl (by kernel_rfl) (by kernel_rfl) (by kernel_rfl) (fun _ _ _ h => h) (Or.inl ⟨by rfl, ?_⟩) (by assumption) ?_
        rotate_left
        · intro wS hSw; go_split_ands; go_simp; first | done | with_reducible rfl
        simp only [Act.put, List.setIfInBounds_toArray, List.set_cons_zero, List.set_cons_succ]
        refine wpAnyH_take (i := 8) (oi := { dst := some 52, op := Op.move (Operand.tmp 5), type := 3, pos := "ref.go:119", after := #[], guard := none }) (v := ?_) rfl (by kernel_rfl) (by kernel_rfl) (by kernel_rfl) (fun _ _ _ h => h) (Or.inl ⟨by rfl, ?_⟩) (by assumption) ?_
        rotate_left
        · intro wS hSw; go_split_ands; go_simp; first | done | with_reducible rfl
        simp only [Act.put, List.setIfInBounds_toArray, List.set_cons_zero, List.set_cons_succ]
        refine wpAnyH_take (i := 9) (oi := { dst := some 53, op := Op.indexAddr 22 (Operand.tmp 51) (Operand.tmp 52), type := 0, pos := "ref.go:119", after := #[{ on := 7, ground := Ground.data }, { on := 8, ground := Ground.data }], guard := none }) (v := ?_) rfl (by kernel_rfl) (by kernel_rfl) (by kernel_rfl) (fun _ _ _ h => h) (Or.inl ⟨by rfl, ?_⟩) (by assumption) ?_
        rotate_left
        · intro wS hSw; go_split_ands; go_simp; first | done | with_reducible rfl
        simp only [Act.put, List.setIfInBounds_toArray, List.set_cons_zero, List.set_cons_succ]
        refine wpAnyH_take (i := 10) (oi := { dst := some 54, op := Op.load 35 (Operand.tmp 53), type := 35, pos := "ref.go:119", after := #[{ on := 9, ground := Ground.data }], guard := none }) (v := ?_) rfl (by kernel_rfl) (by kernel_rfl) (by kernel_rfl) (fun _ _ _ h => h) (Or.inl ⟨by rfl, ?_⟩) (by assumption) ?_
        rotate_left
        · intro wS hSw; go_split_ands; go_simp; first | done | with_reducible rfl
        simp only [Act.put, List.setIfInBounds_toArray, List.set_cons_zero, List.set_cons_succ]
        refine wpAnyH_take (i := 11) (oi := { dst := some 55, op := Op.convert 35 9 (Operand.tmp 54), type := 9, pos := "ref.go:119", after := #[{ on := 10, ground := Ground.data }], guard := none }) (v := ?_) rfl (by kernel_rfl) (by kernel_rfl) (by kernel_rfl) (fun _ _ _ h => h) (Or.inl ⟨by rfl, ?_⟩) (by assumption) ?_
        rotate_left
        · intro wS hSw; go_split_ands; go_simp; first | done | with_reducible rfl
        simp only [Act.put, List.setIfInBounds_toArray, List.set_cons_zero, List.set_cons_succ]
        refine wpAnyH_take (i := 12) (oi := { dst := some 56, op := Op.binOp BinOp.neq 9 (Operand.tmp 49) (Operand.tmp 55) 9, type := 4, pos := "ref.go:119", after := #[{ on := 5, ground := Ground.data }, { on := 11, ground := Ground.data }], guard := none }) (v := ?_) rfl (by kernel_rfl) (by kernel_rfl) (by kernel_rfl) (fun _ _ _ h => h) (Or.inl ⟨by rfl, ?_⟩) (by assumption) ?_
        rotate_left
        · intro wS hSw; go_split_ands; go_simp; first | done | with_reducible rfl
        simp only [Act.put, List.setIfInBounds_toArray, List.set_cons_zero, List.set_cons_succ]
        refine wpAnyH_done (by kernel_rfl) ?_ _
        clear hHeld
        go_wp2_with (fail)
        go_roundw
        case rel => exact ⟨k + 1, by omega, by go_num, Lib.hid (fun j hj => by
          rcases Nat.lt_or_ge j k with h' | h'
          · exact hT.out j h'
          · obtain rfl : j = k := by omega
            exact HQ.out), hwr.drew⟩
        case measure => simp [intOf]; omega
      · have hc : (s1.toList == s2.toList) = false := by rw [hcmp]; exact decide_eq_false hq
        have E := Lib.hid (same_no (a := ⟨sa, pa, la, ta⟩) (b := ⟨sb, pb, la, ta⟩) (fun h => hq (by injection h with h; rw [h])))
        clear hcmp hq
        go_wp2_with (fail)
        refine wp_region_held_drew (S := (fun W => W.cell? ⟨w.heap.size, 0, none⟩ = some (.slice (some ⟨ba, oa, none⟩) na sc) ∧ W.cell? ⟨w.heap.size + 1, 0, none⟩ = some (.slice (some ⟨bb, ob, none⟩) na sd) ∧ W.cell? ⟨ba, oa + k, none⟩ = some (.slice A1 n1 c1) ∧ W.cell? ⟨bb, ob + k, none⟩ = some (.slice A2 n2 c2) ∧ (convert 35 9 (.slice A1 n1 c1)).run Try.prog W = .ok (.string s1) W ∧ (convert 35 9 (.slice A2 n2 c2)).run Try.prog W = .ok (.string s2) W)) (by kernel_rfl) ?_ (fun hHeld => ?_)
        · exact ⟨q0, q2, g1, g2, CV1.out, CV2.out⟩
        try dsimp only at hHeld
        refine wpAnyH_take (i := 0) (oi := { dst := some 44, op := Op.fieldAddr 25 (Operand.tmp 2) 0, type := 0, pos := "ref.go:119", after := #[], guard := none }) (v := ?_) rfl (by kernel_rfl) (by kernel_rfl) (by kernel_rfl) (fun _ _ _ h => h) (Or.inl ⟨by rfl, ?_⟩) (by assumption) ?_
        rotate_left
        · intro wS hSw; go_split_ands; go_simp; first | done | with_reducible rfl
        simp only [Act.put, List.setIfInBounds_toArray, List.set_cons_zero, List.set_cons_succ]
        refine wpAnyH_take (i := 1) (oi := { dst := some 45, op := Op.load 22 (Operand.tmp 44), type := 22, pos := "ref.go:119", after := #[{ on := 0, ground := Ground.data }], guard := none }) (v := ?_) rfl (by kernel_rfl) (by kernel_rfl) (by kernel_rfl) (fun _ _ _ h => h) (Or.inl ⟨by rfl, ?_⟩) (by assumption) ?_
        rotate_left
        · intro wS hSw; go_split_ands; go_simp; first | done | with_reducible rfl
        simp only [Act.put, List.setIfInBounds_toArray, List.set_cons_zero, List.set_cons_succ]
        refine wpAnyH_take (i := 2) (oi := { dst := some 46, op := Op.move (Operand.tmp 5), type := 3, pos := "ref.go:119", after := #[], guard := none }) (v := ?_) rfl (by kernel_rfl) (by kernel_rfl) (by kernel_rfl) (fun _ _ _ h => h) (Or.inl ⟨by rfl, ?_⟩) (by assumption) ?_
        rotate_left
        · intro wS hSw; go_split_ands; go_simp; first | done | with_reducible rfl
        simp only [Act.put, List.setIfInBounds_toArray, List.set_cons_zero, List.set_cons_succ]
        refine wpAnyH_take (i := 3) (oi := { dst := some 47, op := Op.indexAddr 22 (Operand.tmp 45) (Operand.tmp 46), type := 0, pos := "ref.go:119", after := #[{ on := 1, ground := Ground.data }, { on := 2, ground := Ground.data }], guard := none }) (v := ?_) rfl (by kernel_rfl) (by kernel_rfl) (by kernel_rfl) (fun _ _ _ h => h) (Or.inl ⟨by rfl, ?_⟩) (by assumption) ?_
        rotate_left
        · intro wS hSw; go_split_ands; go_simp; first | done | with_reducible rfl
        simp only [Act.put, List.setIfInBounds_toArray, List.set_cons_zero, List.set_cons_succ]
        refine wpAnyH_take (i := 4) (oi := { dst := some 48, op := Op.load 35 (Operand.tmp 47), type := 35, pos := "ref.go:119", after := #[{ on := 3, ground := Ground.data }], guard := none }) (v := ?_) rfl (by kernel_rfl) (by kernel_rfl) (by kernel_rfl) (fun _ _ _ h => h) (Or.inl ⟨by rfl, ?_⟩) (by assumption) ?_
        rotate_left
        · intro wS hSw; go_split_ands; go_simp; first | done | with_reducible rfl
        simp only [Act.put, List.setIfInBounds_toArray, List.set_cons_zero, List.set_cons_succ]
        refine wpAnyH_take (i := 5) (oi := { dst := some 49, op := Op.convert 35 9 (Operand.tmp 48), type := 9, pos := "ref.go:119", after := #[{ on := 4, ground := Ground.data }], guard := none }) (v := ?_) rfl (by kernel_rfl) (by kernel_rfl) (by kernel_rfl) (fun _ _ _ h => h) (Or.inl ⟨by rfl, ?_⟩) (by assumption) ?_
        rotate_left
        · intro wS hSw; go_split_ands; go_simp; first | done | with_reducible rfl
        simp only [Act.put, List.setIfInBounds_toArray, List.set_cons_zero, List.set_cons_succ]
        refine wpAnyH_take (i := 6) (oi := { dst := some 50, op := Op.fieldAddr 25 (Operand.tmp 3) 0, type := 0, pos := "ref.go:119", after := #[], guard := none }) (v := ?_) rfl (by kernel_rfl) (by kernel_rfl) (by kernel_rfl) (fun _ _ _ h => h) (Or.inl ⟨by rfl, ?_⟩) (by assumption) ?_
        rotate_left
        · intro wS hSw; go_split_ands; go_simp; first | done | with_reducible rfl
        simp only [Act.put, List.setIfInBounds_toArray, List.set_cons_zero, List.set_cons_succ]
        refine wpAnyH_take (i := 7) (oi := { dst := some 51, op := Op.load 22 (Operand.tmp 50), type := 22, pos := "ref.go:119", after := #[{ on := 6, ground := Ground.data }], guard := none }) (v := ?_) rfl (by kernel_rfl) (by kernel_rfl) (by kernel_rfl) (fun _ _ _ h => h) (Or.inl ⟨by rfl, ?_⟩) (by assumption) ?_
        rotate_left
        · intro wS hSw; go_split_ands; go_simp; first | done | with_reducible rfl
        simp only [Act.put, List.setIfInBounds_toArray, List.set_cons_zero, List.set_cons_succ]
        refine wpAnyH_take (i := 8) (oi := { dst := some 52, op := Op.move (Operand.tmp 5), type := 3, pos := "ref.go:119", after := #[], guard := none }) (v := ?_) rfl (by kernel_rfl) (by kernel_rfl) (by kernel_rfl) (fun _ _ _ h => h) (Or.inl ⟨by rfl, ?_⟩) (by assumption) ?_
        rotate_left
        · intro wS hSw; go_split_ands; go_simp; first | done | with_reducible rfl
        simp only [Act.put, List.setIfInBounds_toArray, List.set_cons_zero, List.set_cons_succ]
        refine wpAnyH_take (i := 9) (oi := { dst := some 53, op := Op.indexAddr 22 (Operand.tmp 51) (Operand.tmp 52), type := 0, pos := "ref.go:119", after := #[{ on := 7, ground := Ground.data }, { on := 8, ground := Ground.data }], guard := none }) (v := ?_) rfl (by kernel_rfl) (by kernel_rfl) (by kernel_rfl) (fun _ _ _ h => h) (Or.inl ⟨by rfl, ?_⟩) (by assumption) ?_
        rotate_left
        · intro wS hSw; go_split_ands; go_simp; first | done | with_reducible rfl
        simp only [Act.put, List.setIfInBounds_toArray, List.set_cons_zero, List.set_cons_succ]
        refine wpAnyH_take (i := 10) (oi := { dst := some 54, op := Op.load 35 (Operand.tmp 53), type := 35, pos := "ref.go:119", after := #[{ on := 9, ground := Ground.data }], guard := none }) (v := ?_) rfl (by kernel_rfl) (by kernel_rfl) (by kernel_rfl) (fun _ _ _ h => h) (Or.inl ⟨by rfl, ?_⟩) (by assumption) ?_
        rotate_left
        · intro wS hSw; go_split_ands; go_simp; first | done | with_reducible rfl
        simp only [Act.put, List.setIfInBounds_toArray, List.set_cons_zero, List.set_cons_succ]
        refine wpAnyH_take (i := 11) (oi := { dst := some 55, op := Op.convert 35 9 (Operand.tmp 54), type := 9, pos := "ref.go:119", after := #[{ on := 10, ground := Ground.data }], guard := none }) (v := ?_) rfl (by kernel_rfl) (by kernel_rfl) (by kernel_rfl) (fun _ _ _ h => h) (Or.inl ⟨by rfl, ?_⟩) (by assumption) ?_
        rotate_left
        · intro wS hSw; go_split_ands; go_simp; first | done | with_reducible rfl
        simp only [Act.put, List.setIfInBounds_toArray, List.set_cons_zero, List.set_cons_succ]
        refine wpAnyH_take (i := 12) (oi := { dst := some 56, op := Op.binOp BinOp.neq 9 (Operand.tmp 49) (Operand.tmp 55) 9, type := 4, pos := "ref.go:119", after := #[{ on := 5, ground := Ground.data }, { on := 11, ground := Ground.data }], guard := none }) (v := ?_) rfl (by kernel_rfl) (by kernel_rfl) (by kernel_rfl) (fun _ _ _ h => h) (Or.inl ⟨by rfl, ?_⟩) (by assumption) ?_
        rotate_left
        · intro wS hSw; go_split_ands; go_simp; first | done | with_reducible rfl
        simp only [Act.put, List.setIfInBounds_toArray, List.set_cons_zero, List.set_cons_succ]
        refine wpAnyH_done (by kernel_rfl) ?_ _
        clear hHeld
        go_wp2_with (fail)
        go_ret
        exact ⟨by rw [E.out]; rfl, hw1.drew⟩
    case neg =>
      obtain rfl : k = na := by omega
      have HS := Lib.hid (show sa = sb from list_ext_getD [] (by rw [← HNA.out, ← HNB.out]) (fun i hi => hT.out i (by rw [HNA.out]; exact hi)))
      obtain ⟨wo, rfl⟩ : ∃ wo : World, wo = wr := ⟨_, rfl⟩
      clear hlt hT q0 q1 q2 q3 b0 b1
      have x0 := x0
      have q0 := x0.cell 0
      have q1 := x0.cell 1
      have q2 := x1.cell 0
      have q3 := x1.cell 1
      simp only [List.getElem?_toArray, List.getElem?_cons_zero, List.getElem?_cons_succ] at q0 q1 q2 q3
      have lx0 := x0.lt
      have lx1 := x1.lt
      go_wp2_with (fail)
      go_loopw [6] (fun iv wx => ∃ k : Nat, k ≤ ma ∧ iv = .int .i64 k ∧ Hid (∀ j, j < k → pa.getD j wr0 = pb.getD j wr0) ∧ Below wo.heap.size wo wx) (fun iv _ => ma - (intOf iv).toNat)
      case atStart => exact ⟨0, by omega, rfl, Lib.hid (fun j hj => by omega), Below.refl _ _⟩
      case round =>
        obtain ⟨j, hj, rfl, hT, hwx⟩ := hrel
        replace x0 := x0.below hwx lx0
        replace x1 := x1.below hwx lx1
        clear q0 q1 q2 q3
        have q0 := x0.cell 0
        have q1 := x0.cell 1
        have q2 := x1.cell 0
        have q3 := x1.cell 1
        simp only [List.getElem?_toArray, List.getElem?_cons_zero, List.getElem?_cons_succ] at q0 q1 q2 q3
        have hw2 := hw1.trans (hwx.mono hw1.size)
        by_cases hlt : j < ma
        case neg =>
          obtain rfl : j = ma := by omega
          have E := Lib.hid (same_yes (a := ⟨sa, pa, la, ta⟩) (b := ⟨sb, pb, la, ta⟩) (by rw [HS.out, show pa = pb from list_ext_getD wr0 (by rw [← HMA.out, ← HMB.out]) (fun i hi => hT.out i (by rw [HMA.out]; exact hi))]))
          clear hlt
          go_wp2_with (fail)
          go_ret
          exact ⟨by rw [E.out]; rfl, hw2⟩
        obtain ⟨ba, oa, rfl, hba, hca⟩ := (h2.below hw2).get (by rw [← HMA.out]; omega)
        obtain ⟨e1, A1, c1, g1, _, hb1⟩ := hca j (by rw [← HMA.out]; omega)
        obtain ⟨bb, ob, rfl, hbb, hcb⟩ := (h4.below hw2).get (by rw [← HMB.out]; omega)
        obtain ⟨e2, A2, c2, g2, _, hb2⟩ := hcb j (by rw [← HMB.out]; omega)
        obtain ⟨⟨xt, xd⟩, hx⟩ : ∃ x, x = pa.getD j wr0 := ⟨_, rfl⟩
        obtain ⟨⟨yt, yd⟩, hy⟩ : ∃ x, x = pb.getD j wr0 := ⟨_, rfl⟩
        rw [← hx] at e1 g1 hb1
        rw [← hy] at e2 g2 hb2
        dsimp only at e1 g1 hb1 e2 g2 hb2
        have cv1 : (convert 35 9 (.slice A1 xd.length c1)).run Try.prog wr.drew = .ok (.string ⟨xd.toArray⟩) wr.drew := conv_bs (w := wr.drew) (hb1.below (Below.drew (Below.refl wr.heap.size wr))) c1
        have cv2 : (convert 35 9 (.slice A2 yd.length c2)).run Try.prog wr.drew = .ok (.string ⟨yd.toArray⟩) wr.drew := conv_bs (w := wr.drew) (hb2.below (Below.drew (Below.refl wr.heap.size wr))) c2
        obtain ⟨s1, hs1⟩ : ∃ s, s = (⟨xd.toArray⟩ : ByteArray) := ⟨_, rfl⟩
        obtain ⟨s2, hs2⟩ : ∃ s, s = (⟨yd.toArray⟩ : ByteArray) := ⟨_, rfl⟩
        rw [← hs1] at cv1
        rw [← hs2] at cv2
        have hcmp := str_eq hs1 hs2
        obtain ⟨n1, hn1⟩ : ∃ n, n = xd.length := ⟨_, rfl⟩
        obtain ⟨n2, hn2⟩ : ∃ n, n = yd.length := ⟨_, rfl⟩
        rw [← hn1] at g1 cv1
        rw [← hn2] at g2 cv2
        have CV1 := Lib.hid cv1
        have CV2 := Lib.hid cv2
        have HX := Lib.hid hx
        have HY := Lib.hid hy
        have hno : (⟨xt, xd⟩ : Wr) ≠ ⟨yt, yd⟩ → sameD ⟨sa, pa, la, ta⟩ ⟨sb, pb, la, ta⟩ = false := fun hne => same_no (fun h => hne (by rw [HX.out, HY.out]; injection h with _ h; rw [h]))
        have HNO := Lib.hid hno
        clear hca hcb hb1 hb2 hs1 hs2 hn1 hn2 cv1 cv2 hx hy hno
        by_cases hq : xt = yt
        case neg =>
          have dq : (xt != yt) = true := bne_iff_ne.2 hq
          have E := Lib.hid (HNO.out (fun h => hq (by injection h)))
          clear hq hcmp
          go_wp2_with (fail)
          refine wp_region_held_drew (S := (fun W => W.cell? ⟨w.heap.size, 1, none⟩ = some (.slice (some ⟨ba, oa, none⟩) ma pc) ∧ W.cell? ⟨w.heap.size + 1, 1, none⟩ = some (.slice (some ⟨bb, ob, none⟩) ma pd) ∧ W.cell? ⟨ba, oa + j * 2, none⟩ = some (.int .i64 xt) ∧ W.cell? ⟨bb, ob + j * 2, none⟩ = some (.int .i64 yt) ∧ W.cell? ⟨ba, oa + j * 2 + 1, none⟩ = some (.slice A1 n1 c1) ∧ W.cell? ⟨bb, ob + j * 2 + 1, none⟩ = some (.slice A2 n2 c2) ∧ (convert 35 9 (.slice A1 n1 c1)).run Try.prog W = .ok (.string s1) W ∧ (convert 35 9 (.slice A2 n2 c2)).run Try.prog W = .ok (.string s2) W)) (by kernel_rfl) ?_ (fun hHeld => ?_)
          · exact ⟨q1, q3, e1, e2, g1, g2, CV1.out, CV2.out⟩
          try dsimp only at hHeld
          refine wpAnyH_take (i := 0) (oi := { dst := some 64, op := Op.fieldAddr 25 (Operand.tmp 2) 1, type := 0, pos := "ref.go:124", after := #[], guard := none }) (v := ?_) rfl (by kernel_rfl) (by kernel_rfl) (by kernel_rfl) (fun _ _ _ h => h) (Or.inl ⟨by rfl, ?_⟩) (by assumption) ?_
          rotate_left
          · intro wS hSw; go_split_ands; go_simp; first | done | with_reducible rfl
          simp only [Act.put, List.setIfInBounds_toArray, List.set_cons_zero, List.set_cons_succ]
          refine wpAnyH_take (i := 1) (oi := { dst := some 65, op := Op.load 23 (Operand.tmp 64), type := 23, pos := "ref.go:124", after := #[{ on := 0, ground := Ground.data }], guard := none }) (v := ?_) rfl (by kernel_rfl) (by kernel_rfl) (by kernel_rfl) (fun _ _ _ h => h) (Or.inl ⟨by rfl, ?_⟩) (by assumption) ?_
          rotate_left
          · intro wS hSw; go_split_ands; go_simp; first | done | with_reducible rfl
          simp only [Act.put, List.setIfInBounds_toArray, List.set_cons_zero, List.set_cons_succ]
          refine wpAnyH_take (i := 2) (oi := { dst := some 66, op := Op.move (Operand.tmp 6), type := 3, pos := "ref.go:124", after := #[], guard := none }) (v := ?_) rfl (by kernel_rfl) (by kernel_rfl) (by kernel_rfl) (fun _ _ _ h => h) (Or.inl ⟨by rfl, ?_⟩) (by assumption) ?_
          rotate_left
          · intro wS hSw; go_split_ands; go_simp; first | done | with_reducible rfl
          simp only [Act.put, List.setIfInBounds_toArray, List.set_cons_zero, List.set_cons_succ]
          refine wpAnyH_take (i := 3) (oi := { dst := some 67, op := Op.indexAddr 23 (Operand.tmp 65) (Operand.tmp 66), type := 0, pos := "ref.go:124", after := #[{ on := 1, ground := Ground.data }, { on := 2, ground := Ground.data }], guard := none }) (v := ?_) rfl (by kernel_rfl) (by kernel_rfl) (by kernel_rfl) (fun _ _ _ h => h) (Or.inl ⟨by rfl, ?_⟩) (by assumption) ?_
          rotate_left
          · intro wS hSw; go_split_ands; go_simp; first | done | with_reducible rfl
          simp only [Act.put, List.setIfInBounds_toArray, List.set_cons_zero, List.set_cons_succ]
          refine wpAnyH_take (i := 4) (oi := { dst := some 68, op := Op.fieldAddr 90 (Operand.tmp 67) 0, type := 0, pos := "ref.go:124", after := #[{ on := 3, ground := Ground.data }], guard := none }) (v := ?_) rfl (by kernel_rfl) (by kernel_rfl) (by kernel_rfl) (fun _ _ _ h => h) (Or.inl ⟨by rfl, ?_⟩) (by assumption) ?_
          rotate_left
          · intro wS hSw; go_split_ands; go_simp; first | done | with_reducible rfl
          simp only [Act.put, List.setIfInBounds_toArray, List.set_cons_zero, List.set_cons_succ]
          refine wpAnyH_take (i := 5) (oi := { dst := some 69, op := Op.load 3 (Operand.tmp 68), type := 3, pos := "ref.go:124", after := #[{ on := 4, ground := Ground.data }], guard := none }) (v := ?_) rfl (by kernel_rfl) (by kernel_rfl) (by kernel_rfl) (fun _ _ _ h => h) (Or.inl ⟨by rfl, ?_⟩) (by assumption) ?_
          rotate_left
          · intro wS hSw; go_split_ands; go_simp; first | done | with_reducible rfl
          simp only [Act.put, List.setIfInBounds_toArray, List.set_cons_zero, List.set_cons_succ]
          refine wpAnyH_take (i := 6) (oi := { dst := some 70, op := Op.fieldAddr 25 (Operand.tmp 3) 1, type := 0, pos := "ref.go:124", after := #[], guard := none }) (v := ?_) rfl (by kernel_rfl) (by kernel_rfl) (by kernel_rfl) (fun _ _ _ h => h) (Or.inl ⟨by rfl, ?_⟩) (by assumption) ?_
          rotate_left
          · intro wS hSw; go_split_ands; go_simp; first | done | with_reducible rfl
          simp only [Act.put, List.setIfInBounds_toArray, List.set_cons_zero, List.set_cons_succ]
          refine wpAnyH_take (i := 7) (oi := { dst := some 71, op := Op.load 23 (Operand.tmp 70), type := 23, pos := "ref.go:124", after := #[{ on := 6, ground := Ground.data }], guard := none }) (v := ?_) rfl (by kernel_rfl) (by kernel_rfl) (by kernel_rfl) (fun _ _ _ h => h) (Or.inl ⟨by rfl, ?_⟩) (by assumption) ?_
          rotate_left
          · intro wS hSw; go_split_ands; go_simp; first | done | with_reducible rfl
          simp only [Act.put, List.setIfInBounds_toArray, List.set_cons_zero, List.set_cons_succ]
          refine wpAnyH_take (i := 8) (oi := { dst := some 72, op := Op.move (Operand.tmp 6), type := 3, pos := "ref.go:124", after := #[], guard := none }) (v := ?_) rfl (by kernel_rfl) (by kernel_rfl) (by kernel_rfl) (fun _ _ _ h => h) (Or.inl ⟨by rfl, ?_⟩) (by assumption) ?_
          rotate_left
          · intro wS hSw; go_split_ands; go_simp; first | done | with_reducible rfl
          simp only [Act.put, List.setIfInBounds_toArray, List.set_cons_zero, List.set_cons_succ]
          refine wpAnyH_take (i := 9) (oi := { dst := some 73, op := Op.indexAddr 23 (Operand.tmp 71) (Operand.tmp 72), type := 0, pos := "ref.go:124", after := #[{ on := 7, ground := Ground.data }, { on := 8, ground := Ground.data }], guard := none }) (v := ?_) rfl (by kernel_rfl) (by kernel_rfl) (by kernel_rfl) (fun _ _ _ h => h) (Or.inl ⟨by rfl, ?_⟩) (by assumption) ?_
          rotate_left
          · intro wS hSw; go_split_ands; go_simp; first | done | with_reducible rfl
          simp only [Act.put, List.setIfInBounds_toArray, List.set_cons_zero, List.set_cons_succ]
          refine wpAnyH_take (i := 10) (oi := { dst := some 74, op := Op.fieldAddr 90 (Operand.tmp 73) 0, type := 0, pos := "ref.go:124", after := #[{ on := 9, ground := Ground.data }], guard := none }) (v := ?_) rfl (by kernel_rfl) (by kernel_rfl) (by kernel_rfl) (fun _ _ _ h => h) (Or.inl ⟨by rfl, ?_⟩) (by assumption) ?_
          rotate_left
          · intro wS hSw; go_split_ands; go_simp; first | done | with_reducible rfl
          simp only [Act.put, List.setIfInBounds_toArray, List.set_cons_zero, List.set_cons_succ]
          refine wpAnyH_take (i := 11) (oi := { dst := some 75, op := Op.load 3 (Operand.tmp 74), type := 3, pos := "ref.go:124", after := #[{ on := 10, ground := Ground.data }], guard := none }) (v := ?_) rfl (by kernel_rfl) (by kernel_rfl) (by kernel_rfl) (fun _ _ _ h => h) (Or.inl ⟨by rfl, ?_⟩) (by assumption) ?_
          rotate_left
          · intro wS hSw; go_split_ands; go_simp; first | done | with_reducible rfl
          simp only [Act.put, List.setIfInBounds_toArray, List.set_cons_zero, List.set_cons_succ]
          refine wpAnyH_take (i := 12) (oi := { dst := some 76, op := Op.binOp BinOp.neq 3 (Operand.tmp 69) (Operand.tmp 75) 3, type := 4, pos := "ref.go:124", after := #[{ on := 5, ground := Ground.data }, { on := 11, ground := Ground.data }], guard := none }) (v := ?_) rfl (by kernel_rfl) (by kernel_rfl) (by kernel_rfl) (fun _ _ _ h => h) (Or.inl ⟨by rfl, ?_⟩) (by assumption) ?_
          rotate_left
          · intro wS hSw; go_split_ands; go_simp; first | done | with_reducible rfl
          simp only [Act.put, List.setIfInBounds_toArray, List.set_cons_zero, List.set_cons_succ]
          refine wpAnyH_take (i := 13) (oi := { dst := some 77, op := Op.move (Operand.tmp 76), type := 4, pos := "ref.go:124", after := #[{ on := 12, ground := Ground.data }], guard := none }) (v := ?_) rfl (by kernel_rfl) (by kernel_rfl) (by kernel_rfl) (fun _ _ _ h => h) (Or.inl ⟨by rfl, ?_⟩) (by assumption) ?_
          rotate_left
          · intro wS hSw; go_split_ands; go_simp; first | done | with_reducible rfl
          simp only [Act.put, List.setIfInBounds_toArray, List.set_cons_zero, List.set_cons_succ]
          refine wpAnyH_take (i := 14) (oi := { dst := some 78, op := Op.fieldAddr 25 (Operand.tmp 2) 1, type := 0, pos := "ref.go:124", after := #[{ on := 13, ground := Ground.guard }], guard := some (13, false) }) (v := undef) rfl (by kernel_rfl) (by kernel_rfl) (by kernel_rfl) (fun _ _ _ h => h) (Or.inr ⟨by rfl, rfl⟩) (by assumption) ?_
          simp only [Act.put, List.setIfInBounds_toArray, List.set_cons_zero, List.set_cons_succ]
          refine wpAnyH_take (i := 15) (oi := { dst := some 79, op := Op.load 23 (Operand.tmp 78), type := 23, pos := "ref.go:124", after := #[{ on := 14, ground := Ground.data }, { on := 13, ground := Ground.guard }], guard := some (13, false) }) (v := undef) rfl (by kernel_rfl) (by kernel_rfl) (by kernel_rfl) (fun _ _ _ h => h) (Or.inr ⟨by rfl, rfl⟩) (by assumption) ?_
          simp only [Act.put, List.setIfInBounds_toArray, List.set_cons_zero, List.set_cons_succ]
          refine wpAnyH_take (i := 16) (oi := { dst := some 80, op := Op.move (Operand.tmp 6), type := 3, pos := "ref.go:124", after := #[{ on := 13, ground := Ground.guard }], guard := some (13, false) }) (v := undef) rfl (by kernel_rfl) (by kernel_rfl) (by kernel_rfl) (fun _ _ _ h => h) (Or.inr ⟨by rfl, rfl⟩) (by assumption) ?_
          simp only [Act.put, List.setIfInBounds_toArray, List.set_cons_zero, List.set_cons_succ]
          refine wpAnyH_take (i := 17) (oi := { dst := some 81, op := Op.indexAddr 23 (Operand.tmp 79) (Operand.tmp 80), type := 0, pos := "ref.go:124", after := #[{ on := 15, ground := Ground.data }, { on := 16, ground := Ground.data }, { on := 13, ground := Ground.guard }], guard := some (13, false) }) (v := undef) rfl (by kernel_rfl) (by kernel_rfl) (by kernel_rfl) (fun _ _ _ h => h) (Or.inr ⟨by rfl, rfl⟩) (by assumption) ?_
          simp only [Act.put, List.setIfInBounds_toArray, List.set_cons_zero, List.set_cons_succ]
          refine wpAnyH_take (i := 18) (oi := { dst := some 82, op := Op.fieldAddr 90 (Operand.tmp 81) 1, type := 0, pos := "ref.go:124", after := #[{ on := 17, ground := Ground.data }, { on := 13, ground := Ground.guard }], guard := some (13, false) }) (v := undef) rfl (by kernel_rfl) (by kernel_rfl) (by kernel_rfl) (fun _ _ _ h => h) (Or.inr ⟨by rfl, rfl⟩) (by assumption) ?_
          simp only [Act.put, List.setIfInBounds_toArray, List.set_cons_zero, List.set_cons_succ]
          refine wpAnyH_take (i := 19) (oi := { dst := some 83, op := Op.load 35 (Operand.tmp 82), type := 35, pos := "ref.go:124", after := #[{ on := 18, ground := Ground.data }, { on := 13, ground := Ground.guard }], guard := some (13, false) }) (v := undef) rfl (by kernel_rfl) (by kernel_rfl) (by kernel_rfl) (fun _ _ _ h => h) (Or.inr ⟨by rfl, rfl⟩) (by assumption) ?_
          simp only [Act.put, List.setIfInBounds_toArray, List.set_cons_zero, List.set_cons_succ]
          refine wpAnyH_take (i := 20) (oi := { dst := some 84, op := Op.convert 35 9 (Operand.tmp 83), type := 9, pos := "ref.go:124", after := #[{ on := 19, ground := Ground.data }, { on := 13, ground := Ground.guard }], guard := some (13, false) }) (v := undef) rfl (by kernel_rfl) (by kernel_rfl) (by kernel_rfl) (fun _ _ _ h => h) (Or.inr ⟨by rfl, rfl⟩) (by assumption) ?_
          simp only [Act.put, List.setIfInBounds_toArray, List.set_cons_zero, List.set_cons_succ]
          refine wpAnyH_take (i := 21) (oi := { dst := some 85, op := Op.fieldAddr 25 (Operand.tmp 3) 1, type := 0, pos := "ref.go:124", after := #[{ on := 13, ground := Ground.guard }], guard := some (13, false) }) (v := undef) rfl (by kernel_rfl) (by kernel_rfl) (by kernel_rfl) (fun _ _ _ h => h) (Or.inr ⟨by rfl, rfl⟩) (by assumption) ?_
          simp only [Act.put, List.setIfInBounds_toArray, List.set_cons_zero, List.set_cons_succ]
          refine wpAnyH_take (i := 22) (oi := { dst := some 86, op := Op.load 23 (Operand.tmp 85), type := 23, pos := "ref.go:124", after := #[{ on := 21, ground := Ground.data }, { on := 13, ground := Ground.guard }], guard := some (13, false) }) (v := undef) rfl (by kernel_rfl) (by kernel_rfl) (by kernel_rfl) (fun _ _ _ h => h) (Or.inr ⟨by rfl, rfl⟩) (by assumption) ?_
          simp only [Act.put, List.setIfInBounds_toArray, List.set_cons_zero, List.set_cons_succ]
          refine wpAnyH_take (i := 23) (oi := { dst := some 87, op := Op.move (Operand.tmp 6), type := 3, pos := "ref.go:124", after := #[{ on := 13, ground := Ground.guard }], guard := some (13, false) }) (v := undef) rfl (by kernel_rfl) (by kernel_rfl) (by kernel_rfl) (fun _ _ _ h => h) (Or.inr ⟨by rfl, rfl⟩) (by assumption) ?_
          simp only [Act.put, List.setIfInBounds_toArray, List.set_cons_zero, List.set_cons_succ]
          refine wpAnyH_take (i := 24) (oi := { dst := some 88, op := Op.indexAddr 23 (Operand.tmp 86) (Operand.tmp 87), type := 0, pos := "ref.go:124", after := #[{ on := 22, ground := Ground.data }, { on := 23, ground := Ground.data }, { on := 13, ground := Ground.guard }], guard := some (13, false) }) (v := undef) rfl (by kernel_rfl) (by kernel_rfl) (by kernel_rfl) (fun _ _ _ h => h) (Or.inr ⟨by rfl, rfl⟩) (by assumption) ?_
          simp only [Act.put, List.setIfInBounds_toArray, List.set_cons_zero, List.set_cons_succ]
          refine wpAnyH_take (i := 25) (oi := { dst := some 89, op := Op.fieldAddr 90 (Operand.tmp 88) 1, type := 0, pos := "ref.go:124", after := #[{ on := 24, ground := Ground.data }, { on := 13, ground := Ground.guard }], guard := some (13, false) }) (v := undef) rfl (by kernel_rfl) (by kernel_rfl) (by kernel_rfl) (fun _ _ _ h => h) (Or.inr ⟨by rfl, rfl⟩) (by assumption) ?_
          simp only [Act.put, List.setIfInBounds_toArray, List.set_cons_zero, List.set_cons_succ]
          refine wpAnyH_take (i := 26) (oi := { dst := some 90, op := Op.load 35 (Operand.tmp 89), type := 35, pos := "ref.go:124", after := #[{ on := 25, ground := Ground.data }, { on := 13, ground := Ground.guard }], guard := some (13, false) }) (v := undef) rfl (by kernel_rfl) (by kernel_rfl) (by kernel_rfl) (fun _ _ _ h => h) (Or.inr ⟨by rfl, rfl⟩) (by assumption) ?_
          simp only [Act.put, List.setIfInBounds_toArray, List.set_cons_zero, List.set_cons_succ]
          refine wpAnyH_take (i := 27) (oi := { dst := some 91, op := Op.convert 35 9 (Operand.tmp 90), type := 9, pos := "ref.go:124", after := #[{ on := 26, ground := Ground.data }, { on := 13, ground := Ground.guard }], guard := some (13, false) }) (v := undef) rfl (by kernel_rfl) (by kernel_rfl) (by kernel_rfl) (fun _ _ _ h => h) (Or.inr ⟨by rfl, rfl⟩) (by assumption) ?_
          simp only [Act.put, List.setIfInBounds_toArray, List.set_cons_zero, List.set_cons_succ]
          refine wpAnyH_take (i := 28) (oi := { dst := some 92, op := Op.binOp BinOp.neq 9 (Operand.tmp 84) (Operand.tmp 91) 9, type := 4, pos := "ref.go:124", after := #[{ on := 20, ground := Ground.data }, { on := 27, ground := Ground.data }, { on := 13, ground := Ground.guard }], guard := some (13, false) }) (v := undef) rfl (by kernel_rfl) (by kernel_rfl) (by kernel_rfl) (fun _ _ _ h => h) (Or.inr ⟨by rfl, rfl⟩) (by assumption) ?_
          simp only [Act.put, List.setIfInBounds_toArray, List.set_cons_zero, List.set_cons_succ]
          refine wpAnyH_take (i := 29) (oi := { dst := some 93, op := Op.pick (Operand.tmp 77) (Operand.const (Value.bool true)) (Operand.tmp 92), type := 4, pos := "ref.go:124", after := #[{ on := 13, ground := Ground.data }, { on := 28, ground := Ground.data }], guard := none }) (v := ?_) rfl (by kernel_rfl) (by kernel_rfl) (by kernel_rfl) (fun _ _ _ h => h) (Or.inl ⟨by rfl, ?_⟩) (by assumption) ?_
          rotate_left
          · intro wS hSw; go_split_ands; go_simp; first | done | with_reducible rfl
          simp only [Act.put, List.setIfInBounds_toArray, List.set_cons_zero, List.set_cons_succ]
          refine wpAnyH_done (by kernel_rfl) ?_ _
          clear hHeld
          go_wp2_with (fail)
          go_ret
          exact ⟨by rw [E.out]; rfl, hw2.drew⟩
        subst hq
        by_cases hq : xd = yd
        · have hc : (s1.toList == s2.toList) = true := by rw [hcmp]; exact decide_eq_true hq
          have HQ := Lib.hid hq
          clear hcmp hq
          go_wp2_with (fail)
          refine wp_region_held_drew (S := (fun W => W.cell? ⟨w.heap.size, 1, none⟩ = some (.slice (some ⟨ba, oa, none⟩) ma pc) ∧ W.cell? ⟨w.heap.size + 1, 1, none⟩ = some (.slice (some ⟨bb, ob, none⟩) ma pd) ∧ W.cell? ⟨ba, oa + j * 2, none⟩ = some (.int .i64 xt) ∧ W.cell? ⟨bb, ob + j * 2, none⟩ = some (.int .i64 xt) ∧ W.cell? ⟨ba, oa + j * 2 + 1, none⟩ = some (.slice A1 n1 c1) ∧ W.cell? ⟨bb, ob + j * 2 + 1, none⟩ = some (.slice A2 n2 c2) ∧ (convert 35 9 (.slice A1 n1 c1)).run Try.prog W = .ok (.string s1) W ∧ (convert 35 9 (.slice A2 n2 c2)).run Try.prog W = .ok (.string s2) W)) (by kernel_rfl) ?_ (fun hHeld => ?_)
          · exact ⟨q1, q3, e1, e2, g1, g2, CV1.out, CV2.out⟩
          try dsimp only at hHeld
          refine wpAnyH_take (i := 0) (oi := { dst := some 64, op := Op.fieldAddr 25 (Operand.tmp 2) 1, type := 0, pos := "ref.go:124", after := #[], guard := none }) (v := ?_) rfl (by kernel_rfl) (by kernel_rfl) (by kernel_rfl) (fun _ _ _ h => h) (Or.inl ⟨by rfl, ?_⟩) (by assumption) ?_
          rotate_left
          · intro wS hSw; go_split_ands; go_simp; first | done | with_reducible rfl
          simp only [Act.put, List.setIfInBounds_toArray, List.set_cons_zero, List.set_cons_succ]
          refine wpAnyH_take (i := 1) (oi := { dst := some 65, op := Op.load 23 (Operand.tmp 64), type := 23, pos := "ref.go:124", after := #[{ on := 0, ground := Ground.data }], guard := none }) (v := ?_) rfl (by kernel_rfl) (by kernel_rfl) (by kernel_rfl) (fun _ _ _ h => h) (Or.inl ⟨by rfl, ?_⟩) (by assumption) ?_
          rotate_left
          · intro wS hSw; go_split_ands; go_simp; first | done | with_reducible rfl
          simp only [Act.put, List.setIfInBounds_toArray, List.set_cons_zero, List.set_cons_succ]
          refine wpAnyH_take (i := 2) (oi := { dst := some 66, op := Op.move (Operand.tmp 6), type := 3, pos := "ref.go:124", after := #[], guard := none }) (v := ?_) rfl (by kernel_rfl) (by kernel_rfl) (by kernel_rfl) (fun _ _ _ h => h) (Or.inl ⟨by rfl, ?_⟩) (by assumption) ?_
          rotate_left
          · intro wS hSw; go_split_ands; go_simp; first | done | with_reducible rfl
          simp only [Act.put, List.setIfInBounds_toArray, List.set_cons_zero, List.set_cons_succ]
          refine wpAnyH_take (i := 3) (oi := { dst := some 67, op := Op.indexAddr 23 (Operand.tmp 65) (Operand.tmp 66), type := 0, pos := "ref.go:124", after := #[{ on := 1, ground := Ground.data }, { on := 2, ground := Ground.data }], guard := none }) (v := ?_) rfl (by kernel_rfl) (by kernel_rfl) (by kernel_rfl) (fun _ _ _ h => h) (Or.inl ⟨by rfl, ?_⟩) (by assumption) ?_
          rotate_left
          · intro wS hSw; go_split_ands; go_simp; first | done | with_reducible rfl
          simp only [Act.put, List.setIfInBounds_toArray, List.set_cons_zero, List.set_cons_succ]
          refine wpAnyH_take (i := 4) (oi := { dst := some 68, op := Op.fieldAddr 90 (Operand.tmp 67) 0, type := 0, pos := "ref.go:124", after := #[{ on := 3, ground := Ground.data }], guard := none }) (v := ?_) rfl (by kernel_rfl) (by kernel_rfl) (by kernel_rfl) (fun _ _ _ h => h) (Or.inl ⟨by rfl, ?_⟩) (by assumption) ?_
          rotate_left
          · intro wS hSw; go_split_ands; go_simp; first | done | with_reducible rfl
          simp only [Act.put, List.setIfInBounds_toArray, List.set_cons_zero, List.set_cons_succ]
          refine wpAnyH_take (i := 5) (oi := { dst := some 69, op := Op.load 3 (Operand.tmp 68), type := 3, pos := "ref.go:124", after := #[{ on := 4, ground := Ground.data }], guard := none }) (v := ?_) rfl (by kernel_rfl) (by kernel_rfl) (by kernel_rfl) (fun _ _ _ h => h) (Or.inl ⟨by rfl, ?_⟩) (by assumption) ?_
          rotate_left
          · intro wS hSw; go_split_ands; go_simp; first | done | with_reducible rfl
          simp only [Act.put, List.setIfInBounds_toArray, List.set_cons_zero, List.set_cons_succ]
          refine wpAnyH_take (i := 6) (oi := { dst := some 70, op := Op.fieldAddr 25 (Operand.tmp 3) 1, type := 0, pos := "ref.go:124", after := #[], guard := none }) (v := ?_) rfl (by kernel_rfl) (by kernel_rfl) (by kernel_rfl) (fun _ _ _ h => h) (Or.inl ⟨by rfl, ?_⟩) (by assumption) ?_
          rotate_left
          · intro wS hSw; go_split_ands; go_simp; first | done | with_reducible rfl
          simp only [Act.put, List.setIfInBounds_toArray, List.set_cons_zero, List.set_cons_succ]
          refine wpAnyH_take (i := 7) (oi := { dst := some 71, op := Op.load 23 (Operand.tmp 70), type := 23, pos := "ref.go:124", after := #[{ on := 6, ground := Ground.data }], guard := none }) (v := ?_) rfl (by kernel_rfl) (by kernel_rfl) (by kernel_rfl) (fun _ _ _ h => h) (Or.inl ⟨by rfl, ?_⟩) (by assumption) ?_
          rotate_left
          · intro wS hSw; go_split_ands; go_simp; first | done | with_reducible rfl
          simp only [Act.put, List.setIfInBounds_toArray, List.set_cons_zero, List.set_cons_succ]
          refine wpAnyH_take (i := 8) (oi := { dst := some 72, op := Op.move (Operand.tmp 6), type := 3, pos := "ref.go:124", after := #[], guard := none }) (v := ?_) rfl (by kernel_rfl) (by kernel_rfl) (by kernel_rfl) (fun _ _ _ h => h) (Or.inl ⟨by rfl, ?_⟩) (by assumption) ?_
          rotate_left
          · intro wS hSw; go_split_ands; go_simp; first | done | with_reducible rfl
          simp only [Act.put, List.setIfInBounds_toArray, List.set_cons_zero, List.set_cons_succ]
          refine wpAnyH_take (i := 9) (oi := { dst := some 73, op := Op.indexAddr 23 (Operand.tmp 71) (Operand.tmp 72), type := 0, pos := "ref.go:124", after := #[{ on := 7, ground := Ground.data }, { on := 8, ground := Ground.data }], guard := none }) (v := ?_) rfl (by kernel_rfl) (by kernel_rfl) (by kernel_rfl) (fun _ _ _ h => h) (Or.inl ⟨by rfl, ?_⟩) (by assumption) ?_
          rotate_left
          · intro wS hSw; go_split_ands; go_simp; first | done | with_reducible rfl
          simp only [Act.put, List.setIfInBounds_toArray, List.set_cons_zero, List.set_cons_succ]
          refine wpAnyH_take (i := 10) (oi := { dst := some 74, op := Op.fieldAddr 90 (Operand.tmp 73) 0, type := 0, pos := "ref.go:124", after := #[{ on := 9, ground := Ground.data }], guard := none }) (v := ?_) rfl (by kernel_rfl) (by kernel_rfl) (by kernel_rfl) (fun _ _ _ h => h) (Or.inl ⟨by rfl, ?_⟩) (by assumption) ?_
          rotate_left
          · intro wS hSw; go_split_ands; go_simp; first | done | with_reducible rfl
          simp only [Act.put, List.setIfInBounds_toArray, List.set_cons_zero, List.set_cons_succ]
          refine wpAnyH_take (i := 11) (oi := { dst := some 75, op := Op.load 3 (Operand.tmp 74), type := 3, pos := "ref.go:124", after := #[{ on := 10, ground := Ground.data }], guard := none }) (v := ?_) rfl (by kernel_rfl) (by kernel_rfl) (by kernel_rfl) (fun _ _ _ h => h) (Or.inl ⟨by rfl, ?_⟩) (by assumption) ?_
          rotate_left
          · intro wS hSw; go_split_ands; go_simp; first | done | with_reducible rfl
          simp only [Act.put, List.setIfInBounds_toArray, List.set_cons_zero, List.set_cons_succ]
          refine wpAnyH_take (i := 12) (oi := { dst := some 76, op := Op.binOp BinOp.neq 3 (Operand.tmp 69) (Operand.tmp 75) 3, type := 4, pos := "ref.go:124", after := #[{ on := 5, ground := Ground.data }, { on := 11, ground := Ground.data }], guard := none }) (v := ?_) rfl (by kernel_rfl) (by kernel_rfl) (by kernel_rfl) (fun _ _ _ h => h) (Or.inl ⟨by rfl, ?_⟩) (by assumption) ?_
          rotate_left
          · intro wS hSw; go_split_ands; go_simp; first | done | with_reducible rfl
          simp only [Act.put, List.setIfInBounds_toArray, List.set_cons_zero, List.set_cons_succ]
          refine wpAnyH_take (i := 13) (oi := { dst := some 77, op := Op.move (Operand.tmp 76), type := 4, pos := "ref.go:124", after := #[{ on := 12, ground := Ground.data }], guard := none }) (v := ?_) rfl (by kernel_rfl) (by kernel_rfl) (by kernel_rfl) (fun _ _ _ h => h) (Or.inl ⟨by rfl, ?_⟩) (by assumption) ?_
          rotate_left
          · intro wS hSw; go_split_ands; go_simp; first | done | with_reducible rfl
          simp only [Act.put, List.setIfInBounds_toArray, List.set_cons_zero, List.set_cons_succ]
          refine wpAnyH_take (i := 14) (oi := { dst := some 78, op := Op.fieldAddr 25 (Operand.tmp 2) 1, type := 0, pos := "ref.go:124", after := #[{ on := 13, ground := Ground.guard }], guard := some (13, false) }) (v := ?_) rfl (by kernel_rfl) (by kernel_rfl) (by kernel_rfl) (fun _ _ _ h => h) (Or.inl ⟨by rfl, ?_⟩) (by assumption) ?_
          rotate_left
          · intro wS hSw; go_split_ands; go_simp; first | done | with_reducible rfl
          simp only [Act.put, List.setIfInBounds_toArray, List.set_cons_zero, List.set_cons_succ]
          refine wpAnyH_take (i := 15) (oi := { dst := some 79, op := Op.load 23 (Operand.tmp 78), type := 23, pos := "ref.go:124", after := #[{ on := 14, ground := Ground.data }, { on := 13, ground := Ground.guard }], guard := some (13, false) }) (v := ?_) rfl (by kernel_rfl) (by kernel_rfl) (by kernel_rfl) (fun _ _ _ h => h) (Or.inl ⟨by rfl, ?_⟩) (by assumption) ?_
          rotate_left
          · intro wS hSw; go_split_ands; go_simp; first | done | with_reducible rfl
          simp only [Act.put, List.setIfInBounds_toArray, List.set_cons_zero, List.set_cons_succ]
          refine wpAnyH_take (i := 16) (oi := { dst := some 80, op := Op.move (Operand.tmp 6), type := 3, pos := "ref.go:124", after := #[{ on := 13, ground := Ground.guard }], guard := some (13, false) }) (v := ?_) rfl (by kernel_rfl) (by kernel_rfl) (by kernel_rfl) (fun _ _ _ h => h) (Or.inl ⟨by rfl, ?_⟩) (by assumption) ?_
          rotate_left
          · intro wS hSw; go_split_ands; go_simp; first | done | with_reducible rfl
          simp only [Act.put, List.setIfInBounds_toArray, List.set_cons_zero, List.set_cons_succ]
          refine wpAnyH_take (i := 17) (oi := { dst := some 81, op := Op.indexAddr 23 (Operand.tmp 79) (Operand.tmp 80), type := 0, pos := "ref.go:124", after := #[{ on := 15, ground := Ground.data }, { on := 16, ground := Ground.data }, { on := 13, ground := Ground.guard }], guard := some (13, false) }) (v := ?_) rfl (by kernel_rfl) (by kernel_rfl) (by kernel_rfl) (fun _ _ _ h => h) (Or.inl ⟨by rfl, ?_⟩) (by assumption) ?_
          rotate_left
          · intro wS hSw; go_split_ands; go_simp; first | done | with_reducible rfl
          simp only [Act.put, List.setIfInBounds_toArray, List.set_cons_zero, List.set_cons_succ]
          refine wpAnyH_take (i := 18) (oi := { dst := some 82, op := Op.fieldAddr 90 (Operand.tmp 81) 1, type := 0, pos := "ref.go:124", after := #[{ on := 17, ground := Ground.data }, { on := 13, ground := Ground.guard }], guard := some (13, false) }) (v := ?_) rfl (by kernel_rfl) (by kernel_rfl) (by kernel_rfl) (fun _ _ _ h => h) (Or.inl ⟨by rfl, ?_⟩) (by assumption) ?_
          rotate_left
          · intro wS hSw; go_split_ands; go_simp; first | done | with_reducible rfl
          simp only [Act.put, List.setIfInBounds_toArray, List.set_cons_zero, List.set_cons_succ]
          refine wpAnyH_take (i := 19) (oi := { dst := some 83, op := Op.load 35 (Operand.tmp 82), type := 35, pos := "ref.go:124", after := #[{ on := 18, ground := Ground.data }, { on := 13, ground := Ground.guard }], guard := some (13, false) }) (v := ?_) rfl (by kernel_rfl) (by kernel_rfl) (by kernel_rfl) (fun _ _ _ h => h) (Or.inl ⟨by rfl, ?_⟩) (by assumption) ?_
          rotate_left
          · intro wS hSw; go_split_ands; go_simp; first | done | with_reducible rfl
          simp only [Act.put, List.setIfInBounds_toArray, List.set_cons_zero, List.set_cons_succ]
          refine wpAnyH_take (i := 20) (oi := { dst := some 84, op := Op.convert 35 9 (Operand.tmp 83), type := 9, pos := "ref.go:124", after := #[{ on := 19, ground := Ground.data }, { on := 13, ground := Ground.guard }], guard := some (13, false) }) (v := ?_) rfl (by kernel_rfl) (by kernel_rfl) (by kernel_rfl) (fun _ _ _ h => h) (Or.inl ⟨by rfl, ?_⟩) (by assumption) ?_
          rotate_left
          · intro wS hSw; go_split_ands; go_simp; first | done | with_reducible rfl
          simp only [Act.put, List.setIfInBounds_toArray, List.set_cons_zero, List.set_cons_succ]
          refine wpAnyH_take (i := 21) (oi := { dst := some 85, op := Op.fieldAddr 25 (Operand.tmp 3) 1, type := 0, pos := "ref.go:124", after := #[{ on := 13, ground := Ground.guard }], guard := some (13, false) }) (v := ?_) rfl (by kernel_rfl) (by kernel_rfl) (by kernel_rfl) (fun _ _ _ h => h) (Or.inl ⟨by rfl, ?_⟩) (by assumption) ?_
          rotate_left
          · intro wS hSw; go_split_ands; go_simp; first | done | with_reducible rfl
          simp only [Act.put, List.setIfInBounds_toArray, List.set_cons_zero, List.set_cons_succ]
          refine wpAnyH_take (i := 22) (oi := { dst := some 86, op := Op.load 23 (Operand.tmp 85), type := 23, pos := "ref.go:124", after := #[{ on := 21, ground := Ground.data }, { on := 13, ground := Ground.guard }], guard := some (13, false) }) (v := ?_) rfl (by kernel_rfl) (by kernel_rfl) (by kernel_rfl) (fun _ _ _ h => h) (Or.inl ⟨by rfl, ?_⟩) (by assumption) ?_
          rotate_left
          · intro wS hSw; go_split_ands; go_simp; first | done | with_reducible rfl
          simp only [Act.put, List.setIfInBounds_toArray, List.set_cons_zero, List.set_cons_succ]
          refine wpAnyH_take (i := 23) (oi := { dst := some 87, op := Op.move (Operand.tmp 6), type := 3, pos := "ref.go:124", after := #[{ on := 13, ground := Ground.guard }], guard := some (13, false) }) (v := ?_) rfl (by kernel_rfl) (by kernel_rfl) (by kernel_rfl) (fun _ _ _ h => h) (Or.inl ⟨by rfl, ?_⟩) (by assumption) ?_
          rotate_left
          · intro wS hSw; go_split_ands; go_simp; first | done | with_reducible rfl
          simp only [Act.put, List.setIfInBounds_toArray, List.set_cons_zero, List.set_cons_succ]
          refine wpAnyH_take (i := 24) (oi := { dst := some 88, op := Op.indexAddr 23 (Operand.tmp 86) (Operand.tmp 87), type := 0, pos := "ref.go:124", after := #[{ on := 22, ground := Ground.data }, { on := 23, ground := Ground.data }, { on := 13, ground := Ground.guard }], guard := some (13, false) }) (v := ?_) rfl (by kernel_rfl) (by kernel_rfl) (by kernel_rfl) (fun _ _ _ h => h) (Or.inl ⟨by rfl, ?_⟩) (by assumption) ?_
          rotate_left
          · intro wS hSw; go_split_ands; go_simp; first | done | with_reducible rfl
          simp only [Act.put, List.setIfInBounds_toArray, List.set_cons_zero, List.set_cons_succ]
          refine wpAnyH_take (i := 25) (oi := { dst := some 89, op := Op.fieldAddr 90 (Operand.tmp 88) 1, type := 0, pos := "ref.go:124", after := #[{ on := 24, ground := Ground.data }, { on := 13, ground := Ground.guard }], guard := some (13, false) }) (v := ?_) rfl (by kernel_rfl) (by kernel_rfl) (by kernel_rfl) (fun _ _ _ h => h) (Or.inl ⟨by rfl, ?_⟩) (by assumption) ?_
          rotate_left
          · intro wS hSw; go_split_ands; go_simp; first | done | with_reducible rfl
          simp only [Act.put, List.setIfInBounds_toArray, List.set_cons_zero, List.set_cons_succ]
          refine wpAnyH_take (i := 26) (oi := { dst := some 90, op := Op.load 35 (Operand.tmp 89), type := 35, pos := "ref.go:124", after := #[{ on := 25, ground := Ground.data }, { on := 13, ground := Ground.guard }], guard := some (13, false) }) (v := ?_) rfl (by kernel_rfl) (by kernel_rfl) (by kernel_rfl) (fun _ _ _ h => h) (Or.inl ⟨by rfl, ?_⟩) (by assumption) ?_
          rotate_left
          · intro wS hSw; go_split_ands; go_simp; first | done | with_reducible rfl
          simp only [Act.put, List.setIfInBounds_toArray, List.set_cons_zero, List.set_cons_succ]
          refine wpAnyH_take (i := 27) (oi := { dst := some 91, op := Op.convert 35 9 (Operand.tmp 90), type := 9, pos := "ref.go:124", after := #[{ on := 26, ground := Ground.data }, { on := 13, ground := Ground.guard }], guard := some (13, false) }) (v := ?_) rfl (by kernel_rfl) (by kernel_rfl) (by kernel_rfl) (fun _ _ _ h => h) (Or.inl ⟨by rfl, ?_⟩) (by assumption) ?_
          rotate_left
          · intro wS hSw; go_split_ands; go_simp; first | done | with_reducible rfl
          simp only [Act.put, List.setIfInBounds_toArray, List.set_cons_zero, List.set_cons_succ]
          refine wpAnyH_take (i := 28) (oi := { dst := some 92, op := Op.binOp BinOp.neq 9 (Operand.tmp 84) (Operand.tmp 91) 9, type := 4, pos := "ref.go:124", after := #[{ on := 20, ground := Ground.data }, { on := 27, ground := Ground.data }, { on := 13, ground := Ground.guard }], guard := some (13, false) }) (v := ?_) rfl (by kernel_rfl) (by kernel_rfl) (by kernel_rfl) (fun _ _ _ h => h) (Or.inl ⟨by rfl, ?_⟩) (by assumption) ?_
          rotate_left
          · intro wS hSw; go_split_ands; go_simp; first | done | with_reducible rfl
          simp only [Act.put, List.setIfInBounds_toArray, List.set_cons_zero, List.set_cons_succ]
          refine wpAnyH_take (i := 29) (oi := { dst := some 93, op := Op.pick (Operand.tmp 77) (Operand.const (Value.bool true)) (Operand.tmp 92), type := 4, pos := "ref.go:124", after := #[{ on := 13, ground := Ground.data }, { on := 28, ground := Ground.data }], guard := none }) (v := ?_) rfl (by kernel_rfl) (by kernel_rfl) (by kernel_rfl) (fun _ _ _ h => h) (Or.inl ⟨by rfl, ?_⟩) (by assumption) ?_
          rotate_left
          · intro wS hSw; go_split_ands; go_simp; first | done | with_reducible rfl
          simp only [Act.put, List.setIfInBounds_toArray, List.set_cons_zero, List.set_cons_succ]
          refine wpAnyH_done (by kernel_rfl) ?_ _
          clear hHeld
          go_wp2_with (fail)
          go_roundw
          case rel => exact ⟨j + 1, by omega, by go_num, Lib.hid (fun i hi => by
            rcases Nat.lt_or_ge i j with h' | h'
            · exact hT.out i h'
            · obtain rfl : i = j := by omega
              rw [← HX.out, ← HY.out, HQ.out]), hwx.drew⟩
          case measure => simp [intOf]; omega
        · have hc : (s1.toList == s2.toList) = false := by rw [hcmp]; exact decide_eq_false hq
          have E := Lib.hid (HNO.out (fun h => hq (by injection h)))
          clear hcmp hq
          go_wp2_with (fail)
          refine wp_region_held_drew (S := (fun W => W.cell? ⟨w.heap.size, 1, none⟩ = some (.slice (some ⟨ba, oa, none⟩) ma pc) ∧ W.cell? ⟨w.heap.size + 1, 1, none⟩ = some (.slice (some ⟨bb, ob, none⟩) ma pd) ∧ W.cell? ⟨ba, oa + j * 2, none⟩ = some (.int .i64 xt) ∧ W.cell? ⟨bb, ob + j * 2, none⟩ = some (.int .i64 xt) ∧ W.cell? ⟨ba, oa + j * 2 + 1, none⟩ = some (.slice A1 n1 c1) ∧ W.cell? ⟨bb, ob + j * 2 + 1, none⟩ = some (.slice A2 n2 c2) ∧ (convert 35 9 (.slice A1 n1 c1)).run Try.prog W = .ok (.string s1) W ∧ (convert 35 9 (.slice A2 n2 c2)).run Try.prog W = .ok (.string s2) W)) (by kernel_rfl) ?_ (fun hHeld => ?_)
          · exact ⟨q1, q3, e1, e2, g1, g2, CV1.out, CV2.out⟩
          try dsimp only at hHeld
          refine wpAnyH_take (i := 0) (oi := { dst := some 64, op := Op.fieldAddr 25 (Operand.tmp 2) 1, type := 0, pos := "ref.go:124", after := #[], guard := none }) (v := ?_) rfl (by kernel_rfl) (by kernel_rfl) (by kernel_rfl) (fun _ _ _ h => h) (Or.inl ⟨by rfl, ?_⟩) (by assumption) ?_
          rotate_left
          · intro wS hSw; go_split_ands; go_simp; first | done | with_reducible rfl
          simp only [Act.put, List.setIfInBounds_toArray, List.set_cons_zero, List.set_cons_succ]
          refine wpAnyH_take (i := 1) (oi := { dst := some 65, op := Op.load 23 (Operand.tmp 64), type := 23, pos := "ref.go:124", after := #[{ on := 0, ground := Ground.data }], guard := none }) (v := ?_) rfl (by kernel_rfl) (by kernel_rfl) (by kernel_rfl) (fun _ _ _ h => h) (Or.inl ⟨by rfl, ?_⟩) (by assumption) ?_
          rotate_left
          · intro wS hSw; go_split_ands; go_simp; first | done | with_reducible rfl
          simp only [Act.put, List.setIfInBounds_toArray, List.set_cons_zero, List.set_cons_succ]
          refine wpAnyH_take (i := 2) (oi := { dst := some 66, op := Op.move (Operand.tmp 6), type := 3, pos := "ref.go:124", after := #[], guard := none }) (v := ?_) rfl (by kernel_rfl) (by kernel_rfl) (by kernel_rfl) (fun _ _ _ h => h) (Or.inl ⟨by rfl, ?_⟩) (by assumption) ?_
          rotate_left
          · intro wS hSw; go_split_ands; go_simp; first | done | with_reducible rfl
          simp only [Act.put, List.setIfInBounds_toArray, List.set_cons_zero, List.set_cons_succ]
          refine wpAnyH_take (i := 3) (oi := { dst := some 67, op := Op.indexAddr 23 (Operand.tmp 65) (Operand.tmp 66), type := 0, pos := "ref.go:124", after := #[{ on := 1, ground := Ground.data }, { on := 2, ground := Ground.data }], guard := none }) (v := ?_) rfl (by kernel_rfl) (by kernel_rfl) (by kernel_rfl) (fun _ _ _ h => h) (Or.inl ⟨by rfl, ?_⟩) (by assumption) ?_
          rotate_left
          · intro wS hSw; go_split_ands; go_simp; first | done | with_reducible rfl
          simp only [Act.put, List.setIfInBounds_toArray, List.set_cons_zero, List.set_cons_succ]
          refine wpAnyH_take (i := 4) (oi := { dst := some 68, op := Op.fieldAddr 90 (Operand.tmp 67) 0, type := 0, pos := "ref.go:124", after := #[{ on := 3, ground := Ground.data }], guard := none }) (v := ?_) rfl (by kernel_rfl) (by kernel_rfl) (by kernel_rfl) (fun _ _ _ h => h) (Or.inl ⟨by rfl, ?_⟩) (by assumption) ?_
          rotate_left
          · intro wS hSw; go_split_ands; go_simp; first | done | with_reducible rfl
          simp only [Act.put, List.setIfInBounds_toArray, List.set_cons_zero, List.set_cons_succ]
          refine wpAnyH_take (i := 5) (oi := { dst := some 69, op := Op.load 3 (Operand.tmp 68), type := 3, pos := "ref.go:124", after := #[{ on := 4, ground := Ground.data }], guard := none }) (v := ?_) rfl (by kernel_rfl) (by kernel_rfl) (by kernel_rfl) (fun _ _ _ h => h) (Or.inl ⟨by rfl, ?_⟩) (by assumption) ?_
          rotate_left
          · intro wS hSw; go_split_ands; go_simp; first | done | with_reducible rfl
          simp only [Act.put, List.setIfInBounds_toArray, List.set_cons_zero, List.set_cons_succ]
          refine wpAnyH_take (i := 6) (oi := { dst := some 70, op := Op.fieldAddr 25 (Operand.tmp 3) 1, type := 0, pos := "ref.go:124", after := #[], guard := none }) (v := ?_) rfl (by kernel_rfl) (by kernel_rfl) (by kernel_rfl) (fun _ _ _ h => h) (Or.inl ⟨by rfl, ?_⟩) (by assumption) ?_
          rotate_left
          · intro wS hSw; go_split_ands; go_simp; first | done | with_reducible rfl
          simp only [Act.put, List.setIfInBounds_toArray, List.set_cons_zero, List.set_cons_succ]
          refine wpAnyH_take (i := 7) (oi := { dst := some 71, op := Op.load 23 (Operand.tmp 70), type := 23, pos := "ref.go:124", after := #[{ on := 6, ground := Ground.data }], guard := none }) (v := ?_) rfl (by kernel_rfl) (by kernel_rfl) (by kernel_rfl) (fun _ _ _ h => h) (Or.inl ⟨by rfl, ?_⟩) (by assumption) ?_
          rotate_left
          · intro wS hSw; go_split_ands; go_simp; first | done | with_reducible rfl
          simp only [Act.put, List.setIfInBounds_toArray, List.set_cons_zero, List.set_cons_succ]
          refine wpAnyH_take (i := 8) (oi := { dst := some 72, op := Op.move (Operand.tmp 6), type := 3, pos := "ref.go:124", after := #[], guard := none }) (v := ?_) rfl (by kernel_rfl) (by kernel_rfl) (by kernel_rfl) (fun _ _ _ h => h) (Or.inl ⟨by rfl, ?_⟩) (by assumption) ?_
          rotate_left
          · intro wS hSw; go_split_ands; go_simp; first | done | with_reducible rfl
          simp only [Act.put, List.setIfInBounds_toArray, List.set_cons_zero, List.set_cons_succ]
          refine wpAnyH_take (i := 9) (oi := { dst := some 73, op := Op.indexAddr 23 (Operand.tmp 71) (Operand.tmp 72), type := 0, pos := "ref.go:124", after := #[{ on := 7, ground := Ground.data }, { on := 8, ground := Ground.data }], guard := none }) (v := ?_) rfl (by kernel_rfl) (by kernel_rfl) (by kernel_rfl) (fun _ _ _ h => h) (Or.inl ⟨by rfl, ?_⟩) (by assumption) ?_
          rotate_left
          · intro wS hSw; go_split_ands; go_simp; first | done | with_reducible rfl
          simp only [Act.put, List.setIfInBounds_toArray, List.set_cons_zero, List.set_cons_succ]
          refine wpAnyH_take (i := 10) (oi := { dst := some 74, op := Op.fieldAddr 90 (Operand.tmp 73) 0, type := 0, pos := "ref.go:124", after := #[{ on := 9, ground := Ground.data }], guard := none }) (v := ?_) rfl (by kernel_rfl) (by kernel_rfl) (by kernel_rfl) (fun _ _ _ h => h) (Or.inl ⟨by rfl, ?_⟩) (by assumption) ?_
          rotate_left
          · intro wS hSw; go_split_ands; go_simp; first | done | with_reducible rfl
          simp only [Act.put, List.setIfInBounds_toArray, List.set_cons_zero, List.set_cons_succ]
          refine wpAnyH_take (i := 11) (oi := { dst := some 75, op := Op.load 3 (Operand.tmp 74), type := 3, pos := "ref.go:124", after := #[{ on := 10, ground := Ground.data }], guard := none }) (v := ?_) rfl (by kernel_rfl) (by kernel_rfl) (by kernel_rfl) (fun _ _ _ h => h) (Or.inl ⟨by rfl, ?_⟩) (by assumption) ?_
          rotate_left
          · intro wS hSw; go_split_ands; go_simp; first | done | with_reducible rfl
          simp only [Act.put, List.setIfInBounds_toArray, List.set_cons_zero, List.set_cons_succ]
          refine wpAnyH_take (i := 12) (oi := { dst := some 76, op := Op.binOp BinOp.neq 3 (Operand.tmp 69) (Operand.tmp 75) 3, type := 4, pos := "ref.go:124", after := #[{ on := 5, ground := Ground.data }, { on := 11, ground := Ground.data }], guard := none }) (v := ?_) rfl (by kernel_rfl) (by kernel_rfl) (by kernel_rfl) (fun _ _ _ h => h) (Or.inl ⟨by rfl, ?_⟩) (by assumption) ?_
          rotate_left
          · intro wS hSw; go_split_ands; go_simp; first | done | with_reducible rfl
          simp only [Act.put, List.setIfInBounds_toArray, List.set_cons_zero, List.set_cons_succ]
          refine wpAnyH_take (i := 13) (oi := { dst := some 77, op := Op.move (Operand.tmp 76), type := 4, pos := "ref.go:124", after := #[{ on := 12, ground := Ground.data }], guard := none }) (v := ?_) rfl (by kernel_rfl) (by kernel_rfl) (by kernel_rfl) (fun _ _ _ h => h) (Or.inl ⟨by rfl, ?_⟩) (by assumption) ?_
          rotate_left
          · intro wS hSw; go_split_ands; go_simp; first | done | with_reducible rfl
          simp only [Act.put, List.setIfInBounds_toArray, List.set_cons_zero, List.set_cons_succ]
          refine wpAnyH_take (i := 14) (oi := { dst := some 78, op := Op.fieldAddr 25 (Operand.tmp 2) 1, type := 0, pos := "ref.go:124", after := #[{ on := 13, ground := Ground.guard }], guard := some (13, false) }) (v := ?_) rfl (by kernel_rfl) (by kernel_rfl) (by kernel_rfl) (fun _ _ _ h => h) (Or.inl ⟨by rfl, ?_⟩) (by assumption) ?_
          rotate_left
          · intro wS hSw; go_split_ands; go_simp; first | done | with_reducible rfl
          simp only [Act.put, List.setIfInBounds_toArray, List.set_cons_zero, List.set_cons_succ]
          refine wpAnyH_take (i := 15) (oi := { dst := some 79, op := Op.load 23 (Operand.tmp 78), type := 23, pos := "ref.go:124", after := #[{ on := 14, ground := Ground.data }, { on := 13, ground := Ground.guard }], guard := some (13, false) }) (v := ?_) rfl (by kernel_rfl) (by kernel_rfl) (by kernel_rfl) (fun _ _ _ h => h) (Or.inl ⟨by rfl, ?_⟩) (by assumption) ?_
          rotate_left
          · intro wS hSw; go_split_ands; go_simp; first | done | with_reducible rfl
          simp only [Act.put, List.setIfInBounds_toArray, List.set_cons_zero, List.set_cons_succ]
          refine wpAnyH_take (i := 16) (oi := { dst := some 80, op := Op.move (Operand.tmp 6), type := 3, pos := "ref.go:124", after := #[{ on := 13, ground := Ground.guard }], guard := some (13, false) }) (v := ?_) rfl (by kernel_rfl) (by kernel_rfl) (by kernel_rfl) (fun _ _ _ h => h) (Or.inl ⟨by rfl, ?_⟩) (by assumption) ?_
          rotate_left
          · intro wS hSw; go_split_ands; go_simp; first | done | with_reducible rfl
          simp only [Act.put, List.setIfInBounds_toArray, List.set_cons_zero, List.set_cons_succ]
          refine wpAnyH_take (i := 17) (oi := { dst := some 81, op := Op.indexAddr 23 (Operand.tmp 79) (Operand.tmp 80), type := 0, pos := "ref.go:124", after := #[{ on := 15, ground := Ground.data }, { on := 16, ground := Ground.data }, { on := 13, ground := Ground.guard }], guard := some (13, false) }) (v := ?_) rfl (by kernel_rfl) (by kernel_rfl) (by kernel_rfl) (fun _ _ _ h => h) (Or.inl ⟨by rfl, ?_⟩) (by assumption) ?_
          rotate_left
          · intro wS hSw; go_split_ands; go_simp; first | done | with_reducible rfl
          simp only [Act.put, List.setIfInBounds_toArray, List.set_cons_zero, List.set_cons_succ]
          refine wpAnyH_take (i := 18) (oi := { dst := some 82, op := Op.fieldAddr 90 (Operand.tmp 81) 1, type := 0, pos := "ref.go:124", after := #[{ on := 17, ground := Ground.data }, { on := 13, ground := Ground.guard }], guard := some (13, false) }) (v := ?_) rfl (by kernel_rfl) (by kernel_rfl) (by kernel_rfl) (fun _ _ _ h => h) (Or.inl ⟨by rfl, ?_⟩) (by assumption) ?_
          rotate_left
          · intro wS hSw; go_split_ands; go_simp; first | done | with_reducible rfl
          simp only [Act.put, List.setIfInBounds_toArray, List.set_cons_zero, List.set_cons_succ]
          refine wpAnyH_take (i := 19) (oi := { dst := some 83, op := Op.load 35 (Operand.tmp 82), type := 35, pos := "ref.go:124", after := #[{ on := 18, ground := Ground.data }, { on := 13, ground := Ground.guard }], guard := some (13, false) }) (v := ?_) rfl (by kernel_rfl) (by kernel_rfl) (by kernel_rfl) (fun _ _ _ h => h) (Or.inl ⟨by rfl, ?_⟩) (by assumption) ?_
          rotate_left
          · intro wS hSw; go_split_ands; go_simp; first | done | with_reducible rfl
          simp only [Act.put, List.setIfInBounds_toArray, List.set_cons_zero, List.set_cons_succ]
          refine wpAnyH_take (i := 20) (oi := { dst := some 84, op := Op.convert 35 9 (Operand.tmp 83), type := 9, pos := "ref.go:124", after := #[{ on := 19, ground := Ground.data }, { on := 13, ground := Ground.guard }], guard := some (13, false) }) (v := ?_) rfl (by kernel_rfl) (by kernel_rfl) (by kernel_rfl) (fun _ _ _ h => h) (Or.inl ⟨by rfl, ?_⟩) (by assumption) ?_
          rotate_left
          · intro wS hSw; go_split_ands; go_simp; first | done | with_reducible rfl
          simp only [Act.put, List.setIfInBounds_toArray, List.set_cons_zero, List.set_cons_succ]
          refine wpAnyH_take (i := 21) (oi := { dst := some 85, op := Op.fieldAddr 25 (Operand.tmp 3) 1, type := 0, pos := "ref.go:124", after := #[{ on := 13, ground := Ground.guard }], guard := some (13, false) }) (v := ?_) rfl (by kernel_rfl) (by kernel_rfl) (by kernel_rfl) (fun _ _ _ h => h) (Or.inl ⟨by rfl, ?_⟩) (by assumption) ?_
          rotate_left
          · intro wS hSw; go_split_ands; go_simp; first | done | with_reducible rfl
          simp only [Act.put, List.setIfInBounds_toArray, List.set_cons_zero, List.set_cons_succ]
          refine wpAnyH_take (i := 22) (oi := { dst := some 86, op := Op.load 23 (Operand.tmp 85), type := 23, pos := "ref.go:124", after := #[{ on := 21, ground := Ground.data }, { on := 13, ground := Ground.guard }], guard := some (13, false) }) (v := ?_) rfl (by kernel_rfl) (by kernel_rfl) (by kernel_rfl) (fun _ _ _ h => h) (Or.inl ⟨by rfl, ?_⟩) (by assumption) ?_
          rotate_left
          · intro wS hSw; go_split_ands; go_simp; first | done | with_reducible rfl
          simp only [Act.put, List.setIfInBounds_toArray, List.set_cons_zero, List.set_cons_succ]
          refine wpAnyH_take (i := 23) (oi := { dst := some 87, op := Op.move (Operand.tmp 6), type := 3, pos := "ref.go:124", after := #[{ on := 13, ground := Ground.guard }], guard := some (13, false) }) (v := ?_) rfl (by kernel_rfl) (by kernel_rfl) (by kernel_rfl) (fun _ _ _ h => h) (Or.inl ⟨by rfl, ?_⟩) (by assumption) ?_
          rotate_left
          · intro wS hSw; go_split_ands; go_simp; first | done | with_reducible rfl
          simp only [Act.put, List.setIfInBounds_toArray, List.set_cons_zero, List.set_cons_succ]
          refine wpAnyH_take (i := 24) (oi := { dst := some 88, op := Op.indexAddr 23 (Operand.tmp 86) (Operand.tmp 87), type := 0, pos := "ref.go:124", after := #[{ on := 22, ground := Ground.data }, { on := 23, ground := Ground.data }, { on := 13, ground := Ground.guard }], guard := some (13, false) }) (v := ?_) rfl (by kernel_rfl) (by kernel_rfl) (by kernel_rfl) (fun _ _ _ h => h) (Or.inl ⟨by rfl, ?_⟩) (by assumption) ?_
          rotate_left
          · intro wS hSw; go_split_ands; go_simp; first | done | with_reducible rfl
          simp only [Act.put, List.setIfInBounds_toArray, List.set_cons_zero, List.set_cons_succ]
          refine wpAnyH_take (i := 25) (oi := { dst := some 89, op := Op.fieldAddr 90 (Operand.tmp 88) 1, type := 0, pos := "ref.go:124", after := #[{ on := 24, ground := Ground.data }, { on := 13, ground := Ground.guard }], guard := some (13, false) }) (v := ?_) rfl (by kernel_rfl) (by kernel_rfl) (by kernel_rfl) (fun _ _ _ h => h) (Or.inl ⟨by rfl, ?_⟩) (by assumption) ?_
          rotate_left
          · intro wS hSw; go_split_ands; go_simp; first | done | with_reducible rfl
          simp only [Act.put, List.setIfInBounds_toArray, List.set_cons_zero, List.set_cons_succ]
          refine wpAnyH_take (i := 26) (oi := { dst := some 90, op := Op.load 35 (Operand.tmp 89), type := 35, pos := "ref.go:124", after := #[{ on := 25, ground := Ground.data }, { on := 13, ground := Ground.guard }], guard := some (13, false) }) (v := ?_) rfl (by kernel_rfl) (by kernel_rfl) (by kernel_rfl) (fun _ _ _ h => h) (Or.inl ⟨by rfl, ?_⟩) (by assumption) ?_
          rotate_left
          · intro wS hSw; go_split_ands; go_simp; first | done | with_reducible rfl
          simp only [Act.put, List.setIfInBounds_toArray, List.set_cons_zero, List.set_cons_succ]
          refine wpAnyH_take (i := 27) (oi := { dst := some 91, op := Op.convert 35 9 (Operand.tmp 90), type := 9, pos := "ref.go:124", after := #[{ on := 26, ground := Ground.data }, { on := 13, ground := Ground.guard }], guard := some (13, false) }) (v := ?_) rfl (by kernel_rfl) (by kernel_rfl) (by kernel_rfl) (fun _ _ _ h => h) (Or.inl ⟨by rfl, ?_⟩) (by assumption) ?_
          rotate_left
          · intro wS hSw; go_split_ands; go_simp; first | done | with_reducible rfl
          simp only [Act.put, List.setIfInBounds_toArray, List.set_cons_zero, List.set_cons_succ]
          refine wpAnyH_take (i := 28) (oi := { dst := some 92, op := Op.binOp BinOp.neq 9 (Operand.tmp 84) (Operand.tmp 91) 9, type := 4, pos := "ref.go:124", after := #[{ on := 20, ground := Ground.data }, { on := 27, ground := Ground.data }, { on := 13, ground := Ground.guard }], guard := some (13, false) }) (v := ?_) rfl (by kernel_rfl) (by kernel_rfl) (by kernel_rfl) (fun _ _ _ h => h) (Or.inl ⟨by rfl, ?_⟩) (by assumption) ?_
          rotate_left
          · intro wS hSw; go_split_ands; go_simp; first | done | with_reducible rfl
          simp only [Act.put, List.setIfInBounds_toArray, List.set_cons_zero, List.set_cons_succ]
          refine wpAnyH_take (i := 29) (oi := { dst := some 93, op := Op.pick (Operand.tmp 77) (Operand.const (Value.bool true)) (Operand.tmp 92), type := 4, pos := "ref.go:124", after := #[{ on := 13, ground := Ground.data }, { on := 28, ground := Ground.data }], guard := none }) (v := ?_) rfl (by kernel_rfl) (by kernel_rfl) (by kernel_rfl) (fun _ _ _ h => h) (Or.inl ⟨by rfl, ?_⟩) (by assumption) ?_
          rotate_left
          · intro wS hSw; go_split_ands; go_simp; first | done | with_reducible rfl
          simp only [Act.put, List.setIfInBounds_toArray, List.set_cons_zero, List.set_cons_succ]
          refine wpAnyH_done (by kernel_rfl) ?_ _
          clear hHeld
          go_wp2_with (fail)
          go_ret
          exact ⟨by rw [E.out]; rfl, hw2.drew⟩
end Go.Proofs.Ytckeopidedoohaa
