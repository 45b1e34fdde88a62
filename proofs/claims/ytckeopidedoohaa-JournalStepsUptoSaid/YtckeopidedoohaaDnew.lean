/-
  New disks: slices.Repeat of one new sector, and the reference's one by one. Conditions: none for New; a size that is allowed for Repeat.
-/
import Derived.Test.YtckeopidedoohaaDrw
import Derived.Laws.MathBits
namespace Go.Proofs.Ytckeopidedoohaa
open Go.RowKit
attribute [local go_sem] Oper.semAt_some

theorem wrap_u64 (n : Int) (h0 : 0 ≤ n) (h1 : n < 18446744073709551616) : IntKind.u64.wrap n = n := by
  rw [IntKind.wrap_u64]
  omega
set_option maxHeartbeats 1000000 in
theorem mul64_t (n : Int) (w : World) (h0 : 0 ≤ n) (h1 : n ≤ 4096) : Calls Try.prog 117 #[.int .u64 1, .int .u64 n] w fun e w' => e = .returned (.tuple #[.int .u64 0, .int .u64 n]) ∧ w' = w := by
  have a1 : bits BinOp.and IntKind.u64 1 4294967295 = 1 := by rw [and_low32 1 (by omega) (by omega)]; rfl
  have a2 : bits BinOp.and IntKind.u64 n 4294967295 = n := by rw [and_low32 n (by omega) (by omega)]; omega
  have a3 : bits BinOp.and IntKind.u64 0 4294967295 = 0 := by rw [and_low32 0 (by omega) (by omega)]; rfl
  have d1 : n / 4294967296 = 0 := by omega
  have w1 : IntKind.u64.wrap n = n := wrap_u64 n h0 (by omega)
  have w0 : IntKind.u64.wrap 0 = 0 := rfl
  go_enter Try.func117, Try.ntmps117
  go_wp2
  go_ret2
  refine ⟨?_, rfl⟩
  simp
theorem mul_t (n : Int) (w : World) (h0 : 0 ≤ n) (h1 : n ≤ 4096) : Calls Try.prog 99 #[.int .u64 1, .int .u64 n] w fun e w' => e = .returned (.tuple #[.int .u64 0, .int .u64 n]) ∧ w' = w := by
  go_enter Try.func99, Try.ntmps99
  go_wp2_with (go_at_call 117; refine (mul64_t n _ h0 h1).mono ?_; rintro e w2 ⟨rfl, hw2⟩; have hw2 := hw2.symm; subst hw2)
  go_ret2
  exact ⟨rfl, rfl⟩

/-- So many cells, the first k of them v, nil behind. -/
def repC (v : Value) (k n : Nat) : List Value := List.replicate k v ++ List.replicate (n - k) (.slice none 0 0)
theorem repC_len {v : Value} {k n : Nat} (h : k ≤ n) : (repC v k n).length = n := by unfold repC; simp; omega
theorem repC_all (v : Value) (n : Nat) : repC v n n = List.replicate n v := by unfold repC; simp
theorem repC_get {v : Value} {k n j : Nat} (hj : j < k) : (repC v k n)[j]? = some v := by
  unfold repC
  rw [List.getElem?_append_left (by simpa using hj)]
  simp [hj]
theorem repC_splice {v : Value} {k m n : Nat} (h : k + m ≤ n) : splice (repC v k n) k (List.replicate m v) = repC v (k + m) n := by
  unfold splice repC
  rw [List.take_append_of_le_length (by simp), List.take_of_length_le (by simp), List.length_replicate, List.drop_append, List.drop_eq_nil_of_le (by simp), List.nil_append, List.length_replicate, List.drop_replicate, ← List.append_assoc, List.replicate_append_replicate]
  congr 2
  omega
theorem makeR (n : Nat) (hn : n ≤ 4096) (w : World) : (Instr.makeSlice 22 (.int .i64 n) (.int .i64 n)).run Try.prog w = .ok (.slice (some ⟨w.heap.size, 0, none⟩) n n) (w.alloc (.cells (repC undef 0 n).toArray 35)) := by
  obtain ⟨i0, hi0, hz0, hz1, hz2⟩ := info_parts info35
  have hr := run_make (P := Try.prog) w 22 35 i0 (.slice none 0 0) Try.underlying22 hi0 hz0 .i64 .i64 n n (by omega) (Int.le_refl _) (by rw [hz2]; omega) (by omega)
  have e : madeCells (Value.slice none 0 0).cells (n * i0.size) = (repC undef 0 n).toArray := by
    rw [hz1]
    apply Array.ext'
    show (madeCells #[.slice none 0 0] (n * 1)).toList = _
    rw [toList_madeCells_one]
    simp [repC]
  simpa [e] using hr
theorem repC_zero (v u : Value) (n : Nat) : repC u 0 n = repC v 0 n := by simp [repC]
theorem rep_one {v : Value} (h : v.oneCell' = true) (n : Nat) : ∀ u ∈ List.replicate n v, u.oneCell' = true := fun u hu => by
  rw [List.eq_of_mem_replicate hu]
  exact h

def Src (w : World) (ad : Addr) (xs : List Value) : Prop := ∀ j v, xs[j]? = some v → w.cell? (ad.add j) = some v
theorem Src.get {w : World} {ad : Addr} {xs : List Value} (h : Src w ad xs) : ∀ j v, xs[j]? = some v → w.cell? (ad.add j) = some v := h
def RepW (w : World) (z : Value) (m : Nat) (kv : Value) (wr : World) : Prop := ∃ k : Nat, 1 ≤ k ∧ k ≤ m ∧ kv = .int .i64 k ∧ Hid (wr.heap[w.heap.size]? = some (.cells (repC z k m).toArray 35 (0, 0))) ∧ Below w.heap.size w wr

set_option maxRecDepth 20000 in
set_option maxHeartbeats 4000000 in
theorem repeat_t (b o zn zc : Nat) (ZA : Option Addr) (m : Nat) (w : World) (hm0 : 1 ≤ m) (hm : m ≤ 4096) (hb : b < w.heap.size) (hz : w.cell? ⟨b, o, none⟩ = some (.slice ZA zn zc)) :
    Calls Try.prog 68 #[.slice (some ⟨b, o, none⟩) 1 1, .int .i64 m] w fun e w' => e = .returned (.slice (some ⟨w.heap.size, 0, none⟩) m m) ∧ Blk w' w.heap.size 35 (List.replicate m (.slice ZA zn zc)).toArray ∧ Below w.heap.size w w' := by
  have KM := fun W => mul_t m W (by omega) (by omega)
  have hmk := makeR m hm
  have g1 : ∀ W : World, (W.alloc (.cells (repC undef 0 m).toArray 35)).heap[W.heap.size]? = some (.cells (repC (.slice ZA zn zc) 0 m).toArray 35 (0, 0)) := fun W => by rw [repC_zero (.slice ZA zn zc)]; exact heap_alloc_new W _
  have wm : IntKind.u64.wrap (m : Int) = m := wrap_u64 _ (by omega) (by omega)
  have d1 : decide ((m : Int) < 0) = false := decide_eq_false (by omega)
  have HZ := Lib.hid hz
  have G1 := Lib.hid (g1 w)
  obtain ⟨z, hzz⟩ : ∃ z, z = Value.slice ZA zn zc := ⟨_, rfl⟩
  have HZZ := Lib.hid hzz
  have hz1 : z.oneCell' = true := by rw [hzz]; rfl
  have HZ1 := Lib.hid hz1
  rw [← hzz] at HZ G1 ⊢
  have hcl : Below w.heap.size w (w.alloc (.cells (repC undef 0 m).toArray 35)) := (Below.refl _ w).alloc (Nat.le_refl _) _
  have HSRC : Src (w.alloc (.cells (repC undef 0 m).toArray 35)) ⟨b, o, none⟩ (List.replicate 1 z) := fun j v hv => by
    obtain ⟨rfl, rfl⟩ : j = 0 ∧ z = v := by
      cases j with
      | zero => exact ⟨rfl, by simpa using hv⟩
      | succ j => simp at hv
    rw [addr_add]
    exact (hcl.cell (p := ⟨b, o + 0, none⟩) hb).trans HZ.out
  clear hz g1 hzz hz1
  go_enter Try.func68, Try.ntmps68
  go_wp2_with (fail)
  go_at_call 99
  refine (KM _).mono ?_
  rintro e w2 ⟨rfl, hw2⟩
  have hw2 := hw2.symm
  subst hw2
  go_wp2_with (with_reducible refine wpList_copy_splice rfl (.tmp 31) (.tmp 32) 22 22 rfl 35 Try.underlying22 (by kernel_rfl) (some ⟨w.heap.size, 0, none⟩) (some ⟨b, o, none⟩) m m 1 1 rfl rfl w.heap.size 0 (repC z 0 m) 35 G1.out (List.replicate 1 z) (by simp [Nat.min_def]; omega) (fun _ => ⟨rfl, _, rfl, HSRC.get⟩) (by rw [repC_len (by omega)]; simp; omega) (rep_one HZ1.out 1) w.heap.size w hcl (Nat.le_refl _) ?_; intro w4 hg4 hw4)
  have hg4 := Lib.hid (show w4.heap[w.heap.size]? = some (.cells (repC z 1 m).toArray 35 (0, 0)) by
    have := hg4.out
    rw [repC_splice (by omega), Nat.zero_add] at this
    exact this)
  clear hcl HSRC G1
  go_loopw [8] (fun kv wr => RepW w z m kv wr) (fun kv _ => m - (intOf kv).toNat)
  case atStart => exact ⟨1, by omega, by omega, by simp, hg4, hw4⟩
  case round =>
    clear hg4 hw4
    obtain ⟨k, hk1, hk, rfl, hg, hwr⟩ := hrel
    by_cases hlt : k < m
    case neg =>
      obtain rfl : k = m := by omega
      clear hlt
      go_wp2
      go_ret
      refine ⟨rfl, ?_, hwr⟩
      have := hg.out
      rw [repC_all] at this
      exact this
    case pos =>
      obtain ⟨mm, hmm⟩ : ∃ mm, mm = min k (m - k) := ⟨_, rfl⟩
      have hm1 : mm ≤ k := by omega
      have hm2 : k + mm ≤ m := by omega
      have hm3 : 1 ≤ mm := by omega
      have hkm : ¬ m = k := by omega
      have HMM := Lib.hid (show (List.replicate mm z).length = Nat.min k (m - k) by rw [List.length_replicate, hmm])
      have hbk : Blk wr w.heap.size 35 (repC z k m).toArray := hg.out
      have HSR : Src wr.drew ⟨w.heap.size, 0, none⟩ (List.replicate mm z) := fun j v hv => by
        have hj : j < mm := by
          have := (List.getElem?_eq_some_iff.1 hv).1
          simpa using this
        have hv2 : z = v := by simpa [List.getElem?_replicate, hj] using hv
        subst hv2
        rw [addr_add, Nat.zero_add]
        exact (hbk.cell j).trans (by rw [List.getElem?_toArray, repC_get (by omega)])
      have G2 := Lib.hid (show wr.drew.heap[w.heap.size]? = some (.cells (repC z k m).toArray 35 (0, 0)) from hg.out)
      have wsum : IntKind.i64.wrap ((k : Int) + (mm : Int)) = (k : Int) + (mm : Int) := IntWalk.i64_in _ (by omega)
      clear hmm hbk hg
      go_wp2_with (fail)
      refine wp_region_held_drew (S := (fun _ => True)) (by kernel_rfl) ?_ (fun hHeld => ?_)
      · trivial
      try dsimp only at hHeld
      refine wpAnyH_take (i := 0) (oi := { dst := some 38, op := Op.move (Operand.tmp 8), type := 3, pos := "slices.go:528", after := #[], guard := none }) (v := ?_) rfl (by kernel_rfl) (by kernel_rfl) (by kernel_rfl) (fun _ _ _ h => h) (Or.inl ⟨by rfl, ?_⟩) (by assumption) ?_
      rotate_left
      · intro wS hSw; go_split_ands; go_simp; first | done | with_reducible rfl
      simp only [Act.put, List.setIfInBounds_toArray, List.set_cons_zero, List.set_cons_succ]
      refine wpAnyH_take (i := 1) (oi := { dst := some 39, op := Op.move (Operand.tmp 7), type := 22, pos := "slices.go:528", after := #[], guard := none }) (v := ?_) rfl (by kernel_rfl) (by kernel_rfl) (by kernel_rfl) (fun _ _ _ h => h) (Or.inl ⟨by rfl, ?_⟩) (by assumption) ?_
      rotate_left
      · intro wS hSw; go_split_ands; go_simp; first | done | with_reducible rfl
      simp only [Act.put, List.setIfInBounds_toArray, List.set_cons_zero, List.set_cons_succ]
      refine wpAnyH_take (i := 2) (oi := { dst := some 40, op := Op.move (Operand.tmp 8), type := 3, pos := "slices.go:528", after := #[], guard := none }) (v := ?_) rfl (by kernel_rfl) (by kernel_rfl) (by kernel_rfl) (fun _ _ _ h => h) (Or.inl ⟨by rfl, ?_⟩) (by assumption) ?_
      rotate_left
      · intro wS hSw; go_split_ands; go_simp; first | done | with_reducible rfl
      simp only [Act.put, List.setIfInBounds_toArray, List.set_cons_zero, List.set_cons_succ]
      refine wpAnyH_take (i := 3) (oi := { dst := some 41, op := Op.slice 22 (Operand.tmp 39) (some (Operand.tmp 40)) none none, type := 22, pos := "slices.go:528", after := #[{ on := 1, ground := Ground.data }, { on := 2, ground := Ground.data }], guard := none }) (v := ?_) rfl (by kernel_rfl) (by kernel_rfl) (by kernel_rfl) (fun _ _ _ h => h) (Or.inl ⟨by rfl, ?_⟩) (by assumption) ?_
      rotate_left
      · intro wS hSw; go_split_ands; go_simp; first | done | with_reducible rfl
      simp only [Act.put, List.setIfInBounds_toArray, List.set_cons_zero, List.set_cons_succ]
      refine wpAnyH_take (i := 4) (oi := { dst := some 42, op := Op.move (Operand.tmp 7), type := 22, pos := "slices.go:528", after := #[], guard := none }) (v := ?_) rfl (by kernel_rfl) (by kernel_rfl) (by kernel_rfl) (fun _ _ _ h => h) (Or.inl ⟨by rfl, ?_⟩) (by assumption) ?_
      rotate_left
      · intro wS hSw; go_split_ands; go_simp; first | done | with_reducible rfl
      simp only [Act.put, List.setIfInBounds_toArray, List.set_cons_zero, List.set_cons_succ]
      refine wpAnyH_take (i := 5) (oi := { dst := some 43, op := Op.move (Operand.tmp 8), type := 3, pos := "slices.go:528", after := #[], guard := none }) (v := ?_) rfl (by kernel_rfl) (by kernel_rfl) (by kernel_rfl) (fun _ _ _ h => h) (Or.inl ⟨by rfl, ?_⟩) (by assumption) ?_
      rotate_left
      · intro wS hSw; go_split_ands; go_simp; first | done | with_reducible rfl
      simp only [Act.put, List.setIfInBounds_toArray, List.set_cons_zero, List.set_cons_succ]
      refine wpAnyH_take (i := 6) (oi := { dst := some 44, op := Op.slice 22 (Operand.tmp 42) none (some (Operand.tmp 43)) none, type := 22, pos := "slices.go:528", after := #[{ on := 4, ground := Ground.data }, { on := 5, ground := Ground.data }], guard := none }) (v := ?_) rfl (by kernel_rfl) (by kernel_rfl) (by kernel_rfl) (fun _ _ _ h => h) (Or.inl ⟨by rfl, ?_⟩) (by assumption) ?_
      rotate_left
      · intro wS hSw; go_split_ands; go_simp; first | done | with_reducible rfl
      simp only [Act.put, List.setIfInBounds_toArray, List.set_cons_zero, List.set_cons_succ]
      refine wpAnyH_ready (rs := [7]) (by kernel_rfl) (by simp) ?_
      refine AllReadyH.cons (o := { dst := some 45, op := Op.call { callee := Callee.builtin Builtin.copy, args := #[Operand.tmp 41, Operand.tmp 44], argTypes := #[22, 22] }, type := 3, pos := "slices.go:528", after := #[{ on := 3, ground := Ground.data }, { on := 6, ground := Ground.data }], guard := none }) rfl (fun K hK => ?_) AllReadyH.nil
      refine step_copy_splice rfl (.tmp 41) (.tmp 44) 22 22 rfl 35 Try.underlying22 (by kernel_rfl) (some ⟨w.heap.size, k, none⟩) (some ⟨w.heap.size, 0, none⟩) (m - k) (m - k) k m (by first | rfl | simp [Act.eval]) (by first | rfl | simp [Act.eval]) w.heap.size k (repC z k m) 35 G2.out (List.replicate mm z) HMM.out (fun _ => ⟨rfl, _, rfl, HSR.get⟩) (by rw [repC_len (by omega), List.length_replicate]; omega) (rep_one HZ1.out mm) w.heap.size w hwr.drew (Nat.le_refl _) ?_
      intro w4 hg4 hw4
      simp only [List.length_replicate]
      refine hK.out _ _ ?_ (fun hHeld => ?_)
      · trivial
      clear hK K
      try simp only [Act.put, List.setIfInBounds_toArray, List.set_cons_zero, List.set_cons_succ]
      refine wpAnyH_take (i := 8) (oi := { dst := some 46, op := Op.binOp BinOp.add 3 (Operand.tmp 38) (Operand.tmp 45) 3, type := 3, pos := "slices.go:528", after := #[{ on := 0, ground := Ground.data }, { on := 7, ground := Ground.data }], guard := none }) (v := ?_) rfl (by kernel_rfl) (by kernel_rfl) (by kernel_rfl) (fun _ _ _ h => h) (Or.inl ⟨by rfl, ?_⟩) (by assumption) ?_
      rotate_left
      · intro wS hSw; go_split_ands; go_simp; first | done | with_reducible rfl
      simp only [Act.put, List.setIfInBounds_toArray, List.set_cons_zero, List.set_cons_succ]
      refine wpAnyH_ready (rs := [9]) (by kernel_rfl) (by simp) ?_
      refine AllReadyH.cons (o := { dst := some 8, op := Op.assign (Operand.tmp 46), type := 3, pos := "slices.go:528", after := #[{ on := 8, ground := Ground.data }, { on := 7, ground := Ground.chain }, { on := 0, ground := Ground.phase }, { on := 1, ground := Ground.phase }, { on := 2, ground := Ground.phase }, { on := 3, ground := Ground.phase }, { on := 4, ground := Ground.phase }, { on := 5, ground := Ground.phase }, { on := 6, ground := Ground.phase }, { on := 7, ground := Ground.phase }, { on := 8, ground := Ground.phase }], guard := none }) rfl (fun K hK => ?_) AllReadyH.nil
      go_simp
      refine hK.out _ _ ?_ (fun hHeld => ?_)
      · trivial
      clear hK K
      try simp only [Act.put, List.setIfInBounds_toArray, List.set_cons_zero, List.set_cons_succ]
      refine wpAnyH_done (by kernel_rfl) ?_ _
      have H4 := Lib.hid (show w4.heap[w.heap.size]? = some (.cells (repC z (k + mm) m).toArray 35 (0, 0)) by
        have := hg4.out
        rw [repC_splice hm2] at this
        exact this)
      clear hg4 hHeld wsum
      go_wp2_with (fail)
      go_roundw
      case rel => exact ⟨k + mm, by omega, by omega, by go_num, H4, hw4⟩
      case measure => simp [intOf]; omega
end Go.Proofs.Ytckeopidedoohaa
