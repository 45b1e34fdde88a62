/-
  generation of the journal's reference. Conditions: sectors of 128 bytes, at most 4096 of them.
-/
import Derived.Test.YtckeopidedoohaaJrs
import Derived.Test.YtckeopidedoohaaJsp
namespace Go.Proofs.Ytckeopidedoohaa
open Go.RowKit
variable {n₀ : Nat}
attribute [local go_sem] Oper.semAt_some

def gmx (l : List Bs) (g : Nat) : Nat := l.foldl (fun g s => max g (max (sGen s) (sEnd s))) g
theorem gmx_genN (l : List Bs) : genN l = gmx l 0 + 1 := by
  have h : ∀ (l : List Bs) (x : Nat), l.foldl (fun g s => max g (max (sGen s + 1) (sEnd s + 1))) (x + 1) = gmx l x + 1 := by
    intro l
    induction l with
    | nil => intro x; rfl
    | cons s l ih =>
      intro x
      unfold gmx
      rw [List.foldl_cons, List.foldl_cons]
      have e : max (x + 1) (max (sGen s + 1) (sEnd s + 1)) = max x (max (sGen s) (sEnd s)) + 1 := by omega
      rw [e]
      exact ih _
  exact h l 0
theorem gmx_snoc (l : List Bs) (s : Bs) : gmx (l ++ [s]) 0 = max (gmx l 0) (max (sGen s) (sEnd s)) := by unfold gmx; rw [List.foldl_append]; rfl
theorem gmx_lt {l : List Bs} (h : ∀ b ∈ l, b.length = 128) : gmx l 0 < 4294967296 := by
  have k : ∀ (l : List Bs) (x : Nat), x < 4294967296 → (∀ b ∈ l, b.length = 128) → gmx l x < 4294967296 := by
    intro l
    induction l with
    | nil => intro x hx _; exact hx
    | cons s l ih =>
      intro x hx hl
      have hs := hl s List.mem_cons_self
      have h1 : sGen s < 4294967296 := getL_lt4 (by rw [List.length_take, hs]; rfl)
      have h2 : sEnd s < 4294967296 := getL_lt4 (by rw [List.length_drop, hs])
      show gmx l (max x (max (sGen s) (sEnd s))) < _
      exact ih _ (by omega) (fun b hb => hl b (List.mem_cons_of_mem _ hb))
  exact k l 0 (by decide) h

set_option maxRecDepth 20000 in
set_option maxHeartbeats 8000000 in
theorem rgen_t (LA : Option Addr) (c : Nat) (l : List Bs) (w : World) (h128 : ∀ b ∈ l, b.length = 128) (hll : l.length ≤ 4096) (hr : RowsAt n₀ w LA l) :
    Calls Try.prog 92 #[.slice LA l.length c] w fun e w' => e = .returned (.int .u64 (genN l : Nat)) ∧ Below w.heap.size w w' := by
  have HR := Lib.hid hr
  have H128 := Lib.hid h128
  clear hr h128
  go_enter Try.func92, Try.ntmps92
  go_wp2_with (fail)
  go_loopw [3, 4] (fun v3 v4 wr => ∃ i m : Nat, i ≤ l.length ∧ m < 4294967296 ∧ v4 = .int .i64 (i : Nat) ∧ v3 = .int .u64 (m : Nat) ∧ Hid (m = gmx (l.take i) 0) ∧ Below w.heap.size w wr) (fun _ v4 _ => l.length - (intOf v4).toNat)
  case atStart => exact ⟨0, 0, by omega, by omega, rfl, rfl, Lib.hid rfl, Below.refl _ _⟩
  case round =>
    obtain ⟨i, m, hi, hm, rfl, rfl, HM, hb⟩ := hrel
    have hws := hb.size
    by_cases hlt : i < l.length
    case neg =>
      have hmm : genN l = m + 1 := by rw [gmx_genN, HM.out, List.take_of_length_le (by omega)]
      have HMM := Lib.hid hmm
      clear hmm
      have i1 : IntKind.u64.wrap ((m : Int) + 1) = (m : Int) + 1 := by simp [IntKind.wrap, IntKind.bits, IntKind.signed]; omega
      go_wp2_with (fail)
      go_ret
      exact ⟨by rw [HMM.out]; rfl, hb⟩
    obtain ⟨b, o, rfl, lb0, hget⟩ := HR.out.get (by omega)
    obtain ⟨A1, c1, z1, hc1, hbs1⟩ := hget i hlt
    have hs1 := H128.out _ (mem_getD hlt)
    have hts := take_snocR l i hlt
    obtain ⟨s, hs⟩ : ∃ s, s = l.getD i [] := ⟨_, rfl⟩
    rw [← hs] at z1 hc1 hbs1 hs1 hts
    rw [hs1] at z1 hc1
    obtain ⟨b1, o1, rfl, hbl1, -⟩ := id hbs1 (by omega)
    have lbw : b < w.heap.size := by omega
    have z1' := (hb.cell (p := ⟨b, _, none⟩) lbw).trans z1
    have lb := Nat.lt_of_lt_of_le lbw hws
    have hb1 := BsAt.below hbs1 hb
    obtain ⟨gn, hgn⟩ : ∃ x, x = sGen s := ⟨_, rfl⟩
    obtain ⟨en, hen⟩ : ∃ x, x = sEnd s := ⟨_, rfl⟩
    have hgl : gn < 4294967296 := by rw [hgn]; exact getL_lt4 (by rw [List.length_take, hs1]; rfl)
    have hel : en < 4294967296 := by rw [hen]; exact getL_lt4 (by rw [List.length_drop, hs1])
    have HGA := Lib.hid (show ∀ W cx, Below wr.heap.size wr W → Calls Try.prog 107 #[.slice (some ⟨b1, o1, none⟩) 4 cx] W (fun e w' => e = .returned (.int .u64 (gn : Nat)) ∧ w' = W) from fun W cx hW => by rw [hgn]; exact num_at hb1 0 4 cx (by omega) (by decide) W hW)
    have HGB := Lib.hid (show ∀ W cx, Below wr.heap.size wr W → Calls Try.prog 107 #[.slice (some ⟨b1, o1 + 124, none⟩) 4 cx] W (fun e w' => e = .returned (.int .u64 (en : Nat)) ∧ w' = W) from fun W cx hW => by rw [hen]; have h9 := num_at hb1 124 4 cx (by omega) (by decide) W hW; rw [List.take_of_length_le (by rw [List.length_drop]; omega)] at h9; exact h9)
    have HTS := Lib.hid hts
    have HGN := Lib.hid (And.intro hgn hen)
    have c4 : (4 : Int) ≤ (c1 : Int) := by omega
    have c124 : (124 : Int) ≤ (c1 : Int) := by omega
    have c128 : (128 : Int) ≤ (c1 : Int) := by omega
    have n124 : ¬ c1 = 124 := by omega
    have hal2 : (i : Int) < (l.length : Int) := by omega
    have at0' : (0 : Int) ≤ (i : Int) := by omega
    have hnx : max m (max gn en) = gmx (l.take (i + 1)) 0 := by rw [HTS.out, gmx_snoc, ← HM.out, ← hgn, ← hen]
    have HNX := Lib.hid hnx
    clear hget hbs1 hb1 hgn hen hts hs hs1 z1 hnx
    go_upto_region 5 with (fail)
    refine wp_region_held_drew (S := (fun W => W.cell? ⟨b, o + i, none⟩ = some (.slice (some ⟨b1, o1, none⟩) 128 c1) ∧ Below wr.heap.size wr W)) (by kernel_rfl) ⟨z1', (Below.refl _ _).drew⟩ (fun hHeld => ?_)
    refine wpAnyH_take (i := 0) (oi := { dst := some 11, op := Op.move (Operand.tmp 3), type := 109, pos := "ref.go:173", after := #[], guard := none }) (v := ?_) rfl (by kernel_rfl) (by kernel_rfl) (by kernel_rfl) (fun _ _ _ h => h) (Or.inl ⟨by rfl, ?_⟩) (by assumption) ?_
    rotate_left
    · intro wS hSw; go_split_ands; go_simp; first | done | with_reducible rfl
    simp only [Act.put, List.setIfInBounds_toArray, List.set_cons_zero, List.set_cons_succ]
    refine wpAnyH_take (i := 1) (oi := { dst := some 12, op := Op.move (Operand.tmp 0), type := 22, pos := "ref.go:173", after := #[], guard := none }) (v := ?_) rfl (by kernel_rfl) (by kernel_rfl) (by kernel_rfl) (fun _ _ _ h => h) (Or.inl ⟨by rfl, ?_⟩) (by assumption) ?_
    rotate_left
    · intro wS hSw; go_split_ands; go_simp; first | done | with_reducible rfl
    simp only [Act.put, List.setIfInBounds_toArray, List.set_cons_zero, List.set_cons_succ]
    refine wpAnyH_take (i := 2) (oi := { dst := some 13, op := Op.move (Operand.tmp 4), type := 3, pos := "ref.go:173", after := #[], guard := none }) (v := ?_) rfl (by kernel_rfl) (by kernel_rfl) (by kernel_rfl) (fun _ _ _ h => h) (Or.inl ⟨by rfl, ?_⟩) (by assumption) ?_
    rotate_left
    · intro wS hSw; go_split_ands; go_simp; first | done | with_reducible rfl
    simp only [Act.put, List.setIfInBounds_toArray, List.set_cons_zero, List.set_cons_succ]
    refine wpAnyH_take (i := 3) (oi := { dst := some 14, op := Op.indexAddr 22 (Operand.tmp 12) (Operand.tmp 13), type := 0, pos := "ref.go:173", after := #[{ on := 1, ground := Ground.data }, { on := 2, ground := Ground.data }], guard := none }) (v := ?_) rfl (by kernel_rfl) (by kernel_rfl) (by kernel_rfl) (fun _ _ _ h => h) (Or.inl ⟨by rfl, ?_⟩) (by assumption) ?_
    rotate_left
    · intro wS hSw; go_split_ands; go_simp; first | done | with_reducible rfl
    simp only [Act.put, List.setIfInBounds_toArray, List.set_cons_zero, List.set_cons_succ]
    refine wpAnyH_take (i := 4) (oi := { dst := some 15, op := Op.load 35 (Operand.tmp 14), type := 35, pos := "ref.go:173", after := #[{ on := 3, ground := Ground.data }], guard := none }) (v := ?_) rfl (by kernel_rfl) (by kernel_rfl) (by kernel_rfl) (fun _ _ _ h => h) (Or.inl ⟨by rfl, ?_⟩) (by assumption) ?_
    rotate_left
    · intro wS hSw; go_split_ands; go_simp; first | done | with_reducible rfl
    simp only [Act.put, List.setIfInBounds_toArray, List.set_cons_zero, List.set_cons_succ]
    refine wpAnyH_take (i := 5) (oi := { dst := some 16, op := Op.slice 35 (Operand.tmp 15) none (some (Operand.const (Value.int IntKind.i64 4))) none, type := 35, pos := "ref.go:173", after := #[{ on := 4, ground := Ground.data }], guard := none }) (v := ?_) rfl (by kernel_rfl) (by kernel_rfl) (by kernel_rfl) (fun _ _ _ h => h) (Or.inl ⟨by rfl, ?_⟩) (by assumption) ?_
    rotate_left
    · intro wS hSw; go_split_ands; go_simp; first | done | with_reducible rfl
    simp only [Act.put, List.setIfInBounds_toArray, List.set_cons_zero, List.set_cons_succ]
    refine wpAnyH_take (i := 7) (oi := { dst := some 18, op := Op.move (Operand.tmp 0), type := 22, pos := "ref.go:173", after := #[], guard := none }) (v := ?_) rfl (by kernel_rfl) (by kernel_rfl) (by kernel_rfl) (fun _ _ _ h => h) (Or.inl ⟨by rfl, ?_⟩) (by assumption) ?_
    rotate_left
    · intro wS hSw; go_split_ands; go_simp; first | done | with_reducible rfl
    simp only [Act.put, List.setIfInBounds_toArray, List.set_cons_zero, List.set_cons_succ]
    refine wpAnyH_take (i := 8) (oi := { dst := some 19, op := Op.move (Operand.tmp 4), type := 3, pos := "ref.go:173", after := #[], guard := none }) (v := ?_) rfl (by kernel_rfl) (by kernel_rfl) (by kernel_rfl) (fun _ _ _ h => h) (Or.inl ⟨by rfl, ?_⟩) (by assumption) ?_
    rotate_left
    · intro wS hSw; go_split_ands; go_simp; first | done | with_reducible rfl
    simp only [Act.put, List.setIfInBounds_toArray, List.set_cons_zero, List.set_cons_succ]
    refine wpAnyH_take (i := 9) (oi := { dst := some 20, op := Op.indexAddr 22 (Operand.tmp 18) (Operand.tmp 19), type := 0, pos := "ref.go:173", after := #[{ on := 7, ground := Ground.data }, { on := 8, ground := Ground.data }], guard := none }) (v := ?_) rfl (by kernel_rfl) (by kernel_rfl) (by kernel_rfl) (fun _ _ _ h => h) (Or.inl ⟨by rfl, ?_⟩) (by assumption) ?_
    rotate_left
    · intro wS hSw; go_split_ands; go_simp; first | done | with_reducible rfl
    simp only [Act.put, List.setIfInBounds_toArray, List.set_cons_zero, List.set_cons_succ]
    refine wpAnyH_take (i := 10) (oi := { dst := some 21, op := Op.load 35 (Operand.tmp 20), type := 35, pos := "ref.go:173", after := #[{ on := 9, ground := Ground.data }], guard := none }) (v := ?_) rfl (by kernel_rfl) (by kernel_rfl) (by kernel_rfl) (fun _ _ _ h => h) (Or.inl ⟨by rfl, ?_⟩) (by assumption) ?_
    rotate_left
    · intro wS hSw; go_split_ands; go_simp; first | done | with_reducible rfl
    simp only [Act.put, List.setIfInBounds_toArray, List.set_cons_zero, List.set_cons_succ]
    refine wpAnyH_take (i := 11) (oi := { dst := some 22, op := Op.slice 35 (Operand.tmp 21) (some (Operand.const (Value.int IntKind.i64 124))) none none, type := 35, pos := "ref.go:173", after := #[{ on := 10, ground := Ground.data }], guard := none }) (v := ?_) rfl (by kernel_rfl) (by kernel_rfl) (by kernel_rfl) (fun _ _ _ h => h) (Or.inl ⟨by rfl, ?_⟩) (by assumption) ?_
    rotate_left
    · intro wS hSw; go_split_ands; go_simp; first | done | with_reducible rfl
    simp only [Act.put, List.setIfInBounds_toArray, List.set_cons_zero, List.set_cons_succ]
    refine wpAnyH_ready (rs := [6]) (by kernel_rfl) (by simp) ?_
    refine AllReadyH.cons (o := { dst := some 17, op := Op.call { callee := Callee.value (Operand.func 107), args := #[Operand.tmp 16], argTypes := #[35] }, type := 109, pos := "ref.go:173", after := #[{ on := 5, ground := Ground.data }], guard := none }) rfl (fun K hK => ?_) AllReadyH.nil
    go_simp
    go_at_call 107; refine (HGA.out _ _ hHeld.2).mono ?_; rintro e w8 ⟨rfl, rfl⟩
    refine hK.out _ _ ?_ (fun hHeld => ?_)
    · exact hHeld
    clear hK K
    try simp only [Act.put, List.setIfInBounds_toArray, List.set_cons_zero, List.set_cons_succ]
    refine wpAnyH_ready (rs := [12]) (by kernel_rfl) (by simp) ?_
    refine AllReadyH.cons (o := { dst := some 23, op := Op.call { callee := Callee.value (Operand.func 107), args := #[Operand.tmp 22], argTypes := #[35] }, type := 109, pos := "ref.go:173", after := #[{ on := 11, ground := Ground.data }, { on := 6, ground := Ground.chain }], guard := none }) rfl (fun K hK => ?_) AllReadyH.nil
    go_simp
    go_at_call 107; refine (HGB.out _ _ hHeld.2).mono ?_; rintro e w8 ⟨rfl, rfl⟩
    refine hK.out _ _ ?_ (fun hHeld => ?_)
    · exact hHeld
    clear hK K
    try simp only [Act.put, List.setIfInBounds_toArray, List.set_cons_zero, List.set_cons_succ]
    refine wpAnyH_ready (rs := [13]) (by kernel_rfl) (by simp) ?_
    refine AllReadyH.cons (o := { dst := some 24, op := Op.call { callee := Callee.builtin Builtin.max, args := #[Operand.tmp 11, Operand.tmp 17, Operand.tmp 23], argTypes := #[109, 109, 109] }, type := 109, pos := "ref.go:173", after := #[{ on := 0, ground := Ground.data }, { on := 6, ground := Ground.data }, { on := 12, ground := Ground.data }], guard := none }) rfl (fun K hK => ?_) AllReadyH.nil
    go_simp
    refine hK.out _ _ ?_ (fun hHeld => ?_)
    · exact hHeld
    clear hK K
    try simp only [Act.put, List.setIfInBounds_toArray, List.set_cons_zero, List.set_cons_succ]
    refine wpAnyH_ready (rs := [14]) (by kernel_rfl) (by simp) ?_
    refine AllReadyH.cons (o := { dst := some 3, op := Op.assign (Operand.tmp 24), type := 109, pos := "ref.go:173", after := #[{ on := 13, ground := Ground.data }, { on := 12, ground := Ground.chain }, { on := 0, ground := Ground.phase }, { on := 1, ground := Ground.phase }, { on := 2, ground := Ground.phase }, { on := 3, ground := Ground.phase }, { on := 4, ground := Ground.phase }, { on := 5, ground := Ground.phase }, { on := 6, ground := Ground.phase }, { on := 7, ground := Ground.phase }, { on := 8, ground := Ground.phase }, { on := 9, ground := Ground.phase }, { on := 10, ground := Ground.phase }, { on := 11, ground := Ground.phase }, { on := 12, ground := Ground.phase }, { on := 13, ground := Ground.phase }], guard := none }) rfl (fun K hK => ?_) AllReadyH.nil
    go_simp
    refine hK.out _ _ ?_ (fun hHeld => ?_)
    · exact hHeld
    clear hK K
    try simp only [Act.put, List.setIfInBounds_toArray, List.set_cons_zero, List.set_cons_succ]
    refine wpAnyH_done (by kernel_rfl) ?_ _
    go_wp2_with (fail)
    go_roundw
    case rel => exact ⟨i + 1, max m (max gn en), by omega, by omega, by go_num, (by congr 1; repeat (first | omega | split)), HNX, hb.trans (hHeld.2.mono hws)⟩
    case measure => simp [intOf]; omega
end Go.Proofs.Ytckeopidedoohaa
