/-
  The law TransportSpans walked: it answers true.
-/
import Derived.Test.YtjkclplnflaplaaAgr
import Derived.Test.YtjkclplnflaplaaLaw7
import Derived.Test.YtjkclplnflaplaaSpans
namespace Go.Proofs.Ytjkclplnflaplaa
open Go.RowKit
attribute [local go_sem] Oper.semAt_some

/-- What Spans answers: an error and no span, or spans that are fine. -/
theorem spans_cases (l : List Ord) (n : Int) : (gCheck l ≠ 0 ∧ gSpans l n = ([], gCheck l)) ∨ (gCheck l = 0 ∧ gSpans l n = ([], 1)) ∨ (gCheck l = 0 ∧ gSpans l n = ([], 2)) ∨ (gCheck l = 0 ∧ 0 ≤ n ∧ n ≤ 1099511627776 ∧ ∃ xs, gSpans l n = (xs, 0) ∧ xs.length ≤ 65536 ∧ Fine l xs n) := by
  by_cases h : gCheck l = 0
  · by_cases h0 : n < 0 ∨ 1099511627776 < n
    · exact .inr (.inl ⟨h, by unfold gSpans; rw [if_neg (not_not_intro h), if_pos h0]⟩)
    · have e := gSpans_of h (t := n) (by omega) (by omega)
      cases ha : accOf (pcsL l n) with
      | none => exact .inr (.inr (.inl ⟨h, by rw [e, ha]; rfl⟩))
      | some acc => exact .inr (.inr (.inr ⟨h, by omega, by omega, acc, by rw [e, ha]; rfl, acc_len ha, acc_fine (good_of_check h) (by omega) (by omega) ha⟩))
  · exact .inl ⟨h, by unfold gSpans; rw [if_pos h]⟩
/-- Where the k-th span begins, or all of them end. -/
def mK (xs : List Sp) (n : Int) (k : Nat) : Int := if k < xs.length then (xs.getD k p0).e else n
theorem chain_at {xs : List Sp} : ∀ {a b : Int} (k : Nat), Chain xs a b → k < xs.length → (xs.getD k p0).e + (xs.getD k p0).len = (if k + 1 < xs.length then (xs.getD (k + 1) p0).e else b) ∧ 1 ≤ (xs.getD k p0).len := by
  induction xs with
  | nil => intro a b k _ hk; simp at hk
  | cons p ps ih =>
    intro a b k h hk
    obtain ⟨h1, h2, _, _, h5⟩ := h
    cases k with
    | zero =>
      cases ps with
      | nil =>
        have : a + p.len = b := h5
        exact ⟨by simp; omega, h2⟩
      | cons q qs =>
        have := h5.1
        exact ⟨by simp; omega, h2⟩
    | succ k =>
      have := ih k h5 (by simpa using hk)
      simpa using this
theorem mK_step {xs : List Sp} {n : Int} (h : Chain xs 0 n) {k : Nat} (hk : k < xs.length) : (xs.getD k p0).e = mK xs n k ∧ mK xs n (k + 1) = mK xs n k + (xs.getD k p0).len ∧ 1 ≤ (xs.getD k p0).len ∧ 0 ≤ mK xs n k ∧ mK xs n k + (xs.getD k p0).len ≤ n := by
  obtain ⟨h1, h2⟩ := chain_at k h hk
  have hm := h.mem (p := xs.getD k p0) (by simp [List.getD, hk])
  have e : (xs.getD k p0).e = mK xs n k := by unfold mK; rw [if_pos hk]
  refine ⟨e, ?_, h2, by omega, by omega⟩
  unfold mK at e ⊢
  rw [← h1, ← e]
theorem mK_zero {xs : List Sp} {n : Int} (h : Chain xs 0 n) : mK xs n 0 = 0 := by
  unfold mK
  cases xs with
  | nil => exact h.symm
  | cons p ps => simpa using h.1

def SpO (w1 : World) (xs : List Sp) (n : Int) (mv iv : Value) (wr : World) : Prop := ∃ k : Nat, k ≤ xs.length ∧ iv = .int .i64 k ∧ mv = .int .i64 (mK xs n k) ∧ Below w1.heap.size w1 wr
def SpJ (w1 : World) (p : Sp) (v : Int) (iv : Value) (wr : World) : Prop := ∃ j : Nat, j ≤ 3 ∧ iv = .int .i64 j ∧ Below w1.heap.size w1 wr ∧ Blk wr w1.heap.size 36 (spc p) ∧ Blk wr (w1.heap.size + 1) 3 #[.int .i64 0, .int .i64 (p.len - 1), .int .i64 v]

set_option maxRecDepth 20000 in
set_option maxHeartbeats 4000000 in
theorem spansLaw_t (A : Option Addr) (c : Nat) (l : List Ord) (n tm : Int) (w : World) (h : SlAt w A l) (hcap : l.length ≤ c) (hmax : l.length ≤ maxLen) (hn64 : -9223372036854775808 ≤ n ∧ n ≤ 9223372036854775807) (htm : 0 ≤ tm ∧ tm ≤ 4294967295) :
    Calls Try.prog 5 #[.slice A l.length c, .int .i64 n, .int .u32 tm] w (Yes w) := by
  by_cases hl : l.length ≤ 300
  case neg =>
    have hf : decide (l.length ≤ 300) = false := decide_eq_false hl
    clear hl
    go_enter Try.func5, Try.ntmps5
    go_wp2_with (first
      | (go_at_call 10; refine (sane_t _).mono ?_; rintro e w1 ⟨rfl, hw1⟩)
      | (go_at_call 11; refine (few_t _ _ _ _).mono ?_; rintro e w2 ⟨rfl, hw2⟩; rw [hf]; have b2 := hw1.trans (hw2.mono hw1.size)))
    go_ret
    exact ⟨rfl, b2⟩
  have hn : l.length ≤ 1000000 := by omega
  have hf : decide (l.length ≤ 300) = true := decide_eq_true hl
  clear hl
  rcases spans_cases l n with ⟨hc, hx⟩ | ⟨hc, hx⟩ | ⟨hc, hx⟩ | ⟨hc, n0, n1, xs, hx, hlen, hfine⟩
  · have HX := Lib.hid hx
    have d : (gCheck l != 0) = true := bne_iff_ne.2 hc
    clear hx hc
    go_enter Try.func5, Try.ntmps5
    go_wp2_with (first
      | (go_at_call 10; refine (sane_t _).mono ?_; rintro e w1 ⟨rfl, hw1⟩; have h1 := h.below hw1)
      | (go_at_call 11; refine (few_t _ _ _ _).mono ?_; rintro e w2 ⟨rfl, hw2⟩; rw [hf]; have h2 := h1.below hw2; have b2 := hw1.trans (hw2.mono hw1.size))
      | (go_at_call 16; refine (spansIs hn hcap HX.out h2).mono ?_; rintro e w3 ⟨A3, c3, rfl, s3, hw3⟩; have h3 := h2.below hw3; have b3 := b2.trans (hw3.mono b2.size))
      | (go_at_call 12; refine (pcheck_t _ _ l _ (by omega) h3).mono ?_; rintro e w4 ⟨rfl, hw4⟩; have b4 := b3.trans (hw4.mono b3.size)))
    go_ret
    exact ⟨rfl, b4⟩
  · have HX := Lib.hid hx
    have d1 : ((1 : Int) == gCheck l) = false := by rw [hc]; rfl
    clear hx hc
    go_enter Try.func5, Try.ntmps5
    go_wp2_with (first
      | (go_at_call 10; refine (sane_t _).mono ?_; rintro e w1 ⟨rfl, hw1⟩; have h1 := h.below hw1)
      | (go_at_call 11; refine (few_t _ _ _ _).mono ?_; rintro e w2 ⟨rfl, hw2⟩; rw [hf]; have h2 := h1.below hw2; have b2 := hw1.trans (hw2.mono hw1.size))
      | (go_at_call 16; refine (spansIs hn hcap HX.out h2).mono ?_; rintro e w3 ⟨A3, c3, rfl, s3, hw3⟩; have h3 := h2.below hw3; have b3 := b2.trans (hw3.mono b2.size))
      | (go_at_call 12; refine (pcheck_t _ _ l _ (by omega) h3).mono ?_; rintro e w4 ⟨rfl, hw4⟩; have b4 := b3.trans (hw4.mono b3.size)))
    go_ret
    exact ⟨rfl, b4⟩
  · have HX := Lib.hid hx
    have d1 : ((2 : Int) == gCheck l) = false := by rw [hc]; rfl
    clear hx hc
    go_enter Try.func5, Try.ntmps5
    go_wp2_with (first
      | (go_at_call 10; refine (sane_t _).mono ?_; rintro e w1 ⟨rfl, hw1⟩; have h1 := h.below hw1)
      | (go_at_call 11; refine (few_t _ _ _ _).mono ?_; rintro e w2 ⟨rfl, hw2⟩; rw [hf]; have h2 := h1.below hw2; have b2 := hw1.trans (hw2.mono hw1.size))
      | (go_at_call 16; refine (spansIs hn hcap HX.out h2).mono ?_; rintro e w3 ⟨A3, c3, rfl, s3, hw3⟩; have h3 := h2.below hw3; have b3 := b2.trans (hw3.mono b2.size))
      | (go_at_call 12; refine (pcheck_t _ _ l _ (by omega) h3).mono ?_; rintro e w4 ⟨rfl, hw4⟩; have b4 := b3.trans (hw4.mono b3.size)))
    go_ret
    exact ⟨rfl, b4⟩
  have HX := Lib.hid hx
  have HC := Lib.hid hc
  have HFI := Lib.hid hfine
  have hz := mK_zero hfine.chain
  have HZ := Lib.hid hz
  clear hx hc hfine hz
  go_enter Try.func5, Try.ntmps5
  go_wp2_with (first
    | (go_at_call 10; refine (sane_t _).mono ?_; rintro e w1 ⟨rfl, hw1⟩; have h1 := h.below hw1)
    | (go_at_call 11; refine (few_t _ _ _ _).mono ?_; rintro e w2 ⟨rfl, hw2⟩; rw [hf]; have h2 := h1.below hw2; have b2 := hw1.trans (hw2.mono hw1.size))
    | (go_at_call 16; refine (spansIs hn hcap HX.out h2).mono ?_; rintro e w3 ⟨A3, c3, rfl, s3, hw3⟩; have h3 := h2.below hw3; have b3 := b2.trans (hw3.mono b2.size)))
  clear h h1 h2 hw1 hw2 hw3 b2
  go_loopw [9, 53] (fun mv iv wr => SpO w3 xs n mv iv wr) (fun _ iv _ => xs.length - (intOf iv).toNat)
  case atStart => exact ⟨0, by omega, rfl, by rw [HZ.out], Below.refl _ _⟩
  case round =>
    obtain ⟨k, hk, rfl, rfl, hwr⟩ := hrel
    by_cases hlt : k < xs.length
    case neg =>
      obtain rfl : k = xs.length := by omega
      have hz2 : mK xs n xs.length = n := by unfold mK; rw [if_neg (by omega)]
      rw [hz2]
      clear hz2 hlt
      go_wp2
      go_ret
      exact ⟨rfl, b3.trans (hwr.mono b3.size)⟩
    obtain ⟨wo, rfl⟩ : ∃ wo : World, wo = wr := ⟨_, rfl⟩
    obtain ⟨me, ms, m1, m0, mn⟩ := mK_step HFI.out.chain hlt
    obtain ⟨M, hM⟩ : ∃ M, M = mK xs n k := ⟨_, rfl⟩
    obtain ⟨M2, hM2⟩ : ∃ M, M = mK xs n (k + 1) := ⟨_, rfl⟩
    rw [← hM] at me ms m0 mn ⊢
    rw [← hM2] at ms
    have HM2 := Lib.hid hM2
    have hagr := HFI.out.agr (xs.getD k p0) (by simp [List.getD, hlt])
    have hmem := HFI.out.chain.mem (p := xs.getD k p0) (by simp [List.getD, hlt])
    obtain ⟨b, o, rfl, hb, hcc⟩ := s3 (by omega)
    have hcc2 : ∀ i, i < xs.length → ∀ c, c < 5 → wo.cell? ⟨b, o + i * 5 + c, none⟩ = (spc (xs.getD i p0))[c]? := fun i hi c hc => (hwr.cell (p := ⟨b, _, none⟩) hb).trans (hcc i hi c hc)
    have l3 := h3.below hwr
    obtain ⟨⟨pe, pl, ps, pr, pc⟩, hp⟩ : ∃ x, x = xs.getD k p0 := ⟨_, rfl⟩
    have x0 := hcc2 k hlt 0 (by omega)
    have x1 := hcc2 k hlt 1 (by omega)
    have x2 := hcc2 k hlt 2 (by omega)
    have x3 := hcc2 k hlt 3 (by omega)
    have x4 := hcc2 k hlt 4 (by omega)
    rw [← hp] at x0 x1 x2 x3 x4 me ms m1 mn hagr hmem
    dsimp only at me ms m1 mn hmem
    subst me
    subst ms
    simp only [spc, Nat.add_zero, List.getElem?_toArray, List.getElem?_cons_zero, List.getElem?_cons_succ] at x0 x1 x2 x3 x4
    have hbw : b < wo.heap.size := Nat.lt_of_lt_of_le hb hwr.size
    have HAG := Lib.hid hagr
    have HPK := Lib.hid hp
    have dl : decide (pl < 1) = false := decide_eq_false (by omega)
    have dn : decide (n - pe < pl) = false := decide_eq_false (by omega)
    have HMM := Lib.hid hM
    clear hagr hp hM hM2
    by_cases hbig : 2000 < k
    · have db : decide (2000 < (k : Int)) = true := decide_eq_true (by omega)
      clear hcc2 hcc hbig
      go_wp2
      go_roundw
      case rel => exact ⟨k + 1, by omega, by go_num, by rw [← HM2.out], hwr.alloc hwr.size _⟩
      case measure => simp [intOf]; omega
    have db : decide (2000 < (k : Int)) = false := decide_eq_false (by omega)
    obtain ⟨v, hv⟩ : ∃ v, v = tm % pl := ⟨_, rfl⟩
    have hv0 : 0 ≤ v := by rw [hv]; exact Int.emod_nonneg _ (by omega)
    have hv1 : v < pl := by rw [hv]; exact Int.emod_lt_of_pos _ (by omega)
    have iv : tm.tmod pl = v := by rw [Int.tmod_eq_emod_of_nonneg htm.1, ← hv]
    have it : IntKind.i64.wrap tm = tm := IntWalk.i64_in _ (by omega)
    have pz : ¬ pl = 0 := by omega
    have il : IntKind.i64.wrap (pl - 1) = pl - 1 := IntWalk.i64_in _ (by omega)
    have al1 : Blk (wo.alloc (.cells (spc ⟨pe, pl, ps, pr, pc⟩) 36)) wo.heap.size 36 (spc ⟨pe, pl, ps, pr, pc⟩) := Blk.new wo 36 _
    obtain ⟨htm0, htm1⟩ := htm
    have HCC := Lib.hid hcc2
    clear hcc2 hcc hv
    go_wp2_with (fail)
    refine wp_region_held_drew (S := (fun W => W.cell? ⟨wo.heap.size, 1, none⟩ = some (.int .i64 pl))) (by kernel_rfl) ?_ (fun hHeld => ?_)
    · go_keep
    try dsimp only at hHeld
    refine wpAnyH_take (i := 0) (oi := { dst := some 81, op := Op.fieldAddr 36 (Operand.tmp 11) 1, type := 0, pos := "law.go:75", after := #[], guard := none }) (v := ?_) rfl (by kernel_rfl) (by kernel_rfl) (by kernel_rfl) (fun _ _ _ h => h) (Or.inl ⟨by rfl, ?_⟩) (by assumption) ?_
    rotate_left
    · intro wS hSw; go_split_ands; go_simp; first | done | with_reducible rfl
    simp only [Act.put, List.setIfInBounds_toArray, List.set_cons_zero, List.set_cons_succ]
    refine wpAnyH_take (i := 1) (oi := { dst := some 82, op := Op.load 3 (Operand.tmp 81), type := 3, pos := "law.go:75", after := #[{ on := 0, ground := Ground.data }], guard := none }) (v := ?_) rfl (by kernel_rfl) (by kernel_rfl) (by kernel_rfl) (fun _ _ _ h => h) (Or.inl ⟨by rfl, ?_⟩) (by assumption) ?_
    rotate_left
    · intro wS hSw; go_split_ands; go_simp; first | done | with_reducible rfl
    simp only [Act.put, List.setIfInBounds_toArray, List.set_cons_zero, List.set_cons_succ]
    refine wpAnyH_take (i := 2) (oi := { dst := some 83, op := Op.binOp BinOp.sub 3 (Operand.tmp 82) (Operand.const (Value.int IntKind.i64 1)) 3, type := 3, pos := "law.go:75", after := #[{ on := 1, ground := Ground.data }], guard := none }) (v := ?_) rfl (by kernel_rfl) (by kernel_rfl) (by kernel_rfl) (fun _ _ _ h => h) (Or.inl ⟨by rfl, ?_⟩) (by assumption) ?_
    rotate_left
    · intro wS hSw; go_split_ands; go_simp; first | done | with_reducible rfl
    simp only [Act.put, List.setIfInBounds_toArray, List.set_cons_zero, List.set_cons_succ]
    refine wpAnyH_take (i := 3) (oi := { dst := some 84, op := Op.move (Operand.tmp 2), type := 34, pos := "law.go:75", after := #[], guard := none }) (v := ?_) rfl (by kernel_rfl) (by kernel_rfl) (by kernel_rfl) (fun _ _ _ h => h) (Or.inl ⟨by rfl, ?_⟩) (by assumption) ?_
    rotate_left
    · intro wS hSw; go_split_ands; go_simp; first | done | with_reducible rfl
    simp only [Act.put, List.setIfInBounds_toArray, List.set_cons_zero, List.set_cons_succ]
    refine wpAnyH_take (i := 4) (oi := { dst := some 85, op := Op.convert 34 3 (Operand.tmp 84), type := 3, pos := "law.go:75", after := #[{ on := 3, ground := Ground.data }], guard := none }) (v := ?_) rfl (by kernel_rfl) (by kernel_rfl) (by kernel_rfl) (fun _ _ _ h => h) (Or.inl ⟨by rfl, ?_⟩) (by assumption) ?_
    rotate_left
    · intro wS hSw; go_split_ands; go_simp; first | done | with_reducible rfl
    simp only [Act.put, List.setIfInBounds_toArray, List.set_cons_zero, List.set_cons_succ]
    refine wpAnyH_take (i := 5) (oi := { dst := some 86, op := Op.fieldAddr 36 (Operand.tmp 11) 1, type := 0, pos := "law.go:75", after := #[], guard := none }) (v := ?_) rfl (by kernel_rfl) (by kernel_rfl) (by kernel_rfl) (fun _ _ _ h => h) (Or.inl ⟨by rfl, ?_⟩) (by assumption) ?_
    rotate_left
    · intro wS hSw; go_split_ands; go_simp; first | done | with_reducible rfl
    simp only [Act.put, List.setIfInBounds_toArray, List.set_cons_zero, List.set_cons_succ]
    refine wpAnyH_take (i := 6) (oi := { dst := some 87, op := Op.load 3 (Operand.tmp 86), type := 3, pos := "law.go:75", after := #[{ on := 5, ground := Ground.data }], guard := none }) (v := ?_) rfl (by kernel_rfl) (by kernel_rfl) (by kernel_rfl) (fun _ _ _ h => h) (Or.inl ⟨by rfl, ?_⟩) (by assumption) ?_
    rotate_left
    · intro wS hSw; go_split_ands; go_simp; first | done | with_reducible rfl
    simp only [Act.put, List.setIfInBounds_toArray, List.set_cons_zero, List.set_cons_succ]
    refine wpAnyH_take (i := 7) (oi := { dst := some 88, op := Op.binOp BinOp.rem 3 (Operand.tmp 85) (Operand.tmp 87) 3, type := 3, pos := "law.go:75", after := #[{ on := 4, ground := Ground.data }, { on := 6, ground := Ground.data }], guard := none }) (v := ?_) rfl (by kernel_rfl) (by kernel_rfl) (by kernel_rfl) (fun _ _ _ h => h) (Or.inl ⟨by rfl, ?_⟩) (by assumption) ?_
    rotate_left
    · intro wS hSw; go_split_ands; go_simp; first | done | with_reducible rfl
    simp only [Act.put, List.setIfInBounds_toArray, List.set_cons_zero, List.set_cons_succ]
    refine wpAnyH_take (i := 10) (oi := { dst := some 91, op := Op.move (Operand.const (Value.int IntKind.i64 0)), type := 3, pos := "law.go:75", after := #[], guard := none }) (v := ?_) rfl (by kernel_rfl) (by kernel_rfl) (by kernel_rfl) (fun _ _ _ h => h) (Or.inl ⟨by rfl, ?_⟩) (by assumption) ?_
    rotate_left
    · intro wS hSw; go_split_ands; go_simp; first | done | with_reducible rfl
    simp only [Act.put, List.setIfInBounds_toArray, List.set_cons_zero, List.set_cons_succ]
    refine wpAnyH_ready (rs := [8]) (by kernel_rfl) (by simp) ?_
    refine AllReadyH.cons (o := { dst := some 89, op := Op.buildSlice 37 3 #[(0, Operand.const (Value.int IntKind.i64 0)), (1, Operand.tmp 83), (2, Operand.tmp 88)], type := 37, pos := "law.go:75", after := #[{ on := 2, ground := Ground.data }, { on := 7, ground := Ground.data }], guard := none }) rfl (fun K hK => ?_) AllReadyH.nil
    go_simp
    refine hK.out _ _ ?_ (fun hHeld => ?_)
    · go_keep
    clear hK K
    try simp only [Act.put, List.setIfInBounds_toArray, List.set_cons_zero, List.set_cons_succ]
    refine wpAnyH_ready (rs := [9]) (by kernel_rfl) (by simp) ?_
    refine AllReadyH.cons (o := { dst := some 90, op := Op.call { callee := Callee.builtin Builtin.len, args := #[Operand.tmp 89], argTypes := #[37] }, type := 3, pos := "law.go:75", after := #[{ on := 8, ground := Ground.data }], guard := none }) rfl (fun K hK => ?_) AllReadyH.nil
    go_simp
    refine hK.out _ _ ?_ (fun hHeld => ?_)
    · go_keep
    clear hK K
    try simp only [Act.put, List.setIfInBounds_toArray, List.set_cons_zero, List.set_cons_succ]
    refine wpAnyH_done (by kernel_rfl) ?_ _
    clear iv il it pz hHeld
    have hal : Below wo.heap.size wo (((wo.alloc (.cells #[.int .i64 pe, .int .i64 pl, .int .i64 ps, .bool pr, .bool pc] 36)).drew).alloc (.cells #[.int .i64 0, .int .i64 (pl - 1), .int .i64 v] 3)) := (((Below.refl wo.heap.size wo).alloc (Nat.le_refl _) _).drew).alloc (by simp) _
    have bl2 : Blk (((wo.alloc (.cells #[.int .i64 pe, .int .i64 pl, .int .i64 ps, .bool pr, .bool pc] 36)).drew).alloc (.cells #[.int .i64 0, .int .i64 (pl - 1), .int .i64 v] 3)) (wo.heap.size + 1) 3 #[.int .i64 0, .int .i64 (pl - 1), .int .i64 v] := Blk.newAt (by simp) 3 _
    have al2 : Blk (((wo.alloc (.cells #[.int .i64 pe, .int .i64 pl, .int .i64 ps, .bool pr, .bool pc] 36)).drew).alloc (.cells #[.int .i64 0, .int .i64 (pl - 1), .int .i64 v] 3)) wo.heap.size 36 (spc ⟨pe, pl, ps, pr, pc⟩) := Blk.alloc (W := (wo.alloc (.cells (spc ⟨pe, pl, ps, pr, pc⟩) 36)).drew) al1 _
    go_wp2_with (fail)
    go_loopw [91] (fun jv wx => SpJ wo ⟨pe, pl, ps, pr, pc⟩ v jv wx) (fun jv _ => 3 - (intOf jv).toNat)
    case atStart => exact ⟨0, by omega, rfl, hal, al2, bl2⟩
    case round =>
      clear hal bl2 al2 al1
      obtain ⟨j, hj, rfl, hwx, sB, iB⟩ := hrel
      have y0 := sB.cell 0
      have y1 := sB.cell 1
      have y2 := sB.cell 2
      have y3 := sB.cell 3
      have y4 := sB.cell 4
      simp only [spc, Nat.add_zero, List.getElem?_toArray, List.getElem?_cons_zero, List.getElem?_cons_succ] at y0 y1 y2 y3 y4
      have lsB := sB.lt
      by_cases hj3 : j < 3
      · obtain ⟨u, hu, u0, u1⟩ : ∃ u, wr.cell? ⟨wo.heap.size + 1, j, none⟩ = some (.int .i64 u) ∧ 0 ≤ u ∧ u < pl := by
          rcases (show j = 0 ∨ j = 1 ∨ j = 2 by omega) with rfl | rfl | rfl
          · exact ⟨0, iB.cell 0, by omega, by omega⟩
          · exact ⟨pl - 1, iB.cell 1, by omega, by omega⟩
          · exact ⟨v, iB.cell 2, by omega, by omega⟩
        obtain ⟨a1, a2, a3⟩ := HAG.out u u0 u1
        have hsg : gSong l (pe + u) = (if pr = true then ps + u else ps, pr, pc, 0) := by
          rw [gSong_of HC.out (by omega) (by omega)]
          dsimp only at a1 a2 a3
          rw [a1, a2, a3]
        have HSG := Lib.hid hsg
        have l5 := l3.below hwx
        have liB := iB.lt
        clear hsg a1 a2 a3
        cases pr
        all_goals
          simp only [if_true, if_false, Bool.false_eq_true] at HSG
          go_wp2_with (fail)
          go_at_call 14
          refine (songIs hn HSG.out l5).mono ?_
          rintro e w6 ⟨rfl, hw6⟩
          have sB6 := sB.below hw6 lsB
          have iB6 := iB.below hw6 liB
          have z0 := sB6.cell 0
          have z1 := sB6.cell 1
          have z2 := sB6.cell 2
          have z3 := sB6.cell 3
          have z4 := sB6.cell 4
          simp only [spc, Nat.add_zero, List.getElem?_toArray, List.getElem?_cons_zero, List.getElem?_cons_succ] at z0 z1 z2 z3 z4
          have hw66 := hwx.trans (hw6.mono hwx.size)
          clear y0 y1 y2 y3 y4 hw6 l5 hu
          go_wp2_with (fail)
          go_roundw
          case rel => exact ⟨j + 1, by omega, by go_num, hw66, sB6, iB6⟩
          case measure => simp [intOf]; omega
      · obtain rfl : j = 3 := by omega
        have hw7 := hwr.trans (hwx.mono hwr.size)
        clear hj3 iB
        by_cases hk0 : k = 0
        · subst hk0
          go_wp2_with (fail)
          go_roundw
          case rel => exact ⟨0 + 1, by omega, by go_num, by rw [← HM2.out], hw7⟩
          case measure => simp [intOf]; omega
        · obtain ⟨q, rfl⟩ : ∃ q, k = q + 1 := ⟨k - 1, by omega⟩
          have hj2 := HFI.out.apart q (by omega)
          have hmem2 := HFI.out.chain.mem (p := xs.getD q p0) (by simp [List.getD, show q < xs.length by omega])
          rw [← HPK.out] at hj2
          obtain ⟨⟨be, bl, bs, br, bc⟩, hp2⟩ : ∃ x, x = xs.getD q p0 := ⟨_, rfl⟩
          have b0 := (hwx.cell (p := ⟨b, _, none⟩) hbw).trans (HCC.out q (by omega) 0 (by omega))
          have b1 := (hwx.cell (p := ⟨b, _, none⟩) hbw).trans (HCC.out q (by omega) 1 (by omega))
          have b2 := (hwx.cell (p := ⟨b, _, none⟩) hbw).trans (HCC.out q (by omega) 2 (by omega))
          have b3' := (hwx.cell (p := ⟨b, _, none⟩) hbw).trans (HCC.out q (by omega) 3 (by omega))
          have b4 := (hwx.cell (p := ⟨b, _, none⟩) hbw).trans (HCC.out q (by omega) 4 (by omega))
          rw [← hp2] at hj2 hmem2 b0 b1 b2 b3' b4
          dsimp only at hmem2
          simp only [spc, Nat.add_zero, List.getElem?_toArray, List.getElem?_cons_zero, List.getElem?_cons_succ] at b0 b1 b2 b3' b4
          have hcases : ¬ br = pr ∨ (br = pr ∧ ¬ bc = pc) ∨ (br = pr ∧ bc = pc ∧ ¬ (if br = true then bs + bl else bs) = ps) := by
            by_cases e1 : br = pr
            · by_cases e2 : bc = pc
              · refine .inr (.inr ⟨e1, e2, fun e3 => ?_⟩)
                have hjt : joinB ⟨be, bl, bs, br, bc⟩ ⟨pe, pl, ps, pr, pc⟩ = true := joinB_iff.2 ⟨e1, e2, e3⟩
                rw [hjt] at hj2
                cases hj2
              · exact .inr (.inl ⟨e1, e2⟩)
            · exact .inl e1
          have d0 : ((q : Int) + 1 == 0) = false := beq_eq_false_iff_ne.2 (by omega)
          clear hj2 hk0 hp2
          rcases hcases with e1 | ⟨e1, e2⟩ | ⟨e1, e2, e3⟩
          · have f1 : (br == pr) = false := beq_eq_false_iff_ne.2 e1
            clear e1
            cases br
            all_goals
              go_wp2_with (fail)
              go_roundw
              case rel => exact ⟨q + 1 + 1, by omega, by go_num, by rw [← HM2.out], hw7.alloc hw7.size _⟩
              case measure => simp [intOf]; omega
          · subst e1
            have f2 : (bc == pc) = false := beq_eq_false_iff_ne.2 e2
            clear e2
            cases br
            all_goals
              go_wp2_with (fail)
              go_roundw
              case rel => exact ⟨q + 1 + 1, by omega, by go_num, by rw [← HM2.out], hw7.alloc hw7.size _⟩
              case measure => simp [intOf]; omega
          · subst e1 e2
            cases br
            all_goals
              simp only [if_true, if_false, Bool.false_eq_true] at e3
              have f3 := beq_eq_false_iff_ne.2 e3
              clear e3
              go_wp2_with (fail)
              go_roundw
              case rel => exact ⟨q + 1 + 1, by omega, by go_num, by rw [← HM2.out], hw7.alloc hw7.size _⟩
              case measure => simp [intOf]; omega
end Go.Proofs.Ytjkclplnflaplaa
