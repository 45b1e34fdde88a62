/-
  The iterator over the pieces of the first engine samples. Conditions: orders that are fine, a number of samples that is allowed.
-/
import Derived.Test.YtjkclplnflaplaaPcs
import Derived.Test.YtjkclplnflaplaaTail
namespace Go.Proofs.Ytjkclplnflaplaa
open Go.RowKit
attribute [local go_sem] Oper.semAt_some

/-- The orders that are left, as the iterator's box holds them. -/
def LeftAt (l : List Ord) (b o : Nat) (j : Nat) (A : Option Addr) (c : Nat) : Prop := j < l.length → A = some ⟨b, o + j * 4, none⟩ ∧ l.length - j ≤ c

/-- What the iterator keeps between two pieces. -/
def PcI (l : List Ord) (n : Int) (S Bn Bl b o : Nat) (w : World) (j : Nat) (m : Int) (s : St) (cc : Col) (wr : World) : Prop :=
  j ≤ l.length ∧ (∀ i, i < j → oT l i ≤ m) ∧ (j < l.length → m ≤ oT l j) ∧ s = advS (runS l j) (m - nowK l j) ∧ 0 ≤ m ∧ m ≤ n ∧
  Blk wr S 46 (stc s) ∧ Blk wr (S + 1) 62 actsC ∧ Blk wr Bn 3 #[.int .i64 n] ∧ (∃ A c, Blk wr Bl 22 #[.slice A (l.length - j) c] ∧ LeftAt l b o j A c) ∧
  Keep (fun r => r ≠ Bn ∧ r ≠ b) w wr ∧
  (¬ cc.cl Bn ∧ ¬ cc.cl b ∧ cc.it Bl ∧ ¬ cc.cl Bl ∧ cc.it S ∧ ¬ cc.cl S ∧ cc.it (S + 1) ∧ ¬ cc.cl (S + 1))

def lenOf : Option Value → Nat
  | some (.slice _ k _) => k
  | _ => 0
theorem pcS_end (l : List Ord) (n : Int) (f : Nat) {m : Int} (h : n ≤ m) : pcS l n f m = [] := by
  cases f with
  | zero => rfl
  | succ f => unfold pcS; rw [if_neg (by omega)]
theorem pcS_step (l : List Ord) (n : Int) (f : Nat) {m : Int} (h : m < n) : pcS l n (f + 1) m = piece l n m :: pcS l n f (m + (piece l n m).len) := by
  show (if m < n then _ else _) = _
  rw [if_pos h]
/-- What a keeper of the iterator's memory needs of a world's step by the iterator itself. -/
theorem Keep.weak {may may' : Nat → Prop} {a b : World} (h : Keep may a b) (hm : ∀ r, may r → may' r) : Keep may' a b := h.mono fun r _ hr => hm r hr

set_option maxRecDepth 20000 in
set_option maxHeartbeats 4000000 in
theorem pieces_iter (n0 Bn Bl b o c : Nat) (A : Option Addr) (l : List Ord) (n : Int) (w : World) (hg : GoodTo l l.length) (hle : l.length ≤ 256) (hn0 : 0 ≤ n) (hn1 : n ≤ 1099511627776)
    (hBn : Blk w Bn 3 #[.int .i64 n]) (hBl : Blk w Bl 22 #[.slice A l.length c]) (hne : Bn ≠ Bl) (hbl : b ≠ Bl) (hbw : b < w.heap.size) (hA : LeftAt l b o 0 A c) (hm : 0 < l.length → OrdAt w b o l) :
    IterC n0 Try.prog 38 #[.pointer (some ⟨Bn, 0, none⟩), .pointer (some ⟨Bl, 0, none⟩)] (fun x : Sp => #[spv x]) (fun xs => xs = pcsL l n) (fun pre => pre <+: pcsL l n) w (fun r => r = Bl) (fun r => r = b ∨ r = Bn) := by
  intro lp J Jx c0 W hW hJ hJx hits hros hY h0
  refine callsIn_of_wp Try.func38 rfl trivial (wpIn_wide.2 ?_) rfl
  have xBn := hBn.below hW hBn.lt
  have xBl := hBl.below hW hBl.lt
  have hWs := hW.size
  have lBn := hBn.lt
  have lBl := hBl.lt
  simp only [Try.ntmps38, List.size_toArray, List.length_cons, List.length_nil, Nat.reduceAdd, Nat.reduceSub, Array.replicate_succ, Array.replicate_zero, List.push_toArray, List.append_toArray, List.nil_append, List.cons_append]
  go_wp2_with (go_at_call 21; refine (acts_t _).mono ?_; rintro e w2 ⟨rfl, rfl⟩)
  have hal : Below W.heap.size W ((W.alloc (.cells (stc s0) 46)).alloc (.cells actsC 62)) := ((Below.refl _ W).alloc (Nat.le_refl _) _).alloc (by simp) _
  go_loopw [6] (fun v wr => ∃ (m : Int) (j f : Nat) (s : St) (cc : Col) (pre : List Sp), v = .int .i64 m ∧ Hid (PcI l n W.heap.size Bn Bl b o w j m s cc wr) ∧ Hid (pcsL l n = pre ++ pcS l n f m ∧ (n - m).toNat ≤ f) ∧ J cc pre wr) (fun v _ => (n - intOf v).toNat)
  case atStart =>
    refine ⟨0, 0, n.toNat, s0, c0.own W.heap.size, [], rfl, Lib.hid ⟨by omega, fun i hi => by omega, fun h => (hg.1 0 h).1, (advS_zero s0).symm, by omega, hn0, (Blk.new W 46 _).alloc _, Blk.newAt (by simp) 62 _, (xBn.alloc _).alloc _, ⟨A, c, (xBl.alloc _).alloc _, hA⟩, (Keep.of_below (hW.trans (hal.mono hWs)) _ (fun r h1 h2 => by omega)), ?_⟩, Lib.hid ⟨by rfl, by omega⟩, hJ _ _ _ _ _ h0 (Keep.of_same hal _) (c0.same_own _)⟩
    refine ⟨fun h => hros Bn (.inr (.inr rfl)) h.2, fun h => hros b (.inr (.inl rfl)) h.2, .inr (hits Bl rfl), fun h => hros Bl (.inl rfl) h.2, .inl (Nat.le_refl _), fun h => by have := h.1; omega, .inl (by omega), fun h => by have := h.1; omega⟩
  case round =>
    clear hal
    obtain ⟨m, j, f, s, cc, pre, rfl, hI, hP, hj⟩ := hrel
    have xn := (hI.out.2.2.2.2.2.2.2.2.1).cell0
    have hmn := hI.out.2.2.2.2.2.1
    have hm0 := hI.out.2.2.2.2.1
    by_cases hmlt : m < n
    case neg =>
      go_wp2_with fail
      refine bodyPost_end (results_none rfl _ _ _) rfl ?_
      have hpe : pre = pcsL l n := by rw [hP.out.1, pcS_end l n f (by omega), List.append_nil]
      rw [hpe] at hj
      first | exact ⟨⟨_, rfl⟩, .inl ⟨cc, _, rfl, hj⟩⟩ | exact ⟨⟨_, rfl⟩, .inl ⟨cc, hj⟩⟩
    go_wp2_with fail
    go_loopw [13] (fun _ wr => ∃ (j : Nat) (s : St) (cc : Col), Hid (PcI l n W.heap.size Bn Bl b o w j m s cc wr) ∧ J cc pre wr) (fun _ wr => lenOf (wr.cell? ⟨Bl, 0, none⟩))
    case atStart => exact ⟨j, s, cc, hI, hj⟩
    case round =>
      clear hj hI j s cc
      obtain ⟨j, s, cc, hI, hj⟩ := hrel
      obtain ⟨i1, i2, i3, i4, _, _, bS, bA, bN, ⟨A', c', bL, hL⟩, hkp, hcol⟩ := hI.out
      have yl := bL.cell0
      have yn := bN.cell0
      have fl := bL.frozen 0
      have nb := hkp.size
      have lA := bA.lt
      by_cases hjl : j < l.length
      case neg =>
        have hz : l.length - j = 0 := by omega
        rw [hz] at yl
        have HK := Lib.hid (cut_uniq (t := m) i1 i2 (fun h => absurd h hjl))
        have i4' := Lib.hid i4
        have i2' := Lib.hid i2
        clear hz i4 i2 hL
        have hat : s = atS l m := by unfold atS; rw [← HK.out]; exact i4'.out
        have hnx : nx l n (cutK l m) = n := by rw [← HK.out]; unfold nx; rw [if_neg hjl]
        have HAT := Lib.hid hat
        have HNX := Lib.hid hnx
        have hnb := now_bd hg i1
        have hrk := run_ok hg j i1
        have hnm : nowK l j ≤ m := by
          cases j with
          | zero => exact hm0
          | succ j => exact i2'.out j (by omega)
        have hokm : Okp s m := by
          have := hrk.adv hnb.1 (n := m - nowK l j) (by omega)
          rw [← i4'.out, show nowK l j + (m - nowK l j) = m by omega] at this
          exact this
        have hokq : Okq s := by rw [i4'.out]; exact (run_okq hg j i1).adv _
        have hok := hokm.ok (by omega)
        have hsb := std_bd hok hokq (d := n - m) (by omega)
        have KS := fun W => steady_t s (n - m) W hok hokq (by omega) (by omega)
        have KR := fun W => recorded_t s W
        obtain ⟨k, hkd⟩ : ∃ k, k = stdS s (n - m) := ⟨_, rfl⟩
        rw [← hkd] at KS hsb
        have HKD := Lib.hid hkd
        unfold stv stc at KS KR
        obtain ⟨e0, e1, e2, e3, e4, e5, e6, e7, ef⟩ := stc_cells bS
        clear hkd hat hnx
        go_wp2_with (go_at_call 39; refine (KS _).mono ?_; rintro e w6 ⟨rfl, hw6⟩)
        have bS6 := bS.below hw6 bS.lt
        obtain ⟨y0, y1, y2, y3, y4, y5, y6, y7, yf⟩ := stc_cells bS6
        have i6 : Below w.heap.size W wr ∨ True := .inr trivial
        have hsz6 := hw6.size
        have hSlt := bS.lt
        have hBllt := bL.lt
        have hBnlt := bN.lt
        refine (wpIn_wide (n := n0)).1 ?_
        refine split_region (pre := #[{ dst := some 53, op := Op.move (Operand.tmp 0), type := 65, pos := "transport.go:140", after := #[], guard := none }, { dst := some 54, op := Op.move (Operand.tmp 6), type := 3, pos := "transport.go:140", after := #[], guard := none }, { dst := some 55, op := Op.move (Operand.tmp 8), type := 3, pos := "transport.go:140", after := #[], guard := none }, { dst := some 56, op := Op.fieldAddr 46 (Operand.tmp 4) 0, type := 0, pos := "transport.go:140", after := #[], guard := none }, { dst := some 57, op := Op.load 3 (Operand.tmp 56), type := 3, pos := "transport.go:140", after := #[{ on := 3, ground := Ground.data }], guard := none }, { dst := some 58, op := Op.fieldAddr 46 (Operand.tmp 4) 1, type := 0, pos := "transport.go:140", after := #[], guard := none }, { dst := some 59, op := Op.load 4 (Operand.tmp 58), type := 4, pos := "transport.go:140", after := #[{ on := 5, ground := Ground.data }], guard := none }, { dst := some 60, op := Op.load 46 (Operand.tmp 4), type := 46, pos := "transport.go:140", after := #[], guard := none }, { dst := some 61, op := Op.call { callee := Callee.value (Operand.func 23), args := #[Operand.tmp 60], argTypes := #[46] }, type := 4, pos := "transport.go:140", after := #[{ on := 7, ground := Ground.data }], guard := none }, { dst := some 62, op := Op.build 36 #[(0, Operand.tmp 54), (1, Operand.tmp 55), (2, Operand.tmp 57), (3, Operand.tmp 59), (4, Operand.tmp 61)], type := 36, pos := "transport.go:140", after := #[{ on := 1, ground := Ground.data }, { on := 2, ground := Ground.data }, { on := 4, ground := Ground.data }, { on := 6, ground := Ground.data }, { on := 8, ground := Ground.data }], guard := none }]) (S := (fun W0 => W0.cell? ⟨W.heap.size, 0, none⟩ = some (.int .i64 s.pos) ∧ W0.cell? ⟨W.heap.size, 1, none⟩ = some (.bool s.roll) ∧ W0.cell? ⟨W.heap.size, 2, none⟩ = some (.bool s.lon) ∧ W0.cell? ⟨W.heap.size, 3, none⟩ = some (.int .i64 s.la) ∧ W0.cell? ⟨W.heap.size, 4, none⟩ = some (.int .i64 s.lb) ∧ W0.cell? ⟨W.heap.size, 5, none⟩ = some (.bool s.pon) ∧ W0.cell? ⟨W.heap.size, 6, none⟩ = some (.int .i64 s.pa) ∧ W0.cell? ⟨W.heap.size, 7, none⟩ = some (.int .i64 s.pb))) n0 10 2 11 (by kernel_rfl) (by kernel_rfl) rfl rfl (fun i hi => by rcases (show i = 0 ∨ i = 1 ∨ i = 2 ∨ i = 3 ∨ i = 4 ∨ i = 5 ∨ i = 6 ∨ i = 7 ∨ i = 8 ∨ i = 9 by omega) with rfl | rfl | rfl | rfl | rfl | rfl | rfl | rfl | rfl | rfl <;> rfl) (by kernel_rfl) (by kernel_rfl) (by kernel_rfl) ?_ (fun hHeld => ?_)
        · go_keep
        try dsimp only at hHeld
        refine wpAnyH_take (i := 0) (oi := { dst := some 53, op := Op.move (Operand.tmp 0), type := 65, pos := "transport.go:140", after := #[], guard := none }) (v := ?_) rfl (by kernel_rfl) (by kernel_rfl) (by kernel_rfl) (fun _ _ _ h => h) (Or.inl ⟨by rfl, ?_⟩) (by assumption) ?_
        rotate_left
        · intro wS hSw; go_split_ands; go_simp; first | done | with_reducible rfl
        simp only [Act.put, List.setIfInBounds_toArray, List.set_cons_zero, List.set_cons_succ]
        refine wpAnyH_take (i := 1) (oi := { dst := some 54, op := Op.move (Operand.tmp 6), type := 3, pos := "transport.go:140", after := #[], guard := none }) (v := ?_) rfl (by kernel_rfl) (by kernel_rfl) (by kernel_rfl) (fun _ _ _ h => h) (Or.inl ⟨by rfl, ?_⟩) (by assumption) ?_
        rotate_left
        · intro wS hSw; go_split_ands; go_simp; first | done | with_reducible rfl
        simp only [Act.put, List.setIfInBounds_toArray, List.set_cons_zero, List.set_cons_succ]
        refine wpAnyH_take (i := 2) (oi := { dst := some 55, op := Op.move (Operand.tmp 8), type := 3, pos := "transport.go:140", after := #[], guard := none }) (v := ?_) rfl (by kernel_rfl) (by kernel_rfl) (by kernel_rfl) (fun _ _ _ h => h) (Or.inl ⟨by rfl, ?_⟩) (by assumption) ?_
        rotate_left
        · intro wS hSw; go_split_ands; go_simp; first | done | with_reducible rfl
        simp only [Act.put, List.setIfInBounds_toArray, List.set_cons_zero, List.set_cons_succ]
        refine wpAnyH_take (i := 3) (oi := { dst := some 56, op := Op.fieldAddr 46 (Operand.tmp 4) 0, type := 0, pos := "transport.go:140", after := #[], guard := none }) (v := ?_) rfl (by kernel_rfl) (by kernel_rfl) (by kernel_rfl) (fun _ _ _ h => h) (Or.inl ⟨by rfl, ?_⟩) (by assumption) ?_
        rotate_left
        · intro wS hSw; go_split_ands; go_simp; first | done | with_reducible rfl
        simp only [Act.put, List.setIfInBounds_toArray, List.set_cons_zero, List.set_cons_succ]
        refine wpAnyH_take (i := 4) (oi := { dst := some 57, op := Op.load 3 (Operand.tmp 56), type := 3, pos := "transport.go:140", after := #[{ on := 3, ground := Ground.data }], guard := none }) (v := ?_) rfl (by kernel_rfl) (by kernel_rfl) (by kernel_rfl) (fun _ _ _ h => h) (Or.inl ⟨by rfl, ?_⟩) (by assumption) ?_
        rotate_left
        · intro wS hSw; go_split_ands; go_simp; first | done | with_reducible rfl
        simp only [Act.put, List.setIfInBounds_toArray, List.set_cons_zero, List.set_cons_succ]
        refine wpAnyH_take (i := 5) (oi := { dst := some 58, op := Op.fieldAddr 46 (Operand.tmp 4) 1, type := 0, pos := "transport.go:140", after := #[], guard := none }) (v := ?_) rfl (by kernel_rfl) (by kernel_rfl) (by kernel_rfl) (fun _ _ _ h => h) (Or.inl ⟨by rfl, ?_⟩) (by assumption) ?_
        rotate_left
        · intro wS hSw; go_split_ands; go_simp; first | done | with_reducible rfl
        simp only [Act.put, List.setIfInBounds_toArray, List.set_cons_zero, List.set_cons_succ]
        refine wpAnyH_take (i := 6) (oi := { dst := some 59, op := Op.load 4 (Operand.tmp 58), type := 4, pos := "transport.go:140", after := #[{ on := 5, ground := Ground.data }], guard := none }) (v := ?_) rfl (by kernel_rfl) (by kernel_rfl) (by kernel_rfl) (fun _ _ _ h => h) (Or.inl ⟨by rfl, ?_⟩) (by assumption) ?_
        rotate_left
        · intro wS hSw; go_split_ands; go_simp; first | done | with_reducible rfl
        simp only [Act.put, List.setIfInBounds_toArray, List.set_cons_zero, List.set_cons_succ]
        refine wpAnyH_take (i := 7) (oi := { dst := some 60, op := Op.load 46 (Operand.tmp 4), type := 46, pos := "transport.go:140", after := #[], guard := none }) (v := ?_) rfl (by kernel_rfl) (by kernel_rfl) (by kernel_rfl) (fun _ _ _ h => h) (Or.inl ⟨by rfl, ?_⟩) (by assumption) ?_
        rotate_left
        · intro wS hSw; go_split_ands; go_simp; first | done | with_reducible rfl
        simp only [Act.put, List.setIfInBounds_toArray, List.set_cons_zero, List.set_cons_succ]
        refine wpAnyH_ready (rs := [8]) (by kernel_rfl) (by simp) ?_
        refine AllReadyH.cons (o := { dst := some 61, op := Op.call { callee := Callee.value (Operand.func 23), args := #[Operand.tmp 60], argTypes := #[46] }, type := 4, pos := "transport.go:140", after := #[{ on := 7, ground := Ground.data }], guard := none }) rfl (fun K hK => ?_) AllReadyH.nil
        go_simp
        go_at_call 23; refine (KR _).mono ?_; rintro e w7 ⟨rfl, hb7⟩
        refine hK.out _ _ ?_ (fun hHeld => ?_)
        · exact ⟨(hb7.cell (p := ⟨W.heap.size, 0, none⟩) (by simp <;> omega)).trans (by go_keep), (hb7.cell (p := ⟨W.heap.size, 1, none⟩) (by simp <;> omega)).trans (by go_keep), (hb7.cell (p := ⟨W.heap.size, 2, none⟩) (by simp <;> omega)).trans (by go_keep), (hb7.cell (p := ⟨W.heap.size, 3, none⟩) (by simp <;> omega)).trans (by go_keep), (hb7.cell (p := ⟨W.heap.size, 4, none⟩) (by simp <;> omega)).trans (by go_keep), (hb7.cell (p := ⟨W.heap.size, 5, none⟩) (by simp <;> omega)).trans (by go_keep), (hb7.cell (p := ⟨W.heap.size, 6, none⟩) (by simp <;> omega)).trans (by go_keep), (hb7.cell (p := ⟨W.heap.size, 7, none⟩) (by simp <;> omega)).trans (by go_keep)⟩
        clear hK K
        try simp only [Act.put, List.setIfInBounds_toArray, List.set_cons_zero, List.set_cons_succ]
        refine wpAnyH_take (i := 9) (oi := { dst := some 62, op := Op.build 36 #[(0, Operand.tmp 54), (1, Operand.tmp 55), (2, Operand.tmp 57), (3, Operand.tmp 59), (4, Operand.tmp 61)], type := 36, pos := "transport.go:140", after := #[{ on := 1, ground := Ground.data }, { on := 2, ground := Ground.data }, { on := 4, ground := Ground.data }, { on := 6, ground := Ground.data }, { on := 8, ground := Ground.data }], guard := none }) (v := ?_) rfl (by kernel_rfl) (by kernel_rfl) (by kernel_rfl) (fun _ _ _ h => h) (Or.inl ⟨by rfl, ?_⟩) (by assumption) ?_
        rotate_left
        · intro wS hSw; go_split_ands; go_simp; first | done | with_reducible rfl
        simp only [Act.put, List.setIfInBounds_toArray, List.set_cons_zero, List.set_cons_succ]
        refine wpAnyH_done (by kernel_rfl) ?_ _
        clear hHeld
        have w7s := hb7.size
        simp only [World.drew] at w7s
        have k67 : Below wr.heap.size wr w7 := (hw6.drew).trans (hb7.mono (by simp; omega))
        have hj7 := hJ _ _ _ _ _ hj (Keep.of_same k67 cc.it) (cc.same_own wr.heap.size)
        have hmlt' : 0 < f := by have := hP.out.2; omega
        obtain ⟨f', rfl⟩ : ∃ f', f = f' + 1 := ⟨f - 1, by omega⟩
        have hpc : piece l n m = ⟨m, k, s.pos, s.roll, recB s⟩ := by unfold piece; rw [← HAT.out, HNX.out, ← HKD.out]
        have hpp := hP.out.1
        rw [pcS_step l n f' hmlt, hpc] at hpp
        dsimp only at hpp
        have hpre : pre ++ [⟨m, k, s.pos, s.roll, recB s⟩] <+: pcsL l n := ⟨pcS l n f' (m + k), by rw [hpp]; simp⟩
        obtain ⟨fn, tmps, assign, bodyc, hy, hR⟩ := hY _ _ ⟨m, k, s.pos, s.roll, recB s⟩ _ hj7 hpre
        simp only [spv, spc] at hy
        show wpAnyIn Fence.wide n0 _ _ _ _ 2 _ _ _
        refine wpAnyIn_one (f := 1) (i := 10) (by kernel_rfl) ?_
        refine ⟨fun _ _ => trivial, ?_⟩
        go_simp
        refine hR.mono ?_
        rintro e W' ⟨hkp2, (⟨rfl, hj'⟩ | ⟨rfl, hjx⟩)⟩
        · refine wpAnyIn_one (f := 0) (i := 11) (by kernel_rfl) ?_
          refine ⟨fun _ _ => trivial, ?_⟩
          go_simp
          refine wpAnyIn_end (by kernel_rfl) ?_
          have W's := hkp2.size
          have cS : ∀ r, r < wr.heap.size → (((cc.own wr.heap.size).by w7.heap.size).cl r ↔ cc.cl r) ∧ (((cc.own wr.heap.size).by w7.heap.size).it r ↔ cc.it r) := fun r hr => by
            refine ⟨⟨fun h => h.elim (fun h => by have := k67.size; omega) (fun h => h.2), fun h => .inr ⟨hr, h⟩⟩, ⟨fun h => h.2.elim (fun h => by omega) id, fun h => ⟨by have := k67.size; omega, .inr h⟩⟩⟩
          have kk : ∀ (B : Nat) (ty : TypeId) (cs : Array Value), Blk wr B ty cs → ¬ cc.cl B → Blk W' B ty cs := fun B ty cs hB hn => (hB.below k67 hB.lt).keep hkp2 (fun h => hn h.2)
          have bS' := kk _ _ _ bS hcol.2.2.2.2.2.1
          have bA' := kk _ _ _ bA hcol.2.2.2.2.2.2.2
          have bN' := kk _ _ _ bN hcol.1
          have bL' := kk _ _ _ bL hcol.2.2.2.1
          have KA := advance_t W.heap.size s k W' hok (by omega) (by omega) bS'
          clear hy hR hY
          go_wp2_with (go_at_call 22; refine KA.mono ?_; rintro e w8 ⟨v8, rfl, b8, k8⟩)
          have hj8 := hJ _ _ _ _ _ hj' (k8.mono (may' := ((cc.own wr.heap.size).by w7.heap.size).it) (fun r _ h => ((cS r (by omega)).2.2 (h ▸ hcol.2.2.2.2.1)))) (Col.same_own _ W'.heap.size)
          have hbr : b < wr.heap.size := by omega
          have hadd := advS_add (hrk.ok (by omega)) (a := m - nowK l j) (b := k) (by omega) (by omega)
          rw [← i4'.out, show m - nowK l j + k = m + k - nowK l j by omega] at hadd
          go_roundw
          case rel =>
            refine ⟨m + k, j, f', advS s k, _, _, by first | rfl | trivial, Lib.hid ⟨i1, fun i hi => by have := i2'.out i hi; omega, fun h => absurd h hjl, hadd, by omega, by omega, b8, bA'.keep k8 (by omega), bN'.keep k8 (by omega), ⟨_, c', bL'.keep k8 (by omega), fun h => absurd h hjl⟩, ((hkp.trans (Keep.of_same k67 _)).then hkp2 (fun r _ h => ⟨fun e => hcol.1 (e ▸ h.2), fun e => hcol.2.1 (e ▸ h.2)⟩)).then k8 (fun r _ h => ⟨by omega, by omega⟩), ?_⟩, Lib.hid ⟨by rw [hpp]; simp, by have := hP.out.2; omega⟩, hj8⟩
            exact ⟨fun h => hcol.1 ((cS Bn hBnlt).1.1 h.2), fun h => hcol.2.1 ((cS b hbr).1.1 h.2), .inr ((cS Bl hBllt).2.2 hcol.2.2.1), fun h => hcol.2.2.2.1 ((cS Bl hBllt).1.1 h.2), .inr ((cS _ hSlt).2.2 hcol.2.2.2.2.1), fun h => hcol.2.2.2.2.2.1 ((cS _ hSlt).1.1 h.2), .inr ((cS _ lA).2.2 hcol.2.2.2.2.2.2.1), fun h => hcol.2.2.2.2.2.2.2 ((cS _ lA).1.1 h.2)⟩
          case measure => simp [intOf]; omega
        · refine wpAnyIn_one (f := 0) (i := 11) (by kernel_rfl) ?_
          refine ⟨fun _ _ => trivial, ?_⟩
          go_simp
          refine wpAnyIn_end (by kernel_rfl) ?_
          clear hy hR hY
          go_wp2_with fail
          refine bodyPost_ret (results_none rfl _ _ _) rfl ?_
          exact ⟨⟨_, rfl⟩, .inr ⟨_, _, hpre, hjx⟩⟩
      obtain ⟨rfl, hc'⟩ := hL hjl
      have hmm : OrdAt wr b o l := by
        have h0 := hm (by omega)
        exact ⟨by omega, fun i hi => (hkp.cell (p := ⟨b, _, none⟩) hbw (fun h => h.2 rfl)).trans (h0.c0 i hi), fun i hi => (hkp.cell (p := ⟨b, _, none⟩) hbw (fun h => h.2 rfl)).trans (h0.c1 i hi), fun i hi => (hkp.cell (p := ⟨b, _, none⟩) hbw (fun h => h.2 rfl)).trans (h0.c2 i hi), fun i hi => (hkp.cell (p := ⟨b, _, none⟩) hbw (fun h => h.2 rfl)).trans (h0.c3 i hi)⟩
      have g0 := hmm.c0 j hjl
      have g1 := hmm.c1 j hjl
      have g2 := hmm.c2 j hjl
      have g3 := hmm.c3 j hjl
      obtain ⟨tt, ht⟩ : ∃ x, x = oT l j := ⟨_, rfl⟩
      obtain ⟨kd, hkd⟩ : ∃ x, x = oK l j := ⟨_, rfl⟩
      obtain ⟨xa, hxa⟩ : ∃ x, x = oA l j := ⟨_, rfl⟩
      obtain ⟨xb, hxb⟩ : ∃ x, x = oB l j := ⟨_, rfl⟩
      rw [← ht] at g0 i3
      rw [← hkd] at g1
      rw [← hxa] at g2
      rw [← hxb] at g3
      have hx : l.getD j o0 = ⟨tt, kd, xa, xb⟩ := by rw [ht, hkd, hxa, hxb]; rfl
      have HX := Lib.hid hx
      have HTT := Lib.hid ht
      clear hx ht hkd hxa hxb
      obtain ⟨q, hq⟩ : ∃ q, l.length - j = q + 1 := ⟨l.length - j - 1, by omega⟩
      rw [hq] at yl bL hc'
      have HQ := Lib.hid hq
      have i4' := Lib.hid i4
      have i2' := Lib.hid i2
      clear hq i4 i2 hL
      have d0 : decide (0 < (q : Int) + 1) = true := decide_eq_true (by omega)
      by_cases heq : tt = m
      case pos =>
        have dm : (tt == m) = true := beq_iff_eq.2 heq
        obtain ⟨nk, fk, hkn, hn7, hn0', hac, eg, KF⟩ := act_any (x := ⟨tt, kd, xa, xb⟩) (by rw [← HX.out]; exact hg.1 j hjl)
        dsimp only at hkn KF
        subst hkn
        have HE := Lib.hid heq
        clear heq
        have ya : wr.cell? ⟨W.heap.size + 1, nk, none⟩ = some (.func (.func fk) #[] #[]) := (bA.cell nk).trans hac
        have hn7i : (nk : Int) < 7 := by omega
        go_wp2_with fail
        refine wp_region_held_drew (S := (fun W0 => W0.cell? ⟨Bl, 0, none⟩ = some (.slice (some ⟨b, o + j * 4, none⟩) (q + 1) c') ∧ W0.cell? ⟨W.heap.size + 1, nk, none⟩ = some (.func (.func fk) #[] #[]) ∧ W0.cell? ⟨b, o + j * 4, none⟩ = some (.int .i64 tt) ∧ W0.cell? ⟨b, o + j * 4 + 1, none⟩ = some (.int .i64 nk) ∧ W0.cell? ⟨b, o + j * 4 + 2, none⟩ = some (.int .i64 xa) ∧ W0.cell? ⟨b, o + j * 4 + 3, none⟩ = some (.int .i64 xb))) (by kernel_rfl) ?_ (fun hHeld => ?_)
        · go_keep
        try dsimp only at hHeld
        refine wpAnyH_take (i := 0) (oi := { dst := some 24, op := Op.move (Operand.tmp 5), type := 47, pos := "transport.go:132", after := #[], guard := none }) (v := ?_) rfl (by kernel_rfl) (by kernel_rfl) (by kernel_rfl) (fun _ _ _ h => h) (Or.inl ⟨by rfl, ?_⟩) (by assumption) ?_
        rotate_left
        · intro wS hSw; go_split_ands; go_simp; first | done | with_reducible rfl
        simp only [Act.put, List.setIfInBounds_toArray, List.set_cons_zero, List.set_cons_succ]
        refine wpAnyH_take (i := 1) (oi := { dst := some 25, op := Op.load 22 (Operand.tmp 2), type := 22, pos := "transport.go:132", after := #[], guard := none }) (v := ?_) rfl (by kernel_rfl) (by kernel_rfl) (by kernel_rfl) (fun _ _ _ h => h) (Or.inl ⟨by rfl, ?_⟩) (by assumption) ?_
        rotate_left
        · intro wS hSw; go_split_ands; go_simp; first | done | with_reducible rfl
        simp only [Act.put, List.setIfInBounds_toArray, List.set_cons_zero, List.set_cons_succ]
        refine wpAnyH_take (i := 2) (oi := { dst := some 26, op := Op.indexAddr 22 (Operand.tmp 25) (Operand.const (Value.int IntKind.i64 0)), type := 0, pos := "transport.go:132", after := #[{ on := 1, ground := Ground.data }], guard := none }) (v := ?_) rfl (by kernel_rfl) (by kernel_rfl) (by kernel_rfl) (fun _ _ _ h => h) (Or.inl ⟨by rfl, ?_⟩) (by assumption) ?_
        rotate_left
        · intro wS hSw; go_split_ands; go_simp; first | done | with_reducible rfl
        simp only [Act.put, List.setIfInBounds_toArray, List.set_cons_zero, List.set_cons_succ]
        refine wpAnyH_take (i := 3) (oi := { dst := some 27, op := Op.fieldAddr 40 (Operand.tmp 26) 1, type := 0, pos := "transport.go:132", after := #[{ on := 2, ground := Ground.data }], guard := none }) (v := ?_) rfl (by kernel_rfl) (by kernel_rfl) (by kernel_rfl) (fun _ _ _ h => h) (Or.inl ⟨by rfl, ?_⟩) (by assumption) ?_
        rotate_left
        · intro wS hSw; go_split_ands; go_simp; first | done | with_reducible rfl
        simp only [Act.put, List.setIfInBounds_toArray, List.set_cons_zero, List.set_cons_succ]
        refine wpAnyH_take (i := 4) (oi := { dst := some 28, op := Op.load 3 (Operand.tmp 27), type := 3, pos := "transport.go:132", after := #[{ on := 3, ground := Ground.data }], guard := none }) (v := ?_) rfl (by kernel_rfl) (by kernel_rfl) (by kernel_rfl) (fun _ _ _ h => h) (Or.inl ⟨by rfl, ?_⟩) (by assumption) ?_
        rotate_left
        · intro wS hSw; go_split_ands; go_simp; first | done | with_reducible rfl
        simp only [Act.put, List.setIfInBounds_toArray, List.set_cons_zero, List.set_cons_succ]
        refine wpAnyH_take (i := 5) (oi := { dst := some 29, op := Op.nilCheck (Operand.tmp 24), type := 0, pos := "transport.go:132", after := #[{ on := 0, ground := Ground.data }], guard := none }) (v := ?_) rfl (by kernel_rfl) (by kernel_rfl) (by kernel_rfl) (fun _ _ _ h => h) (Or.inl ⟨by rfl, ?_⟩) (by assumption) ?_
        rotate_left
        · intro wS hSw; go_split_ands; go_simp; first | done | with_reducible rfl
        simp only [Act.put, List.setIfInBounds_toArray, List.set_cons_zero, List.set_cons_succ]
        refine wpAnyH_take (i := 6) (oi := { dst := some 30, op := Op.indexAddr 62 (Operand.tmp 29) (Operand.tmp 28), type := 0, pos := "transport.go:132", after := #[{ on := 5, ground := Ground.data }, { on := 4, ground := Ground.data }], guard := none }) (v := ?_) rfl (by kernel_rfl) (by kernel_rfl) (by kernel_rfl) (fun _ _ _ h => h) (Or.inl ⟨by rfl, ?_⟩) (by assumption) ?_
        rotate_left
        · intro wS hSw; go_split_ands; go_simp; first | done | with_reducible rfl
        simp only [Act.put, List.setIfInBounds_toArray, List.set_cons_zero, List.set_cons_succ]
        refine wpAnyH_take (i := 7) (oi := { dst := some 31, op := Op.load 50 (Operand.tmp 30), type := 50, pos := "transport.go:132", after := #[{ on := 6, ground := Ground.data }], guard := none }) (v := ?_) rfl (by kernel_rfl) (by kernel_rfl) (by kernel_rfl) (fun _ _ _ h => h) (Or.inl ⟨by rfl, ?_⟩) (by assumption) ?_
        rotate_left
        · intro wS hSw; go_split_ands; go_simp; first | done | with_reducible rfl
        simp only [Act.put, List.setIfInBounds_toArray, List.set_cons_zero, List.set_cons_succ]
        refine wpAnyH_take (i := 8) (oi := { dst := some 32, op := Op.load 22 (Operand.tmp 2), type := 22, pos := "transport.go:132", after := #[], guard := none }) (v := ?_) rfl (by kernel_rfl) (by kernel_rfl) (by kernel_rfl) (fun _ _ _ h => h) (Or.inl ⟨by rfl, ?_⟩) (by assumption) ?_
        rotate_left
        · intro wS hSw; go_split_ands; go_simp; first | done | with_reducible rfl
        simp only [Act.put, List.setIfInBounds_toArray, List.set_cons_zero, List.set_cons_succ]
        refine wpAnyH_take (i := 9) (oi := { dst := some 33, op := Op.indexAddr 22 (Operand.tmp 32) (Operand.const (Value.int IntKind.i64 0)), type := 0, pos := "transport.go:132", after := #[{ on := 8, ground := Ground.data }], guard := none }) (v := ?_) rfl (by kernel_rfl) (by kernel_rfl) (by kernel_rfl) (fun _ _ _ h => h) (Or.inl ⟨by rfl, ?_⟩) (by assumption) ?_
        rotate_left
        · intro wS hSw; go_split_ands; go_simp; first | done | with_reducible rfl
        simp only [Act.put, List.setIfInBounds_toArray, List.set_cons_zero, List.set_cons_succ]
        refine wpAnyH_take (i := 10) (oi := { dst := some 34, op := Op.load 40 (Operand.tmp 33), type := 40, pos := "transport.go:132", after := #[{ on := 9, ground := Ground.data }], guard := none }) (v := ?_) rfl (by kernel_rfl) (by kernel_rfl) (by kernel_rfl) (fun _ _ _ h => h) (Or.inl ⟨by rfl, ?_⟩) (by assumption) ?_
        rotate_left
        · intro wS hSw; go_split_ands; go_simp; first | done | with_reducible rfl
        simp only [Act.put, List.setIfInBounds_toArray, List.set_cons_zero, List.set_cons_succ]
        refine wpAnyH_ready (rs := [11]) (by kernel_rfl) (by simp) ?_
        refine AllReadyH.cons (o := { dst := some 35, op := Op.call { callee := Callee.value (Operand.tmp 31), args := #[Operand.tmp 4, Operand.tmp 34], argTypes := #[51, 40] }, type := 0, pos := "transport.go:132", after := #[{ on := 7, ground := Ground.data }, { on := 10, ground := Ground.data }], guard := none }) rfl (fun K hK => ?_) AllReadyH.nil
        go_simp
        refine (KF W.heap.size s _ (show Blk wr.drew _ _ _ from bS)).mono ?_; rintro e w5 ⟨v5, rfl, b5, k5⟩
        refine hK.out _ _ ?_ (fun hHeld => ?_)
        · exact ⟨(k5.cell (p := ⟨Bl, 0, none⟩) (by simp <;> omega) (by simp <;> omega)).trans (by go_keep), (k5.cell (p := ⟨W.heap.size + 1, nk, none⟩) (by simp <;> omega) (by simp <;> omega)).trans (by go_keep), (k5.cell (p := ⟨b, o + j * 4, none⟩) (by simp <;> omega) (by simp <;> omega)).trans (by go_keep), (k5.cell (p := ⟨b, o + j * 4 + 1, none⟩) (by simp <;> omega) (by simp <;> omega)).trans (by go_keep), (k5.cell (p := ⟨b, o + j * 4 + 2, none⟩) (by simp <;> omega) (by simp <;> omega)).trans (by go_keep), (k5.cell (p := ⟨b, o + j * 4 + 3, none⟩) (by simp <;> omega) (by simp <;> omega)).trans (by go_keep)⟩
        clear hK K
        try simp only [Act.put, List.setIfInBounds_toArray, List.set_cons_zero, List.set_cons_succ]
        refine wpAnyH_done (by kernel_rfl) ?_ _
        have nBl : Bl ≠ W.heap.size := by omega
        have nBn : Bn ≠ W.heap.size := by omega
        have nbS : b ≠ W.heap.size := by omega
        have bL5 : Blk w5 Bl 22 _ := Blk.keep (W := wr.drew) bL k5 nBl
        have yl5 := bL5.cell0
        have fl5 := bL5.frozen 0
        clear hHeld
        go_wp2_with fail
        go_roundw
        case rel =>
          refine ⟨j + 1, ordS s ⟨tt, nk, xa, xb⟩, cc, Lib.hid ⟨by omega, fun i hi => ?_, fun hlt => ?_, ?_, hm0, hmn, b5.other (p := ⟨Bl, 0, none⟩) (fun h => nBl h.symm) _, (Blk.keep (W := wr.drew) bA k5 (by omega)).other (p := ⟨Bl, 0, none⟩) (by simp <;> omega) _, (Blk.keep (W := wr.drew) bN k5 nBn).other (p := ⟨Bl, 0, none⟩) hne _, ⟨(if c' = 1 then some ⟨b, o + j * 4, none⟩ else some ⟨b, o + j * 4 + 4, none⟩), c' - 1, ?_, ?_⟩, (hkp.drew.then k5 (fun r _ h => ⟨by omega, by omega⟩)).setCell (p := ⟨Bl, 0, none⟩) (fun _ => ⟨fun h => hne h.symm, fun h => hbl h.symm⟩) _, hcol⟩, hJ cc cc pre wr _ hj (((Keep.refl cc.it wr).drew.then k5 (fun r _ h => h ▸ hcol.2.2.2.2.1)).setCell (p := ⟨Bl, 0, none⟩) (fun _ => hcol.2.2.1) _) (Col.same_refl _ _)⟩
          · rcases Nat.lt_or_ge i j with h' | h'
            · exact i2'.out i h'
            · obtain rfl : i = j := by omega
              rw [← HTT.out, HE.out]
              exact Int.le_refl _
          · have := hg.2 j hlt
            rw [← HTT.out, HE.out] at this
            exact this
          · have e1 : m - nowK l (j + 1) = 0 := by
              show m - oT l j = 0
              rw [← HTT.out, HE.out]
              omega
            rw [e1, advS_zero]
            show _ = ordS (advS (runS l j) (oT l j - nowK l j)) (l.getD j o0)
            rw [HX.out, ← HTT.out, HE.out, ← i4'.out]
          · rw [show l.length - (j + 1) = q by have := HQ.out; omega]
            exact bL5.set0 _
          · intro hlt
            have hc2 : ¬ c' = 1 := by have := HQ.out; omega
            rw [if_neg hc2, show o + j * 4 + 4 = o + (j + 1) * 4 by omega]
            exact ⟨rfl, by have := HQ.out; omega⟩
        case measure =>
          rw [(bL5.set0 _).cell0, bL.cell0]
          simp [lenOf]
      have dm : (tt == m) = false := beq_eq_false_iff_ne.2 heq
      have i3' := i3 hjl
      have hmt : m < tt := by omega
      have HK := Lib.hid (cut_uniq (t := m) i1 i2'.out (fun _ => by rw [← HTT.out]; exact hmt))
      clear heq
      by_cases hmin : tt < n
      case pos =>
        have hat : s = atS l m := by unfold atS; rw [← HK.out]; exact i4'.out
        have hnx : nx l n (cutK l m) = tt := by rw [← HK.out]; unfold nx; rw [if_pos hjl, ← HTT.out]; omega
        have HAT := Lib.hid hat
        have HNX := Lib.hid hnx
        have hnb := now_bd hg i1
        have hrk := run_ok hg j i1
        have hnm : nowK l j ≤ m := by
          cases j with
          | zero => exact hm0
          | succ j => exact i2'.out j (by omega)
        have hokm : Okp s m := by
          have := hrk.adv hnb.1 (n := m - nowK l j) (by omega)
          rw [← i4'.out, show nowK l j + (m - nowK l j) = m by omega] at this
          exact this
        have hokq : Okq s := by rw [i4'.out]; exact (run_okq hg j i1).adv _
        have hok := hokm.ok (by omega)
        have hsb := std_bd hok hokq (d := tt - m) (by omega)
        have KS := fun W => steady_t s (tt - m) W hok hokq (by omega) (by omega)
        have KR := fun W => recorded_t s W
        obtain ⟨k, hkd⟩ : ∃ k, k = stdS s (tt - m) := ⟨_, rfl⟩
        rw [← hkd] at KS hsb
        have HKD := Lib.hid hkd
        unfold stv stc at KS KR
        obtain ⟨e0, e1, e2, e3, e4, e5, e6, e7, ef⟩ := stc_cells bS
        clear hkd hat hnx
        go_wp2_with (go_at_call 39; refine (KS _).mono ?_; rintro e w6 ⟨rfl, hw6⟩)
        have bS6 := bS.below hw6 bS.lt
        obtain ⟨y0, y1, y2, y3, y4, y5, y6, y7, yf⟩ := stc_cells bS6
        have i6 : Below w.heap.size W wr ∨ True := .inr trivial
        have hsz6 := hw6.size
        have hSlt := bS.lt
        have hBllt := bL.lt
        have hBnlt := bN.lt
        refine (wpIn_wide (n := n0)).1 ?_
        refine split_region (pre := #[{ dst := some 53, op := Op.move (Operand.tmp 0), type := 65, pos := "transport.go:140", after := #[], guard := none }, { dst := some 54, op := Op.move (Operand.tmp 6), type := 3, pos := "transport.go:140", after := #[], guard := none }, { dst := some 55, op := Op.move (Operand.tmp 8), type := 3, pos := "transport.go:140", after := #[], guard := none }, { dst := some 56, op := Op.fieldAddr 46 (Operand.tmp 4) 0, type := 0, pos := "transport.go:140", after := #[], guard := none }, { dst := some 57, op := Op.load 3 (Operand.tmp 56), type := 3, pos := "transport.go:140", after := #[{ on := 3, ground := Ground.data }], guard := none }, { dst := some 58, op := Op.fieldAddr 46 (Operand.tmp 4) 1, type := 0, pos := "transport.go:140", after := #[], guard := none }, { dst := some 59, op := Op.load 4 (Operand.tmp 58), type := 4, pos := "transport.go:140", after := #[{ on := 5, ground := Ground.data }], guard := none }, { dst := some 60, op := Op.load 46 (Operand.tmp 4), type := 46, pos := "transport.go:140", after := #[], guard := none }, { dst := some 61, op := Op.call { callee := Callee.value (Operand.func 23), args := #[Operand.tmp 60], argTypes := #[46] }, type := 4, pos := "transport.go:140", after := #[{ on := 7, ground := Ground.data }], guard := none }, { dst := some 62, op := Op.build 36 #[(0, Operand.tmp 54), (1, Operand.tmp 55), (2, Operand.tmp 57), (3, Operand.tmp 59), (4, Operand.tmp 61)], type := 36, pos := "transport.go:140", after := #[{ on := 1, ground := Ground.data }, { on := 2, ground := Ground.data }, { on := 4, ground := Ground.data }, { on := 6, ground := Ground.data }, { on := 8, ground := Ground.data }], guard := none }]) (S := (fun W0 => W0.cell? ⟨W.heap.size, 0, none⟩ = some (.int .i64 s.pos) ∧ W0.cell? ⟨W.heap.size, 1, none⟩ = some (.bool s.roll) ∧ W0.cell? ⟨W.heap.size, 2, none⟩ = some (.bool s.lon) ∧ W0.cell? ⟨W.heap.size, 3, none⟩ = some (.int .i64 s.la) ∧ W0.cell? ⟨W.heap.size, 4, none⟩ = some (.int .i64 s.lb) ∧ W0.cell? ⟨W.heap.size, 5, none⟩ = some (.bool s.pon) ∧ W0.cell? ⟨W.heap.size, 6, none⟩ = some (.int .i64 s.pa) ∧ W0.cell? ⟨W.heap.size, 7, none⟩ = some (.int .i64 s.pb))) n0 10 2 11 (by kernel_rfl) (by kernel_rfl) rfl rfl (fun i hi => by rcases (show i = 0 ∨ i = 1 ∨ i = 2 ∨ i = 3 ∨ i = 4 ∨ i = 5 ∨ i = 6 ∨ i = 7 ∨ i = 8 ∨ i = 9 by omega) with rfl | rfl | rfl | rfl | rfl | rfl | rfl | rfl | rfl | rfl <;> rfl) (by kernel_rfl) (by kernel_rfl) (by kernel_rfl) ?_ (fun hHeld => ?_)
        · go_keep
        try dsimp only at hHeld
        refine wpAnyH_take (i := 0) (oi := { dst := some 53, op := Op.move (Operand.tmp 0), type := 65, pos := "transport.go:140", after := #[], guard := none }) (v := ?_) rfl (by kernel_rfl) (by kernel_rfl) (by kernel_rfl) (fun _ _ _ h => h) (Or.inl ⟨by rfl, ?_⟩) (by assumption) ?_
        rotate_left
        · intro wS hSw; go_split_ands; go_simp; first | done | with_reducible rfl
        simp only [Act.put, List.setIfInBounds_toArray, List.set_cons_zero, List.set_cons_succ]
        refine wpAnyH_take (i := 1) (oi := { dst := some 54, op := Op.move (Operand.tmp 6), type := 3, pos := "transport.go:140", after := #[], guard := none }) (v := ?_) rfl (by kernel_rfl) (by kernel_rfl) (by kernel_rfl) (fun _ _ _ h => h) (Or.inl ⟨by rfl, ?_⟩) (by assumption) ?_
        rotate_left
        · intro wS hSw; go_split_ands; go_simp; first | done | with_reducible rfl
        simp only [Act.put, List.setIfInBounds_toArray, List.set_cons_zero, List.set_cons_succ]
        refine wpAnyH_take (i := 2) (oi := { dst := some 55, op := Op.move (Operand.tmp 8), type := 3, pos := "transport.go:140", after := #[], guard := none }) (v := ?_) rfl (by kernel_rfl) (by kernel_rfl) (by kernel_rfl) (fun _ _ _ h => h) (Or.inl ⟨by rfl, ?_⟩) (by assumption) ?_
        rotate_left
        · intro wS hSw; go_split_ands; go_simp; first | done | with_reducible rfl
        simp only [Act.put, List.setIfInBounds_toArray, List.set_cons_zero, List.set_cons_succ]
        refine wpAnyH_take (i := 3) (oi := { dst := some 56, op := Op.fieldAddr 46 (Operand.tmp 4) 0, type := 0, pos := "transport.go:140", after := #[], guard := none }) (v := ?_) rfl (by kernel_rfl) (by kernel_rfl) (by kernel_rfl) (fun _ _ _ h => h) (Or.inl ⟨by rfl, ?_⟩) (by assumption) ?_
        rotate_left
        · intro wS hSw; go_split_ands; go_simp; first | done | with_reducible rfl
        simp only [Act.put, List.setIfInBounds_toArray, List.set_cons_zero, List.set_cons_succ]
        refine wpAnyH_take (i := 4) (oi := { dst := some 57, op := Op.load 3 (Operand.tmp 56), type := 3, pos := "transport.go:140", after := #[{ on := 3, ground := Ground.data }], guard := none }) (v := ?_) rfl (by kernel_rfl) (by kernel_rfl) (by kernel_rfl) (fun _ _ _ h => h) (Or.inl ⟨by rfl, ?_⟩) (by assumption) ?_
        rotate_left
        · intro wS hSw; go_split_ands; go_simp; first | done | with_reducible rfl
        simp only [Act.put, List.setIfInBounds_toArray, List.set_cons_zero, List.set_cons_succ]
        refine wpAnyH_take (i := 5) (oi := { dst := some 58, op := Op.fieldAddr 46 (Operand.tmp 4) 1, type := 0, pos := "transport.go:140", after := #[], guard := none }) (v := ?_) rfl (by kernel_rfl) (by kernel_rfl) (by kernel_rfl) (fun _ _ _ h => h) (Or.inl ⟨by rfl, ?_⟩) (by assumption) ?_
        rotate_left
        · intro wS hSw; go_split_ands; go_simp; first | done | with_reducible rfl
        simp only [Act.put, List.setIfInBounds_toArray, List.set_cons_zero, List.set_cons_succ]
        refine wpAnyH_take (i := 6) (oi := { dst := some 59, op := Op.load 4 (Operand.tmp 58), type := 4, pos := "transport.go:140", after := #[{ on := 5, ground := Ground.data }], guard := none }) (v := ?_) rfl (by kernel_rfl) (by kernel_rfl) (by kernel_rfl) (fun _ _ _ h => h) (Or.inl ⟨by rfl, ?_⟩) (by assumption) ?_
        rotate_left
        · intro wS hSw; go_split_ands; go_simp; first | done | with_reducible rfl
        simp only [Act.put, List.setIfInBounds_toArray, List.set_cons_zero, List.set_cons_succ]
        refine wpAnyH_take (i := 7) (oi := { dst := some 60, op := Op.load 46 (Operand.tmp 4), type := 46, pos := "transport.go:140", after := #[], guard := none }) (v := ?_) rfl (by kernel_rfl) (by kernel_rfl) (by kernel_rfl) (fun _ _ _ h => h) (Or.inl ⟨by rfl, ?_⟩) (by assumption) ?_
        rotate_left
        · intro wS hSw; go_split_ands; go_simp; first | done | with_reducible rfl
        simp only [Act.put, List.setIfInBounds_toArray, List.set_cons_zero, List.set_cons_succ]
        refine wpAnyH_ready (rs := [8]) (by kernel_rfl) (by simp) ?_
        refine AllReadyH.cons (o := { dst := some 61, op := Op.call { callee := Callee.value (Operand.func 23), args := #[Operand.tmp 60], argTypes := #[46] }, type := 4, pos := "transport.go:140", after := #[{ on := 7, ground := Ground.data }], guard := none }) rfl (fun K hK => ?_) AllReadyH.nil
        go_simp
        go_at_call 23; refine (KR _).mono ?_; rintro e w7 ⟨rfl, hb7⟩
        refine hK.out _ _ ?_ (fun hHeld => ?_)
        · exact ⟨(hb7.cell (p := ⟨W.heap.size, 0, none⟩) (by simp <;> omega)).trans (by go_keep), (hb7.cell (p := ⟨W.heap.size, 1, none⟩) (by simp <;> omega)).trans (by go_keep), (hb7.cell (p := ⟨W.heap.size, 2, none⟩) (by simp <;> omega)).trans (by go_keep), (hb7.cell (p := ⟨W.heap.size, 3, none⟩) (by simp <;> omega)).trans (by go_keep), (hb7.cell (p := ⟨W.heap.size, 4, none⟩) (by simp <;> omega)).trans (by go_keep), (hb7.cell (p := ⟨W.heap.size, 5, none⟩) (by simp <;> omega)).trans (by go_keep), (hb7.cell (p := ⟨W.heap.size, 6, none⟩) (by simp <;> omega)).trans (by go_keep), (hb7.cell (p := ⟨W.heap.size, 7, none⟩) (by simp <;> omega)).trans (by go_keep)⟩
        clear hK K
        try simp only [Act.put, List.setIfInBounds_toArray, List.set_cons_zero, List.set_cons_succ]
        refine wpAnyH_take (i := 9) (oi := { dst := some 62, op := Op.build 36 #[(0, Operand.tmp 54), (1, Operand.tmp 55), (2, Operand.tmp 57), (3, Operand.tmp 59), (4, Operand.tmp 61)], type := 36, pos := "transport.go:140", after := #[{ on := 1, ground := Ground.data }, { on := 2, ground := Ground.data }, { on := 4, ground := Ground.data }, { on := 6, ground := Ground.data }, { on := 8, ground := Ground.data }], guard := none }) (v := ?_) rfl (by kernel_rfl) (by kernel_rfl) (by kernel_rfl) (fun _ _ _ h => h) (Or.inl ⟨by rfl, ?_⟩) (by assumption) ?_
        rotate_left
        · intro wS hSw; go_split_ands; go_simp; first | done | with_reducible rfl
        simp only [Act.put, List.setIfInBounds_toArray, List.set_cons_zero, List.set_cons_succ]
        refine wpAnyH_done (by kernel_rfl) ?_ _
        clear hHeld
        have w7s := hb7.size
        simp only [World.drew] at w7s
        have k67 : Below wr.heap.size wr w7 := (hw6.drew).trans (hb7.mono (by simp; omega))
        have hj7 := hJ _ _ _ _ _ hj (Keep.of_same k67 cc.it) (cc.same_own wr.heap.size)
        have hmlt' : 0 < f := by have := hP.out.2; omega
        obtain ⟨f', rfl⟩ : ∃ f', f = f' + 1 := ⟨f - 1, by omega⟩
        have hpc : piece l n m = ⟨m, k, s.pos, s.roll, recB s⟩ := by unfold piece; rw [← HAT.out, HNX.out, ← HKD.out]
        have hpp := hP.out.1
        rw [pcS_step l n f' hmlt, hpc] at hpp
        dsimp only at hpp
        have hpre : pre ++ [⟨m, k, s.pos, s.roll, recB s⟩] <+: pcsL l n := ⟨pcS l n f' (m + k), by rw [hpp]; simp⟩
        obtain ⟨fn, tmps, assign, bodyc, hy, hR⟩ := hY _ _ ⟨m, k, s.pos, s.roll, recB s⟩ _ hj7 hpre
        simp only [spv, spc] at hy
        show wpAnyIn Fence.wide n0 _ _ _ _ 2 _ _ _
        refine wpAnyIn_one (f := 1) (i := 10) (by kernel_rfl) ?_
        refine ⟨fun _ _ => trivial, ?_⟩
        go_simp
        refine hR.mono ?_
        rintro e W' ⟨hkp2, (⟨rfl, hj'⟩ | ⟨rfl, hjx⟩)⟩
        · refine wpAnyIn_one (f := 0) (i := 11) (by kernel_rfl) ?_
          refine ⟨fun _ _ => trivial, ?_⟩
          go_simp
          refine wpAnyIn_end (by kernel_rfl) ?_
          have W's := hkp2.size
          have cS : ∀ r, r < wr.heap.size → (((cc.own wr.heap.size).by w7.heap.size).cl r ↔ cc.cl r) ∧ (((cc.own wr.heap.size).by w7.heap.size).it r ↔ cc.it r) := fun r hr => by
            refine ⟨⟨fun h => h.elim (fun h => by have := k67.size; omega) (fun h => h.2), fun h => .inr ⟨hr, h⟩⟩, ⟨fun h => h.2.elim (fun h => by omega) id, fun h => ⟨by have := k67.size; omega, .inr h⟩⟩⟩
          have kk : ∀ (B : Nat) (ty : TypeId) (cs : Array Value), Blk wr B ty cs → ¬ cc.cl B → Blk W' B ty cs := fun B ty cs hB hn => (hB.below k67 hB.lt).keep hkp2 (fun h => hn h.2)
          have bS' := kk _ _ _ bS hcol.2.2.2.2.2.1
          have bA' := kk _ _ _ bA hcol.2.2.2.2.2.2.2
          have bN' := kk _ _ _ bN hcol.1
          have bL' := kk _ _ _ bL hcol.2.2.2.1
          have KA := advance_t W.heap.size s k W' hok (by omega) (by omega) bS'
          clear hy hR hY
          go_wp2_with (go_at_call 22; refine KA.mono ?_; rintro e w8 ⟨v8, rfl, b8, k8⟩)
          have hj8 := hJ _ _ _ _ _ hj' (k8.mono (may' := ((cc.own wr.heap.size).by w7.heap.size).it) (fun r _ h => ((cS r (by omega)).2.2 (h ▸ hcol.2.2.2.2.1)))) (Col.same_own _ W'.heap.size)
          have hbr : b < wr.heap.size := by omega
          have hadd := advS_add (hrk.ok (by omega)) (a := m - nowK l j) (b := k) (by omega) (by omega)
          rw [← i4'.out, show m - nowK l j + k = m + k - nowK l j by omega] at hadd
          go_roundw
          case rel =>
            refine ⟨m + k, j, f', advS s k, _, _, by first | rfl | trivial, Lib.hid ⟨i1, fun i hi => by have := i2'.out i hi; omega, fun _ => by rw [← HTT.out]; omega, hadd, by omega, by omega, b8, bA'.keep k8 (by omega), bN'.keep k8 (by omega), ⟨_, c', by rw [HQ.out]; exact bL'.keep k8 (by omega), fun _ => ⟨rfl, by have := HQ.out; omega⟩⟩, ((hkp.trans (Keep.of_same k67 _)).then hkp2 (fun r _ h => ⟨fun e => hcol.1 (e ▸ h.2), fun e => hcol.2.1 (e ▸ h.2)⟩)).then k8 (fun r _ h => ⟨by omega, by omega⟩), ?_⟩, Lib.hid ⟨by rw [hpp]; simp, by have := hP.out.2; omega⟩, hj8⟩
            exact ⟨fun h => hcol.1 ((cS Bn hBnlt).1.1 h.2), fun h => hcol.2.1 ((cS b hbr).1.1 h.2), .inr ((cS Bl hBllt).2.2 hcol.2.2.1), fun h => hcol.2.2.2.1 ((cS Bl hBllt).1.1 h.2), .inr ((cS _ hSlt).2.2 hcol.2.2.2.2.1), fun h => hcol.2.2.2.2.2.1 ((cS _ hSlt).1.1 h.2), .inr ((cS _ lA).2.2 hcol.2.2.2.2.2.2.1), fun h => hcol.2.2.2.2.2.2.2 ((cS _ lA).1.1 h.2)⟩
          case measure => simp [intOf]; omega
        · refine wpAnyIn_one (f := 0) (i := 11) (by kernel_rfl) ?_
          refine ⟨fun _ _ => trivial, ?_⟩
          go_simp
          refine wpAnyIn_end (by kernel_rfl) ?_
          clear hy hR hY
          go_wp2_with fail
          refine bodyPost_ret (results_none rfl _ _ _) rfl ?_
          exact ⟨⟨_, rfl⟩, .inr ⟨_, _, hpre, hjx⟩⟩
      have hmin2 : n ≤ tt := by omega
      have hat : s = atS l m := by unfold atS; rw [← HK.out]; exact i4'.out
      have hnx : nx l n (cutK l m) = n := by rw [← HK.out]; unfold nx; rw [if_pos hjl, ← HTT.out]; omega
      have HAT := Lib.hid hat
      have HNX := Lib.hid hnx
      have hnb := now_bd hg i1
      have hrk := run_ok hg j i1
      have hnm : nowK l j ≤ m := by
        cases j with
        | zero => exact hm0
        | succ j => exact i2'.out j (by omega)
      have hokm : Okp s m := by
        have := hrk.adv hnb.1 (n := m - nowK l j) (by omega)
        rw [← i4'.out, show nowK l j + (m - nowK l j) = m by omega] at this
        exact this
      have hokq : Okq s := by rw [i4'.out]; exact (run_okq hg j i1).adv _
      have hok := hokm.ok (by omega)
      have hsb := std_bd hok hokq (d := n - m) (by omega)
      have KS := fun W => steady_t s (n - m) W hok hokq (by omega) (by omega)
      have KR := fun W => recorded_t s W
      obtain ⟨k, hkd⟩ : ∃ k, k = stdS s (n - m) := ⟨_, rfl⟩
      rw [← hkd] at KS hsb
      have HKD := Lib.hid hkd
      unfold stv stc at KS KR
      obtain ⟨e0, e1, e2, e3, e4, e5, e6, e7, ef⟩ := stc_cells bS
      clear hkd hat hnx
      go_wp2_with (go_at_call 39; refine (KS _).mono ?_; rintro e w6 ⟨rfl, hw6⟩)
      have bS6 := bS.below hw6 bS.lt
      obtain ⟨y0, y1, y2, y3, y4, y5, y6, y7, yf⟩ := stc_cells bS6
      have i6 : Below w.heap.size W wr ∨ True := .inr trivial
      have hsz6 := hw6.size
      have hSlt := bS.lt
      have hBllt := bL.lt
      have hBnlt := bN.lt
      refine (wpIn_wide (n := n0)).1 ?_
      refine split_region (pre := #[{ dst := some 53, op := Op.move (Operand.tmp 0), type := 65, pos := "transport.go:140", after := #[], guard := none }, { dst := some 54, op := Op.move (Operand.tmp 6), type := 3, pos := "transport.go:140", after := #[], guard := none }, { dst := some 55, op := Op.move (Operand.tmp 8), type := 3, pos := "transport.go:140", after := #[], guard := none }, { dst := some 56, op := Op.fieldAddr 46 (Operand.tmp 4) 0, type := 0, pos := "transport.go:140", after := #[], guard := none }, { dst := some 57, op := Op.load 3 (Operand.tmp 56), type := 3, pos := "transport.go:140", after := #[{ on := 3, ground := Ground.data }], guard := none }, { dst := some 58, op := Op.fieldAddr 46 (Operand.tmp 4) 1, type := 0, pos := "transport.go:140", after := #[], guard := none }, { dst := some 59, op := Op.load 4 (Operand.tmp 58), type := 4, pos := "transport.go:140", after := #[{ on := 5, ground := Ground.data }], guard := none }, { dst := some 60, op := Op.load 46 (Operand.tmp 4), type := 46, pos := "transport.go:140", after := #[], guard := none }, { dst := some 61, op := Op.call { callee := Callee.value (Operand.func 23), args := #[Operand.tmp 60], argTypes := #[46] }, type := 4, pos := "transport.go:140", after := #[{ on := 7, ground := Ground.data }], guard := none }, { dst := some 62, op := Op.build 36 #[(0, Operand.tmp 54), (1, Operand.tmp 55), (2, Operand.tmp 57), (3, Operand.tmp 59), (4, Operand.tmp 61)], type := 36, pos := "transport.go:140", after := #[{ on := 1, ground := Ground.data }, { on := 2, ground := Ground.data }, { on := 4, ground := Ground.data }, { on := 6, ground := Ground.data }, { on := 8, ground := Ground.data }], guard := none }]) (S := (fun W0 => W0.cell? ⟨W.heap.size, 0, none⟩ = some (.int .i64 s.pos) ∧ W0.cell? ⟨W.heap.size, 1, none⟩ = some (.bool s.roll) ∧ W0.cell? ⟨W.heap.size, 2, none⟩ = some (.bool s.lon) ∧ W0.cell? ⟨W.heap.size, 3, none⟩ = some (.int .i64 s.la) ∧ W0.cell? ⟨W.heap.size, 4, none⟩ = some (.int .i64 s.lb) ∧ W0.cell? ⟨W.heap.size, 5, none⟩ = some (.bool s.pon) ∧ W0.cell? ⟨W.heap.size, 6, none⟩ = some (.int .i64 s.pa) ∧ W0.cell? ⟨W.heap.size, 7, none⟩ = some (.int .i64 s.pb))) n0 10 2 11 (by kernel_rfl) (by kernel_rfl) rfl rfl (fun i hi => by rcases (show i = 0 ∨ i = 1 ∨ i = 2 ∨ i = 3 ∨ i = 4 ∨ i = 5 ∨ i = 6 ∨ i = 7 ∨ i = 8 ∨ i = 9 by omega) with rfl | rfl | rfl | rfl | rfl | rfl | rfl | rfl | rfl | rfl <;> rfl) (by kernel_rfl) (by kernel_rfl) (by kernel_rfl) ?_ (fun hHeld => ?_)
      · go_keep
      try dsimp only at hHeld
      refine wpAnyH_take (i := 0) (oi := { dst := some 53, op := Op.move (Operand.tmp 0), type := 65, pos := "transport.go:140", after := #[], guard := none }) (v := ?_) rfl (by kernel_rfl) (by kernel_rfl) (by kernel_rfl) (fun _ _ _ h => h) (Or.inl ⟨by rfl, ?_⟩) (by assumption) ?_
      rotate_left
      · intro wS hSw; go_split_ands; go_simp; first | done | with_reducible rfl
      simp only [Act.put, List.setIfInBounds_toArray, List.set_cons_zero, List.set_cons_succ]
      refine wpAnyH_take (i := 1) (oi := { dst := some 54, op := Op.move (Operand.tmp 6), type := 3, pos := "transport.go:140", after := #[], guard := none }) (v := ?_) rfl (by kernel_rfl) (by kernel_rfl) (by kernel_rfl) (fun _ _ _ h => h) (Or.inl ⟨by rfl, ?_⟩) (by assumption) ?_
      rotate_left
      · intro wS hSw; go_split_ands; go_simp; first | done | with_reducible rfl
      simp only [Act.put, List.setIfInBounds_toArray, List.set_cons_zero, List.set_cons_succ]
      refine wpAnyH_take (i := 2) (oi := { dst := some 55, op := Op.move (Operand.tmp 8), type := 3, pos := "transport.go:140", after := #[], guard := none }) (v := ?_) rfl (by kernel_rfl) (by kernel_rfl) (by kernel_rfl) (fun _ _ _ h => h) (Or.inl ⟨by rfl, ?_⟩) (by assumption) ?_
      rotate_left
      · intro wS hSw; go_split_ands; go_simp; first | done | with_reducible rfl
      simp only [Act.put, List.setIfInBounds_toArray, List.set_cons_zero, List.set_cons_succ]
      refine wpAnyH_take (i := 3) (oi := { dst := some 56, op := Op.fieldAddr 46 (Operand.tmp 4) 0, type := 0, pos := "transport.go:140", after := #[], guard := none }) (v := ?_) rfl (by kernel_rfl) (by kernel_rfl) (by kernel_rfl) (fun _ _ _ h => h) (Or.inl ⟨by rfl, ?_⟩) (by assumption) ?_
      rotate_left
      · intro wS hSw; go_split_ands; go_simp; first | done | with_reducible rfl
      simp only [Act.put, List.setIfInBounds_toArray, List.set_cons_zero, List.set_cons_succ]
      refine wpAnyH_take (i := 4) (oi := { dst := some 57, op := Op.load 3 (Operand.tmp 56), type := 3, pos := "transport.go:140", after := #[{ on := 3, ground := Ground.data }], guard := none }) (v := ?_) rfl (by kernel_rfl) (by kernel_rfl) (by kernel_rfl) (fun _ _ _ h => h) (Or.inl ⟨by rfl, ?_⟩) (by assumption) ?_
      rotate_left
      · intro wS hSw; go_split_ands; go_simp; first | done | with_reducible rfl
      simp only [Act.put, List.setIfInBounds_toArray, List.set_cons_zero, List.set_cons_succ]
      refine wpAnyH_take (i := 5) (oi := { dst := some 58, op := Op.fieldAddr 46 (Operand.tmp 4) 1, type := 0, pos := "transport.go:140", after := #[], guard := none }) (v := ?_) rfl (by kernel_rfl) (by kernel_rfl) (by kernel_rfl) (fun _ _ _ h => h) (Or.inl ⟨by rfl, ?_⟩) (by assumption) ?_
      rotate_left
      · intro wS hSw; go_split_ands; go_simp; first | done | with_reducible rfl
      simp only [Act.put, List.setIfInBounds_toArray, List.set_cons_zero, List.set_cons_succ]
      refine wpAnyH_take (i := 6) (oi := { dst := some 59, op := Op.load 4 (Operand.tmp 58), type := 4, pos := "transport.go:140", after := #[{ on := 5, ground := Ground.data }], guard := none }) (v := ?_) rfl (by kernel_rfl) (by kernel_rfl) (by kernel_rfl) (fun _ _ _ h => h) (Or.inl ⟨by rfl, ?_⟩) (by assumption) ?_
      rotate_left
      · intro wS hSw; go_split_ands; go_simp; first | done | with_reducible rfl
      simp only [Act.put, List.setIfInBounds_toArray, List.set_cons_zero, List.set_cons_succ]
      refine wpAnyH_take (i := 7) (oi := { dst := some 60, op := Op.load 46 (Operand.tmp 4), type := 46, pos := "transport.go:140", after := #[], guard := none }) (v := ?_) rfl (by kernel_rfl) (by kernel_rfl) (by kernel_rfl) (fun _ _ _ h => h) (Or.inl ⟨by rfl, ?_⟩) (by assumption) ?_
      rotate_left
      · intro wS hSw; go_split_ands; go_simp; first | done | with_reducible rfl
      simp only [Act.put, List.setIfInBounds_toArray, List.set_cons_zero, List.set_cons_succ]
      refine wpAnyH_ready (rs := [8]) (by kernel_rfl) (by simp) ?_
      refine AllReadyH.cons (o := { dst := some 61, op := Op.call { callee := Callee.value (Operand.func 23), args := #[Operand.tmp 60], argTypes := #[46] }, type := 4, pos := "transport.go:140", after := #[{ on := 7, ground := Ground.data }], guard := none }) rfl (fun K hK => ?_) AllReadyH.nil
      go_simp
      go_at_call 23; refine (KR _).mono ?_; rintro e w7 ⟨rfl, hb7⟩
      refine hK.out _ _ ?_ (fun hHeld => ?_)
      · exact ⟨(hb7.cell (p := ⟨W.heap.size, 0, none⟩) (by simp <;> omega)).trans (by go_keep), (hb7.cell (p := ⟨W.heap.size, 1, none⟩) (by simp <;> omega)).trans (by go_keep), (hb7.cell (p := ⟨W.heap.size, 2, none⟩) (by simp <;> omega)).trans (by go_keep), (hb7.cell (p := ⟨W.heap.size, 3, none⟩) (by simp <;> omega)).trans (by go_keep), (hb7.cell (p := ⟨W.heap.size, 4, none⟩) (by simp <;> omega)).trans (by go_keep), (hb7.cell (p := ⟨W.heap.size, 5, none⟩) (by simp <;> omega)).trans (by go_keep), (hb7.cell (p := ⟨W.heap.size, 6, none⟩) (by simp <;> omega)).trans (by go_keep), (hb7.cell (p := ⟨W.heap.size, 7, none⟩) (by simp <;> omega)).trans (by go_keep)⟩
      clear hK K
      try simp only [Act.put, List.setIfInBounds_toArray, List.set_cons_zero, List.set_cons_succ]
      refine wpAnyH_take (i := 9) (oi := { dst := some 62, op := Op.build 36 #[(0, Operand.tmp 54), (1, Operand.tmp 55), (2, Operand.tmp 57), (3, Operand.tmp 59), (4, Operand.tmp 61)], type := 36, pos := "transport.go:140", after := #[{ on := 1, ground := Ground.data }, { on := 2, ground := Ground.data }, { on := 4, ground := Ground.data }, { on := 6, ground := Ground.data }, { on := 8, ground := Ground.data }], guard := none }) (v := ?_) rfl (by kernel_rfl) (by kernel_rfl) (by kernel_rfl) (fun _ _ _ h => h) (Or.inl ⟨by rfl, ?_⟩) (by assumption) ?_
      rotate_left
      · intro wS hSw; go_split_ands; go_simp; first | done | with_reducible rfl
      simp only [Act.put, List.setIfInBounds_toArray, List.set_cons_zero, List.set_cons_succ]
      refine wpAnyH_done (by kernel_rfl) ?_ _
      clear hHeld
      have w7s := hb7.size
      simp only [World.drew] at w7s
      have k67 : Below wr.heap.size wr w7 := (hw6.drew).trans (hb7.mono (by simp; omega))
      have hj7 := hJ _ _ _ _ _ hj (Keep.of_same k67 cc.it) (cc.same_own wr.heap.size)
      have hmlt' : 0 < f := by have := hP.out.2; omega
      obtain ⟨f', rfl⟩ : ∃ f', f = f' + 1 := ⟨f - 1, by omega⟩
      have hpc : piece l n m = ⟨m, k, s.pos, s.roll, recB s⟩ := by unfold piece; rw [← HAT.out, HNX.out, ← HKD.out]
      have hpp := hP.out.1
      rw [pcS_step l n f' hmlt, hpc] at hpp
      dsimp only at hpp
      have hpre : pre ++ [⟨m, k, s.pos, s.roll, recB s⟩] <+: pcsL l n := ⟨pcS l n f' (m + k), by rw [hpp]; simp⟩
      obtain ⟨fn, tmps, assign, bodyc, hy, hR⟩ := hY _ _ ⟨m, k, s.pos, s.roll, recB s⟩ _ hj7 hpre
      simp only [spv, spc] at hy
      show wpAnyIn Fence.wide n0 _ _ _ _ 2 _ _ _
      refine wpAnyIn_one (f := 1) (i := 10) (by kernel_rfl) ?_
      refine ⟨fun _ _ => trivial, ?_⟩
      go_simp
      refine hR.mono ?_
      rintro e W' ⟨hkp2, (⟨rfl, hj'⟩ | ⟨rfl, hjx⟩)⟩
      · refine wpAnyIn_one (f := 0) (i := 11) (by kernel_rfl) ?_
        refine ⟨fun _ _ => trivial, ?_⟩
        go_simp
        refine wpAnyIn_end (by kernel_rfl) ?_
        have W's := hkp2.size
        have cS : ∀ r, r < wr.heap.size → (((cc.own wr.heap.size).by w7.heap.size).cl r ↔ cc.cl r) ∧ (((cc.own wr.heap.size).by w7.heap.size).it r ↔ cc.it r) := fun r hr => by
          refine ⟨⟨fun h => h.elim (fun h => by have := k67.size; omega) (fun h => h.2), fun h => .inr ⟨hr, h⟩⟩, ⟨fun h => h.2.elim (fun h => by omega) id, fun h => ⟨by have := k67.size; omega, .inr h⟩⟩⟩
        have kk : ∀ (B : Nat) (ty : TypeId) (cs : Array Value), Blk wr B ty cs → ¬ cc.cl B → Blk W' B ty cs := fun B ty cs hB hn => (hB.below k67 hB.lt).keep hkp2 (fun h => hn h.2)
        have bS' := kk _ _ _ bS hcol.2.2.2.2.2.1
        have bA' := kk _ _ _ bA hcol.2.2.2.2.2.2.2
        have bN' := kk _ _ _ bN hcol.1
        have bL' := kk _ _ _ bL hcol.2.2.2.1
        have KA := advance_t W.heap.size s k W' hok (by omega) (by omega) bS'
        clear hy hR hY
        go_wp2_with (go_at_call 22; refine KA.mono ?_; rintro e w8 ⟨v8, rfl, b8, k8⟩)
        have hj8 := hJ _ _ _ _ _ hj' (k8.mono (may' := ((cc.own wr.heap.size).by w7.heap.size).it) (fun r _ h => ((cS r (by omega)).2.2 (h ▸ hcol.2.2.2.2.1)))) (Col.same_own _ W'.heap.size)
        have hbr : b < wr.heap.size := by omega
        have hadd := advS_add (hrk.ok (by omega)) (a := m - nowK l j) (b := k) (by omega) (by omega)
        rw [← i4'.out, show m - nowK l j + k = m + k - nowK l j by omega] at hadd
        go_roundw
        case rel =>
          refine ⟨m + k, j, f', advS s k, _, _, by first | rfl | trivial, Lib.hid ⟨i1, fun i hi => by have := i2'.out i hi; omega, fun _ => by rw [← HTT.out]; omega, hadd, by omega, by omega, b8, bA'.keep k8 (by omega), bN'.keep k8 (by omega), ⟨_, c', by rw [HQ.out]; exact bL'.keep k8 (by omega), fun _ => ⟨rfl, by have := HQ.out; omega⟩⟩, ((hkp.trans (Keep.of_same k67 _)).then hkp2 (fun r _ h => ⟨fun e => hcol.1 (e ▸ h.2), fun e => hcol.2.1 (e ▸ h.2)⟩)).then k8 (fun r _ h => ⟨by omega, by omega⟩), ?_⟩, Lib.hid ⟨by rw [hpp]; simp, by have := hP.out.2; omega⟩, hj8⟩
          exact ⟨fun h => hcol.1 ((cS Bn hBnlt).1.1 h.2), fun h => hcol.2.1 ((cS b hbr).1.1 h.2), .inr ((cS Bl hBllt).2.2 hcol.2.2.1), fun h => hcol.2.2.2.1 ((cS Bl hBllt).1.1 h.2), .inr ((cS _ hSlt).2.2 hcol.2.2.2.2.1), fun h => hcol.2.2.2.2.2.1 ((cS _ hSlt).1.1 h.2), .inr ((cS _ lA).2.2 hcol.2.2.2.2.2.2.1), fun h => hcol.2.2.2.2.2.2.2 ((cS _ lA).1.1 h.2)⟩
        case measure => simp [intOf]; omega
      · refine wpAnyIn_one (f := 0) (i := 11) (by kernel_rfl) ?_
        refine ⟨fun _ _ => trivial, ?_⟩
        go_simp
        refine wpAnyIn_end (by kernel_rfl) ?_
        clear hy hR hY
        go_wp2_with fail
        refine bodyPost_ret (results_none rfl _ _ _) rfl ?_
        exact ⟨⟨_, rfl⟩, .inr ⟨_, _, hpre, hjx⟩⟩
end Go.Proofs.Ytjkclplnflaplaa
