/-
  numeral of the journal's reference. Conditions: one to seven bytes. | append(s, make([]T, k)...) onto a slice of the call's own that is not nil: the translation hands the builtin the number k. | Sector of the journal's reference. Conditions: a piece of at most 112 bytes.
-/
import Derived.Test.YtckeopidedoohaaJrn
import Derived.Test.YtckeopidedoohaaJsn
import Derived.Test.YtckeopidedoohaaApp
import Derived.Lib.AppendZerosOnto
import Derived.Test.YtckeopidedoohaaDop
import Derived.Deep.CutBlock
import Derived.Deep.DeepCutAuto
namespace Go.Proofs.Ytckeopidedoohaa
open Go.RowKit
variable {n₀ : Nat}
attribute [local go_sem] Oper.semAt_some

theorem makeN {k : Nat} (hk : k ≤ 7) (w : World) : (Instr.makeSlice 35 (.int .i64 (k : Int)) (.int .i64 (k : Int))).run Try.prog w = .ok (.slice (some ⟨w.heap.size, 0, none⟩) k k) (w.alloc (.cells (bcells (List.replicate k 0)).toArray 5)) := by
  obtain ⟨i0, hi0, hz0, hz1, hz2⟩ := info_parts info5
  have hr := run_make (P := Try.prog) w 35 5 i0 (.int .u8 0) Try.underlying35 hi0 hz0 .i64 .i64 k k (by omega) (Int.le_refl _) (by rw [hz2]; omega) (by omega)
  have e : madeCells (Value.int .u8 0).cells (k * i0.size) = (bcells (List.replicate k 0)).toArray := by
    rw [hz1]
    apply Array.ext'
    show (madeCells #[.int .u8 0] (k * 1)).toList = _
    rw [toList_madeCells_one]
    simp [bcells, u8v]
  simpa [e] using hr
theorem num_set (r : Nat) (x : UInt8) (xs : Bs) : (bcells (List.replicate (r + 1) 0 ++ xs)).toArray.setIfInBounds r (.int .u8 (x.toNat : Int)) = (bcells (List.replicate r 0 ++ x :: xs)).toArray := by
  rw [List.setIfInBounds_toArray]
  congr 1
  have e : bcells (List.replicate (r + 1) 0 ++ xs) = bcells (List.replicate r 0) ++ .int .u8 0 :: bcells xs := by
    rw [List.replicate_succ']
    simp [bcells, u8v]
  have e2 : bcells (List.replicate r 0 ++ x :: xs) = bcells (List.replicate r 0) ++ .int .u8 (x.toNat : Int) :: bcells xs := by simp [bcells, u8v]
  have hl : (bcells (List.replicate r (0 : UInt8))).length = r := by rw [bcells_len, List.length_replicate]
  rw [e, e2, List.set_append_right _ _ (by omega), hl, Nat.sub_self]
  rfl

set_option maxRecDepth 20000 in
set_option maxHeartbeats 4000000 in
theorem rnumeral_t (n k : Nat) (w : World) (hk1 : 1 ≤ k) (hk : k ≤ 7) (hn : n < 18446744073709551616) :
    Calls Try.prog 110 #[.int .u64 (n : Nat), .int .i64 (k : Nat)] w fun e w' => e = .returned (.slice (some ⟨w.heap.size, 0, none⟩) k k) ∧ Blk w' w.heap.size 5 (bcells (beL k n)).toArray ∧ Below w.heap.size w w' := by
  have hmk := makeN hk w
  have i1 : IntKind.i64.wrap ((k : Int) - 1) = (k : Int) - 1 := IntWalk.i64_in _ (by omega)
  go_enter Try.func110, Try.ntmps110
  go_wp2_with (fail)
  obtain ⟨g, hg⟩ : ∃ g, g = w.heap.size := ⟨_, rfl⟩
  have HGE := Lib.hid hg
  obtain ⟨W1, hW1⟩ : ∃ W, W = w.alloc (.cells (bcells (List.replicate k 0)).toArray 5) := ⟨_, rfl⟩
  rw [← hW1, ← hg]
  have x1 : Blk W1 g 5 (bcells (List.replicate k 0 ++ beL 0 n)).toArray := by rw [hW1, hg]; simpa [beL] using Blk.new w 5 (bcells (List.replicate k 0)).toArray
  have hb1 : Below w.heap.size w W1 := by rw [hW1]; exact (Below.refl _ _).alloc (Nat.le_refl _) _
  clear hW1 hmk hg
  go_loopw [0, 6] (fun v0 v6 wr => ∃ r q : Nat, r ≤ k ∧ q < 18446744073709551616 ∧ v6 = .int .i64 ((r : Int) - 1) ∧ v0 = .int .u64 (q : Nat) ∧ Hid (q = n / 256 ^ (k - r)) ∧ Blk wr g 5 (bcells (List.replicate r 0 ++ beL (k - r) n)).toArray ∧ Below w.heap.size w wr) (fun _ v6 _ => (intOf v6 + 1).toNat)
  case atStart => exact ⟨k, n, by omega, hn, rfl, rfl, Lib.hid (by simp), by rw [Nat.sub_self]; exact x1, hb1⟩
  case round =>
    obtain ⟨r, q, hr, hq, rfl, rfl, HQ, hx, hb⟩ := hrel
    by_cases h0 : r = 0
    case pos =>
      subst h0
      go_wp2_with (fail)
      go_ret
      exact ⟨by rw [HGE.out]; rfl, by rw [← HGE.out]; simpa using hx, hb⟩
    obtain ⟨r, rfl⟩ : ∃ t, r = t + 1 := ⟨r - 1, by omega⟩
    clear h0
    have e1 : (((r + 1 : Nat) : Int) - 1) = (r : Int) := by omega
    rw [e1]
    have n0 : (0 : Int) ≤ (r : Int) := by omega
    have n1 : (r : Int) < (k : Int) := by omega
    have d1 : decide ((0 : Int) ≤ (r : Int)) = true := decide_eq_true n0
    have i2 : IntKind.i64.wrap ((r : Int) - 1) = (r : Int) - 1 := IntWalk.i64_in _ (by omega)
    have t1 : (q : Int).tmod 256 = ((q % 256 : Nat) : Int) := rfl
    have t2 : (q : Int).tdiv 256 = ((q / 256 : Nat) : Int) := rfl
    obtain ⟨x, hxx⟩ : ∃ x : UInt8, x = UInt8.ofNat q := ⟨_, rfl⟩
    have hxn : (x.toNat : Int) = ((q % 256 : Nat) : Int) := by rw [hxx, UInt8.toNat_ofNat']
    have w1 : IntKind.u8.wrap ((q % 256 : Nat) : Int) = (x.toNat : Int) := by rw [hxn]; simp [IntKind.wrap, IntKind.bits, IntKind.signed] <;> omega
    have w2 : IntKind.u64.wrap ((q / 256 : Nat) : Int) = ((q / 256 : Nat) : Int) := by simp [IntKind.wrap, IntKind.bits, IntKind.signed] <;> omega
    have hset := hx.set r (.int .u8 (x.toNat : Int))
    rw [num_set] at hset
    have ebe : x :: beL (k - (r + 1)) n = beL (k - r) n := by rw [show k - r = (k - (r + 1)) + 1 by omega, hxx, HQ.out]; rfl
    rw [ebe] at hset
    have hq2 : q / 256 = n / 256 ^ (k - r) := by rw [HQ.out, Nat.div_div_eq_div_mul, ← Nat.pow_succ]; congr 2; omega
    have HQ2 := Lib.hid hq2
    have hbs : Below w.heap.size w (wr.setCell ⟨g, r, none⟩ (.int .u8 (x.toNat : Int))) := hb.setCell (by rw [HGE.out]; exact Nat.le_refl _) _
    rw [show (x.toNat : Int) = (q : Int) % 256 by rw [hxn]; omega] at hset hbs
    have HST := Lib.hid (And.intro hset hbs)
    obtain ⟨v0, hv0⟩ : ∃ v, (bcells (List.replicate (r + 1) 0 ++ beL (k - (r + 1)) n)).toArray[r]? = some v := ⟨_, Array.getElem?_eq_getElem (by rw [List.size_toArray, bcells_len, List.length_append, List.length_replicate]; omega)⟩
    have c0 := (hx.cell r).trans hv0
    have f0 := hx.frozen r
    clear hset hbs ebe hq2 hxx hxn hx hv0
    go_wp2_with (fail)
    go_roundw
    case rel => exact ⟨r, q / 256, by omega, by omega, by go_num, by go_num, HQ2, HST.out.1, HST.out.2⟩
    case measure => simp [intOf] <;> omega
end Go.Proofs.Ytckeopidedoohaa

namespace Go.Proofs.Ytckeopidedoohaa
open Go.RowKit

theorem run_append_zeros_own {P : Program} (w : World) (base : Nat) (t tn ty e : TypeId) (i : TypeInfo) (z : Value) (kn kq : IntKind) (ht : P.underlying t = some (.slice e)) (htn : P.underlying tn = some (.int kn)) (hi : P.info? e = some i) (hz : i.zero = some z)
    (hsize : i.size = 1) (hby : i.bytes = 1) (hzs : z.cells.size = 1) (h1 : ∀ u ∈ z.cells, u.oneCell' = true)
    (v : Value) (n : Nat) (xs : List Value) (hn : 0 < n) (hown : w.ownsRow base e 1 v n xs) (k : Nat) (hk : k ≤ 1000000) (hnk : n ≤ 1000000) (hbase : base ≤ w.heap.size) :
    ∃ v' w', (Builtin.append_ #[t, tn] ty #[v, .int kq (k : Nat)]).run P w = .ok v' w' ∧ w'.ownsRow base e 1 v' (n + k) (xs ++ (Builtin.zeroCells z.cells k).toList) ∧ w.grownBy w' v.ownBlock := by
  have hzl : (Builtin.zeroCells z.cells k).toList.length = k * 1 := by rw [Array.length_toList, size_zeroCells, hzs]
  have hlen : (xs ++ (Builtin.zeroCells z.cells k).toList).length = (n + k) * 1 := by rw [List.length_append, hown.1, hzl, Nat.add_mul]
  have hz1 : ∀ u ∈ (Builtin.zeroCells z.cells k).toList, u.oneCell' = true := by
    intro u hu
    simp only [Builtin.zeroCells, Array.toList_map, List.mem_map] at hu
    obtain ⟨j, hj, rfl⟩ := hu
    rw [getElem!_pos z.cells _ (by rw [hzs]; exact Nat.mod_lt _ (by decide))]
    exact h1 _ (Array.getElem_mem _)
  have hw : IntKind.i64.wrap (k : Int) = k := by rw [IntKind.wrap_i64]; omega
  have h48i : ¬ (281474976710656 < (k : Int)) := by omega
  have hw0 : IntKind.i64.wrap 0 = 0 := by decide
  have hzz : (Builtin.zeroCells z.cells k).size = k := by rw [size_zeroCells, hzs, Nat.mul_one]
  have hneg : ¬ ((k : Int) < 0) := by omega
  rcases hown.2 with ⟨rfl, rfl⟩ | ⟨g, cap, cur, rfl, hbg, hg, hnc, hcm, hcs, htake⟩
  · omega
  · by_cases hroom : n + k ≤ cap
    · have hfit : n * 1 + (Builtin.zeroCells z.cells k).toList.length ≤ cur.size := by rw [hzl, hcs, ← Nat.add_mul]; exact Nat.mul_le_mul_right _ hroom
      have hst := run_storeCells_at P g (n * 1) e (Builtin.zeroCells z.cells k).toList 0 cur w hg (by simpa using hfit) hz1
      simp only [Nat.add_zero, Nat.mul_one] at hst
      have hr : (Builtin.append_ #[t, tn] ty #[.slice (some ⟨g, 0, none⟩) n cap, .int kq (k : Nat)]).run P w = .ok (.slice (some ⟨g, 0, none⟩) (n + k) cap) (w.setRow g (cur.toList.take (n * 1) ++ (Builtin.zeroCells z.cells k).toList ++ cur.toList.drop (n * 1 + (Builtin.zeroCells z.cells k).toList.length)).toArray) := by
        by_cases hk0 : k = 0
        · subst hk0
          have e0 : (Builtin.zeroCells z.cells 0).toList = [] := by simp [Builtin.zeroCells]
          rw [e0] at hst ⊢
          simp [Builtin.append_, run_underlying ht, run_underlying htn, sizeOf, typeInfo, zeroValue, hi, hz, asInt, asIntOf, hw0, hsize, hby, hnc, Addr.add_lit, hst]
        · simp [Builtin.append_, run_underlying ht, run_underlying htn, sizeOf, typeInfo, zeroValue, hi, hz, asInt, asIntOf, hw, hsize, hby, hroom, hk0, hneg, h48i, Addr.add_lit, hst]
      refine ⟨_, _, hr, ⟨hlen, .inr ⟨g, cap, _, rfl, hbg, setRow_heap w g cur _ e _ hg, hroom, hcm, ?_, ?_⟩⟩, ⟨rfl, rfl, rfl, by simp, fun k _ hk => setRow_other w g k _ (fun e => hk (by simp [Value.ownBlock, e]))⟩⟩
      · simp only [List.size_toArray, List.length_append, List.length_take, List.length_drop, Array.length_toList]
        rw [hzz]
        omega
      · rw [htake, ← hlen]
        exact List.take_left
    · have holds : ∀ j u, xs[j]? = some u → w.cell? ((⟨g, 0, none⟩ : Addr).add j) = some u := hown.cells (g := g) rfl
      have hf := run_firstCells_some (P := P) w.drew i.size n ⟨g, 0, none⟩ n cap xs (by rw [hsize]; exact hown.1) holds
      have hmx : n + k ≤ maxLen := by simp only [maxLen]; omega
      have hr := Go.Lib.run_append_grow_zeros (P := P) w t tn ty e i z kq kn ht htn hi hz (some ⟨g, 0, none⟩) n cap xs hf k (by omega) (by omega) (by omega) (by omega) (by rw [hby]; omega) (growslice_fits (by omega) (by rw [hby]; omega))
      have hge := grownCap_ge w (n + k) cap e
      have hcm2 := grownCap_le_maxLen w (n + k) cap e hmx
      refine ⟨_, _, hr, ⟨hlen, .inr ⟨w.heap.size, _, _, rfl, hbase, heap_alloc_new w.drew _, hge, hcm2, ?_, ?_⟩⟩, ⟨rfl, rfl, rfl, by simp, fun k hk _ => heap_alloc_old w.drew _ hk⟩⟩
      · simp only [Array.size_append, List.size_toArray, size_zeroCells, hzs, hown.1]
        omega
      · simp only [Array.toList_append, List.append_assoc]
        rw [← List.append_assoc, ← hlen]
        exact List.take_left
theorem wpList_append_zeros {P : Program} {w : World} {ops : Array Oper} {rest : List Oper} {o : Oper} {a : Act} {Q : Exit → Act → World → Prop} (hw : Region.wanted o (yielded ops a.tmps) = true) (s x : Operand) (t tn : TypeId)
    (ho : o.op = .call { callee := .builtin .append, args := #[s, x], argTypes := #[t, tn] })
    (base : Nat) (e : TypeId) (i : TypeInfo) (z : Value) (kn kq : IntKind) (ht : P.underlying t = some (.slice e)) (htn : P.underlying tn = some (.int kn)) (hi : P.info? e = some i) (hz : i.zero = some z)
    (hsize : i.size = 1) (hby : i.bytes = 1) (hzs : z.cells.size = 1) (h1 : ∀ u ∈ z.cells, u.oneCell' = true)
    (v : Value) (n : Nat) (xs : List Value) (hs : a.eval s = v) (hn : 0 < n) (hown : w.ownsRow base e 1 v n xs) (k : Nat) (hx : a.eval x = .int kq (k : Nat)) (hk : k ≤ 1000000) (hnk : n ≤ 1000000) (hbase : base ≤ w.heap.size)
    (h : ∀ v' w', w'.ownsRow base e 1 v' (n + k) (xs ++ (Builtin.zeroCells z.cells k).toList) → w.grownBy w' v.ownBlock → wpList P ops Q rest (a.put o.dst v') w') : wpList P ops Q (o :: rest) a w := by
  refine wpList_step fun K hK => ?_
  rw [if_pos hw]
  obtain ⟨v', w', hr, h2, h3⟩ := run_append_zeros_own (P := P) w base t tn o.type e i z kn kq ht htn hi hz hsize hby hzs h1 v n xs hn hown k hk hnk hbase
  unfold Oper.wp execOp
  simp only [ho, resolve, invoke, builtin, Sem.run_bind, Sem.run_pure, Result.andThen_ok, List.map_toArray, List.map_cons, List.map_nil, hs, hx, hr]
  exact hK _ _ (h v' w' h2 h3)
end Go.Proofs.Ytckeopidedoohaa

namespace Go.Proofs.Ytckeopidedoohaa
open Go.RowKit
variable {n₀ : Nat}
attribute [local go_sem] Oper.semAt_some

/-- The kind of a sector. -/
def kindB (bg fn : Bool) : UInt8 := (if bg = true then 1 else 0) + (if fn = true then 2 else 0)
theorem own_blk {w : World} {base g n : Nat} {bs : Bs} (h : Blk w g 5 (bcells bs).toArray) (hb : base ≤ g) (hl : bs.length = n) (hm : n ≤ maxLen) : w.ownsRow base 5 1 (.slice (some ⟨g, 0, none⟩) n n) n (bcells bs) := by
  have e : (bcells bs).length = n * 1 := by rw [bcells_len, hl, Nat.mul_one]
  exact ⟨e, .inr ⟨g, n, (bcells bs).toArray, rfl, hb, h, Nat.le_refl _, hm, by simpa using e, by rw [← e]; simp⟩⟩
theorem src_new (W : World) (bs : Bs) : ∀ j u, (bcells bs)[j]? = some u → (W.alloc (.cells (bcells bs).toArray 5)).cell? ((⟨W.heap.size, 0, none⟩ : Addr).add j) = some u := fun j u hu => by
  rw [addr_at, Nat.zero_add, (Blk.new W 5 _).cell]
  simpa using hu
theorem src_blk {W W' : World} {B : Nat} {bs : Bs} (h : Blk W B 5 (bcells bs).toArray) (hb : Below W.heap.size W W') : ∀ j u, (bcells bs)[j]? = some u → W'.cell? ((⟨B, 0, none⟩ : Addr).add j) = some u := fun j u hu => by
  rw [addr_at, Nat.zero_add, (h.below hb h.lt).cell]
  simpa using hu
theorem zeros_bcells (k : Nat) : (Builtin.zeroCells (Value.int .u8 0).cells k).toList = bcells (List.replicate k 0) := by
  have e : bcells (List.replicate k 0) = List.replicate k (.int .u8 0) := by simp [bcells, u8v]
  rw [e, List.eq_replicate_iff]
  refine ⟨by rw [Array.length_toList, size_zeroCells]; simp [Value.cells], fun u hu => ?_⟩
  simp only [Builtin.zeroCells, Array.toList_map, List.mem_map] at hu
  obtain ⟨j, -, rfl⟩ := hu
  simp [Value.cells, Nat.mod_one]
theorem own_aside {w w' : World} {base : Nat} {e : TypeId} {size n : Nat} {v : Value} {xs : List Value} {row : Option Nat} (h : w.ownsRow base e size v n xs) (hg : w.grownBy w' row) (hne : ∀ k, v.ownBlock = some k → row ≠ some k) : w'.ownsRow base e size v n xs := by
  refine ⟨h.1, ?_⟩
  rcases h.2 with h2 | ⟨g, cap, cur, rfl, h1, h2, h3⟩
  · exact .inl h2
  · exact .inr ⟨g, cap, cur, rfl, h1, (hg.block g (Array.getElem?_eq_some_iff.1 h2).1 (fun e => hne g rfl e.symm)).trans h2, h3⟩
theorem own_src {w : World} {base : Nat} {e : TypeId} {n c : Nat} {A : Option Addr} {xs : List Value} (h : w.ownsRow base e 1 (.slice A n c) n xs) : 0 < n → ∃ ad, A = some ad ∧ ∀ j u, xs[j]? = some u → w.cell? (ad.add j) = some u := fun h0 => by
  rcases id h.2 with ⟨-, rfl⟩ | ⟨g, cap, cur, e1, -⟩
  · omega
  · cases e1
    exact ⟨_, rfl, h.cells (g := g) rfl⟩
theorem bcells_app (a b : Bs) : bcells a ++ bcells b = bcells (a ++ b) := by simp [bcells]

set_option maxRecDepth 20000 in
set_option maxHeartbeats 4000000 in
theorem rsector_t (A : Option Addr) (c g num : Nat) (bg fn : Bool) (b : Bs) (w : World) (hg : g < 18446744073709551616) (hnum : num ≤ 100000) (hb : b.length ≤ 112) (h : BsAt n₀ w A b) :
    Calls Try.prog 93 #[.int .u64 (g : Nat), .int .i64 (num : Nat), .bool bg, .bool fn, .slice A b.length c] w fun e w' => ∃ A' c', e = .returned (.slice A' 128 c') ∧ 128 ≤ c' ∧ BsAt n₀ w' A' (enc g num (kindB bg fn) b) ∧ Below w.heap.size w w' := by
  have HB := Lib.hid h
  clear h
  obtain ⟨i0, hi0, hz0, hz1, hz2⟩ := info_parts info5
  obtain ⟨kd, hkd⟩ : ∃ k, k = kindB bg fn := ⟨_, rfl⟩
  rw [← hkd]
  have HKD := Lib.hid hkd
  clear hkd
  obtain ⟨z, hz⟩ : ∃ z : Nat, b.length + z = 112 := ⟨112 - b.length, by omega⟩
  obtain ⟨x, hx⟩ : ∃ x : UInt8, x = UInt8.ofNat b.length := ⟨_, rfl⟩
  have hxn : (x.toNat : Int) = (b.length : Int) := by rw [hx, UInt8.toNat_ofNat', Nat.mod_eq_of_lt (by omega)]
  have hmid : beL 2 num ++ ([kd, x] ++ (b ++ List.replicate z 0)) = mid num kd b := by rw [hx, show z = 112 - b.length by omega]; rfl
  have HMID := Lib.hid hmid
  obtain ⟨M, hM⟩ : ∃ m, m = mid num kd b := ⟨_, rfl⟩
  have hMl : M.length = 116 := by rw [hM]; exact mid_len num kd hb
  have HM := Lib.hid hM
  have hsm : gSum M < 4294967296 := gSum_lt M
  obtain ⟨sm, hsme⟩ : ∃ s, s = gSum M := ⟨_, rfl⟩
  rw [← hsme] at hsm
  have HSM := Lib.hid hsme
  have HN2 := Lib.hid (show ∀ W, Calls Try.prog 110 #[.int .u64 (num : Nat), .int .i64 2] W (fun e w' => e = .returned (.slice (some ⟨W.heap.size, 0, none⟩) 2 2) ∧ Blk w' W.heap.size 5 (bcells (beL 2 num)).toArray ∧ Below W.heap.size W w') from fun W => rnumeral_t num 2 W (by decide) (by decide) (by omega))
  have HNG := Lib.hid (show ∀ W, Calls Try.prog 110 #[.int .u64 (g : Nat), .int .i64 4] W (fun e w' => e = .returned (.slice (some ⟨W.heap.size, 0, none⟩) 4 4) ∧ Blk w' W.heap.size 5 (bcells (beL 4 g)).toArray ∧ Below W.heap.size W w') from fun W => rnumeral_t g 4 W (by decide) (by decide) hg)
  have HNS := Lib.hid (show ∀ W, Calls Try.prog 110 #[.int .u64 (sm : Nat), .int .i64 4] W (fun e w' => e = .returned (.slice (some ⟨W.heap.size, 0, none⟩) 4 4) ∧ Blk w' W.heap.size 5 (bcells (beL 4 sm)).toArray ∧ Below W.heap.size W w') from fun W => rnumeral_t sm 4 W (by decide) (by decide) (by omega))
  have HSUM := Lib.hid (show ∀ W V cc, BsAt n₀ W V M → Calls Try.prog 111 #[.slice V 116 cc] W (fun e w' => e = .returned (.int .u32 (sm : Nat)) ∧ w' = W) from fun W V cc hV => by
    have k := rsum_t (n₀ := n₀) V cc M W (by rw [hMl]; decide) hV
    rw [hMl, ← HSM.out] at k
    exact k)
  have iu : IntKind.u64.wrap (num : Int) = num := by simp [IntKind.wrap, IntKind.bits, IntKind.signed]; omega
  have is : IntKind.u64.wrap (sm : Int) = sm := by simp [IntKind.wrap, IntKind.bits, IntKind.signed]; omega
  have i8 : IntKind.u8.wrap (b.length : Int) = (x.toNat : Int) := by rw [hxn]; simp [IntKind.wrap, IntKind.bits, IntKind.signed]; omega
  have i9 : IntKind.i64.wrap (112 - (b.length : Int)) = (z : Int) := by rw [IntWalk.i64_in _ (by omega)]; omega
  have HX := Lib.hid (And.intro hx hxn)
  have HZ := Lib.hid hz
  have HML := Lib.hid hMl
  have hzle : z ≤ 112 := by omega
  clear hx hxn hmid hM hsme hMl hz
  go_enter Try.func93, Try.ntmps93
  go_upto_if 14 with (fail)
  go_cut [11] (fun s wx => s = .int .u8 (if bg = true then 1 else 0) ∧ wx = w)
  case first =>
    cases bg
    all_goals
      go_wp2_with (fail)
      go_meet
      exact ⟨rfl, rfl⟩
  case rest =>
    obtain ⟨rfl, hwc⟩ := hcut
    have hwc := hwc.symm
    subst hwc
    go_upto_if 17 with (fail)
    go_cut [11] (fun s wx => s = .int .u8 (kd.toNat : Int) ∧ wx = w)
    case first =>
      have hkd := HKD.out
      cases bg
      all_goals
        cases fn
        all_goals
          subst hkd
          go_wp2_with (fail)
          go_meet
          exact ⟨rfl, rfl⟩
    case rest =>
      obtain ⟨rfl, hwc⟩ := hcut
      have hwc := hwc.symm
      subst hwc
      clear HKD
      go_wp2_with (fail)
      go_at_call 110
      refine (HN2.out _).mono ?_
      rintro e w1 ⟨rfl, x1, hb1⟩
      have s1 := hb1.size
      have o1 := own_blk (base := w.heap.size) x1 (Nat.le_refl _) (beL_len 2 num) (by decide)
      have o2 := row_keep o1 ((Below.refl w1.heap.size w1).alloc (Nat.le_refl _) (.cells (bcells [kd, x]).toArray 5))
      go_wp2_with (first | (at_builtin; refine wpList_append_any (by rfl) (.tmp 22) (.tmp 27) 35 rfl w.heap.size 5 i0 (.int .u8 0) 1 1 Try.underlying35 hi0 hz0 hz1 hz2 rfl (by decide) _ 2 (bcells (beL 2 num)) rfl o2 (some ⟨w1.heap.size, 0, none⟩) 2 2 (bcells [kd, x]) rfl rfl (fun _ => ⟨_, rfl, src_new w1 [kd, x]⟩) (bcells_one _) (by simp [maxLen] <;> omega) (by omega) (Nat.le_trans s1 (by simp)) ?_; intro v2 w2 ownw2 groww2; have bw2 : Below w.heap.size w w2 := Below.grown (hb1.alloc s1 _) groww2 (Nat.le_trans s1 (by simp)) (own_base o2); rw [bcells_app] at ownw2; have own2 : w2.ownsRow w.heap.size 5 1 v2 4 (bcells (beL 2 num ++ [kd, x])) := ownw2; clear ownw2) | (at_builtin; refine wpList_append_any (by rfl) (.tmp 29) (.tmp 30) 35 rfl w.heap.size 5 i0 (.int .u8 0) 1 1 Try.underlying35 hi0 hz0 hz1 hz2 rfl (by decide) _ 4 (bcells (beL 2 num ++ [kd, x])) rfl own2 A b.length c (bcells b) rfl (by rw [bcells_len, Nat.mul_one]) (bs_src HB.out bw2) (bcells_one _) (by simp [maxLen] <;> omega) (by omega) bw2.size ?_; intro v3 w3 ownw3 groww3; have bw3 : Below w.heap.size w w3 := Below.grown bw2 groww3 bw2.size (own_base own2); rw [bcells_app] at ownw3) | (at_builtin; refine wpList_append_zeros (by rfl) (.tmp 32) (.tmp 35) 35 3 rfl w.heap.size 5 i0 (.int .u8 0) .i64 .i64 Try.underlying35 Try.underlying3 hi0 hz0 hz1 hz2 rfl (by decide) _ (4 + b.length) (bcells (beL 2 num ++ [kd, x] ++ b)) rfl (by omega) ownw3 z rfl (by omega) (by omega) bw3.size ?_; intro v4 w4 ownw4 growv4; have bw4 : Below w.heap.size w w4 := bw3.grown growv4 bw3.size (own_base ownw3); rw [zeros_bcells, bcells_app, List.append_assoc, List.append_assoc, HMID.out, ← HM.out, show 4 + b.length + z = 116 by have := HZ.out; omega] at ownw4; obtain ⟨V4, c4, rfl, hc4⟩ := own_slice ownw4))
      go_at_call 110
      refine (HNG.out _).mono ?_
      rintro e w5 ⟨rfl, x5, hb5⟩
      have bw5 := bw4.trans (hb5.mono bw4.size)
      have own5 := row_keep ownw4 hb5
      go_wp2_with (fail)
      go_at_call 111
      refine (HSUM.out _ _ _ (own_BsAt own5 HML.out.symm)).mono ?_
      rintro e w6 ⟨rfl, hw6⟩
      have hw6 := hw6.symm
      subst hw6
      go_wp2_with (fail)
      go_at_call 110
      refine (HNS.out _).mono ?_
      rintro e w7 ⟨rfl, x7, hb7⟩
      have bw7 := bw5.trans (hb7.mono bw5.size)
      have own7 := row_keep own5 hb7
      have o7 := row_keep (own_blk (base := w.heap.size) x5 bw4.size (beL_len 4 g) (by decide)) hb7
      have hne : ∀ k, (Value.slice V4 116 c4).ownBlock = some k → (Value.slice (some ⟨w4.heap.size, 0, none⟩) 4 4).ownBlock ≠ some k := fun k hk e => by
        have h1 := (ownw4.lt k hk).2
        have h2 : some w4.heap.size = some k := e
        injection h2 with h2
        omega
      have HNE := Lib.hid hne
      clear hne
      go_wp2_with (first | (at_builtin; refine wpList_append_any (by rfl) (.tmp 38) (.tmp 42) 35 rfl w.heap.size 5 i0 (.int .u8 0) 1 1 Try.underlying35 hi0 hz0 hz1 hz2 rfl (by decide) _ 4 (bcells (beL 4 g)) rfl o7 (some ⟨w5.heap.size, 0, none⟩) 4 4 (bcells (beL 4 sm)) rfl (by rw [bcells_len, beL_len]) (fun _ => ⟨_, rfl, src_blk x7 (Below.refl _ _)⟩) (bcells_one _) (by simp [maxLen] <;> omega) (by omega) bw7.size ?_; intro v9 w9 ownw9 groww9; have bw9 : Below w.heap.size w w9 := Below.grown bw7 groww9 bw7.size (own_base o7); rw [bcells_app] at ownw9; have own9 : w9.ownsRow w.heap.size 5 1 v9 8 (bcells (beL 4 g ++ beL 4 sm)) := ownw9; clear ownw9; have ownM9 := own_aside own7 groww9 HNE.out) | (at_builtin; refine wpList_append_any (by rfl) (.tmp 44) (.tmp 45) 35 rfl w.heap.size 5 i0 (.int .u8 0) 1 1 Try.underlying35 hi0 hz0 hz1 hz2 rfl (by decide) _ 8 (bcells (beL 4 g ++ beL 4 sm)) rfl own9 V4 116 c4 (bcells M) rfl (by rw [bcells_len, HML.out]) (fun _ => own_src ownM9 (by decide)) (bcells_one _) (by simp [maxLen] <;> omega) (by omega) bw9.size ?_; intro v10 w10 ownw10 groww10; have bw10 : Below w.heap.size w w10 := Below.grown bw9 groww10 bw9.size (own_base own9); rw [bcells_app] at ownw10; have own10 : w10.ownsRow w.heap.size 5 1 v10 124 (bcells (beL 4 g ++ beL 4 sm ++ M)) := ownw10; clear ownw10))
      go_at_call 110
      refine (HNG.out _).mono ?_
      rintro e w11 ⟨rfl, x11, hb11⟩
      have bw11 := bw10.trans (hb11.mono bw10.size)
      have own11 := row_keep own10 hb11
      go_wp2_with ((at_builtin; refine wpList_append_any (by rfl) (.tmp 46) (.tmp 48) 35 rfl w.heap.size 5 i0 (.int .u8 0) 1 1 Try.underlying35 hi0 hz0 hz1 hz2 rfl (by decide) _ 124 (bcells (beL 4 g ++ beL 4 sm ++ M)) rfl own11 (some ⟨w10.heap.size, 0, none⟩) 4 4 (bcells (beL 4 g)) rfl (by rw [bcells_len, beL_len]) (fun _ => ⟨_, rfl, src_blk x11 (Below.refl _ _)⟩) (bcells_one _) (by simp [maxLen] <;> omega) (by omega) bw11.size ?_; intro v12 w12 ownw12 groww12; have bw12 : Below w.heap.size w w12 := Below.grown bw11 groww12 bw11.size (own_base own11); rw [bcells_app] at ownw12; have own12 : w12.ownsRow w.heap.size 5 1 v12 128 (bcells (beL 4 g ++ beL 4 sm ++ M ++ beL 4 g)) := ownw12; clear ownw12; obtain ⟨V12, c12, rfl, hc12⟩ := own_slice own12))
      go_ret
      rw [HSM.out, HM.out, ← enc_assoc] at own12
      exact ⟨V12, c12, rfl, hc12, own_BsAt own12 (enc_len _ _ _ hb).symm, bw12⟩
end Go.Proofs.Ytckeopidedoohaa
