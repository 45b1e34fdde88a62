/-
  append of a slice of another named type onto a slice of the call's own. Conditions: the source's cells are as the list says. | What the recorder's functions answer. Conditions: the arguments lie as plain data. | What the recorder answers, as plain functions. Conditions: none. | Data of the recorder, and equality of samples. Conditions: the arguments lie as plain data.
-/
import Derived.Test.YtckeopidedoohaaApp
import Derived.Test.YtckeopidedoohaaRrd
import Derived.Deep.CutBlock
import Derived.Deep.DeepCutAuto
import Derived.Test.YtckeopidedoohaaJsp
import Derived.Test.YtckeopidedoohaaJop
import Derived.Deep.QuietTactic
namespace Go.Proofs.Ytckeopidedoohaa
open Go.RowKit

theorem append_types {P : Program} {w : World} {t u ty e e' : TypeId} (ht : P.underlying t = some (.slice e)) (hu : P.underlying u = some (.slice e')) (B A : Option Addr) (n c m d : Nat) : (Builtin.append_ #[t, u] ty #[.slice B n c, .slice A m d]).run P w = (Builtin.append_ #[t, t] ty #[.slice B n c, .slice A m d]).run P w := by
  simp [Builtin.append_, run_underlying ht, run_underlying hu]
theorem wpList_append_two {P : Program} {w : World} {ops : Array Oper} {rest : List Oper} {o : Oper} {a : Act} {Q : Exit → Act → World → Prop} (hw : Region.wanted o (yielded ops a.tmps) = true) (s x : Operand) (t u : TypeId)
    (ho : o.op = .call { callee := .builtin .append, args := #[s, x], argTypes := #[t, u] }) (e' : TypeId) (hu : P.underlying u = some (.slice e'))
    (base : Nat) (e : TypeId) (i : TypeInfo) (z : Value) (size bytes : Nat) (ht : P.underlying t = some (.slice e)) (hi : P.info? e = some i) (hz : i.zero = some z)
    (hsize : i.size = size) (hby : i.bytes = bytes) (hzs : z.cells.size = size) (hsz : 0 < size)
    (v : Value) (n : Nat) (xs : List Value) (hs : a.eval s = v) (hown : w.ownsRow base e size v n xs)
    (ad : Addr) (m c : Nat) (news : List Value) (hx : a.eval x = .slice (some ad) m c) (hl : news.length = m * size) (hnews : ∀ j u, news[j]? = some u → w.cell? (ad.add j) = some u) (h1 : ∀ u ∈ news, u.oneCell' = true)
    (h63 : n + m ≤ maxLen) (hbytes : (n + m) * bytes ≤ 140737488355328) (hbase : base ≤ w.heap.size)
    (h : ∀ v' w', w'.ownsRow base e size v' (n + m) (xs ++ news) → w.grownBy w' v.ownBlock → wpList P ops Q rest (a.put o.dst v') w') : wpList P ops Q (o :: rest) a w := by
  refine wpList_step fun K hK => ?_
  rw [if_pos hw]
  obtain ⟨v', w', hr, h2, h3, h4⟩ := run_append_own (P := P) w base t o.type e i z size bytes ht hi hz hsize hby hzs hsz v n xs hown ad m c news hl hnews h1 h63 hbytes hbase
  obtain ⟨B, cB, rfl⟩ : ∃ B cB, v = .slice B n cB := by
    rcases hown.2 with ⟨rfl, rfl⟩ | ⟨g, cap, cur, rfl, _⟩
    · exact ⟨_, _, rfl⟩
    · exact ⟨_, _, rfl⟩
  rw [← append_types ht hu] at hr
  unfold Oper.wp execOp
  simp only [ho, resolve, invoke, builtin, Sem.run_bind, Sem.run_pure, Result.andThen_ok, List.map_toArray, List.map_cons, List.map_nil, hs, hx, hr]
  exact hK _ _ (h v' w' h2 h3)
end Go.Proofs.Ytckeopidedoohaa

namespace Go.Proofs.Ytckeopidedoohaa
open Go.RowKit
variable {n₀ : Nat}
attribute [local go_sem] Oper.semAt_some

theorem be_cells (x : Int) : bcells (be32 x) = [.int .u8 (x / 16777216 % 256), .int .u8 (x / 65536 % 256), .int .u8 (x / 256 % 256), .int .u8 (x % 256)] := by
  obtain ⟨n, hn⟩ : ∃ n, n = (x % 4294967296).toNat := ⟨_, rfl⟩
  unfold be32
  rw [← hn]
  simp only [beL, bcells, List.map_cons, List.map_nil, u8v, UInt8.toNat_ofNat']
  have e0 : ((n / 256 ^ 3 % 2 ^ 8 : Nat) : Int) = x / 16777216 % 256 := by omega
  have e1 : ((n / 256 ^ 2 % 2 ^ 8 : Nat) : Int) = x / 65536 % 256 := by omega
  have e2 : ((n / 256 ^ 1 % 2 ^ 8 : Nat) : Int) = x / 256 % 256 := by omega
  have e3 : ((n / 256 ^ 0 % 2 ^ 8 : Nat) : Int) = x % 256 := by omega
  rw [e0, e1, e2, e3]
theorem take_snocI (l : List Int) (i : Nat) (h : i < l.length) : l.take (i + 1) = l.take i ++ [l.getD i 0] := take_smp h
set_option maxRecDepth 20000 in
set_option maxHeartbeats 4000000 in
theorem encR_t (A : Option Addr) (c : Nat) (l : List Int) (w : World) (hl : l.length ≤ 1000000) (hv : ∀ v ∈ l, OkV v) (h : NumsAt n₀ w A l) : Calls Try.prog 95 #[.slice A l.length c] w fun e w' => ∃ A' c', e = .returned (.slice A' (4 * l.length) c') ∧ 4 * l.length ≤ c' ∧ BsAt n₀ w' A' (encB l) ∧ Below w.heap.size w w' := by
  have HN := Lib.hid h
  have HV := Lib.hid hv
  clear h hv
  obtain ⟨i0, hi0, hz0, hz1, hz2⟩ := info_parts info5
  go_enter Try.func95, Try.ntmps95
  go_wp2_with (fail)
  go_loopw [3, 9] (fun v3 v9 wr => ∃ i : Nat, i ≤ l.length ∧ v9 = .int .i64 i ∧ wr.ownsRow w.heap.size 5 1 v3 (4 * i) (bcells (encB (l.take i))) ∧ Below w.heap.size w wr) (fun _ v9 _ => l.length - (intOf v9).toNat)
  case atStart => exact ⟨0, by omega, rfl, World.ownsRow_nil _ _ _ _, Below.refl _ _⟩
  case round =>
    obtain ⟨i, hi, rfl, ho, hb⟩ := hrel
    by_cases hlt : i < l.length
    case neg =>
      obtain rfl : i = l.length := by omega
      rw [List.take_length] at ho
      obtain ⟨A9, c9, rfl, hc9⟩ := own_slice ho
      go_wp2
      go_ret
      exact ⟨A9, c9, rfl, hc9, own_BsAt ho (encB_len l).symm, hb⟩
    obtain ⟨b, o, rfl, hlb, hcell⟩ := HN.out (by omega)
    have z0 := (hb.cell (p := ⟨b, o + i, none⟩) hlb.lt).trans (hcell i hlt)
    have hts := take_snocI l i hlt
    obtain ⟨x, hx⟩ : ∃ x, x = l.getD i 0 := ⟨_, rfl⟩
    rw [← hx] at z0 hts
    have hxv : OkV x := HV.out x (by rw [hx, List.getD_eq_getElem?_getD, List.getElem?_eq_getElem hlt]; exact List.getElem_mem hlt)
    obtain ⟨hx1, hx2⟩ := hxv
    have HTS := Lib.hid hts
    have k0 : (0 : Int) ≤ (i : Int) := by omega
    have k1 : (i : Int) < (l.length : Int) := by omega
    clear hx hts hcell
    go_upto_region 6 with (fail)
    obtain ⟨W1, hW1⟩ : ∃ W, W = wr.alloc (.cells #[.int .u8 (x / 16777216 % 256), .int .u8 (x / 65536 % 256), .int .u8 (x / 256 % 256), .int .u8 (x % 256)] 44) := ⟨_, rfl⟩
    rw [← hW1]
    have hb1 : Below wr.heap.size wr W1 := by rw [hW1]; exact (Below.refl _ _).alloc (Nat.le_refl _) _
    have hsrc : ∀ j u, (bcells (be32 x))[j]? = some u → W1.cell? ((⟨wr.heap.size, 0, none⟩ : Addr).add j) = some u := fun j u hu => by
      rw [addr_at, Nat.zero_add, hW1, (Blk.new wr 44 _).cell, be_cells] at *
      simpa using hu
    have ho1 := row_keep ho hb1
    have hbw := hb.trans (hb1.mono hb.size)
    have hbs := hbw.size
    have hbc : (bcells (be32 x)).length = 4 * 1 := by rw [bcells_len, be32_len]
    have HSRC := Lib.hid hsrc
    have HBC := Lib.hid hbc
    have HO := Lib.hid ho1
    have HB := Lib.hid hbw
    clear hW1 hb1 hsrc ho1 ho hb z0 hbw hbc
    go_wp2_with (at_builtin; refine wpList_append_two (by rfl) (.tmp 25) (.tmp 26) 117 35 rfl 5 Try.underlying35 w.heap.size 5 i0 (.int .u8 0) 1 1 Try.underlying117 hi0 hz0 hz1 hz2 rfl (by decide) u3 (4 * i) (bcells (encB (l.take i))) rfl HO.out ⟨wr.heap.size, 0, none⟩ 4 4 (bcells (be32 x)) rfl HBC.out HSRC.out (bcells_one _) (by simp [maxLen]; omega) (by omega) (by omega) ?_; intro v7 w7 hown7 hgrow7)
    have b7 : Below w.heap.size w w7 := HB.out.grown hgrow7 hbs (own_base HO.out)
    have e8 : bcells (encB (l.take i)) ++ bcells (be32 x) = bcells (encB (l.take (i + 1))) := by rw [HTS.out, encB_snoc]; simp [bcells]
    have e7 : 4 * i + 4 = 4 * (i + 1) := by omega
    rw [e8, e7] at hown7
    go_roundw
    case rel => exact ⟨i + 1, by omega, by go_num, hown7, b7⟩
    case measure => simp [intOf]; omega
end Go.Proofs.Ytckeopidedoohaa

namespace Go.Proofs.Ytckeopidedoohaa

open Classical in
noncomputable def rData (j : Jn) : List Int × Int := if JVal j then rdR j.recs else ([], 1)
open Classical in
noncomputable def rWrite (j : Jn) (l : List Int) : Jn × Int := if (rData j).2 ≠ 0 then (jn0, (rData j).2) else if OkB l then gApp j (encB l) else (jn0, 1)
noncomputable def rSyn (j : Jn) (d : Dk) : (Jn × Dk) × Int := if (rData j).2 ≠ 0 then ((jn0, dk0), (rData j).2) else gJs j d
noncomputable def rOpn (d : Dk) : (Jn × List Int) × Int := if (gOpen d).2 ≠ 0 then ((jn0, []), (gOpen d).2) else if (rdR (gOpen d).1.recs).2 ≠ 0 then ((jn0, []), (rdR (gOpen d).1.recs).2) else (((gOpen d).1, (rdR (gOpen d).1.recs).1), 0)
end Go.Proofs.Ytckeopidedoohaa

namespace Go.Proofs.Ytckeopidedoohaa
open Go.RowKit
variable {n₀ : Nat}
attribute [local go_sem] Oper.semAt_some

theorem rData_no {j : Jn} (h : ¬ JVal j) : rData j = ([], 1) := by unfold rData; rw [if_neg h]
theorem rData_ok {j : Jn} (h : JVal j) : rData j = rdR j.recs := by unfold rData; rw [if_pos h]

set_option maxRecDepth 20000 in
set_option maxHeartbeats 4000000 in
theorem data_t (RA : Option Addr) (rc : Nat) (j : Jn) (w : World) (hn : n₀ ≤ w.heap.size) (hs : Sm j.recs) (h : RowsAt n₀ w RA j.recs) : Calls Try.prog 62 #[.agg #[.slice RA j.recs.length rc, .int .i64 j.many, .int .i64 j.sync]] w (NsIs n₀ w (rData j)) := by
  have HS := Lib.hid hs
  obtain ⟨gc, hgc⟩ : ∃ x, x = gJchk j := ⟨_, rfl⟩
  have HGC := Lib.hid hgc
  clear hs
  go_enter Try.func62, Try.ntmps62
  go_wp2_with (fail)
  obtain ⟨W1, hW1⟩ : ∃ W, W = w.alloc (.cells #[.slice RA j.recs.length rc, .int .i64 j.many, .int .i64 j.sync] 55) := ⟨_, rfl⟩
  rw [← hW1]
  have hb : Below w.heap.size w W1 := by rw [hW1]; exact (Below.refl _ _).alloc (Nat.le_refl _) _
  have x1 : Blk W1 w.heap.size 55 #[.slice RA j.recs.length rc, .int .i64 j.many, .int .i64 j.sync] := by rw [hW1]; exact Blk.new w 55 _
  clear hW1
  replace h := h.below hb
  have hw := hb
  clear hb
  have K : Calls Try.prog 49 #[.agg #[.slice RA j.recs.length rc, .int .i64 j.many, .int .i64 j.sync]] W1 (fun e w' => e = .returned (.int .i64 gc) ∧ Below W1.heap.size W1 w') := by rw [HGC.out]; exact jcheck_t RA rc j W1 HS.out h
  go_at_call 49
  refine K.mono ?_
  rintro e w2 ⟨rfl, hb⟩
  clear K
  replace h := h.below hb
  replace x1 := x1.below hb x1.lt
  replace hw := hw.trans (hb.mono hw.size)
  clear hb
  by_cases k0 : gc = 0
  case neg =>
    have dk0 : (gc != 0) = true := bne_iff_ne.2 k0
    have HR : rData j = ([], 1) := rData_no (fun hv => k0 (by rw [hgc, jchk_yes hv]))
    have HHR := Lib.hid HR
    obtain rfl : gc = 1 := by rw [hgc, jchk_no (fun hv => k0 (by rw [hgc, jchk_yes hv]))]
    clear HR k0 hgc
    go_wp2
    refine bodyPost_ret (v := .tuple #[.slice none 0 0, .int .i64 1]) (by simp [results, Try.results62, go_sem]) rfl ?_
    rw [HHR.out]
    exact ⟨none, 0, rfl, Nat.le_refl _, NumsAt.nil _ _, hw⟩
  subst k0
  have hv := jchk_val HGC.out.symm
  have HR := Lib.hid (rData_ok hv)
  clear hgc hv
  have x1c0 := x1.cell 0
  have x1c1 := x1.cell 1
  have x1c2 := x1.cell 2
  simp only [List.getElem?_toArray, List.getElem?_cons_zero, List.getElem?_cons_succ] at x1c0 x1c1 x1c2
  have x1l := x1.lt
  go_wp2_with (fail)
  have K : Calls Try.prog 94 #[.slice RA j.recs.length rc] w2 (NsIs n₀ w2 (rdR j.recs)) := recread_t RA rc j.recs w2 (Nat.le_trans hn hw.size) HS.out h
  go_at_call 94
  refine K.mono ?_
  rintro e w9 ⟨A9, c9, rfl, hc9, hn9, hb9⟩
  clear K
  go_wp2
  refine bodyPost_ret (v := .tuple #[.slice A9 (rdR j.recs).1.length c9, .int .i64 (rdR j.recs).2]) (by simp [results, Try.results62, go_sem]) rfl ?_
  rw [HR.out]
  exact ⟨A9, c9, rfl, hc9, hn9, hw.trans (hb9.mono hw.size)⟩

theorem take_eq_snocI {a b : List Int} {k : Nat} (ha : k < a.length) (hb : k < b.length) (h : a.take k = b.take k) (he : a.getD k 0 = b.getD k 0) : a.take (k + 1) = b.take (k + 1) := by rw [take_smp ha, take_smp hb, h, he]
set_option maxRecDepth 20000 in
set_option maxHeartbeats 4000000 in
theorem sameI_t (A B : Option Addr) (c d : Nat) (a b : List Int) (w : World) (hl1 : a.length ≤ 140737488355328) (_hl2 : b.length ≤ 140737488355328) (h1 : NumsAt n₀ w A a) (h2 : NumsAt n₀ w B b) :
    Calls Try.prog 61 #[.slice A a.length c, .slice B b.length d] w fun e w' => e = .returned (.bool (decide (a = b))) ∧ Below w.heap.size w w' := by
  by_cases hab : a.length = b.length
  case neg =>
    have E := Lib.hid (decide_eq_false (show ¬ a = b from fun h => hab (by rw [h])))
    obtain ⟨na, hna⟩ : ∃ n, n = a.length := ⟨_, rfl⟩
    obtain ⟨nb, hnb⟩ : ∃ n, n = b.length := ⟨_, rfl⟩
    rw [← hna, ← hnb] at hab
    rw [← hna] at hl1 ⊢
    rw [← hnb] at _hl2 ⊢
    have dn : ((na : Int) != (nb : Int)) = true := bne_iff_ne.2 (by omega)
    clear hna hnb hab h1 h2
    go_enter Try.func61, Try.ntmps61
    go_wp2
    go_ret
    exact ⟨by rw [E.out]; rfl, Below.refl _ _⟩
  have H1 := Lib.hid h1
  have H2 := Lib.hid h2
  obtain ⟨n, hn⟩ : ∃ n, n = a.length := ⟨_, rfl⟩
  have hnb : n = b.length := by omega
  rw [← hn, ← hnb]
  have HN := Lib.hid (And.intro hn hnb)
  have hnl : n ≤ 140737488355328 := by omega
  clear h1 h2 hab hl1 _hl2 hn hnb
  go_enter Try.func61, Try.ntmps61
  go_wp2_with (fail)
  go_loopw [5] (fun v5 wr => ∃ k : Nat, k ≤ n ∧ v5 = .int .i64 k ∧ Hid (a.take k = b.take k) ∧ Below w.heap.size w wr) (fun v5 _ => n - (intOf v5).toNat)
  case atStart => exact ⟨0, by omega, rfl, Lib.hid rfl, Below.refl _ _⟩
  case round =>
    obtain ⟨k, hk, rfl, HT, hw⟩ := hrel
    by_cases hlt : k < n
    case neg =>
      obtain rfl : k = n := by omega
      have E := Lib.hid (decide_eq_true (show a = b by
        have h := HT.out
        have h1 := HN.out.1
        have h2 := HN.out.2
        rw [List.take_of_length_le (by omega), List.take_of_length_le (by omega)] at h
        exact h))
      go_wp2
      go_ret
      exact ⟨by rw [E.out]; rfl, hw⟩
    have hka : k < a.length := by rw [← HN.out.1]; exact hlt
    have hkb : k < b.length := by rw [← HN.out.2]; exact hlt
    obtain ⟨ba, oa, rfl, la, ca⟩ := H1.out (by omega)
    obtain ⟨bb, ob, rfl, lb, cb⟩ := H2.out (by omega)
    have z1 := (hw.cell (p := ⟨ba, oa + k, none⟩) la.lt).trans (ca k hka)
    have z2 := (hw.cell (p := ⟨bb, ob + k, none⟩) lb.lt).trans (cb k hkb)
    obtain ⟨x, hx⟩ : ∃ x, x = a.getD k 0 := ⟨_, rfl⟩
    obtain ⟨y, hy⟩ : ∃ y, y = b.getD k 0 := ⟨_, rfl⟩
    rw [← hx] at z1
    rw [← hy] at z2
    have HXY := Lib.hid (And.intro hx hy)
    have k0 : (0 : Int) ≤ (k : Int) := by omega
    have k1 : (k : Int) < (n : Int) := by omega
    clear ca cb hx hy
    by_cases hxy : x = y
    case pos =>
      have hst := take_eq_snocI hka hkb HT.out (by rw [← HXY.out.1, ← HXY.out.2]; exact hxy)
      have dx : (x != y) = false := by rw [hxy]; simp
      have HST := Lib.hid hst
      clear hst hxy
      go_upto_region 6 with (fail)
      go_quiet (fail)
      all_goals
        go_wp2_with (fail)
        go_roundw
        case rel => exact ⟨k + 1, by omega, by go_num, HST.out, below_drewN hw _⟩
        case measure => simp [intOf]; omega
    have dx : (x != y) = true := bne_iff_ne.2 hxy
    have E := Lib.hid (decide_eq_false (show ¬ a = b from fun h => hxy (by rw [HXY.out.1, HXY.out.2, h])))
    clear hxy
    go_upto_region 6 with (fail)
    go_quiet (fail)
    all_goals
      go_wp2_with (fail)
      go_ret
      exact ⟨by rw [E.out]; rfl, below_drewN hw _⟩
end Go.Proofs.Ytckeopidedoohaa
