/-
  The disk's laws as plain mathematics: what is read behind writes and syncs, halves of sectors, syncing one by one or together. Conditions: none.
-/
import Derived.Test.YtckeopidedoohaaDsv
namespace Go.Proofs.Ytckeopidedoohaa

theorem set_getD {α : Type} (l : List α) (i j : Nat) (x d : α) (hj : j < l.length) : (l.set i x).getD j d = if i = j then x else l.getD j d := by
  by_cases h : i = j
  · subst h
    simp [List.getD, hj]
  · simp [List.getD, h]
/-- A sector behind writes that were performed is what was read before. -/
theorem perfL_get (l : List Wr) (rs : List Bs) (i : Nat) (hi : i < rs.length) (hl : ∀ x ∈ l, 0 ≤ x.at_ ∧ x.at_ < rs.length) : (perfL rs l).getD i [] = rdW l i (rs.getD i []) := by
  induction l generalizing rs with
  | nil => rfl
  | cons x l ih =>
    unfold perfL rdW at *
    rw [List.foldl_cons, List.foldl_cons, ih (putW rs x) (by simpa [putW] using hi) (fun y hy => by simpa [putW] using hl y (List.mem_cons_of_mem _ hy))]
    congr 1
    unfold putW
    rw [set_getD _ _ _ _ _ hi]
    have := hl x List.mem_cons_self
    by_cases h : x.at_ = (i : Int)
    · rw [if_pos h, if_pos (by omega)]
    · rw [if_neg h, if_neg (by omega)]
theorem runs_pend {d : Dk} (h : Runs d) : ∀ x ∈ d.pend, 0 ≤ x.at_ ∧ x.at_ < d.secs.length ∧ x.data.length = 128 := h.1.2.2.2.2.2.1
theorem runs_secs {d : Dk} (h : Runs d) : ∀ b ∈ d.secs, b.length = 128 := h.1.2.2.2.2.2.2
theorem rdW_len {l : List Wr} {i : Int} {b : Bs} (h : ∀ x ∈ l, x.data.length = 128) (hb : b.length = 128) : (rdW l i b).length = 128 := by
  induction l generalizing b with
  | nil => exact hb
  | cons x l ih =>
    unfold rdW at *
    rw [List.foldl_cons]
    refine ih (fun y hy => h y (List.mem_cons_of_mem _ hy)) ?_
    split
    · exact h x List.mem_cons_self
    · exact hb
theorem secs_len {d : Dk} (h : Runs d) {i : Nat} (hi : i < d.secs.length) : (d.secs.getD i []).length = 128 := by
  rw [List.getD_eq_getElem?_getD, List.getElem?_eq_getElem hi]
  exact runs_secs h _ (List.getElem_mem hi)
theorem read_len {d : Dk} {i : Int} (h : Runs d ∧ 0 ≤ i ∧ i < d.secs.length) : (gRead d i).1.length = 128 := by
  rw [gRead_ok h]
  exact rdW_len (fun x hx => (runs_pend h.1 x hx).2.2) (secs_len h.1 (by omega))
theorem write_runs {d : Dk} {at_ : Int} {b : Bs} (h : Runs d) (h0 : 0 ≤ at_) (h1 : at_ < d.secs.length) (hb : b.length ≤ 128) (hp : d.pend.length < 4096) : Runs { d with pend := d.pend ++ [⟨at_, pad b⟩] } := by
  obtain ⟨⟨v1, v2, v3, v4, v5, v6, v7⟩, hs⟩ := h
  refine ⟨⟨v1, v2, by simp; omega, v4, v5, fun x hx => ?_, v7⟩, hs⟩
  rcases List.mem_append.1 hx with hx | hx
  · exact v6 x hx
  · rw [List.mem_singleton.1 hx]
    exact ⟨h0, h1, pad_len hb⟩
/-- What a sync that does not stop leaves. -/
def syncD (d : Dk) : Dk := ⟨perfL d.secs d.pend, [], if 0 ≤ d.left then d.left - d.pend.length else d.left, false⟩
theorem sync_runs {d : Dk} (h : Runs d) (h1 : ¬ (0 ≤ d.left ∧ d.left < d.pend.length)) : Runs (syncD d) := by
  obtain ⟨⟨v1, v2, v3, v4, v5, v6, v7⟩, hs⟩ := h
  refine ⟨⟨by simpa [syncD, perfL_len] using v1, by simpa [syncD, perfL_len] using v2, by simp [syncD], ?_, ?_, by simp [syncD], ?_⟩, rfl⟩
  · simp only [syncD]
    split <;> omega
  · simp only [syncD]
    split <;> omega
  · exact perfL_all _ _ v7 (fun x hx => (v6 x hx).2.2)
theorem sync_read {d : Dk} (h : Runs d) (h1 : ¬ (0 ≤ d.left ∧ d.left < d.pend.length)) (k : Int) : gRead (syncD d) k = gRead d k := by
  have hr := sync_runs h h1
  by_cases hk : 0 ≤ k ∧ k < d.secs.length
  · rw [gRead_ok ⟨hr, hk.1, by simpa [syncD, perfL_len] using hk.2⟩, gRead_ok ⟨h, hk⟩]
    simp only [syncD]
    rw [perfL_get _ _ _ (by omega) (fun x hx => ⟨(runs_pend h x hx).1, (runs_pend h x hx).2.1⟩)]
    rw [show ((k.toNat : Nat) : Int) = k by omega]
    rfl
  · rw [gRead_no (fun hh => hk ⟨hh.2.1, by simpa [syncD, perfL_len] using hh.2.2⟩), gRead_no (fun hh => hk hh.2)]
theorem pad_take (b : Bs) : (pad b).take b.length = b := by
  unfold pad
  simp

/-- A sector whose halves begin with two bytes. -/
def hv (a b : UInt8) : Bs := (zs.set 0 a).set 64 b
theorem hv_len (a b : UInt8) : (hv a b).length = 128 := by simp [hv, zs_len]
theorem dblB_hv (c : UInt8) : dblB c = hv c c := rfl
theorem hv_ext {x y : Bs} (h : ∀ i, i < 128 → x[i]? = y[i]?) (hx : x.length = 128) (hy : y.length = 128) : x = y := by
  apply List.ext_getElem?
  intro i
  by_cases hi : i < 128
  · exact h i hi
  · rw [List.getElem?_eq_none (by omega), List.getElem?_eq_none (by omega)]
theorem hv_get (a b : UInt8) (i : Nat) (hi : i < 128) : (hv a b).getD i 0 = if i = 64 then b else if i = 0 then a else 0 := by
  unfold hv
  rw [set_getD _ _ _ _ _ (by simp [zs_len, hi]), set_getD _ _ _ _ _ (by simp [zs_len, hi])]
  have : zs.getD i 0 = 0 := by
    unfold zs
    rw [List.getD_eq_getElem?_getD, List.getElem?_replicate, if_pos hi]
    rfl
  rw [this]
  simp only [eq_comm]
theorem torn_hv (a b c e : UInt8) : tornB (hv a b) (hv c e) = hv c b := by
  have e0 : ∀ x y : UInt8, hv x y = x :: List.replicate 63 0 ++ y :: List.replicate 63 0 := fun x y => by
    unfold hv zs
    rfl
  rw [e0, e0, e0]
  rfl
theorem zs_hv : zs = hv 0 0 := by rfl

/-- A write or a sync. -/
structure Ac where
  sync : Bool
  at_ : UInt8
  byte : UInt8
def ac0 : Ac := ⟨false, 0, 0⟩
def Ac.pos (a : Ac) : Nat := a.at_.toNat % 4
theorem Ac.pos_lt (a : Ac) : a.pos < 4 := Nat.mod_lt _ (by omega)
def wrOf (a : Ac) : Wr := ⟨(a.pos : Int), dblB a.byte⟩
/-- Bytes behind some writes. -/
def upd (f : Bs) (ws : List Ac) : Bs := ws.foldl (fun f a => f.set a.pos a.byte) f
theorem upd_snoc (f : Bs) (ws : List Ac) (a : Ac) : upd f (ws ++ [a]) = (upd f ws).set a.pos a.byte := by simp [upd]
theorem upd_len (f : Bs) (ws : List Ac) : (upd f ws).length = f.length := by
  unfold upd
  induction ws generalizing f with
  | nil => rfl
  | cons x l ih => rw [List.foldl_cons, ih]; simp
/-- The halves of four sectors begin with some bytes. -/
def Hv (secs : List Bs) (f s : Bs) : Prop := secs.length = 4 ∧ f.length = 4 ∧ s.length = 4 ∧ ∀ i, i < 4 → secs.getD i [] = hv (f.getD i 0) (s.getD i 0)
theorem Hv.torn {secs : List Bs} {f s : Bs} (h : Hv secs f s) (a : Ac) : Hv (secs.set a.pos (tornB (secs.getD a.pos []) (dblB a.byte))) (f.set a.pos a.byte) s := by
  obtain ⟨h1, h2, h3, h4⟩ := h
  refine ⟨by simp [h1], by simp [h2], h3, fun i hi => ?_⟩
  rw [set_getD _ _ _ _ _ (by omega), set_getD _ _ _ _ _ (by omega)]
  by_cases e : a.pos = i
  · rw [if_pos e, if_pos e, ← e, h4 _ a.pos_lt, dblB_hv, torn_hv]
  · rw [if_neg e, if_neg e, h4 i hi]
theorem Hv.put {secs : List Bs} {f s : Bs} (h : Hv secs f s) (a : Ac) : Hv (putW secs (wrOf a)) (f.set a.pos a.byte) (s.set a.pos a.byte) := by
  obtain ⟨h1, h2, h3, h4⟩ := h
  refine ⟨by simp [putW, h1], by simp [h2], by simp [h3], fun i hi => ?_⟩
  unfold putW wrOf
  rw [set_getD _ _ _ _ _ (by omega), set_getD _ _ _ _ _ (by omega), set_getD _ _ _ _ _ (by omega)]
  simp only [Int.toNat_natCast]
  by_cases e : a.pos = i
  · rw [if_pos e, if_pos e, if_pos e, dblB_hv]
  · rw [if_neg e, if_neg e, if_neg e, h4 i hi]
theorem Hv.perf {secs : List Bs} {f s : Bs} (ws : List Ac) (h : Hv secs f s) : Hv (perfL secs (ws.map wrOf)) (upd f ws) (upd s ws) := by
  unfold perfL upd
  induction ws generalizing secs f s with
  | nil => exact h
  | cons a ws ih => exact ih (h.put a)
theorem take_snocA (l : List Ac) (k : Nat) (h : k < l.length) : l.take (k + 1) = l.take k ++ [l.getD k ac0] := by
  rw [List.take_succ_eq_append_getElem h]
  simp [List.getD, h]
theorem Hv.tornL {secs : List Bs} {f s : Bs} (ws : List Ac) (m : Nat) (hm : m < ws.length) (h : Hv secs f s) : Hv (tornL secs (ws.map wrOf) m) (upd f (ws.take (m + 1))) (upd s (ws.take m)) := by
  have := (h.perf (ws.take m)).torn (ws.getD m ac0)
  rw [take_snocA ws m hm, upd_snoc]
  unfold Ytckeopidedoohaa.tornL
  have e : (ws.map wrOf).getD m wr0 = wrOf (ws.getD m ac0) := by simp [List.getD, hm]
  rw [e, ← List.map_take]
  exact this
/-- The disk of the history. -/
def hisD (secs : List Bs) (ws : List Ac) (room : Nat) : Dk := ⟨secs, ws.map wrOf, (room : Int), false⟩
theorem Hv.all {secs : List Bs} {f s : Bs} (h : Hv secs f s) : ∀ b ∈ secs, b.length = 128 := fun b hb => by
  obtain ⟨i, hi, rfl⟩ := List.getElem_of_mem hb
  have := h.2.2.2 i (by have := h.1; omega)
  rw [List.getD_eq_getElem?_getD, List.getElem?_eq_getElem hi] at this
  rw [Option.getD_some] at this
  rw [this, hv_len]
theorem his_runs {secs : List Bs} {f s : Bs} {ws : List Ac} {room : Nat} (h : Hv secs f s) (hw : ws.length ≤ 4096) (hr : room ≤ 65536) : Runs (hisD secs ws room) := by
  refine ⟨⟨by simp [hisD, h.1], by simp [hisD, h.1], by simpa [hisD] using hw, by simp only [hisD]; omega, by simp only [hisD]; omega, fun x hx => ?_, h.all⟩, rfl⟩
  obtain ⟨a, _, rfl⟩ := List.mem_map.1 hx
  have := a.pos_lt
  refine ⟨by simp only [wrOf]; omega, ?_, dblB_len _⟩
  simp only [wrOf, hisD, h.1]
  omega
theorem his_write {secs : List Bs} {f s : Bs} {ws : List Ac} {room : Nat} (h : Hv secs f s) (hw : ws.length < 4096) (hr : room ≤ 65536) (a : Ac) : gWrite (hisD secs ws room) (a.pos : Int) (dblB a.byte) = (hisD secs (ws ++ [a]) room, 0) := by
  have := a.pos_lt
  rw [gWrite_ok ⟨his_runs h (by omega) hr, by omega, by simp only [hisD, h.1]; omega⟩ (by rw [dblB_len]; omega) (by simp [hisD]; omega)]
  have : pad (dblB a.byte) = dblB a.byte := by simp [pad, dblB_len]
  rw [this]
  simp [hisD, wrOf]
theorem his_sync_torn {secs : List Bs} {f s : Bs} {ws : List Ac} {room : Nat} (h : Hv secs f s) (hw : ws.length ≤ 4096) (hr : room ≤ 65536) (hst : room < ws.length) : gSync (hisD secs ws room) = (⟨tornL secs (ws.map wrOf) room, [], 0, true⟩, 40) := by
  rw [gSync_torn (his_runs h hw hr) ⟨by simp only [hisD]; omega, by simp [hisD]; omega⟩]
  simp [hisD]
theorem his_sync_ok {secs : List Bs} {f s : Bs} {ws : List Ac} {room : Nat} (h : Hv secs f s) (hw : ws.length ≤ 4096) (hr : room ≤ 65536) (hst : ws.length ≤ room) : gSync (hisD secs ws room) = (hisD (perfL secs (ws.map wrOf)) [] (room - ws.length), 0) := by
  rw [gSync_ok (his_runs h hw hr) (fun hh => by have := hh.2; simp [hisD] at this; omega)]
  simp only [hisD, List.length_map, List.map_nil]
  rw [if_pos (by omega)]
  congr 2
  omega
/-- Each sector is read as it was written last. -/
def Ls (d : Dk) (l : Bs) : Prop := l.length = 4 ∧ ∀ i : Nat, i < 4 → rdW d.pend (i : Int) (d.secs.getD i []) = hv (l.getD i 0) (l.getD i 0)
theorem Ls.write {secs : List Bs} {ws : List Ac} {room : Nat} {l : Bs} (h : Ls (hisD secs ws room) l) (a : Ac) : Ls (hisD secs (ws ++ [a]) room) (l.set a.pos a.byte) := by
  refine ⟨by simp [h.1], fun i hi => ?_⟩
  simp only [hisD, List.map_append, List.map_cons, List.map_nil, rdW_snoc]
  have h2 := h.2 i hi
  rw [set_getD _ _ _ _ _ (by have := h.1; omega)]
  by_cases e : a.pos = i
  · rw [if_pos e, if_pos (by simp [wrOf, e])]
    rfl
  · rw [if_neg e, if_neg (by simp only [wrOf]; omega)]
    exact h2
theorem Ls.sync {secs : List Bs} {f s : Bs} {ws : List Ac} {room room' : Nat} {l : Bs} (h : Ls (hisD secs ws room) l) (hh : Hv secs f s) : Ls (hisD (perfL secs (ws.map wrOf)) [] room') l := by
  refine ⟨h.1, fun i hi => ?_⟩
  have := h.2 i hi
  simp only [hisD, List.map_nil, rdW, List.foldl_nil] at this ⊢
  rw [perfL_get _ _ _ (by have := hh.1; omega) (fun x hx => ?_)]
  · exact this
  · obtain ⟨a, _, rfl⟩ := List.mem_map.1 hx
    have := a.pos_lt
    have := hh.1
    simp only [wrOf]
    omega
theorem Ls.of_hv {secs : List Bs} {f s : Bs} (h : Hv secs f s) (k : Nat) (i : Nat) (hi : i < 4) : rdW (hisD secs [] k).pend (i : Int) ((hisD secs [] k).secs.getD i []) = hv (f.getD i 0) (s.getD i 0) := h.2.2.2 i hi

/-- One write that is synced at once, on a disk with nothing pending. -/
def stepL (left : Int) (i : Nat) : Int := if 0 ≤ left then left - i else left
theorem pad1_len (c : UInt8) : (pad [c]).length = 128 := pad_len (by simp)
def Plainw (n : Nat) (ws : List Wr) : Prop := ∀ x ∈ ws, 0 ≤ x.at_ ∧ x.at_ < n ∧ x.data.length = 128
/-- The disk behind i writes, each of them synced. -/
def oneD (secs : List Bs) (ws : List Wr) (left : Int) (i : Nat) : Dk := ⟨perfL secs (ws.take i), [], stepL left i, false⟩
theorem one_runs {secs : List Bs} {ws : List Wr} {left : Int} (h1 : 1 ≤ secs.length) (h2 : secs.length ≤ 4096) (h3 : ∀ b ∈ secs, b.length = 128) (h4 : -1 ≤ left) (h5 : left ≤ 65536) (hw : Plainw secs.length ws) (i : Nat) (hi : 0 ≤ left → (i : Int) ≤ left) : Runs (oneD secs ws left i) := by
  refine ⟨⟨by simpa [oneD, perfL_len] using h1, by simpa [oneD, perfL_len] using h2, by simp [oneD], ?_, ?_, by simp [oneD], ?_⟩, rfl⟩
  · simp only [oneD, stepL]; split <;> omega
  · simp only [oneD, stepL]; split <;> omega
  · exact perfL_all _ _ h3 (fun x hx => (hw x (List.mem_of_mem_take hx)).2.2)
theorem one_pend {secs : List Bs} {ws : List Wr} {left : Int} (h : Plainw secs.length ws) (i : Nat) (hi : i < ws.length) (hr : Runs (oneD secs ws left i)) : Runs { oneD secs ws left i with pend := [ws.getD i wr0] } := by
  have hm : ws.getD i wr0 ∈ ws := by rw [List.getD_eq_getElem?_getD, List.getElem?_eq_getElem hi]; exact List.getElem_mem hi
  obtain ⟨⟨v1, v2, v3, v4, v5, v6, v7⟩, hs⟩ := hr
  refine ⟨⟨v1, v2, by simp, v4, v5, fun x hx => ?_, v7⟩, hs⟩
  rw [List.mem_singleton.1 hx]
  have := h _ hm
  simp only [oneD, perfL_len]
  exact this
theorem one_stop {secs : List Bs} {ws : List Wr} {left : Int} (h : Plainw secs.length ws) (i : Nat) (hi : i < ws.length) (hr : Runs (oneD secs ws left i)) (hl : left = i) : gSync { oneD secs ws left i with pend := [ws.getD i wr0] } = (⟨tornL secs ws i, [], 0, true⟩, 40) := by
  have e : stepL left i = 0 := by unfold stepL; rw [if_pos (by omega)]; omega
  rw [gSync_torn (one_pend h i hi hr) (by simp only [oneD, e]; simp)]
  simp only [oneD, e, tornL, Int.toNat_zero, List.take_zero]
  rfl
theorem one_step {secs : List Bs} {ws : List Wr} {left : Int} (h : Plainw secs.length ws) (i : Nat) (hi : i < ws.length) (hr : Runs (oneD secs ws left i)) (hl : 0 ≤ left → (i : Int) < left) : gSync { oneD secs ws left i with pend := [ws.getD i wr0] } = (oneD secs ws left (i + 1), 0) := by
  rw [gSync_ok (one_pend h i hi hr) (fun hh => by
    obtain ⟨h1, h2⟩ := hh
    simp only [oneD, stepL, List.length_singleton] at h1 h2
    split at h2 <;> rename_i h0
    · rw [if_pos h0] at h1; have := hl h0; omega
    · rw [if_neg h0] at h1; omega)]
  simp only [oneD, take_snocW ws i hi, perfL_snoc]
  refine congrArg (fun z => ((⟨_, [], z, false⟩ : Dk), (0 : Int))) ?_
  show (if 0 ≤ stepL left i then stepL left i - ((1 : Nat) : Int) else stepL left i) = stepL left (i + 1)
  by_cases h0 : 0 ≤ left
  · have := hl h0
    unfold stepL
    rw [if_pos h0, if_pos h0, if_pos (by omega)]
    omega
  · unfold stepL
    rw [if_neg h0, if_neg h0, if_neg h0]
/-- All at once. -/
theorem all_stop {secs : List Bs} {ws : List Wr} {left : Int} (hr : Runs ⟨secs, ws, left, false⟩) (i : Nat) (hi : i < ws.length) (hl : left = i) : gSync ⟨secs, ws, left, false⟩ = (⟨tornL secs ws i, [], 0, true⟩, 40) := by
  rw [gSync_torn hr ⟨by simp only; omega, by simp only; omega⟩]
  simp only [hl, Int.toNat_natCast]
theorem all_ok {secs : List Bs} {ws : List Wr} {left : Int} (hr : Runs ⟨secs, ws, left, false⟩) (hl : 0 ≤ left → (ws.length : Int) ≤ left) : gSync ⟨secs, ws, left, false⟩ = (oneD secs ws left ws.length, 0) := by
  rw [gSync_ok hr (fun hh => by have := hl hh.1; have := hh.2; simp only at this; omega)]
  simp only [oneD, stepL, List.take_length]
end Go.Proofs.Ytckeopidedoohaa
