/-
  Sync of a journal as plain mathematics: the generation, the writes, what they leave. Conditions: as each statement says.
-/
import Derived.Test.YtckeopidedoohaaJpn
import Derived.Test.YtckeopidedoohaaJck
namespace Go.Proofs.Ytckeopidedoohaa

/-- The generation of what is written next. -/
def genN (l : List Bs) : Nat := l.foldl (fun g s => max g (max (sGen s + 1) (sEnd s + 1))) 1
theorem gen_fold (l : List Bs) (g : Nat) : g ≤ l.foldl (fun g s => max g (max (sGen s + 1) (sEnd s + 1))) g ∧ ∀ s ∈ l, sGen s < l.foldl (fun g s => max g (max (sGen s + 1) (sEnd s + 1))) g ∧ sEnd s < l.foldl (fun g s => max g (max (sGen s + 1) (sEnd s + 1))) g := by
  induction l generalizing g with
  | nil => exact ⟨Nat.le_refl _, fun s hs => by cases hs⟩
  | cons x l ih =>
    obtain ⟨h1, h2⟩ := ih (max g (max (sGen x + 1) (sEnd x + 1)))
    rw [List.foldl_cons]
    refine ⟨by omega, fun s hs => ?_⟩
    rcases List.mem_cons.1 hs with rfl | hs
    · omega
    · exact h2 s hs
theorem genN_pos (l : List Bs) : 1 ≤ genN l := (gen_fold l 1).1
theorem genN_gt (l : List Bs) : ∀ s ∈ l, sGen s < genN l ∧ sEnd s < genN l := (gen_fold l 1).2
theorem genN_snoc (l : List Bs) (s : Bs) : genN (l ++ [s]) = max (genN l) (max (sGen s + 1) (sEnd s + 1)) := by simp [genN]
/-- Sectors as writes, from a place on. -/
def mkW : Nat → List Bs → List Wr
  | _, [] => []
  | n, s :: r => ⟨(n : Nat), s⟩ :: mkW (n + 1) r
theorem mkW_len : ∀ (L : List Bs) (n : Nat), (mkW n L).length = L.length
  | [], _ => rfl
  | s :: r, n => by rw [mkW, List.length_cons, mkW_len r, List.length_cons]
theorem mkW_append : ∀ (a b : List Bs) (n : Nat), mkW n (a ++ b) = mkW n a ++ mkW (n + a.length) b
  | [], b, n => rfl
  | s :: r, b, n => by
    rw [List.cons_append, mkW, mkW_append r b, mkW, List.cons_append, List.length_cons]
    congr 3
    omega
theorem mkW_getD : ∀ (L : List Bs) (n i : Nat), i < L.length → (mkW n L).getD i wr0 = ⟨((n + i : Nat) : Int), L.getD i []⟩
  | [], _, i, h => by simp at h
  | s :: r, n, 0, _ => rfl
  | s :: r, n, i + 1, h => by
    have := mkW_getD r (n + 1) i (by simpa using h)
    rw [mkW, List.getD_cons_succ, this, List.getD_cons_succ]
    congr 2
    omega
theorem mkW_take : ∀ (L : List Bs) (n k : Nat), (mkW n L).take k = mkW n (L.take k)
  | [], n, k => by simp [mkW]
  | s :: r, n, 0 => rfl
  | s :: r, n, k + 1 => by rw [mkW, List.take_succ_cons, mkW_take r, List.take_succ_cons, mkW]
theorem mkW_mem : ∀ (L : List Bs) (n : Nat), ∀ x ∈ mkW n L, (n : Int) ≤ x.at_ ∧ x.at_ < (n + L.length : Nat) ∧ x.data ∈ L
  | [], _, x, h => by cases h
  | s :: r, n, x, h => by
    rcases List.mem_cons.1 h with rfl | h
    · exact ⟨Int.le_refl _, by simp; omega, List.mem_cons_self⟩
    · obtain ⟨h1, h2, h3⟩ := mkW_mem r (n + 1) x h
      exact ⟨by omega, by rw [List.length_cons]; omega, List.mem_cons_of_mem _ h3⟩
theorem perf_mkW : ∀ (L l : List Bs) (n : Nat), n + L.length ≤ l.length → perfL l (mkW n L) = l.take n ++ (L ++ l.drop (n + L.length))
  | [], l, n, _ => by simp [mkW, perfL]
  | s :: r, l, n, h => by
    rw [List.length_cons] at h
    have ih := perf_mkW r (l.set n s) (n + 1) (by rw [List.length_set]; omega)
    have e : perfL l (mkW n (s :: r)) = perfL (l.set n s) (mkW (n + 1) r) := by
      unfold perfL
      rw [mkW, List.foldl_cons]
      rfl
    rw [e, ih, List.length_cons]
    have e1 : (l.set n s).take (n + 1) = l.take n ++ [s] := by
      apply List.ext_getElem?
      intro i
      rw [List.getElem?_take, List.getElem?_set, List.getElem?_append, List.length_take, Nat.min_eq_left (by omega)]
      by_cases h1 : i < n
      · rw [if_pos (by omega), if_neg (by omega), if_pos h1, List.getElem?_take, if_pos h1]
      · by_cases h2 : i = n
        · subst h2
          rw [if_pos (by omega), if_pos rfl, if_pos (by omega), if_neg (by omega)]
          simp
        · rw [if_neg (by omega), if_neg h1]
          rw [List.getElem?_eq_none (by simp; omega)]
    have e2 : (l.set n s).drop (n + 1 + r.length) = l.drop (n + (r.length + 1)) := by
      rw [List.drop_set_of_lt (by omega)]
      congr 1
      omega
    rw [e1, e2]
    simp
theorem torn_mkW {L l : List Bs} {n m : Nat} (h : n + L.length ≤ l.length) (hm : m < L.length) : tornL l (mkW n L) m = l.take n ++ (L.take m ++ tornB (l.getD (n + m) []) (L.getD m []) :: l.drop (n + m + 1)) := by
  unfold tornL
  have ht : (L.take m).length = m := by rw [List.length_take]; omega
  rw [mkW_take, perf_mkW _ _ _ (by omega), mkW_getD L n m hm, ht]
  have e1 : (((n + m : Nat) : Int)).toNat = n + m := Int.toNat_natCast _
  dsimp only
  rw [e1]
  have hp : (l.take n ++ L.take m).length = n + m := by rw [List.length_append, List.length_take, ht]; omega
  have hd := List.drop_eq_getElem_cons (show n + m < l.length by omega)
  have eg : l.getD (n + m) [] = l[n + m] := by simp [List.getD, show n + m < l.length by omega]
  rw [← List.append_assoc, hd, ← eg]
  have e2 : ((l.take n ++ L.take m) ++ l.getD (n + m) [] :: l.drop (n + m + 1)).getD (n + m) [] = l.getD (n + m) [] := getD_at rfl hp
  rw [e2, ← List.append_assoc, List.set_append_right _ _ (by omega), hp, Nat.sub_self]
  rfl

/-- The disk with the sectors of the new records waiting. -/
def wsD (d : Dk) (u : Nat) (rs : List Bs) : Dk := { d with pend := mkW u (layA (genN d.secs) u rs) }
open Classical in
/-- What Sync answers. -/
noncomputable def gJs (j : Jn) (d : Dk) : (Jn × Dk) × Int :=
  if ¬ JVal j then ((jn0, dk0), 1) else if ¬ Val d then ((jn0, dk0), 40) else if j.many ≠ d.secs.length ∧ d.stop = false then ((jn0, dk0), 1) else if d.stop = true then ((jn0, dk0), 40)
  else if 0 < d.pend.length then ((jn0, dk0), 1) else if ¬ (gRecs d.secs = j.recs.take j.sync.toNat ∧ genN d.secs < 4294967296) then ((jn0, dk0), 50)
  else if j.sync = j.recs.length then ((j, d), 0)
  else if (gSync (wsD d (usedN (j.recs.take j.sync.toNat)) (j.recs.drop j.sync.toNat))).2 ≠ 0 then ((jn0, (gSync (wsD d (usedN (j.recs.take j.sync.toNat)) (j.recs.drop j.sync.toNat))).1), (gSync (wsD d (usedN (j.recs.take j.sync.toNat)) (j.recs.drop j.sync.toNat))).2)
  else (({ j with sync := j.recs.length }, (gSync (wsD d (usedN (j.recs.take j.sync.toNat)) (j.recs.drop j.sync.toNat))).1), 0)
/-- The journal and the disk fit. -/
structure Fits (j : Jn) (d : Dk) : Prop where
  val : JVal j
  vald : Val d
  many : j.many = d.secs.length
  stop : d.stop = false
  pend : d.pend = []
  recs : gRecs d.secs = j.recs.take j.sync.toNat
  gen : genN d.secs < 4294967296
theorem gJs_same {j : Jn} {d : Dk} (h : Fits j d) (hs : j.sync = j.recs.length) : gJs j d = ((j, d), 0) := by
  unfold gJs
  rw [if_neg (not_not_intro h.val), if_neg (not_not_intro h.vald), if_neg (fun hx => hx.1 h.many), if_neg (by rw [h.stop]; simp), if_neg (by rw [h.pend]; simp), if_neg (not_not_intro ⟨h.recs, h.gen⟩), if_pos hs]
theorem fits_fit {j : Jn} {d : Dk} (h : Fits j d) : usedN (j.recs.take j.sync.toNat) + usedN (j.recs.drop j.sync.toNat) ≤ d.secs.length := by
  rw [← usedN_append, List.take_append_drop]
  have h1 := h.val.2.2.2.2
  have h2 := h.many
  omega
theorem ws_runs {j : Jn} {d : Dk} (h : Fits j d) : Runs (wsD d (usedN (j.recs.take j.sync.toNat)) (j.recs.drop j.sync.toNat)) := by
  have hf := fits_fit h
  obtain ⟨v1, v2, v3, v4, v5, v6, v7⟩ := h.vald
  refine ⟨⟨v1, v2, ?_, v4, v5, fun x hx => ?_, v7⟩, h.stop⟩
  · simp only [wsD, mkW_len, layA_len]
    omega
  · obtain ⟨h1, h2, h3⟩ := mkW_mem _ _ x hx
    rw [layA_len] at h2
    exact ⟨by omega, by simp only [wsD]; omega, (layA_all h.gen _ _ _ h3).1⟩
/-- A sync that does not stop. -/
theorem gJs_ok {j : Jn} {d : Dk} (h : Fits j d) (hs : j.sync ≠ j.recs.length) (hl : ¬ (0 ≤ d.left ∧ d.left < usedN (j.recs.drop j.sync.toNat))) :
    ∃ y, gJs j d = (({ j with sync := j.recs.length }, y), 0) ∧ Runs y ∧ y.pend = [] ∧ y.secs.length = d.secs.length ∧ gRecs y.secs = j.recs ∧ y.left = (if 0 ≤ d.left then d.left - usedN (j.recs.drop j.sync.toNat) else d.left) ∧ y.secs = perfL d.secs (wsD d (usedN (j.recs.take j.sync.toNat)) (j.recs.drop j.sync.toNat)).pend := by
  have hr := ws_runs h
  have hf := fits_fit h
  have hlen : (wsD d (usedN (j.recs.take j.sync.toNat)) (j.recs.drop j.sync.toNat)).pend.length = usedN (j.recs.drop j.sync.toNat) := by simp only [wsD, mkW_len, layA_len]
  have hl2 : ¬ (0 ≤ (wsD d (usedN (j.recs.take j.sync.toNat)) (j.recs.drop j.sync.toNat)).left ∧ (wsD d (usedN (j.recs.take j.sync.toNat)) (j.recs.drop j.sync.toNat)).left < (wsD d (usedN (j.recs.take j.sync.toNat)) (j.recs.drop j.sync.toNat)).pend.length) := by
    rw [hlen]
    exact hl
  have e := gSync_ok hr hl2
  refine ⟨syncD (wsD d (usedN (j.recs.take j.sync.toNat)) (j.recs.drop j.sync.toNat)), ?_, sync_runs hr hl2, rfl, perfL_len _ _, ?_, ?_, rfl⟩
  · unfold gJs
    rw [if_neg (not_not_intro h.val), if_neg (not_not_intro h.vald), if_neg (fun hx => hx.1 h.many), if_neg (by rw [h.stop]; simp), if_neg (by rw [h.pend]; simp), if_neg (not_not_intro ⟨h.recs, h.gen⟩), if_neg hs, e, if_neg (by simp)]
    rfl
  · show gRecs (perfL d.secs (mkW _ (layA (genN d.secs) _ _))) = _
    rw [perf_mkW _ _ _ (by rw [layA_len]; exact hf), layA_len, ← h.recs]
    rw [← h.recs] at hf
    rw [sync_recs _ (h.vald.2.2.2.2.2.2) h.gen (fun s hs => (genN_gt _ s hs).1) hf (genN_pos _), h.recs, List.take_append_drop]
  · simp only [syncD, hlen]
    rfl
/-- A sync that stops. -/
theorem gJs_torn {j : Jn} {d : Dk} (h : Fits j d) (hl : 0 ≤ d.left ∧ d.left < usedN (j.recs.drop j.sync.toNat)) :
    ∃ y n, gJs j d = ((jn0, y), 40) ∧ y.stop = true ∧ y.pend = [] ∧ y.secs.length = d.secs.length ∧ (∀ b ∈ y.secs, b.length = 128) ∧ y.left = 0 ∧ j.sync.toNat ≤ n ∧ n ≤ j.recs.length ∧ gRecs y.secs = j.recs.take n := by
  have hr := ws_runs h
  have hf := fits_fit h
  have hlen : (wsD d (usedN (j.recs.take j.sync.toNat)) (j.recs.drop j.sync.toNat)).pend.length = usedN (j.recs.drop j.sync.toNat) := by simp only [wsD, mkW_len, layA_len]
  have hl2 : 0 ≤ (wsD d (usedN (j.recs.take j.sync.toNat)) (j.recs.drop j.sync.toNat)).left ∧ (wsD d (usedN (j.recs.take j.sync.toNat)) (j.recs.drop j.sync.toNat)).left < (wsD d (usedN (j.recs.take j.sync.toNat)) (j.recs.drop j.sync.toNat)).pend.length := by
    rw [hlen]
    exact hl
  have e := gSync_torn hr hl2
  have hs : j.sync ≠ j.recs.length := fun hx => by
    rw [hx, Int.toNat_natCast, List.drop_length, usedN_nil] at hl
    omega
  have hsl : j.sync.toNat ≤ j.recs.length := by have := h.val.2.2.2.1; omega
  have hm : d.left.toNat < usedN (j.recs.drop j.sync.toNat) := by omega
  have ht : tornL d.secs (mkW (usedN (gRecs d.secs)) (layA (genN d.secs) (usedN (gRecs d.secs)) (j.recs.drop j.sync.toNat))) d.left.toNat = _ := torn_mkW (by rw [layA_len, h.recs]; exact hf) (by rw [layA_len]; exact hm)
  obtain ⟨rs1, rs2, er, eg⟩ := sync_torn (j.recs.drop j.sync.toNat) h.vald.2.2.2.2.2.2 h.gen (genN_gt _) (by rw [h.recs]; exact hf) (genN_pos _) hm
  refine ⟨_, j.sync.toNat + rs1.length, by
    unfold gJs
    rw [if_neg (not_not_intro h.val), if_neg (not_not_intro h.vald), if_neg (fun hx => hx.1 h.many), if_neg (by rw [h.stop]; simp), if_neg (by rw [h.pend]; simp), if_neg (not_not_intro ⟨h.recs, h.gen⟩), if_neg hs, e, if_pos (by simp)], rfl, rfl, ?_, ?_, rfl, by omega, ?_, ?_⟩
  · simp [tornL, perfL_len, wsD]
  · dsimp only
    intro b hb
    rw [show (wsD d (usedN (j.recs.take j.sync.toNat)) (j.recs.drop j.sync.toNat)).secs = d.secs from rfl, show (wsD d (usedN (j.recs.take j.sync.toNat)) (j.recs.drop j.sync.toNat)).pend = mkW (usedN (j.recs.take j.sync.toNat)) (layA (genN d.secs) (usedN (j.recs.take j.sync.toNat)) (j.recs.drop j.sync.toNat)) from rfl, show (wsD d (usedN (j.recs.take j.sync.toNat)) (j.recs.drop j.sync.toNat)).left = d.left from rfl, ← h.recs, ht] at hb
    have hdl : ∀ s ∈ d.secs, s.length = 128 := h.vald.2.2.2.2.2.2
    have hfl : usedN (gRecs d.secs) + d.left.toNat < d.secs.length := by rw [h.recs]; omega
    rcases List.mem_append.1 hb with hb | hb
    · exact hdl _ (List.mem_of_mem_take hb)
    rcases List.mem_append.1 hb with hb | hb
    · exact (layA_all h.gen _ _ _ (List.mem_of_mem_take hb)).1
    rcases List.mem_cons.1 hb with rfl | hb
    · exact (torn_gen (hdl _ (mem_getD hfl)) (layA_all h.gen _ _ _ (mem_getD (by rw [layA_len]; exact hm))).1).1
    · exact hdl _ (List.mem_of_mem_drop hb)
  · have := congrArg List.length er
    rw [List.length_append, List.length_drop] at this
    omega
  · dsimp only
    rw [show (wsD d (usedN (j.recs.take j.sync.toNat)) (j.recs.drop j.sync.toNat)).secs = d.secs from rfl, show (wsD d (usedN (j.recs.take j.sync.toNat)) (j.recs.drop j.sync.toNat)).pend = mkW (usedN (j.recs.take j.sync.toNat)) (layA (genN d.secs) (usedN (j.recs.take j.sync.toNat)) (j.recs.drop j.sync.toNat)) from rfl, show (wsD d (usedN (j.recs.take j.sync.toNat)) (j.recs.drop j.sync.toNat)).left = d.left from rfl, ← h.recs, ht, eg, h.recs]
    have e1 : j.recs = j.recs.take j.sync.toNat ++ (rs1 ++ rs2) := by rw [← er, List.take_append_drop]
    have e2 : (j.recs.take j.sync.toNat).length = j.sync.toNat := by rw [List.length_take]; omega
    have e3 : (j.recs.take j.sync.toNat ++ (rs1 ++ rs2)).take (j.sync.toNat + rs1.length) = j.recs.take j.sync.toNat ++ rs1 := by
      rw [List.take_append, e2, List.take_of_length_le (by omega), show j.sync.toNat + rs1.length - j.sync.toNat = rs1.length by omega, List.take_left]
    rw [← e3, ← e1]
end Go.Proofs.Ytckeopidedoohaa
