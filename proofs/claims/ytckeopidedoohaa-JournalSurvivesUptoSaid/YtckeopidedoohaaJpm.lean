/-
  Records that were laid on sectors are read again; what lies behind them is not. Conditions: as each statement says.
-/
import Derived.Test.YtckeopidedoohaaJpl
namespace Go.Proofs.Ytckeopidedoohaa

theorem secN_pos (b : Bs) : 1 ≤ secN b := by unfold secN; omega
theorem secN_hi (b : Bs) : b.length ≤ 112 * secN b := by unfold secN; omega
theorem secN_lo {b : Bs} (h : 1 < secN b) : 112 * (secN b - 1) < b.length := by unfold secN at *; omega
/-- The sectors of some records, one record behind the other. -/
def layA (g : Nat) : Nat → List Bs → List Bs
  | _, [] => []
  | n, b :: rs => lay g (secN b) n 1 b ++ layA g (n + secN b) rs
theorem layA_len (g : Nat) : ∀ (rs : List Bs) (n : Nat), (layA g n rs).length = usedN rs
  | [], _ => rfl
  | b :: rs, n => by rw [layA, List.length_append, lay_len, layA_len g rs, usedN_cons]
theorem layA_append (g : Nat) : ∀ (rs ss : List Bs) (n : Nat), layA g n (rs ++ ss) = layA g n rs ++ layA g (n + usedN rs) ss
  | [], ss, n => by simp [layA, usedN_nil]
  | b :: rs, ss, n => by
    rw [List.cons_append, layA, layA, layA_append g rs ss, List.append_assoc, usedN_cons]
    congr 3
    omega
theorem lay_head (g k n : Nat) (kind : UInt8) (b : Bs) : ∃ kd b', lay g (k + 1) n kind b = enc g n kd b' :: lay g k (n + 1) 0 (b.drop 112) := ⟨_, _, rfl⟩
theorem getD_at {l pre post : List Bs} {s : Bs} {n : Nat} (h : l = pre ++ s :: post) (hn : pre.length = n) : l.getD n [] = s := by
  subst h
  subst hn
  simp [List.getD]
theorem recAt_lay {l pre post : List Bs} {g last n : Nat} {b : Bs} (h0 : 0 < g) (hg : g < 4294967296) (hl : last ≤ g) (h : l = pre ++ (lay g (secN b) n 1 b ++ post)) (hn : pre.length = n) :
    recAt l n last = some (n + secN b, b) ∧ sGen (l.getD n []) = g := by
  obtain ⟨k, hk⟩ : ∃ k, secN b = k + 1 := ⟨secN b - 1, by have := secN_pos b; omega⟩
  obtain ⟨kd, b', he⟩ := lay_head g k n 1 b
  have hs : sGen (l.getD n []) = g := by
    rw [hk, he, List.cons_append] at h
    rw [getD_at h hn, enc_gen hg]
  refine ⟨?_, hs⟩
  unfold recAt
  rw [hs]
  have hd : l.drop n = lay g (secN b) n 1 b ++ post := by rw [h, List.drop_left' hn]
  rw [hd, hk, scan_lay h0 hg hl k n 1 b [] post (.inl ⟨rfl, rfl⟩) (by have := secN_hi b; omega) (fun hh => by
    have h1 : 0 < k := hh.resolve_right (by decide)
    have := secN_lo (b := b) (by omega)
    omega)]
  simp
theorem chain_lay {g : Nat} (h0 : 0 < g) (hg : g < 4294967296) : ∀ (rs : List Bs) {l pre post : List Bs} {last n : Nat}, last ≤ g → l = pre ++ (layA g n rs ++ post) → pre.length = n → Chain l n last rs (n + usedN rs) (if rs = [] then last else g)
  | [], l, pre, post, last, n, _, _, _ => by
    rw [if_pos rfl, usedN_nil, Nat.add_zero]
    exact .nil _ _
  | b :: rs, l, pre, post, last, n, hl, h, hn => by
    rw [layA, List.append_assoc] at h
    obtain ⟨h1, h2⟩ := recAt_lay h0 hg hl h hn
    have ih := chain_lay h0 hg rs (l := l) (pre := pre ++ lay g (secN b) n 1 b) (post := post) (last := g) (n := n + secN b) (Nat.le_refl _) (by rw [h, List.append_assoc]) (by rw [List.length_append, lay_len, hn])
    rw [if_neg (by simp), usedN_cons, show n + (secN b + usedN rs) = n + secN b + usedN rs by omega]
    refine .cons h1 ?_
    rw [h2]
    have e : (if rs = [] then g else g) = g := by split <;> rfl
    rw [e] at ih
    exact ih
/-- A place at which no record begins: an old sector, or none. -/
theorem recAt_old {l : List Bs} {n last : Nat} (h : sGen (l.getD n []) < last) : recAt l n last = none := by
  unfold recAt
  cases hd : l.drop n with
  | nil => rfl
  | cons s r =>
    have hs : l.getD n [] = s := by
      have := congrArg (fun x => x[0]?) hd
      simp only [List.getElem?_drop, Nat.add_zero, List.getElem?_cons_zero] at this
      simp [List.getD, this]
    unfold scan
    rw [if_neg]
    rintro ⟨-, -, -, hh⟩
    rw [hs] at h
    omega
/-- A record whose sectors are not all good is not read. -/
theorem scan_torn {g last at_ : Nat} {s : Bs} {m : Nat} (hs : ∀ num, gGood s num = false) : ∀ (k n : Nat) (kind : UInt8) (b acc : Bs) (rest : List Bs), kind.toNat / 2 % 2 = 0 → m < k → scan g last at_ ((lay g k n kind b).take m ++ s :: rest) n acc = none := by
  induction m with
  | zero =>
    intro k n kind b acc rest _ _
    rw [List.take_zero, List.nil_append]
    unfold scan
    rw [if_neg]
    rintro ⟨h, -⟩
    rw [hs] at h
    cases h
  | succ m ih =>
    intro k n kind b acc rest hkd hm
    obtain ⟨k, rfl⟩ : ∃ k', k = k' + 1 := ⟨k - 1, by omega⟩
    rw [lay, if_neg (show ¬ k = 0 by omega), List.take_succ_cons, List.cons_append]
    unfold scan
    by_cases hc : gGood (enc g n kind (b.take 112)) n = true ∧ sBeg (enc g n kind (b.take 112)) = decide (n = at_) ∧ sGen (enc g n kind (b.take 112)) = g ∧ last ≤ sGen (enc g n kind (b.take 112))
    · rw [if_pos hc, if_neg (by
        unfold sFin
        rw [enc_kind]
        simp only [decide_eq_true_eq]
        omega)]
      exact ih k (n + 1) 0 (b.drop 112) _ rest (by decide) (by omega)
    · rw [if_neg hc]
theorem lay_take_all (g k n : Nat) (kind : UInt8) (b : Bs) : (lay g k n kind b).take k = lay g k n kind b := List.take_of_length_le (by rw [lay_len]; exact Nat.le_refl _)
theorem recAt_torn {l pre post : List Bs} {g last n m : Nat} {b s : Bs} (hs : ∀ num, gGood s num = false) (h : l = pre ++ ((lay g (secN b) n 1 b).take m ++ s :: post)) (hm : m < secN b) (hg : g < 4294967296) (hn : pre.length = n) : recAt l n last = none := by
  have hd : l.drop n = (lay g (secN b) n 1 b).take m ++ s :: post := by rw [h, List.drop_left' hn]
  cases m with
  | zero =>
    unfold recAt
    rw [hd, List.take_zero, List.nil_append]
    unfold scan
    rw [if_neg]
    rintro ⟨h1, -⟩
    rw [hs] at h1
    cases h1
  | succ m =>
    have hsg : sGen (l.getD n []) = g := by
      obtain ⟨k, hk⟩ : ∃ k, secN b = k + 1 := ⟨secN b - 1, by omega⟩
      obtain ⟨kd, b', he⟩ := lay_head g k n 1 b
      rw [hk, he, List.take_succ_cons, List.cons_append] at h
      rw [getD_at h hn, enc_gen hg]
    unfold recAt
    rw [hsg, hd]
    exact scan_torn hs (secN b) n 1 b [] post (by decide) hm
/-- A sector whose second half has another generation is none of a record. -/
theorem torn_bad {s : Bs} (hl : s.length = 128) (h : sEnd s ≠ sGen s) : ∀ num, gGood s num = false := fun num => by
  cases hg : gGood s num
  · rfl
  · exact absurd (good_ends hl hg) h
theorem splitK {g : Nat} : ∀ (rs : List Bs) (n m : Nat), m < usedN rs → ∃ (rs1 rs2 : List Bs) (b : Bs) (k : Nat), rs = rs1 ++ b :: rs2 ∧ k < secN b ∧ m = usedN rs1 + k ∧ (layA g n rs).take m = layA g n rs1 ++ (lay g (secN b) (n + usedN rs1) 1 b).take k
  | [], n, m, h => by rw [usedN_nil] at h; omega
  | b :: rs, n, m, h => by
    rw [usedN_cons] at h
    by_cases hm : m < secN b
    · refine ⟨[], rs, b, m, rfl, hm, by rw [usedN_nil]; omega, ?_⟩
      have h1 : (lay g (secN b) n 1 b ++ layA g (n + secN b) rs).take m = (lay g (secN b) n 1 b).take m := List.take_append_of_le_length (by rw [lay_len]; omega)
      rw [show layA g n (b :: rs) = lay g (secN b) n 1 b ++ layA g (n + secN b) rs from rfl, h1]
      simp [layA, usedN_nil]
    · obtain ⟨rs1, rs2, c, k, e, hk, hmk, ht⟩ := splitK (g := g) rs (n + secN b) (m - secN b) (by omega)
      refine ⟨b :: rs1, rs2, c, k, by rw [e]; rfl, hk, by rw [usedN_cons]; omega, ?_⟩
      have h1 : (lay g (secN b) n 1 b ++ layA g (n + secN b) rs).take m = lay g (secN b) n 1 b ++ (layA g (n + secN b) rs).take (m - secN b) := by
        rw [List.take_append, lay_len, List.take_of_length_le (by rw [lay_len]; omega)]
      rw [show layA g n (b :: rs) = lay g (secN b) n 1 b ++ layA g (n + secN b) rs from rfl, h1, ht, show layA g n (b :: rs1) = lay g (secN b) n 1 b ++ layA g (n + secN b) rs1 from rfl, List.append_assoc, usedN_cons, show n + (secN b + usedN rs1) = n + secN b + usedN rs1 by omega]
/-- What is read behind a sync that tore: the records ahead, a beginning of the new ones. -/
theorem torn_chain {l pre post : List Bs} {g last n m : Nat} {rs : List Bs} {s : Bs} (h0 : 0 < g) (hg : g < 4294967296) (hl : last ≤ g) (hs : ∀ num, gGood s num = false) (hm : m < usedN rs) (h : l = pre ++ ((layA g n rs).take m ++ s :: post)) (hn : pre.length = n) :
    ∃ rs1 rs2 at' last', rs = rs1 ++ rs2 ∧ Chain l n last rs1 at' last' ∧ recAt l at' last' = none := by
  obtain ⟨rs1, rs2, b, k, e, hk, hmk, ht⟩ := splitK (g := g) rs n m hm
  rw [ht] at h
  refine ⟨rs1, b :: rs2, _, _, e, chain_lay h0 hg rs1 (pre := pre) (post := (lay g (secN b) (n + usedN rs1) 1 b).take k ++ s :: post) hl (by rw [h, List.append_assoc]) hn, ?_⟩
  exact recAt_torn (pre := pre ++ layA g n rs1) (post := post) (g := g) (m := k) (b := b) hs (by rw [h]; simp only [List.append_assoc]) hk hg (by rw [List.length_append, layA_len, hn])
end Go.Proofs.Ytckeopidedoohaa
