/-
  Orders as plain data, and whether one is valid: what the program and the reference say. Conditions: none.
-/
import Derived.Test.YtjkclplnflaplaaBase
namespace Go.Proofs.Ytjkclplnflaplaa
open Go.RowKit

structure Ord where
  at_ : Int
  kind : Int
  a : Int
  b : Int
def Right (x : Ord) : Prop := 0 ≤ x.at_ ∧ x.at_ ≤ 1099511627776 ∧
  (((x.kind = 1 ∨ x.kind = 2 ∨ x.kind = 5) ∧ x.a = 0 ∧ x.b = 0) ∨ (x.kind = 3 ∧ 0 ≤ x.a ∧ x.a ≤ 1099511627776 ∧ x.b = 0) ∨ ((x.kind = 4 ∨ x.kind = 6) ∧ 0 ≤ x.a ∧ x.a < x.b ∧ x.b ≤ 1099511627776))
instance (x : Ord) : Decidable (Right x) := by unfold Right; infer_instance
def rightB (x : Ord) : Bool := decide (Right x)

set_option maxHeartbeats 2000000 in
theorem right_t (a k x y : Int) (w : World) : Calls Try.prog 19 #[.agg #[.int .i64 a, .int .i64 k, .int .i64 x, .int .i64 y]] w fun e w' => e = .returned (.bool (rightB ⟨a, k, x, y⟩)) ∧ Below w.heap.size w w' := by
  have HB : Below w.heap.size w (w.alloc (.cells #[.int .i64 a, .int .i64 k, .int .i64 x, .int .i64 y] 40)) := (Below.refl _ w).alloc (Nat.le_refl _) _
  by_cases c1 : a < 0
  case pos =>
    have c1' : decide (a < 0) = true := decide_eq_true c1
    have E := Lib.hid (show rightB ⟨a, k, x, y⟩ = false by unfold rightB; rw [decide_eq_false_iff_not]; unfold Right; dsimp only; omega)
    try clear z3
    try clear z2
    try clear z1
    try clear k6
    try clear k4
    try clear k3
    try clear k5
    try clear k2
    try clear k1
    go_enter Try.func19, Try.ntmps19
    go_wp2
    go_ret
    exact ⟨by rw [E.out]; rfl, HB⟩
  have c1' : decide (a < 0) = false := decide_eq_false c1
  by_cases c2 : 1099511627776 < a
  case pos =>
    have c2' : decide (1099511627776 < a) = true := decide_eq_true c2
    have E := Lib.hid (show rightB ⟨a, k, x, y⟩ = false by unfold rightB; rw [decide_eq_false_iff_not]; unfold Right; dsimp only; omega)
    try clear z3
    try clear z2
    try clear z1
    try clear k6
    try clear k4
    try clear k3
    try clear k5
    try clear k2
    try clear k1
    go_enter Try.func19, Try.ntmps19
    go_wp2
    go_ret
    exact ⟨by rw [E.out]; rfl, HB⟩
  have c2' : decide (1099511627776 < a) = false := decide_eq_false c2
  by_cases k1 : k = 1
  case pos =>
    have k1' : (k == 1) = true := beq_iff_eq.2 k1
    by_cases z1 : x = 0
    case pos =>
      have z1' : (x == 0) = true := beq_iff_eq.2 z1
      by_cases z2 : y = 0
      case pos =>
        have z2' : (y == 0) = true := beq_iff_eq.2 z2
        have E := Lib.hid (show rightB ⟨a, k, x, y⟩ = true by unfold rightB; rw [decide_eq_true_iff]; unfold Right; dsimp only; omega)
        try clear z3
        try clear z2
        try clear z1
        try clear k6
        try clear k4
        try clear k3
        try clear k5
        try clear k2
        try clear k1
        go_enter Try.func19, Try.ntmps19
        go_wp2
        go_ret
        exact ⟨by rw [E.out]; rfl, HB⟩
      have z2' : (y == 0) = false := beq_eq_false_iff_ne.2 z2
      have E := Lib.hid (show rightB ⟨a, k, x, y⟩ = false by unfold rightB; rw [decide_eq_false_iff_not]; unfold Right; dsimp only; omega)
      try clear z3
      try clear z2
      try clear z1
      try clear k6
      try clear k4
      try clear k3
      try clear k5
      try clear k2
      try clear k1
      go_enter Try.func19, Try.ntmps19
      go_wp2
      go_ret
      exact ⟨by rw [E.out]; rfl, HB⟩
    have z1' : (x == 0) = false := beq_eq_false_iff_ne.2 z1
    have E := Lib.hid (show rightB ⟨a, k, x, y⟩ = false by unfold rightB; rw [decide_eq_false_iff_not]; unfold Right; dsimp only; omega)
    try clear z3
    try clear z2
    try clear z1
    try clear k6
    try clear k4
    try clear k3
    try clear k5
    try clear k2
    try clear k1
    go_enter Try.func19, Try.ntmps19
    go_wp2
    go_ret
    exact ⟨by rw [E.out]; rfl, HB⟩
  have k1' : (k == 1) = false := beq_eq_false_iff_ne.2 k1
  by_cases k2 : k = 2
  case pos =>
    have k2' : (k == 2) = true := beq_iff_eq.2 k2
    by_cases z1 : x = 0
    case pos =>
      have z1' : (x == 0) = true := beq_iff_eq.2 z1
      by_cases z2 : y = 0
      case pos =>
        have z2' : (y == 0) = true := beq_iff_eq.2 z2
        have E := Lib.hid (show rightB ⟨a, k, x, y⟩ = true by unfold rightB; rw [decide_eq_true_iff]; unfold Right; dsimp only; omega)
        try clear z3
        try clear z2
        try clear z1
        try clear k6
        try clear k4
        try clear k3
        try clear k5
        try clear k2
        try clear k1
        go_enter Try.func19, Try.ntmps19
        go_wp2
        go_ret
        exact ⟨by rw [E.out]; rfl, HB⟩
      have z2' : (y == 0) = false := beq_eq_false_iff_ne.2 z2
      have E := Lib.hid (show rightB ⟨a, k, x, y⟩ = false by unfold rightB; rw [decide_eq_false_iff_not]; unfold Right; dsimp only; omega)
      try clear z3
      try clear z2
      try clear z1
      try clear k6
      try clear k4
      try clear k3
      try clear k5
      try clear k2
      try clear k1
      go_enter Try.func19, Try.ntmps19
      go_wp2
      go_ret
      exact ⟨by rw [E.out]; rfl, HB⟩
    have z1' : (x == 0) = false := beq_eq_false_iff_ne.2 z1
    have E := Lib.hid (show rightB ⟨a, k, x, y⟩ = false by unfold rightB; rw [decide_eq_false_iff_not]; unfold Right; dsimp only; omega)
    try clear z3
    try clear z2
    try clear z1
    try clear k6
    try clear k4
    try clear k3
    try clear k5
    try clear k2
    try clear k1
    go_enter Try.func19, Try.ntmps19
    go_wp2
    go_ret
    exact ⟨by rw [E.out]; rfl, HB⟩
  have k2' : (k == 2) = false := beq_eq_false_iff_ne.2 k2
  by_cases k5 : k = 5
  case pos =>
    have k5' : (k == 5) = true := beq_iff_eq.2 k5
    by_cases z1 : x = 0
    case pos =>
      have z1' : (x == 0) = true := beq_iff_eq.2 z1
      by_cases z2 : y = 0
      case pos =>
        have z2' : (y == 0) = true := beq_iff_eq.2 z2
        have E := Lib.hid (show rightB ⟨a, k, x, y⟩ = true by unfold rightB; rw [decide_eq_true_iff]; unfold Right; dsimp only; omega)
        try clear z3
        try clear z2
        try clear z1
        try clear k6
        try clear k4
        try clear k3
        try clear k5
        try clear k2
        try clear k1
        go_enter Try.func19, Try.ntmps19
        go_wp2
        go_ret
        exact ⟨by rw [E.out]; rfl, HB⟩
      have z2' : (y == 0) = false := beq_eq_false_iff_ne.2 z2
      have E := Lib.hid (show rightB ⟨a, k, x, y⟩ = false by unfold rightB; rw [decide_eq_false_iff_not]; unfold Right; dsimp only; omega)
      try clear z3
      try clear z2
      try clear z1
      try clear k6
      try clear k4
      try clear k3
      try clear k5
      try clear k2
      try clear k1
      go_enter Try.func19, Try.ntmps19
      go_wp2
      go_ret
      exact ⟨by rw [E.out]; rfl, HB⟩
    have z1' : (x == 0) = false := beq_eq_false_iff_ne.2 z1
    have E := Lib.hid (show rightB ⟨a, k, x, y⟩ = false by unfold rightB; rw [decide_eq_false_iff_not]; unfold Right; dsimp only; omega)
    try clear z3
    try clear z2
    try clear z1
    try clear k6
    try clear k4
    try clear k3
    try clear k5
    try clear k2
    try clear k1
    go_enter Try.func19, Try.ntmps19
    go_wp2
    go_ret
    exact ⟨by rw [E.out]; rfl, HB⟩
  have k5' : (k == 5) = false := beq_eq_false_iff_ne.2 k5
  by_cases k3 : k = 3
  case pos =>
    have k3' : (k == 3) = true := beq_iff_eq.2 k3
    by_cases z1 : 0 ≤ x
    case pos =>
      have z1' : decide (0 ≤ x) = true := decide_eq_true z1
      by_cases z2 : x ≤ 1099511627776
      case pos =>
        have z2' : decide (x ≤ 1099511627776) = true := decide_eq_true z2
        by_cases z3 : y = 0
        case pos =>
          have z3' : (y == 0) = true := beq_iff_eq.2 z3
          have E := Lib.hid (show rightB ⟨a, k, x, y⟩ = true by unfold rightB; rw [decide_eq_true_iff]; unfold Right; dsimp only; omega)
          try clear z3
          try clear z2
          try clear z1
          try clear k6
          try clear k4
          try clear k3
          try clear k5
          try clear k2
          try clear k1
          go_enter Try.func19, Try.ntmps19
          go_wp2
          go_ret
          exact ⟨by rw [E.out]; rfl, HB⟩
        have z3' : (y == 0) = false := beq_eq_false_iff_ne.2 z3
        have E := Lib.hid (show rightB ⟨a, k, x, y⟩ = false by unfold rightB; rw [decide_eq_false_iff_not]; unfold Right; dsimp only; omega)
        try clear z3
        try clear z2
        try clear z1
        try clear k6
        try clear k4
        try clear k3
        try clear k5
        try clear k2
        try clear k1
        go_enter Try.func19, Try.ntmps19
        go_wp2
        go_ret
        exact ⟨by rw [E.out]; rfl, HB⟩
      have z2' : decide (x ≤ 1099511627776) = false := decide_eq_false z2
      have E := Lib.hid (show rightB ⟨a, k, x, y⟩ = false by unfold rightB; rw [decide_eq_false_iff_not]; unfold Right; dsimp only; omega)
      try clear z3
      try clear z2
      try clear z1
      try clear k6
      try clear k4
      try clear k3
      try clear k5
      try clear k2
      try clear k1
      go_enter Try.func19, Try.ntmps19
      go_wp2
      go_ret
      exact ⟨by rw [E.out]; rfl, HB⟩
    have z1' : decide (0 ≤ x) = false := decide_eq_false z1
    have E := Lib.hid (show rightB ⟨a, k, x, y⟩ = false by unfold rightB; rw [decide_eq_false_iff_not]; unfold Right; dsimp only; omega)
    try clear z3
    try clear z2
    try clear z1
    try clear k6
    try clear k4
    try clear k3
    try clear k5
    try clear k2
    try clear k1
    go_enter Try.func19, Try.ntmps19
    go_wp2
    go_ret
    exact ⟨by rw [E.out]; rfl, HB⟩
  have k3' : (k == 3) = false := beq_eq_false_iff_ne.2 k3
  by_cases k4 : k = 4
  case pos =>
    have k4' : (k == 4) = true := beq_iff_eq.2 k4
    by_cases z1 : 0 ≤ x
    case pos =>
      have z1' : decide (0 ≤ x) = true := decide_eq_true z1
      by_cases z2 : x < y
      case pos =>
        have z2' : decide (x < y) = true := decide_eq_true z2
        by_cases z3 : y ≤ 1099511627776
        case pos =>
          have z3' : decide (y ≤ 1099511627776) = true := decide_eq_true z3
          have E := Lib.hid (show rightB ⟨a, k, x, y⟩ = true by unfold rightB; rw [decide_eq_true_iff]; unfold Right; dsimp only; omega)
          try clear z3
          try clear z2
          try clear z1
          try clear k6
          try clear k4
          try clear k3
          try clear k5
          try clear k2
          try clear k1
          go_enter Try.func19, Try.ntmps19
          go_wp2
          go_ret
          exact ⟨by rw [E.out]; rfl, HB⟩
        have z3' : decide (y ≤ 1099511627776) = false := decide_eq_false z3
        have E := Lib.hid (show rightB ⟨a, k, x, y⟩ = false by unfold rightB; rw [decide_eq_false_iff_not]; unfold Right; dsimp only; omega)
        try clear z3
        try clear z2
        try clear z1
        try clear k6
        try clear k4
        try clear k3
        try clear k5
        try clear k2
        try clear k1
        go_enter Try.func19, Try.ntmps19
        go_wp2
        go_ret
        exact ⟨by rw [E.out]; rfl, HB⟩
      have z2' : decide (x < y) = false := decide_eq_false z2
      have E := Lib.hid (show rightB ⟨a, k, x, y⟩ = false by unfold rightB; rw [decide_eq_false_iff_not]; unfold Right; dsimp only; omega)
      try clear z3
      try clear z2
      try clear z1
      try clear k6
      try clear k4
      try clear k3
      try clear k5
      try clear k2
      try clear k1
      go_enter Try.func19, Try.ntmps19
      go_wp2
      go_ret
      exact ⟨by rw [E.out]; rfl, HB⟩
    have z1' : decide (0 ≤ x) = false := decide_eq_false z1
    have E := Lib.hid (show rightB ⟨a, k, x, y⟩ = false by unfold rightB; rw [decide_eq_false_iff_not]; unfold Right; dsimp only; omega)
    try clear z3
    try clear z2
    try clear z1
    try clear k6
    try clear k4
    try clear k3
    try clear k5
    try clear k2
    try clear k1
    go_enter Try.func19, Try.ntmps19
    go_wp2
    go_ret
    exact ⟨by rw [E.out]; rfl, HB⟩
  have k4' : (k == 4) = false := beq_eq_false_iff_ne.2 k4
  by_cases k6 : k = 6
  case pos =>
    have k6' : (k == 6) = true := beq_iff_eq.2 k6
    by_cases z1 : 0 ≤ x
    case pos =>
      have z1' : decide (0 ≤ x) = true := decide_eq_true z1
      by_cases z2 : x < y
      case pos =>
        have z2' : decide (x < y) = true := decide_eq_true z2
        by_cases z3 : y ≤ 1099511627776
        case pos =>
          have z3' : decide (y ≤ 1099511627776) = true := decide_eq_true z3
          have E := Lib.hid (show rightB ⟨a, k, x, y⟩ = true by unfold rightB; rw [decide_eq_true_iff]; unfold Right; dsimp only; omega)
          try clear z3
          try clear z2
          try clear z1
          try clear k6
          try clear k4
          try clear k3
          try clear k5
          try clear k2
          try clear k1
          go_enter Try.func19, Try.ntmps19
          go_wp2
          go_ret
          exact ⟨by rw [E.out]; rfl, HB⟩
        have z3' : decide (y ≤ 1099511627776) = false := decide_eq_false z3
        have E := Lib.hid (show rightB ⟨a, k, x, y⟩ = false by unfold rightB; rw [decide_eq_false_iff_not]; unfold Right; dsimp only; omega)
        try clear z3
        try clear z2
        try clear z1
        try clear k6
        try clear k4
        try clear k3
        try clear k5
        try clear k2
        try clear k1
        go_enter Try.func19, Try.ntmps19
        go_wp2
        go_ret
        exact ⟨by rw [E.out]; rfl, HB⟩
      have z2' : decide (x < y) = false := decide_eq_false z2
      have E := Lib.hid (show rightB ⟨a, k, x, y⟩ = false by unfold rightB; rw [decide_eq_false_iff_not]; unfold Right; dsimp only; omega)
      try clear z3
      try clear z2
      try clear z1
      try clear k6
      try clear k4
      try clear k3
      try clear k5
      try clear k2
      try clear k1
      go_enter Try.func19, Try.ntmps19
      go_wp2
      go_ret
      exact ⟨by rw [E.out]; rfl, HB⟩
    have z1' : decide (0 ≤ x) = false := decide_eq_false z1
    have E := Lib.hid (show rightB ⟨a, k, x, y⟩ = false by unfold rightB; rw [decide_eq_false_iff_not]; unfold Right; dsimp only; omega)
    try clear z3
    try clear z2
    try clear z1
    try clear k6
    try clear k4
    try clear k3
    try clear k5
    try clear k2
    try clear k1
    go_enter Try.func19, Try.ntmps19
    go_wp2
    go_ret
    exact ⟨by rw [E.out]; rfl, HB⟩
  have k6' : (k == 6) = false := beq_eq_false_iff_ne.2 k6
  have E := Lib.hid (show rightB ⟨a, k, x, y⟩ = false by unfold rightB; rw [decide_eq_false_iff_not]; unfold Right; dsimp only; omega)
  try clear z3
  try clear z2
  try clear z1
  try clear k6
  try clear k4
  try clear k3
  try clear k5
  try clear k2
  try clear k1
  go_enter Try.func19, Try.ntmps19
  go_wp2
  go_ret
  exact ⟨by rw [E.out]; rfl, HB⟩

set_option maxHeartbeats 2000000 in
theorem valid_t (a k x y : Int) (w : World) : Calls Try.prog 20 #[.agg #[.int .i64 a, .int .i64 k, .int .i64 x, .int .i64 y]] w fun e w' => e = .returned (.bool (rightB ⟨a, k, x, y⟩)) ∧ Below w.heap.size w w' := by
  have HB : Below w.heap.size w (w.alloc (.cells #[.int .i64 a, .int .i64 k, .int .i64 x, .int .i64 y] 40)) := (Below.refl _ w).alloc (Nat.le_refl _) _
  by_cases c1 : a < 0
  case pos =>
    have c1' : decide (a < 0) = true := decide_eq_true c1
    have E := Lib.hid (show rightB ⟨a, k, x, y⟩ = false by unfold rightB; rw [decide_eq_false_iff_not]; unfold Right; dsimp only; omega)
    try clear z3
    try clear z2
    try clear z1
    try clear k6
    try clear k4
    try clear k3
    try clear k5
    try clear k2
    try clear k1
    go_enter Try.func20, Try.ntmps20
    go_wp2
    go_ret
    exact ⟨by rw [E.out]; rfl, HB⟩
  have c1' : decide (a < 0) = false := decide_eq_false c1
  by_cases c2 : 1099511627776 < a
  case pos =>
    have c2' : decide (1099511627776 < a) = true := decide_eq_true c2
    have E := Lib.hid (show rightB ⟨a, k, x, y⟩ = false by unfold rightB; rw [decide_eq_false_iff_not]; unfold Right; dsimp only; omega)
    try clear z3
    try clear z2
    try clear z1
    try clear k6
    try clear k4
    try clear k3
    try clear k5
    try clear k2
    try clear k1
    go_enter Try.func20, Try.ntmps20
    go_wp2
    go_ret
    exact ⟨by rw [E.out]; rfl, HB⟩
  have c2' : decide (1099511627776 < a) = false := decide_eq_false c2
  by_cases k1 : k = 1
  case pos =>
    have k1' : (k == 1) = true := beq_iff_eq.2 k1
    by_cases z1 : x = 0
    case pos =>
      have z1' : (x == 0) = true := beq_iff_eq.2 z1
      by_cases z2 : y = 0
      case pos =>
        have z2' : (y == 0) = true := beq_iff_eq.2 z2
        have E := Lib.hid (show rightB ⟨a, k, x, y⟩ = true by unfold rightB; rw [decide_eq_true_iff]; unfold Right; dsimp only; omega)
        try clear z3
        try clear z2
        try clear z1
        try clear k6
        try clear k4
        try clear k3
        try clear k5
        try clear k2
        try clear k1
        go_enter Try.func20, Try.ntmps20
        go_wp2
        go_ret
        exact ⟨by rw [E.out]; rfl, HB⟩
      have z2' : (y == 0) = false := beq_eq_false_iff_ne.2 z2
      have E := Lib.hid (show rightB ⟨a, k, x, y⟩ = false by unfold rightB; rw [decide_eq_false_iff_not]; unfold Right; dsimp only; omega)
      try clear z3
      try clear z2
      try clear z1
      try clear k6
      try clear k4
      try clear k3
      try clear k5
      try clear k2
      try clear k1
      go_enter Try.func20, Try.ntmps20
      go_wp2
      go_ret
      exact ⟨by rw [E.out]; rfl, HB⟩
    have z1' : (x == 0) = false := beq_eq_false_iff_ne.2 z1
    have E := Lib.hid (show rightB ⟨a, k, x, y⟩ = false by unfold rightB; rw [decide_eq_false_iff_not]; unfold Right; dsimp only; omega)
    try clear z3
    try clear z2
    try clear z1
    try clear k6
    try clear k4
    try clear k3
    try clear k5
    try clear k2
    try clear k1
    go_enter Try.func20, Try.ntmps20
    go_wp2
    go_ret
    exact ⟨by rw [E.out]; rfl, HB⟩
  have k1' : (k == 1) = false := beq_eq_false_iff_ne.2 k1
  by_cases k2 : k = 2
  case pos =>
    have k2' : (k == 2) = true := beq_iff_eq.2 k2
    by_cases z1 : x = 0
    case pos =>
      have z1' : (x == 0) = true := beq_iff_eq.2 z1
      by_cases z2 : y = 0
      case pos =>
        have z2' : (y == 0) = true := beq_iff_eq.2 z2
        have E := Lib.hid (show rightB ⟨a, k, x, y⟩ = true by unfold rightB; rw [decide_eq_true_iff]; unfold Right; dsimp only; omega)
        try clear z3
        try clear z2
        try clear z1
        try clear k6
        try clear k4
        try clear k3
        try clear k5
        try clear k2
        try clear k1
        go_enter Try.func20, Try.ntmps20
        go_wp2
        go_ret
        exact ⟨by rw [E.out]; rfl, HB⟩
      have z2' : (y == 0) = false := beq_eq_false_iff_ne.2 z2
      have E := Lib.hid (show rightB ⟨a, k, x, y⟩ = false by unfold rightB; rw [decide_eq_false_iff_not]; unfold Right; dsimp only; omega)
      try clear z3
      try clear z2
      try clear z1
      try clear k6
      try clear k4
      try clear k3
      try clear k5
      try clear k2
      try clear k1
      go_enter Try.func20, Try.ntmps20
      go_wp2
      go_ret
      exact ⟨by rw [E.out]; rfl, HB⟩
    have z1' : (x == 0) = false := beq_eq_false_iff_ne.2 z1
    have E := Lib.hid (show rightB ⟨a, k, x, y⟩ = false by unfold rightB; rw [decide_eq_false_iff_not]; unfold Right; dsimp only; omega)
    try clear z3
    try clear z2
    try clear z1
    try clear k6
    try clear k4
    try clear k3
    try clear k5
    try clear k2
    try clear k1
    go_enter Try.func20, Try.ntmps20
    go_wp2
    go_ret
    exact ⟨by rw [E.out]; rfl, HB⟩
  have k2' : (k == 2) = false := beq_eq_false_iff_ne.2 k2
  by_cases k5 : k = 5
  case pos =>
    have k5' : (k == 5) = true := beq_iff_eq.2 k5
    by_cases z1 : x = 0
    case pos =>
      have z1' : (x == 0) = true := beq_iff_eq.2 z1
      by_cases z2 : y = 0
      case pos =>
        have z2' : (y == 0) = true := beq_iff_eq.2 z2
        have E := Lib.hid (show rightB ⟨a, k, x, y⟩ = true by unfold rightB; rw [decide_eq_true_iff]; unfold Right; dsimp only; omega)
        try clear z3
        try clear z2
        try clear z1
        try clear k6
        try clear k4
        try clear k3
        try clear k5
        try clear k2
        try clear k1
        go_enter Try.func20, Try.ntmps20
        go_wp2
        go_ret
        exact ⟨by rw [E.out]; rfl, HB⟩
      have z2' : (y == 0) = false := beq_eq_false_iff_ne.2 z2
      have E := Lib.hid (show rightB ⟨a, k, x, y⟩ = false by unfold rightB; rw [decide_eq_false_iff_not]; unfold Right; dsimp only; omega)
      try clear z3
      try clear z2
      try clear z1
      try clear k6
      try clear k4
      try clear k3
      try clear k5
      try clear k2
      try clear k1
      go_enter Try.func20, Try.ntmps20
      go_wp2
      go_ret
      exact ⟨by rw [E.out]; rfl, HB⟩
    have z1' : (x == 0) = false := beq_eq_false_iff_ne.2 z1
    have E := Lib.hid (show rightB ⟨a, k, x, y⟩ = false by unfold rightB; rw [decide_eq_false_iff_not]; unfold Right; dsimp only; omega)
    try clear z3
    try clear z2
    try clear z1
    try clear k6
    try clear k4
    try clear k3
    try clear k5
    try clear k2
    try clear k1
    go_enter Try.func20, Try.ntmps20
    go_wp2
    go_ret
    exact ⟨by rw [E.out]; rfl, HB⟩
  have k5' : (k == 5) = false := beq_eq_false_iff_ne.2 k5
  by_cases k3 : k = 3
  case pos =>
    have k3' : (k == 3) = true := beq_iff_eq.2 k3
    by_cases z1 : 0 ≤ x
    case pos =>
      have z1' : decide (0 ≤ x) = true := decide_eq_true z1
      by_cases z2 : x ≤ 1099511627776
      case pos =>
        have z2' : decide (x ≤ 1099511627776) = true := decide_eq_true z2
        by_cases z3 : y = 0
        case pos =>
          have z3' : (y == 0) = true := beq_iff_eq.2 z3
          have E := Lib.hid (show rightB ⟨a, k, x, y⟩ = true by unfold rightB; rw [decide_eq_true_iff]; unfold Right; dsimp only; omega)
          try clear z3
          try clear z2
          try clear z1
          try clear k6
          try clear k4
          try clear k3
          try clear k5
          try clear k2
          try clear k1
          go_enter Try.func20, Try.ntmps20
          go_wp2
          go_ret
          exact ⟨by rw [E.out]; rfl, HB⟩
        have z3' : (y == 0) = false := beq_eq_false_iff_ne.2 z3
        have E := Lib.hid (show rightB ⟨a, k, x, y⟩ = false by unfold rightB; rw [decide_eq_false_iff_not]; unfold Right; dsimp only; omega)
        try clear z3
        try clear z2
        try clear z1
        try clear k6
        try clear k4
        try clear k3
        try clear k5
        try clear k2
        try clear k1
        go_enter Try.func20, Try.ntmps20
        go_wp2
        go_ret
        exact ⟨by rw [E.out]; rfl, HB⟩
      have z2' : decide (x ≤ 1099511627776) = false := decide_eq_false z2
      have E := Lib.hid (show rightB ⟨a, k, x, y⟩ = false by unfold rightB; rw [decide_eq_false_iff_not]; unfold Right; dsimp only; omega)
      try clear z3
      try clear z2
      try clear z1
      try clear k6
      try clear k4
      try clear k3
      try clear k5
      try clear k2
      try clear k1
      go_enter Try.func20, Try.ntmps20
      go_wp2
      go_ret
      exact ⟨by rw [E.out]; rfl, HB⟩
    have z1' : decide (0 ≤ x) = false := decide_eq_false z1
    have E := Lib.hid (show rightB ⟨a, k, x, y⟩ = false by unfold rightB; rw [decide_eq_false_iff_not]; unfold Right; dsimp only; omega)
    try clear z3
    try clear z2
    try clear z1
    try clear k6
    try clear k4
    try clear k3
    try clear k5
    try clear k2
    try clear k1
    go_enter Try.func20, Try.ntmps20
    go_wp2
    go_ret
    exact ⟨by rw [E.out]; rfl, HB⟩
  have k3' : (k == 3) = false := beq_eq_false_iff_ne.2 k3
  by_cases k4 : k = 4
  case pos =>
    have k4' : (k == 4) = true := beq_iff_eq.2 k4
    by_cases z1 : 0 ≤ x
    case pos =>
      have z1' : decide (0 ≤ x) = true := decide_eq_true z1
      by_cases z2 : x < y
      case pos =>
        have z2' : decide (x < y) = true := decide_eq_true z2
        by_cases z3 : y ≤ 1099511627776
        case pos =>
          have z3' : decide (y ≤ 1099511627776) = true := decide_eq_true z3
          have E := Lib.hid (show rightB ⟨a, k, x, y⟩ = true by unfold rightB; rw [decide_eq_true_iff]; unfold Right; dsimp only; omega)
          try clear z3
          try clear z2
          try clear z1
          try clear k6
          try clear k4
          try clear k3
          try clear k5
          try clear k2
          try clear k1
          go_enter Try.func20, Try.ntmps20
          go_wp2
          go_ret
          exact ⟨by rw [E.out]; rfl, HB⟩
        have z3' : decide (y ≤ 1099511627776) = false := decide_eq_false z3
        have E := Lib.hid (show rightB ⟨a, k, x, y⟩ = false by unfold rightB; rw [decide_eq_false_iff_not]; unfold Right; dsimp only; omega)
        try clear z3
        try clear z2
        try clear z1
        try clear k6
        try clear k4
        try clear k3
        try clear k5
        try clear k2
        try clear k1
        go_enter Try.func20, Try.ntmps20
        go_wp2
        go_ret
        exact ⟨by rw [E.out]; rfl, HB⟩
      have z2' : decide (x < y) = false := decide_eq_false z2
      have E := Lib.hid (show rightB ⟨a, k, x, y⟩ = false by unfold rightB; rw [decide_eq_false_iff_not]; unfold Right; dsimp only; omega)
      try clear z3
      try clear z2
      try clear z1
      try clear k6
      try clear k4
      try clear k3
      try clear k5
      try clear k2
      try clear k1
      go_enter Try.func20, Try.ntmps20
      go_wp2
      go_ret
      exact ⟨by rw [E.out]; rfl, HB⟩
    have z1' : decide (0 ≤ x) = false := decide_eq_false z1
    have E := Lib.hid (show rightB ⟨a, k, x, y⟩ = false by unfold rightB; rw [decide_eq_false_iff_not]; unfold Right; dsimp only; omega)
    try clear z3
    try clear z2
    try clear z1
    try clear k6
    try clear k4
    try clear k3
    try clear k5
    try clear k2
    try clear k1
    go_enter Try.func20, Try.ntmps20
    go_wp2
    go_ret
    exact ⟨by rw [E.out]; rfl, HB⟩
  have k4' : (k == 4) = false := beq_eq_false_iff_ne.2 k4
  by_cases k6 : k = 6
  case pos =>
    have k6' : (k == 6) = true := beq_iff_eq.2 k6
    by_cases z1 : 0 ≤ x
    case pos =>
      have z1' : decide (0 ≤ x) = true := decide_eq_true z1
      by_cases z2 : x < y
      case pos =>
        have z2' : decide (x < y) = true := decide_eq_true z2
        by_cases z3 : y ≤ 1099511627776
        case pos =>
          have z3' : decide (y ≤ 1099511627776) = true := decide_eq_true z3
          have E := Lib.hid (show rightB ⟨a, k, x, y⟩ = true by unfold rightB; rw [decide_eq_true_iff]; unfold Right; dsimp only; omega)
          try clear z3
          try clear z2
          try clear z1
          try clear k6
          try clear k4
          try clear k3
          try clear k5
          try clear k2
          try clear k1
          go_enter Try.func20, Try.ntmps20
          go_wp2
          go_ret
          exact ⟨by rw [E.out]; rfl, HB⟩
        have z3' : decide (y ≤ 1099511627776) = false := decide_eq_false z3
        have E := Lib.hid (show rightB ⟨a, k, x, y⟩ = false by unfold rightB; rw [decide_eq_false_iff_not]; unfold Right; dsimp only; omega)
        try clear z3
        try clear z2
        try clear z1
        try clear k6
        try clear k4
        try clear k3
        try clear k5
        try clear k2
        try clear k1
        go_enter Try.func20, Try.ntmps20
        go_wp2
        go_ret
        exact ⟨by rw [E.out]; rfl, HB⟩
      have z2' : decide (x < y) = false := decide_eq_false z2
      have E := Lib.hid (show rightB ⟨a, k, x, y⟩ = false by unfold rightB; rw [decide_eq_false_iff_not]; unfold Right; dsimp only; omega)
      try clear z3
      try clear z2
      try clear z1
      try clear k6
      try clear k4
      try clear k3
      try clear k5
      try clear k2
      try clear k1
      go_enter Try.func20, Try.ntmps20
      go_wp2
      go_ret
      exact ⟨by rw [E.out]; rfl, HB⟩
    have z1' : decide (0 ≤ x) = false := decide_eq_false z1
    have E := Lib.hid (show rightB ⟨a, k, x, y⟩ = false by unfold rightB; rw [decide_eq_false_iff_not]; unfold Right; dsimp only; omega)
    try clear z3
    try clear z2
    try clear z1
    try clear k6
    try clear k4
    try clear k3
    try clear k5
    try clear k2
    try clear k1
    go_enter Try.func20, Try.ntmps20
    go_wp2
    go_ret
    exact ⟨by rw [E.out]; rfl, HB⟩
  have k6' : (k == 6) = false := beq_eq_false_iff_ne.2 k6
  have E := Lib.hid (show rightB ⟨a, k, x, y⟩ = false by unfold rightB; rw [decide_eq_false_iff_not]; unfold Right; dsimp only; omega)
  try clear z3
  try clear z2
  try clear z1
  try clear k6
  try clear k4
  try clear k3
  try clear k5
  try clear k2
  try clear k1
  go_enter Try.func20, Try.ntmps20
  go_wp2
  go_ret
  exact ⟨by rw [E.out]; rfl, HB⟩
end Go.Proofs.Ytjkclplnflaplaa
