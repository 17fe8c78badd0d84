/- Two integers in a tuple; how long powers are. -/
import Derived.Test.YtpmlmibceiolpaaGreatDoorCanon
set_option linter.unusedSimpArgs false
set_option linter.unusedVariables false
namespace Go.Proofs.YtpmlmibceiolpaaGreatDoor
open Go.RowKit
open Go.Lib (decDigits itoa nDigits)

theorem limbs_one_len : (limbs (1 : Int).natAbs).length ≤ 1 := limbs_len_le (by decide)
theorem len_pow {x : Int} {j : Nat} (h : (limbs x.natAbs).length ≤ j) : ∀ n : Nat, (limbs (x ^ n).natAbs).length ≤ 1 + n * j
  | 0 => by have := limbs_one_len; simpa using this
  | n + 1 => by
    rw [Int.pow_succ]
    have := len_mul (len_pow h n) h
    rw [Nat.succ_mul]
    omega
/-- Two values that read as integers. -/
def Two (q r : Int) (v : Value) (w : World) : Prop := ∃ v1 v2, v = .tuple #[v1, v2] ∧ Wh w v1 q ∧ Wh w v2 r
theorem Stab.tw (W : World) (q r : Int) : Stab W (Two q r) := fun v w1 w2 _ h2 ⟨v1, v2, h, a, b⟩ => ⟨v1, v2, h, a.below h2, b.below h2⟩
end Go.Proofs.YtpmlmibceiolpaaGreatDoor
