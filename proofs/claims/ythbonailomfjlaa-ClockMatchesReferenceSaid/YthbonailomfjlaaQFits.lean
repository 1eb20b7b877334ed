import Derived.Test.YthbonailomfjlaaQAround
/- The inequality of a course holds just between the two numbers that Spread returns. Conditions: a drift from 0 to 100, a number from 0 to 10000000. -/
namespace Go.Proofs.Ythbonailomfjlaa.C
open Go.RowKit Go.Proofs.YthbonailomfjlaaW.PrintWords Go.Proofs.YthbonailomfjlaaW.PrintLast Go.Proofs.YthbonailomfjlaaW.PrintMore
theorem lo_iff (d n x : Int) (hd : 0 ≤ d) (hx : 0 ≤ x) : sLo d n ≤ x ↔ 1000 * n < (1000 + d) * x + 1000 := by
  unfold sLo
  by_cases h : 0 < n
  · rw [if_pos h]
    constructor
    · intro h1
      have h2 : 1000 * (n - 1) / (1000 + d) < x := by omega
      have h3 := (Int.ediv_lt_iff_lt_mul (show 0 < 1000 + d by omega)).1 h2
      rw [Int.mul_comm x] at h3
      omega
    · intro h1
      have h3 : 1000 * (n - 1) < x * (1000 + d) := by rw [Int.mul_comm x]; omega
      have h2 := (Int.ediv_lt_iff_lt_mul (show 0 < 1000 + d by omega)).2 h3
      omega
  · rw [if_neg h]
    have := Int.mul_nonneg (show 0 ≤ 1000 + d by omega) hx
    constructor
    · intro _; omega
    · intro _; exact hx
theorem hi_iff (d n x : Int) (hd2 : d ≤ 100) : x ≤ sHi d n ↔ (1000 - d) * x - 1000 < 1000 * n := by
  unfold sHi
  rw [Int.le_ediv_iff_mul_le (show 0 < 1000 - d by omega), Int.mul_comm x]
  omega
theorem sLo_anti (d d' n : Int) (hd : 0 ≤ d) (h : d ≤ d') : sLo d' n ≤ sLo d n := by
  unfold sLo
  by_cases hn : 0 < n
  · rw [if_pos hn, if_pos hn]
    have h0 : 0 ≤ 1000 * (n - 1) / (1000 + d') := Int.ediv_nonneg (by omega) (by omega)
    have h1 : 1000 * (n - 1) / (1000 + d') ≤ 1000 * (n - 1) / (1000 + d) := by
      apply le_div_of _ _ _ (by omega)
      have e1 := Int.mul_le_mul_of_nonneg_left (show 1000 + d ≤ 1000 + d' by omega) h0
      have e2 := Int.ediv_mul_le (1000 * (n - 1)) (show 1000 + d' ≠ 0 by omega)
      omega
    omega
  · rw [if_neg hn, if_neg hn]; omega
theorem sHi_grows (d d' n : Int) (hd2 : d' ≤ 100) (h : d ≤ d') (hn : 0 ≤ n) : sHi d n ≤ sHi d' n := by
  have h0 := sHi_nonneg d n (by omega) hn
  rw [hi_iff d' n _ hd2]
  have h1 := (hi_iff d n (sHi d n) (by omega)).1 (Int.le_refl _)
  have h2 := Int.mul_le_mul_of_nonneg_right (show 1000 - d' ≤ 1000 - d by omega) h0
  omega
theorem spread_zero (n : Int) (hn : 0 ≤ n) : sLo 0 n = n ∧ sHi 0 n = n := by
  unfold sLo sHi
  constructor
  · split <;> omega
  · omega
end Go.Proofs.Ythbonailomfjlaa.C
