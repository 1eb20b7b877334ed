import Derived.Test.YthbonailomfjlaaCSpread
/- What Spread returns, in plain numbers: for a drift from 0 to 100 and a number from 0 to 10000000. -/
namespace Go.Proofs.Ythbonailomfjlaa.C
open Go.RowKit Go.Proofs.YthbonailomfjlaaW.PrintWords Go.Proofs.YthbonailomfjlaaW.PrintLast Go.Proofs.YthbonailomfjlaaW.PrintMore
/-- The least number of true seconds. -/
def sLo (d n : Int) : Int := if 0 < n then 1000 * (n - 1) / (1000 + d) + 1 else 0
/-- The greatest number of true seconds. -/
def sHi (d n : Int) : Int := (1000 * (n + 1) - 1) / (1000 - d)
theorem div_le_of (a b c : Int) (hb : 0 < b) (h : a ≤ c * b) : a / b ≤ c := by
  have := Int.ediv_le_ediv hb h
  rwa [Int.mul_ediv_cancel c (by omega)] at this
theorem le_div_of (a b c : Int) (hb : 0 < b) (h : c * b ≤ a) : c ≤ a / b := (Int.le_ediv_iff_mul_le hb).2 h
theorem sLo_bd (d n : Int) (hd : 0 ≤ d) (hn : 0 ≤ n) (hn2 : n ≤ 10000000) : 0 ≤ sLo d n ∧ sLo d n ≤ n := by
  unfold sLo
  split
  · have h1 : 1000 * (n - 1) / (1000 + d) ≤ n - 1 := div_le_of _ _ _ (by omega) (by
      have : (n - 1) * (1000 + d) = 1000 * (n - 1) + (n - 1) * d := by rw [Int.mul_add, Int.mul_comm]
      have := Int.mul_nonneg (show 0 ≤ n - 1 by omega) hd
      omega)
    have h2 : 0 ≤ 1000 * (n - 1) / (1000 + d) := Int.ediv_nonneg (by omega) (by omega)
    omega
  · omega
theorem sHi_bd (d n : Int) (hd : 0 ≤ d) (hd2 : d ≤ 100) (hn : 0 ≤ n) (hn2 : n ≤ 10000000) : n ≤ sHi d n ∧ sHi d n ≤ 11111113 := by
  unfold sHi
  constructor
  · apply le_div_of _ _ _ (by omega)
    have := Int.mul_nonneg hn hd
    rw [Int.mul_sub]
    omega
  · apply div_le_of _ _ _ (by omega)
    omega
theorem wrap64_id (n : Int) (h1 : -9223372036854775808 ≤ n) (h2 : n ≤ 9223372036854775807) : wrap64 n = n := IntWalk.wrap64_in n ⟨h1, h2⟩
theorem spread_ok (d n : Int) (hd : 0 ≤ d) (hd2 : d ≤ 100) (hn : 0 ≤ n) (hn2 : n ≤ 10000000) (k : Nat) : clock_Spread.f (k + 1) d n = some (sLo d n, sHi d n) := by
  have e0 : ¬ n > 10000000 := by omega
  unfold clock_Spread.f
  rw [if_neg (by omega), if_neg (by omega), if_neg (by omega), decide_eq_false e0]
  simp only [clock_Spread.j0]
  rw [if_neg (by simp)]
  have w1 : wrap64 (1000 + d) = 1000 + d := wrap64_id _ (by omega) (by omega)
  have w2 : wrap64 (1000 - d) = 1000 - d := wrap64_id _ (by omega) (by omega)
  have w3 : wrap64 (n + 1) = n + 1 := wrap64_id _ (by omega) (by omega)
  have w4 : wrap64 (1000 * (n + 1)) = 1000 * (n + 1) := wrap64_id _ (by omega) (by omega)
  have w5 : wrap64 (1000 * (n + 1) - 1) = 1000 * (n + 1) - 1 := wrap64_id _ (by omega) (by omega)
  have hh := sHi_bd d n hd hd2 hn hn2
  have hl := sLo_bd d n hd hn hn2
  have w6 : wrap64 (Int.tdiv (1000 * (n + 1) - 1) (1000 - d)) = sHi d n := by
    rw [Int.tdiv_eq_ediv_of_nonneg (by omega)]
    exact wrap64_id _ (by unfold sHi at hh; omega) (by unfold sHi at hh; omega)
  have z1 : ¬ (1000 + d = 0) := by omega
  have z2 : ¬ (1000 - d = 0) := by omega
  rw [w1, w2, w3, w4, w5, w6]
  by_cases h : 0 < n
  · have w7 : wrap64 (n - 1) = n - 1 := wrap64_id _ (by omega) (by omega)
    have w8 : wrap64 (1000 * (n - 1)) = 1000 * (n - 1) := wrap64_id _ (by omega) (by omega)
    have e : sLo d n = 1000 * (n - 1) / (1000 + d) + 1 := by unfold sLo; rw [if_pos h]
    have w9 : wrap64 (Int.tdiv (1000 * (n - 1)) (1000 + d)) = 1000 * (n - 1) / (1000 + d) := by
      rw [Int.tdiv_eq_ediv_of_nonneg (by omega)]
      exact wrap64_id _ (by omega) (by omega)
    have w10 : wrap64 (1000 * (n - 1) / (1000 + d) + 1) = sLo d n := by
      rw [← e]
      exact wrap64_id _ (by omega) (by omega)
    rw [if_pos h, if_neg z1, if_neg z2, w7, w8, w9, w10]
  · have e : sLo d n = 0 := by unfold sLo; rw [if_neg h]
    rw [if_neg h, if_neg z2, e]
end Go.Proofs.Ythbonailomfjlaa.C
