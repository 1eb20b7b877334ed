import Derived.Test.YthbonailomfjlaaHAround
/- The bounds of the window do not descend with the local second; the first number with a property. Conditions: a drift from 0 to 100. -/
namespace Go.Proofs.Ythbonailomfjlaa.C
open Go.RowKit Go.Proofs.YthbonailomfjlaaW.PrintWords Go.Proofs.YthbonailomfjlaaW.PrintLast Go.Proofs.YthbonailomfjlaaW.PrintMore
theorem sLo_mono (d m n : Int) (hd : 0 ≤ d) (h : m ≤ n) : sLo d m ≤ sLo d n := by
  unfold sLo
  by_cases h1 : 0 < m
  · have := Int.ediv_le_ediv (c := 1000 + d) (by omega) (show 1000 * (m - 1) ≤ 1000 * (n - 1) by omega)
    rw [if_pos h1, if_pos (by omega)]
    omega
  · rw [if_neg h1]
    split
    · have : 0 ≤ 1000 * (n - 1) / (1000 + d) := Int.ediv_nonneg (by omega) (by omega)
      omega
    · omega
theorem sHi_mono (d m n : Int) (hd2 : d ≤ 100) (h : m ≤ n) : sHi d m ≤ sHi d n := by
  unfold sHi
  exact Int.ediv_le_ediv (by omega) (by omega)
theorem sLo_nonneg (d n : Int) (hd : 0 ≤ d) : 0 ≤ sLo d n := by
  unfold sLo
  split
  · have : 0 ≤ 1000 * (n - 1) / (1000 + d) := Int.ediv_nonneg (by omega) (by omega)
    omega
  · omega
theorem sHi_nonneg (d n : Int) (hd2 : d ≤ 100) (h : 0 ≤ n) : 0 ≤ sHi d n := by
  unfold sHi
  exact Int.ediv_nonneg (by omega) (by omega)
theorem rLo_mono (d a b : Int) (r : S50) (hd : 0 ≤ d) (hd2 : d ≤ 100) (h : a ≤ b) : rLo d a r ≤ rLo d b r := by
  have n0 := sHi_nonneg d 0 hd2 (by omega)
  unfold rLo
  by_cases h1 : a < r.f0
  · rw [if_pos h1]
    by_cases h2 : b < r.f0
    · have := sHi_mono d (r.f0 - b) (r.f0 - a) hd2 (by omega)
      rw [if_pos h2]; omega
    · rw [if_neg h2]
      have := sHi_mono d 0 (r.f0 - a) hd2 (by omega)
      split
      · omega
      · have := sLo_nonneg d (b - r.f0) hd
        omega
  · rw [if_neg h1, if_neg (show ¬ b < r.f0 by omega)]
    by_cases h2 : a = r.f0
    · rw [if_pos h2]
      split
      · omega
      · have := sLo_nonneg d (b - r.f0) hd
        omega
    · rw [if_neg h2, if_neg (show ¬ b = r.f0 by omega)]
      have := sLo_mono d (a - r.f0) (b - r.f0) hd (by omega)
      omega
theorem rHi_mono (d a b : Int) (r : S50) (hd : 0 ≤ d) (hd2 : d ≤ 100) (h : a ≤ b) : rHi d a r ≤ rHi d b r := by
  have n0 := sHi_nonneg d 0 hd2 (by omega)
  unfold rHi
  by_cases h1 : a < r.f0
  · rw [if_pos h1]
    have n1 := sLo_nonneg d (r.f0 - a) hd
    by_cases h2 : b < r.f0
    · have := sLo_mono d (r.f0 - b) (r.f0 - a) hd (by omega)
      rw [if_pos h2]; omega
    · rw [if_neg h2]
      split
      · omega
      · have := sHi_nonneg d (b - r.f0) hd2 (by omega)
        omega
  · rw [if_neg h1, if_neg (show ¬ b < r.f0 by omega)]
    by_cases h2 : a = r.f0
    · rw [if_pos h2]
      split
      · omega
      · have := sHi_mono d 0 (b - r.f0) hd2 (by omega)
        omega
    · rw [if_neg h2, if_neg (show ¬ b = r.f0 by omega)]
      have := sHi_mono d (a - r.f0) (b - r.f0) hd2 (by omega)
      omega
theorem arLo_mono (d a b : Int) (l : List S50) (hd : 0 ≤ d) (hd2 : d ≤ 100) (h : a ≤ b) : ∀ x y, x ≤ y → arLo d a x l ≤ arLo d b y l := by
  induction l with
  | nil => intro x y hxy; exact hxy
  | cons r l ih =>
    intro x y hxy
    have := rLo_mono d a b r hd hd2 h
    refine ih _ _ ?_
    split <;> split <;> omega
theorem arHi_mono (d a b : Int) (l : List S50) (hd : 0 ≤ d) (hd2 : d ≤ 100) (h : a ≤ b) : ∀ x y, x ≤ y → arHi d a x l ≤ arHi d b y l := by
  induction l with
  | nil => intro x y hxy; exact hxy
  | cons r l ih =>
    intro x y hxy
    have := rHi_mono d a b r hd hd2 h
    refine ih _ _ ?_
    split <;> split <;> omega
/-- What a search for the first number with a property finds. -/
def Found (n : Int) (p : Int → Bool) (r : Int) : Prop := 0 ≤ r ∧ r ≤ n ∧ (r < n → p r = true) ∧ (0 < r → p (r - 1) = false)
/-- The first number from i on with a property, of k numbers. -/
def firstI (p : Int → Bool) : Nat → Int → Int
  | 0, i => i
  | k + 1, i => if p i = true then i else firstI p k (i + 1)
theorem firstI_tells (p : Int → Bool) (k : Nat) : ∀ i, i ≤ firstI p k i ∧ firstI p k i ≤ i + k ∧ (firstI p k i < i + k → p (firstI p k i) = true) ∧ ∀ j, i ≤ j → j < firstI p k i → p j = false := by
  induction k with
  | zero => intro i; unfold firstI; exact ⟨by omega, by omega, by omega, by omega⟩
  | succ k ih =>
    intro i
    unfold firstI
    by_cases h : p i = true
    · rw [if_pos h]
      exact ⟨by omega, by omega, fun _ => h, by omega⟩
    · rw [if_neg h]
      obtain ⟨h1, h2, h3, h4⟩ := ih (i + 1)
      refine ⟨by omega, by omega, fun hh => h3 (by omega), fun j hj hj2 => ?_⟩
      by_cases e : j = i
      · subst e; simpa using h
      · exact h4 j (by omega) hj2
theorem found_first (p : Int → Bool) (n : Nat) (r : Int) (h : Found n p r) (hm : ∀ a b, a ≤ b → p a = true → p b = true) : firstI p n 0 = r := by
  obtain ⟨h1, h2, h3, h4⟩ := firstI_tells p n 0
  obtain ⟨g1, g2, g3, g4⟩ := h
  have c1 : ¬ firstI p n 0 < r := by
    intro hlt
    have a := h3 (by omega)
    have b := hm _ (r - 1) (by omega) a
    rw [g4 (by omega)] at b
    cases b
  have c2 : ¬ r < firstI p n 0 := by
    intro hlt
    have a := h4 r (by omega) hlt
    rw [g3 (by omega)] at a
    cases a
  omega
end Go.Proofs.Ythbonailomfjlaa.C
