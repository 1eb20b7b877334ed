import Derived.Test.YthbonailomfjlaaQClock
import Derived.Test.YthbonailomfjlaaCShown
/- The course of a clock that integers determine, in plain numbers: Shown, and the inequality of a course. Conditions: whole numbers of 64 bits; a true second from 0 to 10000. -/
namespace Go.Proofs.Ythbonailomfjlaa.C
open Go.RowKit Go.Proofs.YthbonailomfjlaaW.PrintWords Go.Proofs.YthbonailomfjlaaW.PrintLast Go.Proofs.YthbonailomfjlaaW.PrintMore
theorem rpick_ok (a n : Int) (ha : I64 a) (hn : 0 < n) : dialtoneref05_pick.f a n = some (pk a n) ∧ 0 ≤ pk a n ∧ pk a n < n := pick_ok a n ha hn
/-- The part of the true seconds that lies in a stretch of a hundred. -/
def cl (x : Int) : Int := if x < 0 then 0 else if 100 < x then 100 else x
/-- What the rates add, from the i-th stretch on. -/
def sumC (t : Int) : Int → List Int → Int
  | _, [] => 0
  | i, c :: cs => c * cl (t - 100 * i) + sumC t (i + 1) cs
/-- How much of the true seconds lies in n stretches from the i-th on. -/
def mass (t : Int) : Int → List Int → Int
  | _, [] => 0
  | i, _ :: cs => cl (t - 100 * i) + mass t (i + 1) cs
theorem sumC_zero (t : Int) (cs : List Int) : ∀ i, t ≤ 100 * i → sumC t i cs = 0 := by
  induction cs with
  | nil => intro i _; rfl
  | cons c cs ih =>
    intro i h
    have e : cl (t - 100 * i) = 0 := by
      unfold cl
      by_cases h1 : t - 100 * i < 0
      · rw [if_pos h1]
      · rw [if_neg h1, if_neg (by omega)]; omega
    simp only [sumC]
    rw [e, ih (i + 1) (by omega), Int.mul_zero]
    rfl
theorem mass_eq (t : Int) (cs : List Int) : ∀ i, mass t i cs = if t - 100 * i < 0 then 0 else if 100 * (cs.length : Int) < t - 100 * i then 100 * (cs.length : Int) else t - 100 * i := by
  induction cs with
  | nil =>
    intro i
    simp only [mass, List.length_nil]
    by_cases h1 : t - 100 * i < 0
    · rw [if_pos h1]
    · rw [if_neg h1]; split <;> omega
  | cons c cs ih =>
    intro i
    simp only [mass, List.length_cons]
    rw [ih]
    unfold cl
    split <;> split <;> (try split) <;> (try split) <;> omega
theorem mass_lip (t t' : Int) (cs : List Int) (i : Int) (h : t ≤ t') : mass t' i cs - mass t i cs ≤ t' - t ∧ 0 ≤ mass t' i cs - mass t i cs := by
  rw [mass_eq, mass_eq]
  split <;> split <;> (try split) <;> (try split) <;> omega
theorem cl_mono (x y : Int) (h : x ≤ y) : 0 ≤ cl y - cl x := by
  unfold cl
  split <;> split <;> (try split) <;> (try split) <;> omega
theorem mul_between (c D z : Int) (h1 : -D ≤ c) (h2 : c ≤ D) (hz : 0 ≤ z) : -(D * z) ≤ c * z ∧ c * z ≤ D * z := by
  constructor
  · have := Int.mul_le_mul_of_nonneg_right h1 hz
    rwa [Int.neg_mul] at this
  · exact Int.mul_le_mul_of_nonneg_right h2 hz
theorem sumC_lip (D t t' : Int) (h : t ≤ t') (cs : List Int) : ∀ i, (∀ c, c ∈ cs → -D ≤ c ∧ c ≤ D) → -(D * (mass t' i cs - mass t i cs)) ≤ sumC t' i cs - sumC t i cs ∧ sumC t' i cs - sumC t i cs ≤ D * (mass t' i cs - mass t i cs) := by
  induction cs with
  | nil => intro i _; simp [sumC, mass]
  | cons c cs ih =>
    intro i hc
    have h1 := ih (i + 1) (fun c' hc' => hc c' (List.mem_cons_of_mem _ hc'))
    have h2 := hc c (List.mem_cons_self)
    have h3 := mul_between c D _ h2.1 h2.2 (cl_mono (t - 100 * i) (t' - 100 * i) (by omega))
    simp only [sumC, mass]
    rw [Int.mul_sub c] at h3
    have e1 : D * (cl (t' - 100 * i) + mass t' (i + 1) cs - (cl (t - 100 * i) + mass t (i + 1) cs)) = D * (cl (t' - 100 * i) - cl (t - 100 * i)) + D * (mass t' (i + 1) cs - mass t (i + 1) cs) := by
      rw [← Int.mul_add]; congr 1; omega
    rw [e1]
    generalize D * (cl (t' - 100 * i) - cl (t - 100 * i)) = u at h3 ⊢
    generalize D * (mass t' (i + 1) cs - mass t (i + 1) cs) = v at h1 ⊢
    generalize c * cl (t' - 100 * i) = y at h3 ⊢
    generalize c * cl (t - 100 * i) = z at h3 ⊢
    omega
/-- The rates of the course, in thousandths. -/
def coefs (D : Int) (rates : List Int) : List Int := (rates.take 20).map fun r => pk r (2 * D + 1) - D
theorem coefs_bd (D : Int) (hD : 0 ≤ D) (rates : List Int) (hr : ∀ r, r ∈ rates → I64 r) (c : Int) (hc : c ∈ coefs D rates) : -D ≤ c ∧ c ≤ D := by
  unfold coefs at hc
  obtain ⟨r, h1, rfl⟩ := List.mem_map.1 hc
  have := (pick_ok r (2 * D + 1) (hr r (List.mem_of_mem_take h1)) (by omega)).2
  omega
/-- What the clock's course has come to, in thousandths. -/
def crs (D : Int) (rates : List Int) (t : Int) : Int := sumC t 0 (coefs D rates) + 1000 * t
/-- What the clock shows. -/
def shownR (drift start : Int) (rates : List Int) (t : Int) : Int := pk start 1000 + crs (pk drift 101) rates t / 1000
theorem crs_lip (D : Int) (hD : 0 ≤ D) (rates : List Int) (hr : ∀ r, r ∈ rates → I64 r) (t t' : Int) (h : t ≤ t') : (1000 - D) * (t' - t) ≤ crs D rates t' - crs D rates t ∧ crs D rates t' - crs D rates t ≤ (1000 + D) * (t' - t) := by
  have h1 := sumC_lip D t t' h (coefs D rates) 0 (coefs_bd D hD rates hr)
  have h2 := mass_lip t t' (coefs D rates) 0 h
  have h3 := Int.mul_le_mul_of_nonneg_left h2.1 hD
  unfold crs
  rw [Int.sub_mul, Int.add_mul]
  omega
theorem crs_zero (D : Int) (rates : List Int) : crs D rates 0 = 0 := by
  unfold crs
  rw [sumC_zero _ _ _ (by omega)]
  rfl
end Go.Proofs.Ythbonailomfjlaa.C
