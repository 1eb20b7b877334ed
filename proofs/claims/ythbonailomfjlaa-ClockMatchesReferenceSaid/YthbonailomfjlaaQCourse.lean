import Derived.Test.YthbonailomfjlaaQMadeR
import Derived.Test.YthbonailomfjlaaQClock
import Derived.Test.YthbonailomfjlaaQFits
/- A course within the drift lies between the bounds that its readings give. Conditions: whole numbers of 64 bits; true seconds of at most 10000. -/
namespace Go.Proofs.Ythbonailomfjlaa.C
open Go.RowKit Go.Proofs.YthbonailomfjlaaW.PrintWords Go.Proofs.YthbonailomfjlaaW.PrintLast Go.Proofs.YthbonailomfjlaaW.PrintMore
theorem arLo_le (d loc t : Int) (l : List S50) : ∀ a, a ≤ t → (∀ r, r ∈ l → rLo d loc r ≤ t) → arLo d loc a l ≤ t := by
  induction l with
  | nil => intro a h _; exact h
  | cons r l ih =>
    intro a h hl
    refine ih _ ?_ (fun q hq => hl q (List.mem_cons_of_mem _ hq))
    have := hl r (List.mem_cons_self ..)
    split <;> omega
theorem le_arHi (d loc t : Int) (l : List S50) : ∀ a, t ≤ a → (∀ r, r ∈ l → t ≤ rHi d loc r) → t ≤ arHi d loc a l := by
  induction l with
  | nil => intro a h _; exact h
  | cons r l ih =>
    intro a h hl
    refine ih _ ?_ (fun q hq => hl q (List.mem_cons_of_mem _ hq))
    have := hl r (List.mem_cons_self ..)
    split <;> omega
section
variable (drift start : Int) (rates : List Int) (hd : I64 drift) (hr : ∀ r, r ∈ rates → I64 r)
include hd hr
theorem course_fits (s t : Int) (h : s ≤ t) : sLo (pk drift 101) (shownR drift start rates t - shownR drift start rates s) ≤ t - s ∧ t - s ≤ sHi (pk drift 101) (shownR drift start rates t - shownR drift start rates s) ∧ 0 ≤ shownR drift start rates t - shownR drift start rates s := by
  obtain ⟨p1, p2, p3⟩ := rpick_ok drift 101 hd (by omega)
  obtain ⟨c1, c2⟩ := crs_lip (pk drift 101) p2 rates hr s t h
  have hu : 0 ≤ (1000 - pk drift 101) * (t - s) := Int.mul_nonneg (by omega) (by omega)
  unfold shownR
  rw [lo_iff _ _ _ p2 (by omega), hi_iff _ _ _ (by omega)]
  generalize crs (pk drift 101) rates s = a at *
  generalize crs (pk drift 101) rates t = b at *
  generalize (1000 - pk drift 101) * (t - s) = u at *
  generalize (1000 + pk drift 101) * (t - s) = v at *
  generalize pk start 1000 = z at *
  clear p1 p2 p3 hd hr
  refine ⟨?_, ?_, ?_⟩ <;> omega
theorem course_reading (r : S50) (hr1 : OnCourse drift start rates r) (t : Int) : rLo (pk drift 101) (shownR drift start rates t) r ≤ t ∧ t ≤ rHi (pk drift 101) (shownR drift start rates t) r := by
  obtain ⟨s, s0, s1, e, g1, g2, g3, g4⟩ := hr1
  unfold rLo rHi
  have h1 := course_fits drift start rates hd hr s t
  have h2 := course_fits drift start rates hd hr t s
  rw [e]
  generalize shownR drift start rates s = S at *
  generalize shownR drift start rates t = T at *
  generalize pk drift 101 = D at *
  rcases Int.lt_trichotomy T S with h | h | h
  · rw [if_pos h, if_pos h]
    have h3 : t ≤ s := by
      rcases Int.le_total s t with q | q
      · have := h1 q
        omega
      · exact q
    have h4 := h2 h3
    omega
  · subst h
    rw [if_neg (by omega), if_pos rfl, if_neg (by omega), if_pos rfl]
    rw [Int.sub_self] at h1 h2
    rcases Int.le_total s t with q | q
    · have := h1 q
      omega
    · have := h2 q
      omega
  · rw [if_neg (by omega), if_neg (by omega), if_neg (by omega), if_neg (by omega)]
    have h3 : s ≤ t := by
      rcases Int.le_total s t with q | q
      · exact q
      · have := h2 q
        omega
    have h4 := h1 h3
    omega
/-- The true second lies in the window of the local second that is shown at it. -/
theorem course_window (R : List S50) (hR : ∀ r, r ∈ R → OnCourse drift start rates r) (t : Int) (ht : 0 ≤ t) (ht2 : t ≤ 10000000) :
    arLo (pk drift 101) (shownR drift start rates t) 0 R ≤ t ∧ t ≤ arHi (pk drift 101) (shownR drift start rates t) 10000000 R :=
  ⟨arLo_le _ _ _ _ _ ht fun r h => (course_reading drift start rates hd hr r (hR r h) t).1, le_arHi _ _ _ _ _ ht2 fun r h => (course_reading drift start rates hd hr r (hR r h) t).2⟩
end
end Go.Proofs.Ythbonailomfjlaa.C
