import Derived.Test.YthbonailomfjlaaQCourse
import Derived.Test.YthbonailomfjlaaQSane
/- What At and Reads return at a second of a course. Conditions: whole numbers of 64 bits. -/
namespace Go.Proofs.Ythbonailomfjlaa.C
open Go.RowKit Go.Proofs.YthbonailomfjlaaW.PrintWords Go.Proofs.YthbonailomfjlaaW.PrintLast Go.Proofs.YthbonailomfjlaaW.PrintMore
theorem at_ev (d : Int) (l : List S50) (loc : Int) : Ev (fun k => clock_At.f k d l loc) (atR d l loc) := ⟨41, fun k hk => at_ok d l loc k hk⟩
theorem valid_ev (d : Int) (l : List S50) : Ev (fun k => clock_Valid.f k d l) (vld d l) := ⟨40, fun k hk => valid_ok d l k hk⟩
/-- What At and Reads return at a second of the course. -/
theorem course_at (drift start : Int) (rates : List Int) (R : List S50) (t : Int) (hd : I64 drift) (hs : I64 start) (hr : ∀ r, r ∈ rates → I64 r) (fit : Fit drift start rates (pk drift 101) R) (ht : 0 ≤ t) (ht2 : t ≤ 10000) :
    ∃ lo hi, atR (pk drift 101) R (shownR drift start rates t) = (lo, hi, 0) ∧ lo ≤ t ∧ t ≤ hi := by
  obtain ⟨b1, b2⟩ := shownR_bd drift start rates t hd hs hr ht ht2
  obtain ⟨w1, w2⟩ := course_window drift start rates hd hr R fit.2 t ht (by omega)
  refine ⟨_, _, ?_, w1, w2⟩
  unfold atR
  rw [if_pos ⟨fit.1, b1, by omega⟩, if_neg (by omega)]
theorem course_reads (drift start : Int) (rates : List Int) (R : List S50) (t : Int) (hd : I64 drift) (hs : I64 start) (hr : ∀ r, r ∈ rates → I64 r) (fit : Fit drift start rates (pk drift 101) R) (ht : 0 ≤ t) (ht2 : t ≤ 10000) :
    ∃ a b, readsR (pk drift 101) R t = (a, b, 0) ∧ a ≤ shownR drift start rates t ∧ shownR drift start rates t ≤ b := by
  obtain ⟨b1, b2⟩ := shownR_bd drift start rates t hd hs hr ht ht2
  obtain ⟨w1, w2⟩ := course_window drift start rates hd hr R fit.2 t ht (by omega)
  obtain ⟨p1, p2, p3⟩ := rpick_ok drift 101 hd (by omega)
  have h1 := (rdF_iff (d := pk drift 101) (l := R) ⟨p2, by omega⟩ t (shownR drift start rates t) b1 (by omega)).2 w2
  have h2 := mt (rdB_iff (d := pk drift 101) (l := R) ⟨p2, by omega⟩ t (shownR drift start rates t) b1 (by omega)).1 (by omega)
  refine ⟨rdF (pk drift 101) R t, rdB (pk drift 101) R t - 1, ?_, h1, by omega⟩
  unfold readsR
  rw [if_pos ⟨fit.1, ht, by omega⟩, if_neg (by omega)]
theorem le_arLo (d loc : Int) (l : List S50) : ∀ a, a ≤ arLo d loc a l := by
  induction l with
  | nil => intro a; exact Int.le_refl _
  | cons r l ih =>
    intro a
    refine Int.le_trans ?_ (ih _)
    split <;> omega
theorem arHi_le (d loc : Int) (l : List S50) : ∀ a, arHi d loc a l ≤ a := by
  induction l with
  | nil => intro a; exact Int.le_refl _
  | cons r l ih =>
    intro a
    refine Int.le_trans (ih _) ?_
    split <;> omega
theorem atR_out (d : Int) (l : List S50) (loc : Int) (h : (atR d l loc).2.2 = 0) : (atR d l loc).1 = arLo d loc 0 l ∧ (atR d l loc).2.1 = arHi d loc 10000000 l ∧ arLo d loc 0 l ≤ arHi d loc 10000000 l ∧ vld d l = true ∧ 0 ≤ loc ∧ loc ≤ 10000000 := by
  unfold atR at h ⊢
  split
  · rename_i q
    rw [if_pos q] at h
    split
    · rename_i q2
      rw [if_pos q2] at h
      simp at h
    · exact ⟨rfl, rfl, by omega, q⟩
  · rename_i q
    rw [if_neg q] at h
    simp at h
end Go.Proofs.Ythbonailomfjlaa.C
