import Derived.Test.YthbonailomfjlaaQAt
import Derived.Test.YthbonailomfjlaaFSound
/- ClockSound returns true. Conditions: whole numbers of 64 bits, and slices as long as a machine holds. -/
namespace Go.Proofs.Ythbonailomfjlaa.C
open Go.RowKit Go.Proofs.YthbonailomfjlaaW.PrintWords Go.Proofs.YthbonailomfjlaaW.PrintLast Go.Proofs.YthbonailomfjlaaW.PrintMore
theorem sound_ok (drift start : Int) (rates : List Int) (at_ : List S60) (t other : Int) (hd : I64 drift) (hs : I64 start) (hr : ∀ r, r ∈ rates → I64 r) (hlr : rates.length * 8 ≤ 140737488351232) (ha : ∀ x, x ∈ at_ → I64 x.f0 ∧ I64 x.f1 ∧ I64 x.f2) (hla : at_.length * 24 ≤ 140737488351232) (ht : I64 t) (ho : I64 other) :
    Ev (fun k => dialtonelaw05_ClockSound.f k drift start rates at_ t other) true := by
  unfold dialtonelaw05_ClockSound.f
  refine Ev.bind sane_ok ?_
  simp only [if_true]
  obtain ⟨R, e1, fit⟩ := made_ok drift start rates at_ hd hs hr (by omega) ha (by omega)
  refine Ev.bind e1 ?_
  obtain ⟨p1, p2, p3⟩ := pick_ok t 5000 ht (by omega)
  rw [p1]
  simp only [Option.bind_some]
  obtain ⟨u, hu⟩ : ∃ u, pk t 5000 = u := ⟨_, rfl⟩
  rw [hu] at p2 p3 ⊢
  clear p1 hu
  refine Ev.bind (shown_ok drift start rates u hd hs hr (by omega) p2 (by omega)) ?_
  refine Ev.bind (at_ev _ _ _) ?_
  obtain ⟨lo, hi, a1, a2, a3⟩ := course_at drift start rates R u hd hs hr fit p2 (by omega)
  obtain ⟨f, g, r1, r2, r3⟩ := course_reads drift start rates R u hd hs hr fit p2 (by omega)
  rw [reads_ok]
  simp only [Option.bind_some]
  rw [a1, r1]
  simp only [if_true]
  refine Ev.bind (valid_ev _ _) ?_
  rw [fit.1]
  obtain ⟨q1, q2, q3⟩ := pick_ok other 201 ho (by omega)
  refine ⟨50, fun k hk => ?_⟩
  obtain ⟨k, rfl⟩ : ∃ q, k = q + 2 := ⟨k - 2, by omega⟩
  have hj : dialtonelaw05_ClockSound.j1 (k + 1) u (shownR drift start rates u) lo hi f g false = some true := by
    simp only [dialtonelaw05_ClockSound.j1]
    rw [if_neg (by simp), if_pos a2, if_pos a3, if_pos r2, decide_eq_true r3]
  simp only [dialtonelaw05_ClockSound.j0, Bool.not_true]
  rw [if_neg (by simp), q1]
  simp only [Option.bind_some, before_ok _ _ _ _ (k + 1) (show 41 ≤ k + 1 by omega), after_ok _ _ _ _ (k + 1) (show 41 ≤ k + 1 by omega)]
  rw [a1]
  simp only [decide_eq_true_eq, true_and]
  generalize wrap64 (wrap64 (u + pk other 201) - 100) = N
  clear q1 q2 q3 r1 a1 e1 fit
  repeat' split
  all_goals first | exact hj | (exfalso; omega) | (rw [decide_eq_false (by omega)]; exact hj)
end Go.Proofs.Ythbonailomfjlaa.C
