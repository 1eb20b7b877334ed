import Derived.Test.YtcldldmedphcfaaQPlan
/- The capacity of a tick: from 0 to 20. Condition: a valid region. -/
namespace Go.Proofs.Ytcldldmedphcfaa.C
open Go.RowKit Go.Proofs.YtcldldmedphcfaaW.PrintWords Go.Proofs.YtcldldmedphcfaaW.PrintLast Go.Proofs.YtcldldmedphcfaaW.PrintMore
set_option linter.unusedVariables false
theorem valid_all : ∀ (l : List S67) (lf lc : Int), validFrom l lf lc = true → ∀ x ∈ l, lf < x.f0 ∧ x.f0 ≤ 1000 ∧ lc ≤ x.f1 ∧ x.f1 ≤ 20
  | [], _, _, _, x, hx => by cases hx
  | y :: l, lf, lc, h, x, hx => by
    unfold validFrom at h
    by_cases c : (lf + 1 ≤ y.f0 ∧ y.f0 ≤ 1000) ∧ (lc ≤ y.f1 ∧ y.f1 ≤ 20)
    · rw [if_pos c] at h
      rcases List.mem_cons.1 hx with rfl | hx
      · omega
      · have := valid_all l _ _ h x hx
        omega
    · rw [if_neg c] at h
      cases h
theorem cap_mem {S : List S67} {s : Int} (h : validB S s = true) (t : Int) (ht : 0 ≤ t) : ∃ x ∈ S, capL S t = x.f1 := by
  have h1 := fa_valid h t ht
  have h2 := fa_bd t S
  refine ⟨rd_T67 S (fa t S - 1), ?_, rfl⟩
  unfold rd_T67
  rw [List.getD_eq_getElem?_getD, List.getElem?_eq_getElem (show (fa t S - 1).toNat < S.length by omega)]
  exact List.getElem_mem _
theorem cap_range {S : List S67} {s : Int} (h : validB S s = true) (t : Int) (ht : 0 ≤ t) : 0 ≤ capL S t ∧ capL S t ≤ 20 := by
  obtain ⟨x, hx, e⟩ := cap_mem h t ht
  have := valid_all S _ _ (validB_from h).1 x hx
  omega
end Go.Proofs.Ytcldldmedphcfaa.C
