import Derived.Test.YtcldldmedphcfaaQPlan
/- What every plan is: a ticket for each attempt, in the order. Condition: none. -/
namespace Go.Proofs.Ytcldldmedphcfaa.C
open Go.RowKit Go.Proofs.YtcldldmedphcfaaW.PrintWords Go.Proofs.YtcldldmedphcfaaW.PrintLast Go.Proofs.YtcldldmedphcfaaW.PrintMore
set_option linter.unusedVariables false
theorem planGo_keys (S : List S67) : ∀ (l : List S60) (g : Int → Int) (b : Int) (p : List S39), planGo S l g b = some p → p.map (fun x => x.f0) = l.map (fun a => a.f0) ∧ p.map (fun x => x.f1) = l.map (fun a => a.f1)
  | [], g, b, p, h => by
    simp only [planGo, Option.some.injEq] at h
    subst h
    exact ⟨rfl, rfl⟩
  | a :: l, g, b, p, h => by
    simp only [planGo] at h
    by_cases hu : a.f2 = true
    · rw [if_pos hu] at h
      obtain ⟨q, hq, rfl⟩ := Option.map_eq_some_iff.1 h
      have ih := planGo_keys S l g b q hq
      simp [ih.1, ih.2]
    · rw [if_neg hu] at h
      obtain ⟨t, ht, h⟩ := Option.bind_eq_some_iff.1 h
      obtain ⟨q, hq, rfl⟩ := Option.map_eq_some_iff.1 h
      have ih := planGo_keys S l _ t q hq
      simp [ih.1, ih.2]
theorem Nub.perm {l l' : List S60} (h : Nub l) (hp : l.Perm l') : Nub l' := hp.pairwise h (fun {a b} hab e => hab e.symm)
/-- What is said of the plan of valid attempts. -/
structure PlanOf (S : List S67) (s : Int) (l : List S60) (p : List S39) : Prop where
  eq : recovery_Plan.f S s l = some (p, 0)
  go_ : planGo S (sortAtts l) (fun _ => 0) 0 = some p
  len : p.length = l.length
  l40 : l.length ≤ 40
  cal : p.map (fun x => x.f0) = (sortAtts l).map (fun a => a.f0)
  fst : p.map (fun x => x.f1) = (sortAtts l).map (fun a => a.f1)
  bd : ∀ x ∈ p, (0 ≤ x.f1 ∧ x.f1 ≤ 1000) ∧ 0 ≤ x.f2 ∧ x.f2 ≤ 100000
theorem planOf {S : List S67} {s : Int} {l : List S60} (hv : validB S s = true) (hr : readyB l = true) : ∃ p, PlanOf S s l p := by
  obtain ⟨p, h1, h2, h3, h4⟩ := plan_some hv hr
  obtain ⟨k1, k2⟩ := planGo_keys _ _ _ _ _ h2
  have hb := planGo_bd _ _ _ _ _ h2 (Int.le_refl _) (sorted_at hr)
  refine ⟨p, h1, h2, h3, h4, k1, k2, fun x hx => ⟨?_, ?_⟩⟩
  · have : x.f1 ∈ p.map (fun x => x.f1) := List.mem_map.2 ⟨x, hx, rfl⟩
    rw [k2] at this
    obtain ⟨a, ha, e⟩ := List.mem_map.1 this
    rw [← e]
    exact sorted_at hr a ha
  · have := hb.2 x hx
    have h5 := (sortAtts_perm l).2
    omega
/-- No two tickets are one, where no caller comes twice. -/
theorem PlanOf.apart {S : List S67} {s : Int} {l : List S60} {p : List S39} (h : PlanOf S s l p) (hn : Nub l) (i j : Nat) (hi : i < p.length) (hj : j < p.length) (hij : i ≠ j) : p[i].f0 ≠ p[j].f0 := by
  have hs : Nub (sortAtts l) := hn.perm (sortAtts_perm l).1.symm
  have hl := (sortAtts_perm l).2
  have hlen := h.len
  have e : ∀ q (hq : q < p.length), p[q].f0 = ((sortAtts l)[q]'(by omega)).f0 := fun q hq => by
    have h1 : (p.map (fun x => x.f0))[q]? = ((sortAtts l).map (fun a => a.f0))[q]? := by rw [h.cal]
    rw [List.getElem?_map, List.getElem?_map, List.getElem?_eq_getElem hq, List.getElem?_eq_getElem (show q < (sortAtts l).length by omega)] at h1
    simpa using h1
  rw [e i hi, e j hj]
  unfold Nub at hs
  rw [List.pairwise_iff_getElem] at hs
  rcases Nat.lt_or_ge i j with c | c
  · exact hs i j _ _ c
  · exact (hs j i _ _ (by omega)).symm
end Go.Proofs.Ytcldldmedphcfaa.C
