import Derived.Test.YtcldldmedphcfaaQCore
/- What becomes of the plan when a caller comes last, when there is more room, and when the urgent ones stay away. Condition: a plan of attempts in their order. -/
namespace Go.Proofs.Ytcldldmedphcfaa.C
open Go.RowKit Go.Proofs.YtcldldmedphcfaaW.PrintWords Go.Proofs.YtcldldmedphcfaaW.PrintLast Go.Proofs.YtcldldmedphcfaaW.PrintMore
set_option linter.unusedVariables false
set_option linter.unusedSimpArgs false
theorem planGo_append (S : List S67) (c : S60) : ∀ (l : List S60) (g : Int → Int) (b : Int) (q : List S39), planGo S (l ++ [c]) g b = some q → ∃ p x, planGo S l g b = some p ∧ q = p ++ [x] ∧ x.f0 = c.f0
  | [], g, b, q, h => by
    simp only [List.nil_append, planGo] at h
    by_cases hu : c.f2 = true
    · rw [if_pos hu] at h
      simp only [Option.map_some, Option.some.injEq] at h
      exact ⟨[], _, rfl, by rw [← h]; rfl, rfl⟩
    · rw [if_neg hu] at h
      obtain ⟨t, ht, h⟩ := Option.bind_eq_some_iff.1 h
      simp only [Option.map_some, Option.some.injEq] at h
      exact ⟨[], _, rfl, by rw [← h]; rfl, rfl⟩
  | a :: l, g, b, q, h => by
    simp only [List.cons_append, planGo] at h ⊢
    by_cases hu : a.f2 = true
    · rw [if_pos hu] at h ⊢
      obtain ⟨q', hq, rfl⟩ := Option.map_eq_some_iff.1 h
      obtain ⟨p, x, h1, rfl, h3⟩ := planGo_append S c l g b q' hq
      exact ⟨_, x, by rw [h1]; rfl, rfl, h3⟩
    · rw [if_neg hu] at h ⊢
      obtain ⟨t, ht, h⟩ := Option.bind_eq_some_iff.1 h
      obtain ⟨q', hq, rfl⟩ := Option.map_eq_some_iff.1 h
      obtain ⟨p, x, h1, rfl, h3⟩ := planGo_append S c l _ t q' hq
      exact ⟨_, x, by rw [ht, Option.bind_some, h1]; rfl, rfl, h3⟩
theorem findOpen_le (S : List S67) (g : Int → Int) (k : Nat) (a t u : Int) (h : findOpen S g k a = some t) (h1 : a ≤ u) (h2 : g u < capL S u) : t ≤ u := by
  by_cases c : t ≤ u
  · exact c
  · exact absurd h2 (findOpen_least S g k a t u h h1 (by omega))
/-- With capacities that are nowhere less, nobody's tick is later. -/
theorem planGo_grow {S S' : List S67} (hcap : ∀ t, 0 ≤ t → capL S t ≤ capL S' t) : ∀ (l : List S60) (g g' : Int → Int) (b b' : Int) (p p' : List S39), planGo S l g b = some p → planGo S' l g' b' = some p' → 0 ≤ b → b' ≤ b → (∀ u, b ≤ u → g' u ≤ g u) → ∀ i : Nat, (p'.getD i z39).f2 ≤ (p.getD i z39).f2
  | [], g, g', b, b', p, p', h, h', _, _, _, i => by
    simp only [planGo, Option.some.injEq] at h h'
    subst h h'
    exact Int.le_refl _
  | a :: l, g, g', b, b', p, p', h, h', h0, hb, hg, i => by
    simp only [planGo] at h h'
    by_cases hu : a.f2 = true
    · rw [if_pos hu] at h h'
      obtain ⟨q, hq, rfl⟩ := Option.map_eq_some_iff.1 h
      obtain ⟨q', hq', rfl⟩ := Option.map_eq_some_iff.1 h'
      cases i with
      | zero => exact Int.le_refl _
      | succ i =>
        rw [List.getD_cons_succ, List.getD_cons_succ]
        exact planGo_grow hcap l g g' b b' q q' hq hq' h0 hb hg i
    · rw [if_neg hu] at h h'
      obtain ⟨t, ht, h⟩ := Option.bind_eq_some_iff.1 h
      obtain ⟨q, hq, rfl⟩ := Option.map_eq_some_iff.1 h
      obtain ⟨t', ht', h'⟩ := Option.bind_eq_some_iff.1 h'
      obtain ⟨q', hq', rfl⟩ := Option.map_eq_some_iff.1 h'
      have hbd := findOpen_bd _ _ _ _ _ ht
      have hroom := findOpen_room _ _ _ _ _ ht
      have h1 := hg t (by omega)
      have h2 := hcap t (by omega)
      have hle : t' ≤ t := findOpen_le S' g' _ _ t' t ht' (by omega) (by omega)
      cases i with
      | zero => exact hle
      | succ i =>
        rw [List.getD_cons_succ, List.getD_cons_succ]
        refine planGo_grow hcap l _ _ t t' q q' hq hq' (by omega) hle (fun u hu' => ?_) i
        have h3 := hg u (by omega)
        unfold inc
        by_cases c : u = t
        · subst c
          rw [if_pos rfl]
          by_cases d : u = t'
          · subst d
            rw [if_pos rfl]
            omega
          · rw [if_neg d]
            omega
        · rw [if_neg c, if_neg (by omega)]
          exact h3
/-- Without the urgent ones the others keep their tickets. -/
theorem planGo_filter (S : List S67) : ∀ (l : List S60) (g : Int → Int) (b : Int) (p : List S39), planGo S l g b = some p → planGo S (l.filter (fun a => !a.f2)) g b = some (((l.zip p).filter (fun z => !z.1.f2)).map (fun z => z.2))
  | [], g, b, p, h => by
    simp only [planGo, Option.some.injEq] at h
    subst h
    rfl
  | a :: l, g, b, p, h => by
    simp only [planGo] at h
    by_cases hu : a.f2 = true
    · rw [if_pos hu] at h
      obtain ⟨q, hq, rfl⟩ := Option.map_eq_some_iff.1 h
      have ih := planGo_filter S l g b q hq
      rw [List.zip_cons_cons, List.filter_cons_of_neg (by simp [hu]), List.filter_cons_of_neg (by simp [hu])]
      exact ih
    · rw [if_neg hu] at h
      obtain ⟨t, ht, h⟩ := Option.bind_eq_some_iff.1 h
      obtain ⟨q, hq, rfl⟩ := Option.map_eq_some_iff.1 h
      have ih := planGo_filter S l _ t q hq
      rw [List.zip_cons_cons, List.filter_cons_of_pos (by simp [hu]), List.filter_cons_of_pos (by simp [hu])]
      simp only [planGo]
      rw [if_neg hu, ht, Option.bind_some, ih]
      rfl
theorem sort_filter {l : List S60} (hn : Nub l) (f : S60 → Bool) : sortAtts (l.filter f) = (sortAtts l).filter f := by
  have hp := sortAtts_perm l
  have hn' : Nub (sortAtts l) := hn.perm hp.1.symm
  have hpf := sortAtts_perm (l.filter f)
  refine sorted_unique (Nub.uniq ?_) (hpf.1.trans (hp.1.symm.filter f)) (sortAtts_pairwise _) ((sortAtts_pairwise l).filter f)
  exact Nub.perm (List.Pairwise.filter f hn) hpf.1.symm
/-- One who comes later than all others comes last in the order. -/
theorem sort_late {l : List S60} {c : S60} (hn : Nub (c :: l)) (hc : ∀ a ∈ l, a.f1 < c.f1) : sortAtts (c :: l) = sortAtts l ++ [c] := by
  have hp := sortAtts_perm l
  have hpc := sortAtts_perm (c :: l)
  refine sorted_unique (Nub.uniq (hn.perm hpc.1.symm)) (hpc.1.trans ((List.perm_append_singleton c _).trans (List.Perm.cons c hp.1)).symm) (sortAtts_pairwise _) ?_
  rw [List.pairwise_append]
  refine ⟨sortAtts_pairwise l, List.pairwise_singleton _ _, fun a ha b hb => ?_⟩
  rw [List.mem_singleton] at hb
  subst hb
  exact Or.inl (hc a (hp.1.mem_iff.1 ha))
end Go.Proofs.Ytcldldmedphcfaa.C
