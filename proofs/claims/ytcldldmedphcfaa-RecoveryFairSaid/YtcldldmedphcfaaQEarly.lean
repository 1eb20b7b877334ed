import Derived.Test.YtcldldmedphcfaaQKeys
/- The plan: each ticket where it belongs, no tick beyond its capacity, nobody waits while there is room, nobody overtakes. Condition: a valid region. -/
namespace Go.Proofs.Ytcldldmedphcfaa.C
open Go.RowKit Go.Proofs.YtcldldmedphcfaaW.PrintWords Go.Proofs.YtcldldmedphcfaaW.PrintLast Go.Proofs.YtcldldmedphcfaaW.PrintMore
set_option linter.unusedVariables false
/-- How many who are not urgent have the tick T. -/
def cntZ (Z : List (S60 × S39)) (T : Int) : Nat := Z.countP (fun z => !z.1.f2 && decide (z.2.f2 = T))
theorem findOpen_least (S : List S67) (g : Int → Int) : ∀ (k : Nat) (a t u : Int), findOpen S g k a = some t → a ≤ u → u < t → ¬ g u < capL S u
  | 0, _, _, _, h, _, _ => by cases h
  | k + 1, a, t, u, h, h1, h2 => by
    unfold findOpen at h
    by_cases c : g a < capL S a
    · rw [if_pos c] at h
      have := Option.some.inj h
      omega
    · rw [if_neg c] at h
      by_cases e : u = a
      · rw [e]
        exact c
      · exact findOpen_least S g k (a + 1) t u h (by omega) h2
theorem plan_zip (S : List S67) : ∀ (l : List S60) (g : Int → Int) (b : Int) (p : List S39), planGo S l g b = some p → ∀ z ∈ l.zip p, z.2.f0 = z.1.f0 ∧ z.2.f1 = z.1.f1 ∧ z.1.f1 ≤ z.2.f2 ∧ (z.1.f2 = true → z.2.f2 = z.1.f1) ∧ (z.1.f2 = false → b ≤ z.2.f2)
  | [], g, b, p, h, z, hz => by simp at hz
  | a :: l, g, b, p, h, z, hz => by
    simp only [planGo] at h
    by_cases hu : a.f2 = true
    · rw [if_pos hu] at h
      obtain ⟨q, hq, rfl⟩ := Option.map_eq_some_iff.1 h
      rw [List.zip_cons_cons] at hz
      rcases List.mem_cons.1 hz with rfl | hz
      · exact ⟨rfl, rfl, Int.le_refl _, fun _ => rfl, fun e => by rw [hu] at e; cases e⟩
      · exact plan_zip S l g b q hq z hz
    · rw [if_neg hu] at h
      obtain ⟨t, ht, h⟩ := Option.bind_eq_some_iff.1 h
      obtain ⟨q, hq, rfl⟩ := Option.map_eq_some_iff.1 h
      have hb := findOpen_bd _ _ _ _ _ ht
      rw [List.zip_cons_cons] at hz
      rcases List.mem_cons.1 hz with rfl | hz
      · exact ⟨rfl, rfl, by simp only; omega, fun e => absurd e hu, fun _ => by simp only; omega⟩
      · obtain ⟨h1, h2, h3, h4, h5⟩ := plan_zip S l _ t q hq z hz
        exact ⟨h1, h2, h3, h4, fun e => by have := h5 e; omega⟩
theorem plan_within (S : List S67) (T : Int) : ∀ (l : List S60) (g : Int → Int) (b : Int) (p : List S39), planGo S l g b = some p → cntZ (l.zip p) T = 0 ∨ g T + cntZ (l.zip p) T ≤ capL S T
  | [], g, b, p, h => Or.inl (by simp [cntZ])
  | a :: l, g, b, p, h => by
    simp only [planGo] at h
    by_cases hu : a.f2 = true
    · rw [if_pos hu] at h
      obtain ⟨q, hq, rfl⟩ := Option.map_eq_some_iff.1 h
      have ih := plan_within S T l g b q hq
      have e : cntZ ((a :: l).zip (⟨a.f0, a.f1, a.f1⟩ :: q)) T = cntZ (l.zip q) T := by
        unfold cntZ
        rw [List.zip_cons_cons, List.countP_cons]
        simp [hu]
      rw [e]
      exact ih
    · rw [if_neg hu] at h
      obtain ⟨t, ht, h⟩ := Option.bind_eq_some_iff.1 h
      obtain ⟨q, hq, rfl⟩ := Option.map_eq_some_iff.1 h
      have hr := findOpen_room _ _ _ _ _ ht
      have ih := plan_within S T l (inc g t) t q hq
      have hu2 : a.f2 = false := by simpa using hu
      have e : cntZ ((a :: l).zip (⟨a.f0, a.f1, t⟩ :: q)) T = cntZ (l.zip q) T + (if t = T then 1 else 0) := by
        unfold cntZ
        rw [List.zip_cons_cons, List.countP_cons]
        simp [hu2]
      rw [e]
      unfold inc at ih
      by_cases c : t = T
      · subst c
        rw [if_pos rfl] at ih ⊢
        right
        omega
      · rw [if_neg (fun q => c q.symm)] at ih
        rw [if_neg c]
        omega
/-- Nobody waits beyond T while there is room at T. -/
theorem plan_full (S : List S67) (T : Int) : ∀ (l : List S60) (g : Int → Int) (b : Int) (p : List S39), planGo S l g b = some p → l.Pairwise leA → b ≤ T → g T + cntZ (l.zip p) T < capL S T → ∀ z ∈ l.zip p, z.1.f2 = false → z.1.f1 ≤ T → z.2.f2 ≤ T
  | [], g, b, p, h, _, _, _, z, hz => by simp at hz
  | a :: l, g, b, p, h, hs, hb, hc, z, hz => by
    obtain ⟨hs1, hs2⟩ := List.pairwise_cons.1 hs
    simp only [planGo] at h
    intro hzu hza
    by_cases hu : a.f2 = true
    · rw [if_pos hu] at h
      obtain ⟨q, hq, rfl⟩ := Option.map_eq_some_iff.1 h
      have e : cntZ ((a :: l).zip (⟨a.f0, a.f1, a.f1⟩ :: q)) T = cntZ (l.zip q) T := by
        unfold cntZ
        rw [List.zip_cons_cons, List.countP_cons]
        simp [hu]
      rw [e] at hc
      rw [List.zip_cons_cons] at hz
      rcases List.mem_cons.1 hz with rfl | hz
      · rw [hu] at hzu
        cases hzu
      · exact plan_full S T l g b q hq hs2 hb hc z hz hzu hza
    · rw [if_neg hu] at h
      obtain ⟨t, ht, h⟩ := Option.bind_eq_some_iff.1 h
      obtain ⟨q, hq, rfl⟩ := Option.map_eq_some_iff.1 h
      have hu2 : a.f2 = false := by simpa using hu
      have e : cntZ ((a :: l).zip (⟨a.f0, a.f1, t⟩ :: q)) T = cntZ (l.zip q) T + (if t = T then 1 else 0) := by
        unfold cntZ
        rw [List.zip_cons_cons, List.countP_cons]
        simp [hu2]
      rw [e] at hc
      have hza2 : a.f1 ≤ T := by
        rw [List.zip_cons_cons] at hz
        rcases List.mem_cons.1 hz with rfl | hz
        · exact hza
        · have := hs1 z.1 (List.of_mem_zip hz).1
          unfold leA at this
          omega
      have htT : t ≤ T := by
        by_cases c : t ≤ T
        · exact c
        · exact absurd (show g T < capL S T by omega) (findOpen_least S g 2000 _ t T ht (by omega) (by omega))
      rw [List.zip_cons_cons] at hz
      rcases List.mem_cons.1 hz with rfl | hz
      · exact htT
      · refine plan_full S T l (inc g t) t q hq hs2 htT ?_ z hz hzu hza
        unfold inc
        by_cases c : t = T
        · subst c
          rw [if_pos rfl] at hc ⊢
          omega
        · rw [if_neg c] at hc
          rw [if_neg (fun q => c q.symm)]
          omega
/-- Nobody who is not urgent overtakes another. -/
theorem plan_mono (S : List S67) : ∀ (l : List S60) (g : Int → Int) (b : Int) (p : List S39), planGo S l g b = some p → (l.zip p).Pairwise (fun z z' => z.1.f2 = false → z'.1.f2 = false → z.2.f2 ≤ z'.2.f2)
  | [], g, b, p, h => by simp
  | a :: l, g, b, p, h => by
    simp only [planGo] at h
    by_cases hu : a.f2 = true
    · rw [if_pos hu] at h
      obtain ⟨q, hq, rfl⟩ := Option.map_eq_some_iff.1 h
      rw [List.zip_cons_cons]
      exact List.pairwise_cons.2 ⟨fun z _ e => absurd (hu.symm.trans e) (by decide), plan_mono S l g b q hq⟩
    · rw [if_neg hu] at h
      obtain ⟨t, ht, h⟩ := Option.bind_eq_some_iff.1 h
      obtain ⟨q, hq, rfl⟩ := Option.map_eq_some_iff.1 h
      rw [List.zip_cons_cons]
      exact List.pairwise_cons.2 ⟨fun z hz _ e => (plan_zip S l _ t q hq z hz).2.2.2.2 e, plan_mono S l _ t q hq⟩
end Go.Proofs.Ytcldldmedphcfaa.C
