import Derived.Test.YtcldldmedphcfaaQLoad
/- When the last one is let in: the sums of capacities. Condition: a plan of attempts in their order. -/
namespace Go.Proofs.Ytcldldmedphcfaa.C
open Go.RowKit Go.Proofs.YtcldldmedphcfaaW.PrintWords Go.Proofs.YtcldldmedphcfaaW.PrintLast Go.Proofs.YtcldldmedphcfaaW.PrintMore
set_option linter.unusedVariables false
set_option linter.unusedSimpArgs false
/-- How many who are not urgent try first at s or later. -/
def geO (l : List S60) (s : Int) : Nat := l.countP (fun a => !a.f2 && decide (s ≤ a.f1))
theorem geO_perm {l l' : List S60} (h : l.Perm l') (T : Int) : geO l T = geO l' T := h.countP_eq _
theorem geO_leO (l : List S60) (s : Int) : geO l s + leO l (s - 1) = calm l := by
  induction l with
  | nil => rfl
  | cons a l ih =>
    unfold geO leO calm at *
    rw [List.countP_cons, List.countP_cons, List.countP_cons, ← ih]
    cases a.f2
    · by_cases c : s ≤ a.f1
      · simp only [Bool.not_false, Bool.true_and, decide_eq_true c, decide_eq_false (show ¬ a.f1 ≤ s - 1 by omega), if_true, Bool.false_eq_true, if_false]
        omega
      · simp only [Bool.not_false, Bool.true_and, decide_eq_false c, decide_eq_true (show a.f1 ≤ s - 1 by omega), if_true, Bool.false_eq_true, if_false]
        omega
    · simp only [Bool.not_true, Bool.false_and, Bool.false_eq_true, if_false]
      omega
theorem sumI_mono (f : Int → Int) (h : ∀ t : Int, 0 ≤ t → 0 ≤ f t) (a : Nat) : ∀ d : Nat, sumI f a ≤ sumI f (a + d)
  | 0 => Int.le_refl _
  | d + 1 => by
    have ih := sumI_mono f h a d
    have := h ((a + d : Nat) : Int) (by omega)
    show sumI f a ≤ sumI f (a + d) + f ((a + d : Nat) : Int)
    omega
theorem sumI_le (f : Int → Int) (h : ∀ t : Int, 0 ≤ t → 0 ≤ f t) {a b : Nat} (hab : a ≤ b) : sumI f a ≤ sumI f b := by
  obtain ⟨d, rfl⟩ := Nat.exists_eq_add_of_le hab
  exact sumI_mono f h a d
theorem leZ_upto (Z : List (S60 × S39)) (f : Int → Int) (h : ∀ t : Int, 0 ≤ t → (cntZ Z t : Int) ≤ f t) (a : Nat) : ∀ d : Nat, (leZ Z (((a + d : Nat) : Int) - 1) : Int) ≤ leZ Z ((a : Int) - 1) + (sumI f (a + d) - sumI f a)
  | 0 => by rw [Nat.add_zero]; omega
  | d + 1 => by
    have ih := leZ_upto Z f h a d
    have h1 := leZ_step Z ((a + d : Nat) : Int)
    have h2 := h ((a + d : Nat) : Int) (by omega)
    have e : ((a + (d + 1) : Nat) : Int) - 1 = ((a + d : Nat) : Int) := by omega
    have e2 : sumI f (a + (d + 1)) = sumI f (a + d) + f ((a + d : Nat) : Int) := rfl
    rw [e, e2]
    omega
theorem leZ_from (Z : List (S60 × S39)) (f : Int → Int) (a : Nat) : ∀ d : Nat, (∀ t : Nat, a ≤ t → t < a + d → f t ≤ cntZ Z t) → leZ Z ((a : Int) - 1) + (sumI f (a + d) - sumI f a) ≤ (leZ Z (((a + d : Nat) : Int) - 1) : Int)
  | 0, _ => by rw [Nat.add_zero]; omega
  | d + 1, h => by
    have ih := leZ_from Z f a d (fun t h1 h2 => h t h1 (by omega))
    have h1 := leZ_step Z ((a + d : Nat) : Int)
    have h2 := h (a + d) (by omega) (by omega)
    have e : ((a + (d + 1) : Nat) : Int) - 1 = ((a + d : Nat) : Int) := by omega
    have e2 : sumI f (a + (d + 1)) = sumI f (a + d) + f ((a + d : Nat) : Int) := rfl
    rw [e, e2]
    omega
theorem exists_min (P : S60 → Prop) : ∀ l : List S60, (∃ a ∈ l, P a) → ∃ a ∈ l, P a ∧ ∀ b ∈ l, P b → a.f1 ≤ b.f1
  | [], h => by obtain ⟨a, ha, _⟩ := h; cases ha
  | x :: l, h => by
    by_cases c : ∃ a ∈ l, P a
    · obtain ⟨a, ha, hpa, hmin⟩ := exists_min P l c
      by_cases d : P x ∧ x.f1 ≤ a.f1
      · refine ⟨x, List.mem_cons_self .., d.1, fun b hb hpb => ?_⟩
        rcases List.mem_cons.1 hb with rfl | hb
        · exact Int.le_refl _
        · have := hmin b hb hpb
          omega
      · refine ⟨a, List.mem_cons_of_mem _ ha, hpa, fun b hb hpb => ?_⟩
        rcases List.mem_cons.1 hb with rfl | hb
        · by_cases e : b.f1 ≤ a.f1
          · exact absurd ⟨hpb, e⟩ d
          · omega
        · exact hmin b hb hpb
    · obtain ⟨a, ha, hpa⟩ := h
      rcases List.mem_cons.1 ha with rfl | ha
      · refine ⟨a, List.mem_cons_self .., hpa, fun b hb hpb => ?_⟩
        rcases List.mem_cons.1 hb with rfl | hb
        · exact Int.le_refl _
        · exact absurd ⟨b, hb, hpb⟩ c
      · exact absurd ⟨a, ha, hpa⟩ c
/-- The begin of the busy time before n. -/
theorem busy_from (Z : List (S60 × S39)) (f : Int → Int) : ∀ n : Nat, ∃ u : Nat, u ≤ n ∧ (u = 0 ∨ (cntZ Z ((u : Int) - 1) : Int) < f ((u : Int) - 1)) ∧ ∀ t : Nat, u ≤ t → t < n → f t ≤ cntZ Z t
  | 0 => ⟨0, Nat.le_refl _, Or.inl rfl, fun t h1 h2 => by omega⟩
  | n + 1 => by
    by_cases c : f n ≤ cntZ Z n
    · obtain ⟨u, h1, h2, h3⟩ := busy_from Z f n
      refine ⟨u, by omega, h2, fun t ht1 ht2 => ?_⟩
      by_cases d : t < n
      · exact h3 t ht1 d
      · rw [show t = n by omega]
        exact c
    · refine ⟨n + 1, Nat.le_refl _, Or.inr ?_, fun t h1 h2 => by omega⟩
      rw [show ((n + 1 : Nat) : Int) - 1 = (n : Int) by omega]
      omega
section
variable {S : List S67} {o : List S60} {p : List S39}
theorem leZ_all (h : planGo S o (fun _ => 0) 0 = some p) (hs : o.Pairwise leA) (h0 : ∀ a ∈ o, 0 ≤ a.f1) (hc : ∀ t : Int, 0 ≤ t → 0 ≤ capL S t) (W : Nat) (hW : ∀ x ∈ p, x.f2 ≤ W) : leZ (o.zip p) W = calm o := by
  have hlen := planGo_len S _ _ _ _ h
  unfold leZ calm
  conv => rhs; rw [← zip_fst o p hlen.symm]
  rw [List.countP_map]
  refine List.countP_congr (fun z hz => ?_)
  have := hW z.2 (List.of_mem_zip hz).2
  simp [this]
/-- Those who try first at s or later find room up to the last tick. -/
theorem need_le (h : planGo S o (fun _ => 0) 0 = some p) (hs : o.Pairwise leA) (h0 : ∀ a ∈ o, 0 ≤ a.f1) (hc : ∀ t : Int, 0 ≤ t → 0 ≤ capL S t) (W : Nat) (hW : ∀ x ∈ p, x.f2 ≤ W) (s : Nat) (hsW : s ≤ W + 1) : (geO o s : Int) ≤ sumI (capL S) (W + 1) - sumI (capL S) s := by
  have hlen := planGo_len S _ _ _ _ h
  have h1 := leZ_upto (o.zip p) (capL S) (fun t ht => by
    rcases plan_within S t _ _ _ _ h with q | q
    · have := hc t ht
      omega
    · simp only [Int.zero_add] at q
      exact q) s (W + 1 - s)
  rw [show s + (W + 1 - s) = W + 1 by omega, show ((W + 1 : Nat) : Int) - 1 = (W : Int) by omega, leZ_all h hs h0 hc W hW] at h1
  have h2 := geO_leO o s
  have h3 : leZ (o.zip p) ((s : Int) - 1) ≤ leO o ((s : Int) - 1) := by
    rw [leO_zip o p hlen.symm]
    unfold leZ
    refine List.countP_mono_left (fun z hz hb => ?_)
    have := plan_zip S _ _ _ _ h z hz
    simp only [Bool.and_eq_true, Bool.not_eq_true', decide_eq_true_eq] at hb ⊢
    exact ⟨hb.1, by omega⟩
  omega
/-- And some of them don't find room before the last tick. -/
theorem need_gt (h : planGo S o (fun _ => 0) 0 = some p) (hs : o.Pairwise leA) (h0 : ∀ a ∈ o, 0 ≤ a.f1) (hc : ∀ t : Int, 0 ≤ t → 0 ≤ capL S t) (W : Nat) (hW : ∀ x ∈ p, x.f2 ≤ W) (z0 : S60 × S39) (hz0 : z0 ∈ o.zip p) (hu0 : z0.1.f2 = false) (ht0 : z0.2.f2 = W) : ∃ a ∈ o, a.f2 = false ∧ a.f1 ≤ W ∧ sumI (capL S) W - sumI (capL S) a.f1.toNat < geO o a.f1 := by
  have hlen := planGo_len S _ _ _ _ h
  obtain ⟨u, hu1, hu2, hu3⟩ := busy_from (o.zip p) (capL S) W
  have hfull : ∀ z ∈ o.zip p, z.1.f2 = false → z.1.f1 ≤ (u : Int) - 1 → z.2.f2 ≤ (u : Int) - 1 := by
    intro z hz hzu hzf
    rcases hu2 with rfl | hu2
    · have := h0 z.1 (List.of_mem_zip hz).1
      omega
    · by_cases c : u = 0
      · subst c
        have := h0 z.1 (List.of_mem_zip hz).1
        omega
      · exact plan_full S ((u : Int) - 1) _ _ _ _ h hs (by omega) (by simpa using hu2) z hz hzu hzf
  have hz0f : (u : Int) ≤ z0.1.f1 := by
    by_cases c : (u : Int) ≤ z0.1.f1
    · exact c
    · have := hfull z0 hz0 hu0 (by omega)
      omega
  obtain ⟨a, ha, ⟨hau, haf⟩, hmin⟩ := exists_min (fun a => a.f2 = false ∧ (u : Int) ≤ a.f1) o ⟨z0.1, (List.of_mem_zip hz0).1, hu0, hz0f⟩
  have haz := hmin z0.1 (List.of_mem_zip hz0).1 ⟨hu0, hz0f⟩
  have hzz := plan_zip S _ _ _ _ h z0 hz0
  refine ⟨a, ha, hau, by omega, ?_⟩
  have h1 : leO o ((u : Int) - 1) ≤ leZ (o.zip p) ((u : Int) - 1) := by
    rw [leO_zip o p hlen.symm]
    unfold leZ
    refine List.countP_mono_left (fun z hz hb => ?_)
    simp only [Bool.and_eq_true, Bool.not_eq_true', decide_eq_true_eq] at hb ⊢
    exact ⟨hb.1, hfull z hz hb.1 hb.2⟩
  have h2 := leZ_from (o.zip p) (capL S) u (W - u) (fun t h1 h2 => hu3 t h1 (by omega))
  rw [show u + (W - u) = W by omega] at h2
  have h3 := leZ_step (o.zip p) W
  have h4 : 0 < cntZ (o.zip p) W := List.countP_pos_iff.2 ⟨z0, hz0, by rw [hu0, ht0]; simp⟩
  have h5 := leZ_all h hs h0 hc W hW
  have h6 := geO_leO o u
  have h7 : geO o u = geO o a.f1 := List.countP_congr (fun b hb => by
    simp only [Bool.and_eq_true, Bool.not_eq_true', decide_eq_true_eq]
    constructor
    · rintro ⟨q1, q2⟩
      exact ⟨q1, hmin b hb ⟨q1, q2⟩⟩
    · rintro ⟨q1, q2⟩
      exact ⟨q1, by omega⟩)
  have h8 := sumI_le (capL S) hc (show u ≤ a.f1.toNat by omega)
  omega
end
end Go.Proofs.Ytcldldmedphcfaa.C
