import Derived.Test.YtcldldmedphcfaaQTide
/- A storm with the pause 1 that does not fall: the tickets of the plan. Condition: a plan of attempts in their order. -/
namespace Go.Proofs.Ytcldldmedphcfaa.C
open Go.RowKit Go.Proofs.YtcldldmedphcfaaW.PrintWords Go.Proofs.YtcldldmedphcfaaW.PrintLast Go.Proofs.YtcldldmedphcfaaW.PrintMore
set_option linter.unusedVariables false
set_option linter.unusedSimpArgs false
/-- Who waits at the begin of the tick t, by the plan. -/
def pendT (t : Int) : List S60 → List S39 → Nat → List (Int × Int)
  | a :: o, x :: p, j => (if a.f2 = false ∧ t ≤ x.f2 then [(max t a.f1, (j : Int))] else []) ++ pendT t o p (j + 1)
  | _, _, _ => []
/-- Who tries at the tick t and is let in, by the plan; and who is not. -/
def inT (t : Int) : List S60 → List S39 → Nat → List Int
  | a :: o, x :: p, j => (if a.f2 = false ∧ x.f2 = t then [(j : Int)] else []) ++ inT t o p (j + 1)
  | _, _, _ => []
def outT (t : Int) : List S60 → List S39 → Nat → List Int
  | a :: o, x :: p, j => (if a.f2 = false ∧ t < x.f2 ∧ a.f1 ≤ t then [(j : Int)] else []) ++ outT t o p (j + 1)
  | _, _, _ => []
def laterT (t : Int) : List S60 → List S39 → Nat → List (Int × Int)
  | a :: o, x :: p, j => (if a.f2 = false ∧ t < a.f1 then [(a.f1, (j : Int))] else []) ++ laterT t o p (j + 1)
  | _, _, _ => []
/-- Tickets that are in order, and not before the first attempts. -/
def Mono (Z : List (S60 × S39)) : Prop := Z.Pairwise (fun z z' => z.1.f2 = false → z'.1.f2 = false → z.2.f2 ≤ z'.2.f2) ∧ ∀ z ∈ Z, z.1.f1 ≤ z.2.f2
theorem Mono.tail {z : S60 × S39} {Z : List (S60 × S39)} (h : Mono (z :: Z)) : Mono Z := ⟨(List.pairwise_cons.1 h.1).2, fun y hy => h.2 y (List.mem_cons_of_mem _ hy)⟩
theorem inT_none (t u : Int) (hu : t < u) : ∀ (o : List S60) (p : List S39) (j : Nat), (∀ z ∈ o.zip p, z.1.f2 = false → u ≤ z.2.f2) → inT t o p j = []
  | [], p, j, _ => by cases p <;> rfl
  | a :: o, [], j, _ => rfl
  | a :: o, x :: p, j, h => by
    simp only [inT]
    rw [inT_none t u hu o p (j + 1) (fun z hz => h z (by rw [List.zip_cons_cons]; exact List.mem_cons_of_mem _ hz)), if_neg]
    · rfl
    · rintro ⟨q1, q2⟩
      have := h (a, x) (by rw [List.zip_cons_cons]; exact List.mem_cons_self ..) q1
      simp only at this
      omega
/-- Those who try at t: first those who are let in, then the others. -/
theorem tries_eq (t : Int) : ∀ (o : List S60) (p : List S39) (j : Nat), Mono (o.zip p) → atT (pendT t o p j) t = inT t o p j ++ outT t o p j
  | [], p, j, _ => by cases p <;> rfl
  | a :: o, [], j, _ => rfl
  | a :: o, x :: p, j, h => by
    rw [List.zip_cons_cons] at h
    have ih := tries_eq t o p (j + 1) h.tail
    have hx := h.2 (a, x) (List.mem_cons_self ..)
    simp only at hx
    simp only [pendT, inT, outT]
    have hap : ∀ A B : List (Int × Int), atT (A ++ B) t = atT A t ++ atT B t := fun A B => by
      unfold atT
      rw [List.filter_append, List.map_append]
    rw [hap, ih]
    by_cases hu : a.f2 = false
    · by_cases c1 : x.f2 = t
      · rw [if_pos ⟨hu, by omega⟩, if_pos ⟨hu, c1⟩, if_neg (by omega)]
        have : atT [(max t a.f1, (j : Int))] t = [(j : Int)] := by
          unfold atT
          simp [show max t a.f1 = t by omega]
        rw [this]
        rfl
      · rw [if_neg (show ¬ (a.f2 = false ∧ x.f2 = t) from fun q => c1 q.2)]
        by_cases c2 : t < x.f2
        · rw [if_pos ⟨hu, by omega⟩]
          have hin : inT t o p (j + 1) = [] := inT_none t x.f2 c2 o p (j + 1) (fun z hz hzu => (List.pairwise_cons.1 h.1).1 z hz hu hzu)
          rw [hin]
          by_cases c3 : a.f1 ≤ t
          · rw [if_pos ⟨hu, c2, c3⟩]
            have : atT [(max t a.f1, (j : Int))] t = [(j : Int)] := by
              unfold atT
              simp [show max t a.f1 = t by omega]
            rw [this]
            rfl
          · rw [if_neg (fun q => c3 q.2.2)]
            have : atT [(max t a.f1, (j : Int))] t = [] := by
              unfold atT
              simp [show ¬ max t a.f1 = t by omega]
            rw [this]
            rfl
        · rw [if_neg (by omega), if_neg (by omega)]
          rfl
    · rw [if_neg (fun q => hu q.1), if_neg (fun q => hu q.1), if_neg (fun q => hu q.1)]
      rfl
theorem rest_eq (t : Int) : ∀ (o : List S60) (p : List S39) (j : Nat), Mono (o.zip p) → (pendT t o p j).filter (fun x => !decide (x.1 = t)) = laterT t o p j
  | [], p, j, _ => by cases p <;> rfl
  | a :: o, [], j, _ => rfl
  | a :: o, x :: p, j, h => by
    rw [List.zip_cons_cons] at h
    have ih := rest_eq t o p (j + 1) h.tail
    have hx := h.2 (a, x) (List.mem_cons_self ..)
    simp only at hx
    simp only [pendT, laterT]
    rw [List.filter_append, ih]
    congr 1
    by_cases hu : a.f2 = false
    · by_cases c : t < a.f1
      · rw [if_pos ⟨hu, by omega⟩, if_pos ⟨hu, c⟩, show max t a.f1 = a.f1 by omega]
        simp [show ¬ a.f1 = t by omega]
      · rw [if_neg (show ¬ (a.f2 = false ∧ t < a.f1) from fun q => c q.2)]
        by_cases d : t ≤ x.f2
        · rw [if_pos ⟨hu, d⟩]
          simp [show max t a.f1 = t by omega]
        · rw [if_neg (fun q => d q.2)]
          rfl
    · rw [if_neg (fun q => hu q.1), if_neg (fun q => hu q.1)]
      rfl
theorem step_perm (t : Int) : ∀ (o : List S60) (p : List S39) (j : Nat), Mono (o.zip p) → (laterT t o p j ++ (outT t o p j).map (fun i => (t + 1, i))).Perm (pendT (t + 1) o p j)
  | [], p, j, _ => by cases p <;> exact List.Perm.refl _
  | a :: o, [], j, _ => List.Perm.refl _
  | a :: o, x :: p, j, h => by
    rw [List.zip_cons_cons] at h
    have ih := step_perm t o p (j + 1) h.tail
    have hx := h.2 (a, x) (List.mem_cons_self ..)
    simp only at hx
    simp only [pendT, laterT, outT]
    by_cases hu : a.f2 = false
    · by_cases c : t < a.f1
      · rw [if_pos ⟨hu, c⟩, if_neg (by omega), if_pos ⟨hu, by omega⟩, show max (t + 1) a.f1 = a.f1 by omega]
        exact List.Perm.cons _ ih
      · rw [if_neg (show ¬ (a.f2 = false ∧ t < a.f1) from fun q => c q.2)]
        by_cases d : t < x.f2
        · rw [if_pos ⟨hu, d, by omega⟩, if_pos ⟨hu, by omega⟩, show max (t + 1) a.f1 = t + 1 by omega]
          exact List.perm_middle.trans (List.Perm.cons _ ih)
        · rw [if_neg (fun q => d q.2.1), if_neg (by omega)]
          exact ih
    · rw [if_neg (fun q => hu q.1), if_neg (fun q => hu q.1), if_neg (fun q => hu q.1)]
      exact ih
theorem inT_len (t : Int) : ∀ (o : List S60) (p : List S39) (j : Nat), (inT t o p j).length = cntZ (o.zip p) t
  | [], p, j => by cases p <;> rfl
  | a :: o, [], j => rfl
  | a :: o, x :: p, j => by
    have ih := inT_len t o p (j + 1)
    simp only [inT]
    rw [List.length_append, ih, List.zip_cons_cons]
    unfold cntZ
    rw [List.countP_cons]
    cases hu : a.f2
    · by_cases c : x.f2 = t
      · simp [c]
        omega
      · simp [c]
    · simp
theorem inT_mem (t : Int) : ∀ (o : List S60) (p : List S39) (j : Nat), o.length = p.length → ∀ i : Int, i ∈ inT t o p j ↔ ∃ k : Nat, ∃ hk : k < o.length, ∃ hp : k < p.length, i = ((j + k : Nat) : Int) ∧ o[k].f2 = false ∧ p[k].f2 = t
  | [], p, j, _, i => by
    constructor
    · intro h
      cases p <;> cases h
    · rintro ⟨k, hk, _⟩
      simp at hk
  | a :: o, [], j, h, i => by simp at h
  | a :: o, x :: p, j, h, i => by
    have ih := inT_mem t o p (j + 1) (by simpa using h) i
    simp only [inT, List.mem_append]
    rw [ih]
    constructor
    · rintro (q | ⟨k, hk, hp, h1, h2, h3⟩)
      · by_cases c : a.f2 = false ∧ x.f2 = t
        · rw [if_pos c, List.mem_singleton] at q
          exact ⟨0, by simp, by simp, by simpa using q, c.1, c.2⟩
        · rw [if_neg c] at q
          cases q
      · exact ⟨k + 1, by simpa using hk, by simpa using hp, by rw [h1]; congr 1; omega, h2, h3⟩
    · rintro ⟨k, hk, hp, h1, h2, h3⟩
      cases k with
      | zero =>
        left
        rw [if_pos ⟨h2, h3⟩, List.mem_singleton]
        simpa using h1
      | succ k =>
        right
        exact ⟨k, by simpa using hk, by simpa using hp, by rw [h1]; congr 1; omega, by simpa using h2, by simpa using h3⟩
theorem pendT_ge (t : Int) : ∀ (o : List S60) (p : List S39) (j : Nat), ∀ x ∈ pendT t o p j, (j : Int) ≤ x.2
  | [], p, j, x, hx => by cases p <;> cases hx
  | a :: o, [], j, x, hx => by cases hx
  | a :: o, y :: p, j, x, hx => by
    simp only [pendT, List.mem_append] at hx
    rcases hx with hx | hx
    · split at hx
      · rw [List.mem_singleton] at hx
        rw [hx]
        exact Int.le_refl _
      · cases hx
    · have := pendT_ge t o p (j + 1) x hx
      push_cast at this
      omega
theorem tries_sorted (t : Int) : ∀ (o : List S60) (p : List S39) (j : Nat), (atT (pendT t o p j) t).Pairwise (fun a b => a ≤ b)
  | [], p, j => by cases p <;> exact List.Pairwise.nil
  | a :: o, [], j => List.Pairwise.nil
  | a :: o, x :: p, j => by
    have ih := tries_sorted t o p (j + 1)
    simp only [pendT]
    have hap : ∀ A B : List (Int × Int), atT (A ++ B) t = atT A t ++ atT B t := fun A B => by
      unfold atT
      rw [List.filter_append, List.map_append]
    rw [hap, List.pairwise_append]
    refine ⟨?_, ih, fun u hu v hv => ?_⟩
    · split
      · unfold atT
        by_cases c : max t a.f1 = t <;> simp [c]
      · exact List.Pairwise.nil
    · have h2 := pendT_ge t o p (j + 1) _ (atT_mem hv)
      split at hu
      · have h1 := atT_mem hu
        rw [List.mem_singleton] at h1
        have := congrArg Prod.snd h1
        simp only at this h2
        push_cast at h2
        omega
      · cases hu
theorem pendT_zero : ∀ (o : List S60) (p : List S39) (j : Nat), o.length = p.length → (∀ a ∈ o, 0 ≤ a.f1) → (∀ x ∈ p, 0 ≤ x.f2) → pendFrom o j = pendT 0 o p j
  | [], p, j, h, _, _ => by cases p <;> rfl
  | a :: o, [], j, h, _, _ => by simp at h
  | a :: o, x :: p, j, h, h1, h2 => by
    have ih := pendT_zero o p (j + 1) (by simpa using h) (fun b hb => h1 b (List.mem_cons_of_mem _ hb)) (fun b hb => h2 b (List.mem_cons_of_mem _ hb))
    have ha := h1 a (List.mem_cons_self ..)
    have hx := h2 x (List.mem_cons_self ..)
    simp only [pendFrom, pendT]
    rw [ih]
    congr 1
    cases hu : a.f2
    · rw [if_neg Bool.false_ne_true, if_pos ⟨rfl, hx⟩, show max 0 a.f1 = a.f1 by omega]
    · rw [if_pos rfl, if_neg (by simp)]
theorem pendT_nil (t : Int) : ∀ (o : List S60) (p : List S39) (j : Nat), pendT t o p j = [] → ∀ (k : Nat) (hk : k < o.length) (hp : k < p.length), o[k].f2 = false → p[k].f2 < t
  | [], p, j, _, k, hk, _, _ => by simp at hk
  | a :: o, [], j, _, k, _, hp, _ => by simp at hp
  | a :: o, x :: p, j, h, k, hk, hp, hu => by
    simp only [pendT, List.append_eq_nil_iff] at h
    cases k with
    | zero =>
      simp only [List.getElem_cons_zero] at hu ⊢
      by_cases c : t ≤ x.f2
      · rw [if_pos ⟨hu, c⟩] at h
        exact absurd h.1 (by simp)
      · omega
    | succ k => exact pendT_nil t o p (j + 1) h.2 k (by simpa using hk) (by simpa using hp) (by simpa using hu)
theorem isort_perm {l l' : List Int} (h : l.Perm l') (hs : l'.Pairwise (fun a b => a ≤ b)) : isortI l = l' :=
  perm_sorted_eq (fun a _ b _ h1 h2 => Int.le_antisymm h1 h2) ((isortI_perm l).trans h) (isortI_sorted l) hs
section
variable {S : List S67} {o : List S60} {p : List S39}
theorem ebb_split (h : planGo S o (fun _ => 0) 0 = some p) (hs : o.Pairwise leA) (t : Int) (ht : 0 ≤ t) (hc : 0 ≤ capL S t) : (inT t o p 0 ++ outT t o p 0).take (capL S t).toNat = inT t o p 0 ∧ (inT t o p 0 ++ outT t o p 0).drop (capL S t).toNat = outT t o p 0 := by
  have hl := inT_len t o p 0
  have hw := plan_within S t _ _ _ _ h
  have hle : (inT t o p 0).length ≤ (capL S t).toNat := by omega
  by_cases c : (inT t o p 0).length = (capL S t).toNat
  · rw [← c]
    exact ⟨List.take_left, List.drop_left⟩
  · have hf := plan_full S t _ _ _ _ h hs ht (by omega)
    have ho : outT t o p 0 = [] := by
      clear hw hle c hl h hs
      generalize (0 : Nat) = j
      induction o generalizing p j with
      | nil => cases p <;> rfl
      | cons a o ih =>
        cases p with
        | nil => rfl
        | cons x p =>
          simp only [outT]
          rw [ih (fun z hz => hf z (by rw [List.zip_cons_cons]; exact List.mem_cons_of_mem _ hz)) (j + 1), if_neg]
          · rfl
          · rintro ⟨q1, q2, q3⟩
            have := hf (a, x) (by rw [List.zip_cons_cons]; exact List.mem_cons_self ..) q1 q3
            simp only at this
            omega
    rw [ho, List.append_nil]
    exact ⟨List.take_of_length_le hle, List.drop_of_length_le hle⟩
/-- Who is in at the begin of the tick t, by the plan. -/
def InBy (o : List S60) (p : List S39) (t : Int) (I : Int → Option Int) : Prop := ∀ (k : Nat) (hk : k < o.length) (hp : k < p.length), o[k].f2 = false → I (k : Int) = if p[k].f2 < t then some p[k].f2 else none
theorem ebb (h : planGo S o (fun _ => 0) 0 = some p) (hs : o.Pairwise leA) (hc : ∀ t, 0 ≤ t → 0 ≤ capL S t) (hm : Mono (o.zip p)) (sig : Int) : ∀ (k : Nat) (t : Int) (P : List (Int × Int)) (I I9 : Int → Option Int) (fell : Int), stormI S sig 1 k t P I = some (I9, fell) → fell < 0 → 0 ≤ t → P.Perm (pendT t o p 0) → InBy o p t I → ∀ (k : Nat) (hk : k < o.length) (hp : k < p.length), o[k].f2 = false → I9 (k : Int) = some p[k].f2
  | 0, _, _, _, _, _, q, _, _, _, _ => by cases q
  | k + 1, t, P, I, I9, fell, q, hf, ht, hP, hI => by
    have hlen := planGo_len S _ _ _ _ h
    unfold stormI at q
    by_cases c : P = []
    · rw [if_pos c] at q
      simp only [Option.some.injEq, Prod.mk.injEq] at q
      obtain ⟨rfl, rfl⟩ := q
      intro k hk hp hu
      rw [hI k hk hp hu, if_pos (pendT_nil t o p 0 (by rw [c] at hP; exact List.nil_perm.1 hP) k hk hp hu)]
    · rw [if_neg c] at q
      have hL : isortI (atT P t) = inT t o p 0 ++ outT t o p 0 := by
        rw [← tries_eq t o p 0 hm]
        refine isort_perm ?_ (tries_sorted t o p 0)
        unfold atT
        exact (hP.filter _).map _
      by_cases d : sig < (isortI (atT P t)).length
      · rw [if_pos d] at q
        simp only [Option.some.injEq, Prod.mk.injEq] at q
        omega
      · rw [if_neg d, hL] at q
        obtain ⟨e1, e2⟩ := ebb_split h hs t ht (hc t ht)
        rw [e1, e2] at q
        refine ebb h hs hc hm sig k (t + 1) _ _ I9 fell q hf (by omega) ?_ ?_
        · refine List.Perm.trans ?_ (step_perm t o p 0 hm)
          refine List.Perm.append_right _ ?_
          rw [← rest_eq t o p 0 hm]
          exact hP.filter _
        · intro n hn hp hu
          rw [setAll_eq]
          by_cases e : p[n].f2 = t
          · rw [if_pos ((inT_mem t o p 0 hlen.symm _).2 ⟨n, hn, hp, by simp, hu, e⟩), if_pos (by omega), e]
          · rw [if_neg (fun w => by
              obtain ⟨n', hn', hp', e1, _, e3⟩ := (inT_mem t o p 0 hlen.symm _).1 w
              have : n = n' := by omega
              subst this
              exact e e3), hI n hn hp hu]
            by_cases g : p[n].f2 < t
            · rw [if_pos g, if_pos (by omega)]
            · rw [if_neg g, if_neg (by omega)]
theorem out_plan (I : Int → Option Int) : ∀ (o : List S60) (p : List S39) (j : Nat), o.length = p.length → (∀ z ∈ o.zip p, z.2.f0 = z.1.f0 ∧ z.2.f1 = z.1.f1 ∧ (z.1.f2 = true → z.2.f2 = z.1.f1)) → (∀ (k : Nat) (hk : k < o.length) (hp : k < p.length), o[k].f2 = false → I ((j + k : Nat) : Int) = some p[k].f2) → stormOut I (-1) o j = p
  | [], p, j, h, _, _ => (List.eq_nil_of_length_eq_zero (by simpa using h.symm)).symm ▸ rfl
  | a :: o, [], j, h, _, _ => by simp at h
  | a :: o, x :: p, j, h, hz, hI => by
    have ih := out_plan I o p (j + 1) (by simpa using h) (fun z hzm => hz z (by rw [List.zip_cons_cons]; exact List.mem_cons_of_mem _ hzm)) (fun k hk hp hu => by
      have := hI (k + 1) (by simpa using hk) (by simpa using hp) (by simpa using hu)
      rw [show j + 1 + k = j + (k + 1) by omega]
      simpa using this)
    have h0 := hz (a, x) (by rw [List.zip_cons_cons]; exact List.mem_cons_self ..)
    simp only at h0
    obtain ⟨x0, x1, x2⟩ := x
    simp only at h0
    simp only [stormOut]
    rw [ih]
    by_cases hu : a.f2 = true
    · rw [if_pos hu, if_neg (by omega), ← h0.1, ← h0.2.1, h0.2.2 hu, h0.2.1]
      rfl
    · rw [if_neg hu]
      have := hI 0 (by simp) (by simp) (by simpa using hu)
      rw [Nat.add_zero] at this
      simp only [List.getElem_cons_zero] at this
      rw [this, ← h0.1, ← h0.2.1]
      rfl
end
end Go.Proofs.Ytcldldmedphcfaa.C
