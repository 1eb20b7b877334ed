import Derived.Test.YtcldldmedphcfaaQMove
import Derived.Test.YtcldldmedphcfaaHSafe
/- The loads of ticks in plain words. Condition: a plan of attempts in their order. -/
namespace Go.Proofs.Ytcldldmedphcfaa.C
open Go.RowKit Go.Proofs.YtcldldmedphcfaaW.PrintWords Go.Proofs.YtcldldmedphcfaaW.PrintLast Go.Proofs.YtcldldmedphcfaaW.PrintMore
set_option linter.unusedVariables false
set_option linter.unusedSimpArgs false
/-- How many who are not urgent try first at t. -/
def firstAt (o : List S60) (t : Int) : Nat := o.countP (fun a => !a.f2 && decide (a.f1 = t))
/-- How many who are not urgent there are. -/
def calm (o : List S60) : Nat := o.countP (fun a => !a.f2)
theorem firstAt_perm {l l' : List S60} (h : l.Perm l') (T : Int) : firstAt l T = firstAt l' T := h.countP_eq _
theorem calm_perm {l l' : List S60} (h : l.Perm l') : calm l = calm l' := h.countP_eq _
theorem load_bounds (t : Int) : ∀ (o : List S60) (p : List S39), o.length = p.length → (firstAt o t : Int) ≤ loadFn o p t ∧ loadFn o p t ≤ firstAt o t + cntZ (o.zip p) t
  | [], p, h => by
    have : p = [] := List.eq_nil_of_length_eq_zero (by simpa using h.symm)
    subst this
    simp [firstAt, loadFn, cntZ]
  | a :: o, [], h => by simp at h
  | a :: o, x :: p, h => by
    have ih := load_bounds t o p (by simpa using h)
    unfold firstAt cntZ at *
    rw [List.zip_cons_cons, List.countP_cons, List.countP_cons]
    simp only [loadFn]
    cases hu : a.f2
    · simp only [Bool.not_false, Bool.true_and, decide_eq_true_eq, Bool.false_eq_true, if_false]
      by_cases c : a.f1 = t
      · simp only [if_pos c]
        by_cases d : x.f2 = t
        · simp only [if_pos d]
          split <;> omega
        · rw [if_neg d, if_neg (fun q => d q.2)]
          omega
      · simp only [if_neg c]
        by_cases d : x.f2 = t
        · simp only [if_pos d]
          split <;> omega
        · rw [if_neg d, if_neg (fun q => d q.2)]
          omega
    · simp only [Bool.not_true, Bool.false_and, Bool.false_eq_true, if_false, if_true]
      omega
/-- The sum of the first n values. -/
def sumI (f : Int → Int) : Nat → Int
  | 0 => 0
  | n + 1 => sumI f n + f n
theorem sumI_add (f g : Int → Int) : ∀ n, sumI (fun t => f t + g t) n = sumI f n + sumI g n
  | 0 => rfl
  | n + 1 => by
    simp only [sumI]
    rw [sumI_add f g n]
    omega
theorem sumI_zero : ∀ n, sumI (fun _ => 0) n = 0
  | 0 => rfl
  | n + 1 => by
    simp only [sumI]
    rw [sumI_zero n]
    rfl
theorem sumI_one (x : Int) : ∀ n : Nat, sumI (fun t => if x = t then 1 else 0) n = if 0 ≤ x ∧ x < n then 1 else 0
  | 0 => by
    simp only [sumI]
    rw [if_neg (by omega)]
  | n + 1 => by
    simp only [sumI]
    rw [sumI_one x n]
    by_cases c : x = n
    · rw [if_pos c, if_neg (by omega), if_pos (by omega)]
      rfl
    · rw [if_neg c]
      by_cases d : 0 ≤ x ∧ x < n
      · rw [if_pos d, if_pos (by omega)]
        rfl
      · rw [if_neg d, if_neg (by omega)]
        rfl
theorem sumI_congr {f g : Int → Int} (n : Nat) (h : ∀ t : Int, f t = g t) : sumI f n = sumI g n := by
  rw [show f = g from funext h]
theorem load_sum (n : Nat) : ∀ (o : List S60) (p : List S39), o.length = p.length → (∀ a ∈ o, 0 ≤ a.f1 ∧ a.f1 < n) → (∀ x ∈ p, 0 ≤ x.f2 ∧ x.f2 < n) → (calm o : Int) ≤ sumI (loadFn o p) n ∧ sumI (loadFn o p) n ≤ 2 * calm o
  | [], p, h, _, _ => by
    have e : sumI (loadFn [] p) n = 0 := (sumI_congr n (fun t => by cases p <;> rfl)).trans (sumI_zero n)
    rw [e]
    simp [calm]
  | a :: o, [], h, _, _ => by simp at h
  | a :: o, x :: p, h, h1, h2 => by
    have ih := load_sum n o p (by simpa using h) (fun b hb => h1 b (List.mem_cons_of_mem _ hb)) (fun b hb => h2 b (List.mem_cons_of_mem _ hb))
    have ha := h1 a (List.mem_cons_self ..)
    have hx := h2 x (List.mem_cons_self ..)
    unfold calm at *
    rw [List.countP_cons]
    cases hu : a.f2
    · simp only [Bool.not_false, if_true]
      by_cases c : a.f1 < x.f2
      · have e : sumI (loadFn (a :: o) (x :: p)) n = (1 + 1) + sumI (loadFn o p) n := by
          rw [sumI_congr (g := fun t => ((if a.f1 = t then 1 else 0) + (if x.f2 = t then 1 else 0)) + loadFn o p t) n (fun t => by
            simp only [loadFn]
            rw [if_neg (by rw [hu]; exact Bool.false_ne_true)]
            by_cases d : x.f2 = t
            · simp only [if_pos (show a.f1 < x.f2 ∧ x.f2 = t from ⟨c, d⟩), if_pos d]
            · simp only [if_neg (show ¬ (a.f1 < x.f2 ∧ x.f2 = t) from fun q => d q.2), if_neg d])]
          rw [sumI_add (fun t => (if a.f1 = t then 1 else 0) + (if x.f2 = t then 1 else 0)) (loadFn o p), sumI_add (fun t => if a.f1 = t then 1 else 0) (fun t => if x.f2 = t then 1 else 0), sumI_one, sumI_one, if_pos ha, if_pos hx]
        rw [e]
        omega
      · have e : sumI (loadFn (a :: o) (x :: p)) n = 1 + sumI (loadFn o p) n := by
          rw [sumI_congr (g := fun t => (if a.f1 = t then 1 else 0) + loadFn o p t) n (fun t => by
            simp only [loadFn]
            rw [if_neg (by rw [hu]; exact Bool.false_ne_true)]
            simp only [if_neg (show ¬ (a.f1 < x.f2 ∧ x.f2 = t) from fun q => c q.1)]
            omega)]
          rw [sumI_add (fun t => if a.f1 = t then 1 else 0) (loadFn o p), sumI_one, if_pos ha]
        rw [e]
        omega
    · have e : sumI (loadFn (a :: o) (x :: p)) n = sumI (loadFn o p) n := sumI_congr n (fun t => by
        simp only [loadFn]
        rw [if_pos hu]
        omega)
      rw [e]
      simp only [Bool.not_true, Bool.false_eq_true, if_false]
      omega
theorem load_filter (t : Int) : ∀ (o : List S60) (p : List S39), o.length = p.length → loadFn (o.filter (fun a => !a.f2)) (((o.zip p).filter (fun z => !z.1.f2)).map (fun z => z.2)) t = loadFn o p t
  | [], p, h => by cases p <;> rfl
  | a :: o, [], h => by simp at h
  | a :: o, x :: p, h => by
    have ih := load_filter t o p (by simpa using h)
    cases hu : a.f2
    · rw [List.zip_cons_cons, List.filter_cons_of_pos (by simp [hu]), List.filter_cons_of_pos (by simp [hu]), List.map_cons]
      simp only [loadFn]
      rw [ih]
    · rw [List.zip_cons_cons, List.filter_cons_of_neg (by simp [hu]), List.filter_cons_of_neg (by simp [hu]), ih]
      simp only [loadFn]
      rw [if_pos hu]
      omega
/-- No ticket is later than M + the number of attempts, where from M on there is room at each tick. -/
theorem planGo_low {S : List S67} (M : Int) (hM : ∀ t, M ≤ t → 0 < capL S t) : ∀ (l : List S60) (g : Int → Int) (b : Int) (p : List S39), planGo S l g b = some p → (∀ j, b < j → g j = 0) → (∀ a ∈ l, a.f1 ≤ M) → ∀ x ∈ p, x.f2 ≤ max b M + l.length
  | [], g, b, p, h, _, _, x, hx => by
    simp only [planGo, Option.some.injEq] at h
    subst h
    cases hx
  | a :: l, g, b, p, h, hg, hl, x, hx => by
    have ha := hl a (List.mem_cons_self ..)
    have hl' : ∀ c ∈ l, c.f1 ≤ M := fun c hc => hl c (List.mem_cons_of_mem _ hc)
    simp only [planGo] at h
    rw [List.length_cons]
    by_cases hu : a.f2 = true
    · rw [if_pos hu] at h
      obtain ⟨q, hq, rfl⟩ := Option.map_eq_some_iff.1 h
      rcases List.mem_cons.1 hx with rfl | hx
      · simp only
        omega
      · have := planGo_low M hM l g b q hq hg hl' x hx
        omega
    · rw [if_neg hu] at h
      obtain ⟨t, ht, h⟩ := Option.bind_eq_some_iff.1 h
      obtain ⟨q, hq, rfl⟩ := Option.map_eq_some_iff.1 h
      have hbd := findOpen_bd _ _ _ _ _ ht
      have hle : t ≤ max (b + 1) M := findOpen_le S g _ _ t _ ht (by omega) (by rw [hg _ (by omega)]; exact hM _ (by omega))
      rcases List.mem_cons.1 hx with rfl | hx
      · simp only
        omega
      · have := planGo_low M hM l (inc g t) t q hq (fun j hj => by unfold inc; rw [if_neg (by omega)]; exact hg j (by omega)) hl' x hx
        omega
theorem cap_tail_low (M : Int) : ∀ (l : List S67) (lf lc t : Int), validFrom l lf lc = true → (∀ x ∈ l, x.f0 ≤ M) → M ≤ t → l ≠ [] → 0 < (rd_T67 l (fa t l - 1)).f1 ∧ fa t l = l.length ∧ (rd_T67 l (fa t l - 1)) = rd_T67 l ((l.length : Int) - 1)
  | [], _, _, _, _, _, _, h => absurd rfl h
  | x :: l, lf, lc, t, h, hM, ht, _ => by
    have hx := hM x (List.mem_cons_self ..)
    simp only [validFrom] at h
    by_cases c : (lf + 1 ≤ x.f0 ∧ x.f0 ≤ 1000) ∧ (lc ≤ x.f1 ∧ x.f1 ≤ 20)
    · rw [if_pos c] at h
      have hfa : fa t (x :: l) = 1 + fa t l := by
        simp only [fa]
        rw [if_neg (by omega)]
      by_cases hl : l = []
      · subst hl
        simp only [validFrom, decide_eq_true_eq] at h
        rw [hfa]
        simp only [fa]
        exact ⟨by simpa [rd_T67] using h, rfl, rfl⟩
      · obtain ⟨h1, h2, h3⟩ := cap_tail_low M l x.f0 x.f1 t h (fun y hy => hM y (List.mem_cons_of_mem _ hy)) ht hl
        have hlen : fa t (x :: l) = ((x :: l).length : Int) := by rw [hfa, h2, List.length_cons]; omega
        refine ⟨?_, hlen, by rw [hlen]⟩
        rw [hfa]
        have hp : 0 < l.length := List.length_pos_iff.2 hl
        have e : (1 + fa t l - 1).toNat = (fa t l - 1).toNat + 1 := by omega
        unfold rd_T67 at h1 ⊢
        rw [e, List.getD_cons_succ]
        exact h1
    · rw [if_neg c] at h
      cases h
theorem Reg.cap_pos {S : List S67} {s : Int} (h : Reg S s) (t : Int) (ht : 50 ≤ t) : 0 < capL S t ∧ capL S t = (rd_T67 S ((S.length : Int) - 1)).f1 := by
  obtain ⟨h1, h2, _⟩ := validB_from h.valid
  have := cap_tail_low 50 S (-1) 0 t h1 h.low ht h2
  exact ⟨this.1, congrArg S67.f1 this.2.2⟩
theorem reg_plan {S : List S67} {s : Int} {l : List S60} {p : List S39} (h : Reg S s) (ha : Atts l) (hp : PlanOf S s l p) : ∀ x ∈ p, 0 ≤ x.f2 ∧ x.f2 ≤ 70 := fun x hx => by
  have h1 := hp.bd x hx
  have h2 := planGo_low 50 (fun t ht => (h.cap_pos t ht).1) _ _ _ _ hp.go_ (fun _ _ => rfl) (fun a hm => by have := ha.at_ a ((sortAtts_perm l).1.mem_iff.1 hm); omega) x hx
  have h3 := (sortAtts_perm l).2
  have h4 := ha.len
  omega
/-- The capacities never fall. -/
theorem cap_mono_go : ∀ (l : List S67) (lf lc t u : Int), validFrom l lf lc = true → t ≤ u → lf ≤ t → lc ≤ (if fa t l = 0 then lc else (rd_T67 l (fa t l - 1)).f1) ∧ (if fa t l = 0 then lc else (rd_T67 l (fa t l - 1)).f1) ≤ (if fa u l = 0 then lc else (rd_T67 l (fa u l - 1)).f1)
  | [], lf, lc, t, u, h, htu, hl => by simp [fa]
  | x :: l, lf, lc, t, u, h, htu, hl => by
    simp only [validFrom] at h
    by_cases c : (lf + 1 ≤ x.f0 ∧ x.f0 ≤ 1000) ∧ (lc ≤ x.f1 ∧ x.f1 ≤ 20)
    · rw [if_pos c] at h
      have rdx : ∀ n : Nat, (rd_T67 (x :: l) (1 + (n : Int) - 1)).f1 = if (n : Int) = 0 then x.f1 else (rd_T67 l ((n : Int) - 1)).f1 := fun n => by
        cases n with
        | zero => rfl
        | succ n =>
          rw [if_neg (by omega)]
          unfold rd_T67
          rw [show (1 + ((n + 1 : Nat) : Int) - 1).toNat = n + 1 by omega, List.getD_cons_succ, show (((n + 1 : Nat) : Int) - 1).toNat = n by omega]
      have fan : ∀ v, ∃ n : Nat, fa v l = n := fun v => ⟨(fa v l).toNat, by have := fa_bd v l; omega⟩
      by_cases ct : t < x.f0
      · have e1 : fa t (x :: l) = 0 := by
          simp only [fa]
          rw [if_pos (by omega)]
        rw [if_pos e1]
        refine ⟨Int.le_refl _, ?_⟩
        by_cases cu : u < x.f0
        · have e2 : fa u (x :: l) = 0 := by
            simp only [fa]
            rw [if_pos (by omega)]
          rw [if_pos e2]
          exact Int.le_refl _
        · have e2 : fa u (x :: l) = 1 + fa u l := by
            simp only [fa]
            rw [if_neg (by omega)]
          obtain ⟨n, hn⟩ := fan u
          have ih := cap_mono_go l x.f0 x.f1 u u h (Int.le_refl _) (by omega)
          rw [e2, hn, rdx n, if_neg (by omega)]
          rw [hn] at ih
          omega
      · have e1 : fa t (x :: l) = 1 + fa t l := by
          simp only [fa]
          rw [if_neg (by omega)]
        have e2 : fa u (x :: l) = 1 + fa u l := by
          simp only [fa]
          rw [if_neg (by omega)]
        obtain ⟨n, hn⟩ := fan t
        obtain ⟨m, hm⟩ := fan u
        have ih := cap_mono_go l x.f0 x.f1 t u h htu (by omega)
        rw [e1, e2, hn, hm, rdx n, rdx m, if_neg (show ¬ (1 + (n : Int) = 0) by omega), if_neg (show ¬ (1 + (m : Int) = 0) by omega)]
        rw [hn, hm] at ih
        omega
    · rw [if_neg c] at h
      cases h
theorem cap_mono {S : List S67} {s : Int} (h : validB S s = true) (t u : Int) (ht : 0 ≤ t) (htu : t ≤ u) : capL S t ≤ capL S u := by
  have h1 := fa_valid h t ht
  have h2 := fa_valid h u (by omega)
  have := (cap_mono_go S (-1) 0 t u (validB_from h).1 htu (by omega)).2
  rw [if_neg (by omega), if_neg (by omega)] at this
  exact this
end Go.Proofs.Ytcldldmedphcfaa.C
