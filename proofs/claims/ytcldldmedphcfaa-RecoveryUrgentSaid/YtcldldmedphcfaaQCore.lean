import Derived.Test.YtcldldmedphcfaaQEarly
import Derived.Test.YtcldldmedphcfaaQCap
/- The plan lets in by each tick at least as many as any other assignment. Condition: a plan of attempts in their order. -/
namespace Go.Proofs.Ytcldldmedphcfaa.C
open Go.RowKit Go.Proofs.YtcldldmedphcfaaW.PrintWords Go.Proofs.YtcldldmedphcfaaW.PrintLast Go.Proofs.YtcldldmedphcfaaW.PrintMore
set_option linter.unusedVariables false
set_option linter.unusedSimpArgs false
/-- How many who are not urgent are let in by the tick T. -/
def leZ (Z : List (S60 × S39)) (T : Int) : Nat := Z.countP (fun z => !z.1.f2 && decide (z.2.f2 ≤ T))
/-- How many who are not urgent try first by the tick T. -/
def leO (o : List S60) (T : Int) : Nat := o.countP (fun a => !a.f2 && decide (a.f1 ≤ T))
theorem leZ_step (Z : List (S60 × S39)) (T : Int) : leZ Z T = leZ Z (T - 1) + cntZ Z T := by
  induction Z with
  | nil => rfl
  | cons z Z ih =>
    unfold leZ cntZ at *
    simp only [List.countP_cons]
    rw [ih]
    cases z.1.f2
    · by_cases c : z.2.f2 = T
      · simp only [Bool.not_false, Bool.true_and, decide_eq_true c, decide_eq_true (show z.2.f2 ≤ T by omega), decide_eq_false (show ¬ z.2.f2 ≤ T - 1 by omega), if_true, Bool.false_eq_true, if_false]
        omega
      · by_cases d : z.2.f2 ≤ T
        · simp only [Bool.not_false, Bool.true_and, decide_eq_false c, decide_eq_true d, decide_eq_true (show z.2.f2 ≤ T - 1 by omega), if_true, Bool.false_eq_true, if_false]
          omega
        · simp only [Bool.not_false, Bool.true_and, decide_eq_false c, decide_eq_false d, decide_eq_false (show ¬ z.2.f2 ≤ T - 1 by omega), if_true, Bool.false_eq_true, if_false]
          omega
    · simp only [Bool.not_true, Bool.false_and, Bool.false_eq_true, if_false]
      omega
theorem zip_fst (o : List S60) (p : List S39) (h : o.length = p.length) : (o.zip p).map Prod.fst = o := List.map_fst_zip (Nat.le_of_eq h)
theorem leO_zip (o : List S60) (p : List S39) (h : o.length = p.length) (T : Int) : leO o T = (o.zip p).countP (fun z => !z.1.f2 && decide (z.1.f1 ≤ T)) := by
  unfold leO
  conv => lhs; rw [← zip_fst o p h]
  rw [List.countP_map]
  rfl
theorem leO_perm {l l' : List S60} (h : l.Perm l') (T : Int) : leO l T = leO l' T := h.countP_eq _
theorem planGo_len (S : List S67) : ∀ (l : List S60) (g : Int → Int) (b : Int) (p : List S39), planGo S l g b = some p → p.length = l.length := fun l g b p h => by
  have := congrArg List.length (planGo_keys S l g b p h).1
  simpa using this
/-- THE EARLIEST: C T is how many another assignment lets in by the tick T. -/
theorem earliest {S : List S67} {o : List S60} {p : List S39} (h : planGo S o (fun _ => 0) 0 = some p) (hs : o.Pairwise leA) (C : Int → Int) (M : Nat) (h0 : C (-1) ≤ 0) (hc : ∀ T : Int, 0 ≤ T → T ≤ M → C T ≤ C (T - 1) + capL S T) (hl : ∀ T : Int, 0 ≤ T → T ≤ M → C T ≤ leO o T) : ∀ T : Nat, T ≤ M → C T ≤ leZ (o.zip p) T := by
  have hlen := planGo_len S _ _ _ _ h
  have key : ∀ T : Nat, T ≤ M → C ((T : Int) - 1) ≤ leZ (o.zip p) ((T : Int) - 1) → C T ≤ leZ (o.zip p) T := by
    intro T hT hprev
    have h1 := hc T (by omega) (by omega)
    have h2 := hl T (by omega) (by omega)
    have h3 := leZ_step (o.zip p) T
    by_cases c : (cntZ (o.zip p) T : Int) < capL S T
    · have hf := plan_full S T o (fun _ => 0) 0 p h hs (by omega) (by simpa using c)
      have : leO o T ≤ leZ (o.zip p) T := by
        rw [leO_zip o p hlen.symm]
        unfold leZ
        refine List.countP_mono_left (fun z hz hb => ?_)
        simp only [Bool.and_eq_true, Bool.not_eq_true', decide_eq_true_eq] at hb ⊢
        exact ⟨hb.1, hf z hz hb.1 hb.2⟩
      omega
    · omega
  intro T
  induction T with
  | zero =>
    intro hT
    exact key 0 hT (by simp only [Int.natCast_zero]; have : (0:Int) - 1 = -1 := rfl; rw [this]; omega)
  | succ n ih =>
    intro hT
    refine key (n + 1) hT ?_
    have e : ((n + 1 : Nat) : Int) - 1 = (n : Int) := by omega
    rw [e]
    exact ih (by omega)
/-- How many of pairs (first, tick) have a tick by T, at T, and a first one by T. -/
def cLe (E : List (Int × Int)) (T : Int) : Nat := E.countP (fun e => decide (e.2 ≤ T))
def cAt (E : List (Int × Int)) (T : Int) : Nat := E.countP (fun e => decide (e.2 = T))
def cFst (E : List (Int × Int)) (T : Int) : Nat := E.countP (fun e => decide (e.1 ≤ T))
theorem cLe_step (E : List (Int × Int)) (T : Int) : cLe E T = cLe E (T - 1) + cAt E T := by
  induction E with
  | nil => rfl
  | cons z E ih =>
    unfold cLe cAt at *
    simp only [List.countP_cons]
    rw [ih]
    by_cases c : z.2 = T
    · simp only [decide_eq_true c, decide_eq_true (show z.2 ≤ T by omega), decide_eq_false (show ¬ z.2 ≤ T - 1 by omega), if_true, Bool.false_eq_true, if_false]
      omega
    · by_cases d : z.2 ≤ T
      · simp only [decide_eq_false c, decide_eq_true d, decide_eq_true (show z.2 ≤ T - 1 by omega), if_true, Bool.false_eq_true, if_false]
        omega
      · simp only [decide_eq_false c, decide_eq_false d, decide_eq_false (show ¬ z.2 ≤ T - 1 by omega), if_true, Bool.false_eq_true, if_false]
        omega
/-- The earliest, by pairs: each (first, tick) of some who are not urgent. -/
theorem earliest_pairs {S : List S67} {o : List S60} {p : List S39} (h : planGo S o (fun _ => 0) 0 = some p) (hs : o.Pairwise leA) (E : List (Int × Int)) (M : Nat) (hE : ∀ e ∈ E, 0 ≤ e.1 ∧ e.1 ≤ e.2) (hc : ∀ T : Int, 0 ≤ T → T ≤ M → (cAt E T : Int) ≤ capL S T) (hl : ∀ T : Int, 0 ≤ T → T ≤ M → cFst E T ≤ leO o T) (T : Nat) (hT : T ≤ M) : cLe E T ≤ leZ (o.zip p) T := by
  have := earliest h hs (fun T => (cLe E T : Int)) M ?_ (fun T h0 h1 => ?_) (fun T h0 h1 => ?_) T hT
  · omega
  · have : cLe E (-1) = 0 := List.countP_eq_zero.2 (fun e he => by
      have := hE e he
      simp only [decide_eq_true_eq]
      omega)
    simp only [this]
    omega
  · have h2 := hc T h0 h1
    have h3 := cLe_step E T
    omega
  · have h2 := hl T h0 h1
    have h3 : cLe E T ≤ cFst E T := List.countP_mono_left (fun e he hb => by
      have := hE e he
      simp only [decide_eq_true_eq] at hb ⊢
      omega)
    omega
/-- All who are let in by T: the urgent ones, who come at once, and the others. -/
theorem in_count {S : List S67} {s : Int} {l : List S60} {p : List S39} (h : PlanOf S s l p) (T : Int) : p.countP (fun x => decide (x.f2 ≤ T)) = leZ ((sortAtts l).zip p) T + l.countP (fun a => a.f2 && decide (a.f1 ≤ T)) := by
  have hlen := planGo_len S _ _ _ _ h.go_
  have hz := plan_zip S _ _ _ _ h.go_
  rw [← (sortAtts_perm l).1.countP_eq (fun a => a.f2 && decide (a.f1 ≤ T))]
  generalize sortAtts l = o at hlen hz
  clear h
  induction o generalizing p with
  | nil =>
    have : p = [] := List.eq_nil_of_length_eq_zero (by simpa using hlen)
    subst this
    rfl
  | cons a o ih =>
    cases p with
    | nil => simp at hlen
    | cons x p =>
      have h1 := hz (a, x) (by rw [List.zip_cons_cons]; exact List.mem_cons_self ..)
      have h2 := ih (p := p) (by simpa using hlen) (fun z hz' => hz z (by rw [List.zip_cons_cons]; exact List.mem_cons_of_mem _ hz'))
      unfold leZ at h2 ⊢
      rw [List.zip_cons_cons, List.countP_cons, List.countP_cons, List.countP_cons, h2]
      dsimp only at h1 ⊢
      cases hu : a.f2
      · simp only [Bool.not_false, Bool.true_and, Bool.false_and, Bool.false_eq_true, if_false]
        omega
      · have e := h1.2.2.2.1 hu
        rw [e]
        simp only [Bool.not_true, Bool.true_and, Bool.false_and, Bool.false_eq_true, if_false]
        omega
end Go.Proofs.Ytcldldmedphcfaa.C
