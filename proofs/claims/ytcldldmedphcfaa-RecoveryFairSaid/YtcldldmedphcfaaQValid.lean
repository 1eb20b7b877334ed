import Derived.Test.YtcldldmedphcfaaCValid
import Derived.Test.YtcldldmedphcfaaHReady
import Derived.Test.YtcldldmedphcfaaHCapacity
/- What recovery.Valid answers, in plain words; the capacity of a valid region. Condition: none. -/
namespace Go.Proofs.Ytcldldmedphcfaa.C
open Go.RowKit Go.Proofs.YtcldldmedphcfaaW.PrintWords Go.Proofs.YtcldldmedphcfaaW.PrintLast Go.Proofs.YtcldldmedphcfaaW.PrintMore
set_option linter.unusedVariables false
/-- Steps that come one after the other, behind a step that begins at lf with the capacity lc. -/
def validFrom : List S67 → Int → Int → Bool
  | [], _, lc => decide (lc > 0)
  | x :: l, lf, lc => if (lf + 1 ≤ x.f0 ∧ x.f0 ≤ 1000) ∧ (lc ≤ x.f1 ∧ x.f1 ≤ 20) then validFrom l x.f0 x.f1 else false
def validB (l : List S67) (s : Int) : Bool := if (1 ≤ (l.length : Int) ∧ (l.length : Int) ≤ 10) ∧ (1 ≤ s ∧ s ≤ 100) ∧ (rd_T67 l 0).f0 = 0 then validFrom l (-1) 0 else false
theorem within_eq (x a b : Int) : recovery_isWithin.f x a b = some (decide (a ≤ x ∧ x ≤ b)) := by
  by_cases h : a ≤ x ∧ x ≤ b
  · rw [within_true x a b h, decide_eq_true h]
  · rw [within_false x a b h, decide_eq_false h]
theorem valid_l0 (l : List S67) (hl : l.length ≤ 10) (m : Nat) : ∀ (i : Nat) (lf lc : Int), i + m = l.length → -1 ≤ lf → lf ≤ 1000 → Ev (fun k => recovery_Valid.l0 k l (l.length : Int) (i : Int) lf lc) (validFrom (l.drop i) lf lc) := by
  induction m with
  | zero =>
    intro i lf lc h h1 h2
    rw [List.drop_eq_nil_of_le (by omega)]
    refine Ev.step (fun k => ?_) (Ev.now (decide (lc > 0)))
    simp only [recovery_Valid.l0]
    rw [if_neg (by omega)]
  | succ m ih =>
    intro i lf lc h h1 h2
    have hd := drop_rd67 l i (by omega) (by omega)
    rw [show ((i : Int) + 1).toNat = i + 1 by omega, Int.toNat_natCast] at hd
    rw [hd]
    have hw : wrap64 (lf + 1) = lf + 1 := by unfold wrap64; omega
    have hw2 : ∀ _ : Unit, wrap64 ((i : Int) + 1) = ((i + 1 : Nat) : Int) := fun _ => by unfold wrap64; omega
    simp only [validFrom]
    refine Ev.step (f := fun k => (recovery_isWithin.f ((rd_T67 l i).f0) (lf + 1) 1000).bind fun t108 => (if t108 = true then ((recovery_isWithin.f ((rd_T67 l i).f1) lc 20).bind fun t109 => (recovery_Valid.j2 k l (l.length : Int) i (!t109) ((rd_T67 l i).f0) ((rd_T67 l i).f1))) else (recovery_Valid.j2 k l (l.length : Int) i true ((rd_T67 l i).f0) ((rd_T67 l i).f1)))) (fun k => ?_) ?_
    · simp only [recovery_Valid.l0]
      rw [if_pos (by omega), if_pos (by omega), if_pos (by omega), hw]
    · simp only [within_eq, Option.bind_some]
      by_cases c1 : lf + 1 ≤ (rd_T67 l i).f0 ∧ (rd_T67 l i).f0 ≤ 1000
      · simp only [decide_eq_true c1, if_true]
        by_cases c2 : lc ≤ (rd_T67 l i).f1 ∧ (rd_T67 l i).f1 ≤ 20
        · rw [if_pos ⟨c1, c2⟩]
          simp only [decide_eq_true c2, Bool.not_true]
          refine Ev.step (f := fun k => recovery_Valid.l0 k l (l.length : Int) ((i + 1 : Nat) : Int) (rd_T67 l i).f0 (rd_T67 l i).f1) (fun k => ?_) (ih (i + 1) _ _ (by omega) (by omega) (by omega))
          simp only [recovery_Valid.j2, Bool.false_eq_true, if_false, hw2 ()]
        · rw [if_neg (fun q => c2 q.2)]
          simp only [decide_eq_false c2, Bool.not_false]
          exact Ev.step (fun k => by simp only [recovery_Valid.j2, if_true]) (Ev.now false)
      · rw [if_neg (fun q => c1 q.1)]
        simp only [decide_eq_false c1, Bool.false_eq_true, if_false]
        exact Ev.step (fun k => by simp only [recovery_Valid.j2, if_true]) (Ev.now false)
theorem valid_ok (l : List S67) (s : Int) : Ev (fun k => recovery_Valid.f k l s) (validB l s) := by
  unfold recovery_Valid.f validB
  simp only [within_eq, Option.bind_some]
  by_cases c1 : 1 ≤ (l.length : Int) ∧ (l.length : Int) ≤ 10
  · simp only [decide_eq_true c1, if_true]
    by_cases c2 : 1 ≤ s ∧ s ≤ 100
    · simp only [decide_eq_true c2, if_true, if_pos (show 0 < (l.length : Int) by omega)]
      by_cases c3 : (rd_T67 l 0).f0 = 0
      · rw [if_pos ⟨c1, c2, c3⟩]
        refine Ev.step (f := fun k => recovery_Valid.l0 k l (l.length : Int) ((0 : Nat) : Int) (-1) 0) (fun k => ?_) (valid_l0 l (by omega) l.length 0 (-1) 0 (by omega) (by omega) (by omega))
        simp only [recovery_Valid.j0]
        rw [if_neg (by simp [c3])]
        rfl
      · rw [if_neg (fun q => c3 q.2.2)]
        refine Ev.step (fun k => ?_) (Ev.now false)
        simp only [recovery_Valid.j0]
        rw [if_pos (by simpa using c3)]
    · rw [if_neg (fun q => c2 q.2.1)]
      simp only [decide_eq_false c2, Bool.false_eq_true, if_false]
      exact Ev.step (fun k => by simp only [recovery_Valid.j0, if_true]) (Ev.now false)
  · rw [if_neg (fun q => c1 q.1)]
    simp only [decide_eq_false c1, Bool.false_eq_true, if_false]
    exact Ev.step (fun k => by simp only [recovery_Valid.j0, if_true]) (Ev.now false)
/-- The capacity at a tick. -/
def capL (l : List S67) (t : Int) : Int := (rd_T67 l (fa t l - 1)).f1
theorem fa_valid {l : List S67} {s : Int} (h : validB l s = true) (t : Int) (ht : 0 ≤ t) : 0 < fa t l := by
  unfold validB at h
  by_cases c : (1 ≤ (l.length : Int) ∧ (l.length : Int) ≤ 10) ∧ (1 ≤ s ∧ s ≤ 100) ∧ (rd_T67 l 0).f0 = 0
  · obtain ⟨x, l', rfl⟩ := List.exists_cons_of_length_pos (show 0 < l.length by omega)
    have hx : x.f0 = 0 := c.2.2
    have := (fa_bd t l').1
    simp only [fa]
    rw [if_neg (by omega)]
    omega
  · rw [if_neg c] at h
    cases h
theorem cap_valid {l : List S67} {s : Int} (h : validB l s = true) (t : Int) (ht : 0 ≤ t) (x : Int) : recovery_capacity.f l x t = some (capL l t) := by
  unfold recovery_capacity.f
  rw [if_pos (fa_valid h t ht)]
  rfl
end Go.Proofs.Ytcldldmedphcfaa.C
