import Derived.Test.YtcldldmedphcfaaFWithin
import Derived.Test.YtcldldmedphcfaaQSane
import Derived.Test.YtcldldmedphcfaaQMatch
import Derived.Test.YtcldldmedphcfaaQRd
import Derived.Test.YtcldldmedphcfaaQCap
/- RecoveryWithin, in plain words. Condition: none. -/
namespace Go.Proofs.Ytcldldmedphcfaa.C
open Go.RowKit Go.Proofs.YtcldldmedphcfaaW.PrintWords Go.Proofs.YtcldldmedphcfaaW.PrintLast Go.Proofs.YtcldldmedphcfaaW.PrintMore
set_option linter.unusedVariables false
def wiB (a : S60) (T : Int) (x : S39) : Bool := decide (x.f0 = a.f0) && (decide (x.f2 = T) && !a.f2)
section
variable {l : List S60} {p : List S39} {T c : Int} (hl : l.length < 100000) (hp : p.length < 100000)
include hl hp
theorem within_l1 (i : Nat) (hi : i < l.length) (hm : ∀ x ∈ p, x.f0 = (rd_T60 l i).f0 → x.f1 = (rd_T60 l i).f1 ∧ (rd_T60 l i).f1 ≤ x.f2) (N : Nat) (hN : N < 1000000) (h0 : Ev (fun k => dialtonelaw34_RecoveryWithin.l0 k l p T c (N : Int) ((i + 1 : Nat) : Int)) true) (n : Nat) : ∀ j m tk : Nat, j + n = p.length → m + (p.drop j).countP (fun x => decide (x.f0 = (rd_T60 l i).f0)) = 1 → tk + (p.drop j).countP (wiB (rd_T60 l i) T) = N → Ev (fun k => dialtonelaw34_RecoveryWithin.l1 k l p T c (tk : Int) (i : Int) (m : Int) (j : Int)) true := by
  induction n with
  | zero =>
    intro j m tk hj h1 h2
    rw [List.drop_eq_nil_of_le (by omega)] at h1 h2
    simp only [List.countP_nil, Nat.add_zero] at h1 h2
    subst h1 h2
    refine Ev.step (fun k => ?_) h0
    simp only [dialtonelaw34_RecoveryWithin.l1]
    rw [if_neg (by omega), if_pos (by rfl), show wrap64 ((i : Int) + 1) = ((i + 1 : Nat) : Int) by unfold wrap64; omega]
  | succ n ih =>
    intro j m tk hj h1 h2
    have hw : ∀ _ : Unit, wrap64 ((j : Int) + 1) = ((j + 1 : Nat) : Int) := fun _ => by unfold wrap64; omega
    have hmj := hm _ (rd39_mem p j (by omega))
    rw [drop39 p j (by omega), List.countP_cons] at h1 h2
    by_cases e : (rd_T39 p j).f0 = (rd_T60 l i).f0
    · obtain ⟨e1, e2⟩ := hmj e
      rw [if_pos (decide_eq_true e)] at h1
      have hwm : wrap64 ((m : Int) + 1) = ((m + 1 : Nat) : Int) := by unfold wrap64; omega
      refine Ev.step (f := fun k => dialtonelaw34_RecoveryWithin.j3 k l p T c (tk : Int) (i : Int) ((m + 1 : Nat) : Int) (j : Int) false) (fun k => ?_) ?_
      · simp only [dialtonelaw34_RecoveryWithin.l1]
        rw [if_pos (by omega), if_pos (by omega), if_pos (by omega), if_pos (by omega), if_pos e, if_pos e1, hwm, decide_eq_false (by omega)]
      by_cases et : (rd_T39 p j).f2 = T
      · refine Ev.step (f := fun k => dialtonelaw34_RecoveryWithin.j4 k l p T c (tk : Int) (i : Int) ((m + 1 : Nat) : Int) (j : Int) (!((rd_T60 l i).f2))) (fun k => ?_) ?_
        · simp only [dialtonelaw34_RecoveryWithin.j3, Bool.false_eq_true, if_false]
          rw [if_pos (by omega), if_pos (by omega), if_pos et, if_pos (by omega), if_pos (by omega)]
        · by_cases eu : (rd_T60 l i).f2 = true
          · have hb : wiB (rd_T60 l i) T (rd_T39 p j) = false := by unfold wiB; rw [eu]; simp
            rw [hb, if_neg Bool.false_ne_true] at h2
            refine Ev.step (fun k => ?_) (ih (j + 1) (m + 1) tk (by omega) (by omega) (by omega))
            simp only [dialtonelaw34_RecoveryWithin.j4]
            rw [eu, if_neg (by decide), hw ()]
          · replace eu : (rd_T60 l i).f2 = false := by simpa using eu
            have hb : wiB (rd_T60 l i) T (rd_T39 p j) = true := by unfold wiB; rw [eu, decide_eq_true e, decide_eq_true et]; rfl
            rw [hb, if_pos rfl] at h2
            refine Ev.step (fun k => ?_) (ih (j + 1) (m + 1) (tk + 1) (by omega) (by omega) (by omega))
            simp only [dialtonelaw34_RecoveryWithin.j4]
            rw [eu, if_pos (by decide), hw (), show wrap64 ((tk : Int) + 1) = ((tk + 1 : Nat) : Int) by unfold wrap64; omega]
      · have hb : wiB (rd_T60 l i) T (rd_T39 p j) = false := by unfold wiB; rw [decide_eq_false et]; simp
        rw [hb, if_neg Bool.false_ne_true] at h2
        refine Ev.step (f := fun k => dialtonelaw34_RecoveryWithin.j4 k l p T c (tk : Int) (i : Int) ((m + 1 : Nat) : Int) (j : Int) false) (fun k => ?_) ?_
        · simp only [dialtonelaw34_RecoveryWithin.j3, Bool.false_eq_true, if_false]
          rw [if_pos (by omega), if_pos (by omega), if_neg et]
        · refine Ev.step (fun k => ?_) (ih (j + 1) (m + 1) tk (by omega) (by omega) (by omega))
          simp only [dialtonelaw34_RecoveryWithin.j4, Bool.false_eq_true, if_false]
          rw [hw ()]
    · have hb : wiB (rd_T60 l i) T (rd_T39 p j) = false := by unfold wiB; rw [decide_eq_false e]; rfl
      rw [hb, if_neg Bool.false_ne_true] at h2
      rw [if_neg (by rw [decide_eq_true_eq]; exact e)] at h1
      refine Ev.step (fun k => ?_) (ih (j + 1) m tk (by omega) (by omega) (by omega))
      simp only [dialtonelaw34_RecoveryWithin.l1]
      rw [if_pos (by omega), if_pos (by omega), if_pos (by omega), if_pos (by omega), if_neg e, hw ()]
theorem within_l0 (hone : ∀ a ∈ l, p.countP (fun x => decide (x.f0 = a.f0)) = 1) (hm : ∀ a ∈ l, ∀ x ∈ p, x.f0 = a.f0 → x.f1 = a.f1 ∧ a.f1 ≤ x.f2) (N : Nat) (hN : N < 1000000) (hc : (N : Int) ≤ c) (n : Nat) : ∀ i tk : Nat, i + n = l.length → tk + sumN (fun a => p.countP (wiB a T)) (l.drop i) = N → Ev (fun k => dialtonelaw34_RecoveryWithin.l0 k l p T c (tk : Int) (i : Int)) true := by
  induction n with
  | zero =>
    intro i tk hi h
    rw [List.drop_eq_nil_of_le (by omega)] at h
    simp only [sumN, Nat.add_zero] at h
    subst h
    refine Ev.step (fun k => ?_) (Ev.now true)
    simp only [dialtonelaw34_RecoveryWithin.l0]
    rw [if_neg (by omega), decide_eq_true hc]
  | succ n ih =>
    intro i tk hi h
    have hmem := rd60_mem l i (by omega)
    rw [drop60 l i (by omega)] at h
    simp only [sumN] at h
    refine Ev.step (f := fun k => dialtonelaw34_RecoveryWithin.l1 k l p T c (tk : Int) (i : Int) ((0 : Nat) : Int) ((0 : Nat) : Int)) (fun k => ?_) (within_l1 hl hp i (by omega) (hm _ hmem) (tk + p.countP (wiB (rd_T60 l i) T)) (by omega) (ih (i + 1) _ (by omega) (by omega)) p.length 0 0 tk (by omega) ?_ rfl)
    · simp only [dialtonelaw34_RecoveryWithin.l0]
      rw [if_pos (by omega)]
      rfl
    · rw [List.drop_zero, hone _ hmem]
end
theorem within_ok (l0 : List S71) (a1 : Int) (l2 : List S71) (a3 : Int) (hg0 : ∀ x, x ∈ l0 → I64 x.f0 ∧ I64 x.f1) (hb0 : l0.length * 16 ≤ 140737488351232) (g1 : I64 a1) (hg2 : ∀ x, x ∈ l2 → I64 x.f0 ∧ I64 x.f1) (hb2 : l2.length * 16 ≤ 140737488351232) (g3 : I64 a3) :
    Ev (fun k => dialtonelaw34_RecoveryWithin.f k l0 a1 l2 a3) true := by
  obtain ⟨S, s, hm, hreg⟩ := made_ok l0 hg0 (by omega) a1 g1
  obtain ⟨l, ha, hat⟩ := atts_ok l2 hg2 (by omega)
  obtain ⟨p, hp⟩ := planOf hreg.valid hat.ready
  obtain ⟨T, eT, hT0, hT1⟩ := pick_ok a3 60 g3 (by omega)
  have hlen := hp.len
  have h40 := hp.l40
  unfold dialtonelaw34_RecoveryWithin.f
  refine Ev.bind sane_ok ?_
  simp only [if_true]
  refine Ev.bind hm ?_
  refine Ev.bind ha ?_
  simp only [hp.eq, Option.bind_some, eT]
  refine Ev.bind (capacity_ok hreg.valid T hT0) ?_
  simp only [if_true]
  rw [show ((p.length : Int) != (l.length : Int)) = false from bne_eq_false_iff_eq.2 (by omega)]
  have hsum := hp.sum hat.nub T
  have hN : cntZ ((sortAtts l).zip p) T ≤ p.length := by
    unfold cntZ
    exact Nat.le_trans List.countP_le_length (by rw [List.length_zip]; exact Nat.min_le_right _ _)
  refine Ev.step (f := fun k => dialtonelaw34_RecoveryWithin.l0 k l p T (capL S T) ((0 : Nat) : Int) ((0 : Nat) : Int)) (fun k => ?_) (within_l0 (by omega) (by omega) (hp.one hat.nub) (fun a ha x hx e => ⟨(hp.match_ hat.nub a ha x hx e).1, (hp.match_ hat.nub a ha x hx e).2.1⟩) (cntZ ((sortAtts l).zip p) T) (by omega) ?_ l.length 0 0 (by omega) ?_)
  · simp only [dialtonelaw34_RecoveryWithin.j0, Bool.false_eq_true, if_false]
    rfl
  · have := cap_range hreg.valid T hT0
    rcases plan_within S T _ _ _ _ hp.go_ with h | h <;> omega
  · rw [List.drop_zero, Nat.zero_add]
    exact hsum
end Go.Proofs.Ytcldldmedphcfaa.C
