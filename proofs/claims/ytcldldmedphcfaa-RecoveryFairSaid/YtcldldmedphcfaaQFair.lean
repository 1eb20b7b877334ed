import Derived.Test.YtcldldmedphcfaaFFair
import Derived.Test.YtcldldmedphcfaaQSane
import Derived.Test.YtcldldmedphcfaaQEarly
import Derived.Test.YtcldldmedphcfaaQOrdered
/- RecoveryFair, in plain words. Condition: the arguments are ints. -/
namespace Go.Proofs.Ytcldldmedphcfaa.C
open Go.RowKit Go.Proofs.YtcldldmedphcfaaW.PrintWords Go.Proofs.YtcldldmedphcfaaW.PrintLast Go.Proofs.YtcldldmedphcfaaW.PrintMore
set_option linter.unusedVariables false
set_option linter.unusedSimpArgs false
theorem fair_l0 (p : List S39) (o : List S60) (hp : p.length < 1000) (hlo : o.length = p.length) (hz : ∀ i : Nat, i < o.length → (rd_T39 p i).f0 = (rd_T60 o i).f0 ∧ (rd_T39 p i).f1 = (rd_T60 o i).f1) (hm : ∀ i j : Nat, i < j → j < o.length → (rd_T60 o i).f2 = false → (rd_T60 o j).f2 = false → (rd_T39 p i).f2 ≤ (rd_T39 p j).f2) (h0 : ∀ i : Nat, i < o.length → -1 ≤ (rd_T39 p i).f2) (n : Nat) : ∀ (i : Nat) (last : Int), i + n = o.length → (∀ j : Nat, i ≤ j → j < o.length → (rd_T60 o j).f2 = false → last ≤ (rd_T39 p j).f2) → Ev (fun k => dialtonelaw34_RecoveryFair.l0 k true p o last (i : Int)) true := by
  induction n with
  | zero =>
    intro i last hi h
    refine Ev.step (fun k => ?_) (Ev.now true)
    simp only [dialtonelaw34_RecoveryFair.l0]
    rw [if_neg (by omega)]
  | succ n ih =>
    intro i last hi h
    have hw : wrap64 ((i : Int) + 1) = ((i + 1 : Nat) : Int) := by unfold wrap64; omega
    have hzi := hz i (by omega)
    refine Ev.step (f := fun k => dialtonelaw34_RecoveryFair.j2 k true p o last (i : Int) false) (fun k => ?_) ?_
    · simp only [dialtonelaw34_RecoveryFair.l0]
      rw [if_pos (by omega), if_pos (by omega), if_pos (by omega), if_pos hzi.1, show ((rd_T39 p i).f1 != (rd_T60 o i).f1) = false from bne_eq_false_iff_eq.2 hzi.2]
    · cases hu : (rd_T60 o i).f2 with
      | true =>
        refine Ev.step (fun k => ?_) (ih (i + 1) last (by omega) (fun j h1 h2 h3 => h j (by omega) h2 h3))
        simp only [dialtonelaw34_RecoveryFair.j2]
        rw [if_neg Bool.false_ne_true, if_pos (by omega), if_pos (by omega), if_pos hu, hw]
      | false =>
        have hli := h i (Nat.le_refl _) (by omega) hu
        refine Ev.step (fun k => ?_) (ih (i + 1) (rd_T39 p i).f2 (by omega) (fun j h1 h2 h3 => hm i j (by omega) h2 hu h3))
        simp only [dialtonelaw34_RecoveryFair.j2]
        rw [if_neg Bool.false_ne_true, if_pos (by omega), if_pos (by omega), if_neg (by rw [hu]; exact Bool.false_ne_true), if_pos (by omega), if_neg (by omega), hw]
theorem fair_ok (l0 : List S71) (a1 : Int) (l2 : List S71) (hg0 : ∀ x, x ∈ l0 → I64 x.f0 ∧ I64 x.f1) (hb0 : l0.length * 16 ≤ 140737488351232) (g1 : I64 a1) (hg2 : ∀ x, x ∈ l2 → I64 x.f0 ∧ I64 x.f1) (hb2 : l2.length * 16 ≤ 140737488351232) :
    Ev (fun k => dialtonelaw34_RecoveryFair.f k l0 a1 l2) true := by
  obtain ⟨S, s, hm, hreg⟩ := made_ok l0 hg0 (by omega) a1 g1
  obtain ⟨l, ha, hat⟩ := atts_ok l2 hg2 (by omega)
  obtain ⟨p, hp⟩ := planOf hreg.valid hat.ready
  have hlen := hp.len
  have h20 := hat.len
  have hso := sortAtts_perm l
  have hlo : (sortAtts l).length = p.length := by omega
  have hz := plan_zip S _ _ _ _ hp.go_
  have hmono := plan_mono S _ _ _ _ hp.go_
  have ez : ∀ i : Nat, ∀ hi : i < (sortAtts l).length, ((sortAtts l).zip p)[i]'(by rw [List.length_zip]; omega) = (rd_T60 (sortAtts l) i, rd_T39 p i) := fun i hi => by
    rw [rd60_get _ i hi, rd39_get p i (by omega)]
    exact List.getElem_zip
  have hzl : ((sortAtts l).zip p).length = (sortAtts l).length := by rw [List.length_zip]; omega
  unfold dialtonelaw34_RecoveryFair.f
  refine Ev.bind sane_ok ?_
  simp only [if_true]
  refine Ev.bind ha ?_
  refine Ev.bind hm ?_
  simp only [hp.eq, Option.bind_some]
  refine Ev.bind (ordered_ok hat.nub (by omega)) ?_
  simp only [if_true]
  rw [show ((p.length : Int) != ((sortAtts l).length : Int)) = false from bne_eq_false_iff_eq.2 (by omega)]
  refine Ev.step (f := fun k => dialtonelaw34_RecoveryFair.l0 k true p (sortAtts l) (-1) ((0 : Nat) : Int)) (fun k => ?_) (fair_l0 p (sortAtts l) (by omega) hlo (fun i hi => ?_) (fun i j hij hj hu hu' => ?_) (fun i hi => ?_) (sortAtts l).length 0 (-1) (by omega) (fun j _ hj _ => ?_))
  · simp only [dialtonelaw34_RecoveryFair.j0]
    rw [if_neg Bool.false_ne_true]
    rfl
  · have := hz _ (List.getElem_mem (show i < ((sortAtts l).zip p).length by omega))
    rw [ez i hi] at this
    exact ⟨this.1, this.2.1⟩
  · rw [List.pairwise_iff_getElem] at hmono
    have := hmono i j (by omega) (by omega) hij
    rw [ez i (by omega), ez j hj] at this
    exact this hu hu'
  · have := hp.bd _ (rd39_mem p i (by omega))
    omega
  · have := hp.bd _ (rd39_mem p j (by omega))
    omega
end Go.Proofs.Ytcldldmedphcfaa.C
