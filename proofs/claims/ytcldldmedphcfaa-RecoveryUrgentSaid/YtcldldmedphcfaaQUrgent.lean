import Derived.Test.YtcldldmedphcfaaFUrgent
import Derived.Test.YtcldldmedphcfaaQSane
import Derived.Test.YtcldldmedphcfaaQLoad
import Derived.Test.YtcldldmedphcfaaQRd
/- RecoveryUrgent, in plain words. Condition: the arguments are ints. -/
namespace Go.Proofs.Ytcldldmedphcfaa.C
open Go.RowKit Go.Proofs.YtcldldmedphcfaaW.PrintWords Go.Proofs.YtcldldmedphcfaaW.PrintLast Go.Proofs.YtcldldmedphcfaaW.PrintMore
set_option linter.unusedVariables false
set_option linter.unusedSimpArgs false
/-- Whether one of a list is urgent and has the caller c. -/
def urgB (l : List S60) (c : Int) : Bool := l.any (fun a => decide (a.f0 = c) && a.f2)
theorem urgent_l2 (l : List S60) (p q : List S39) (x i : Int) (hl : l.length < 100000) (hi0 : 0 ≤ i) (hi : i < (p.length : Int)) (b : Bool) (hend : Ev (fun k => dialtonelaw34_RecoveryUrgent.l2 k l p q x i b (l.length : Int)) true) (n : Nat) : ∀ (j : Nat) (u : Bool), j + n = l.length → (u || urgB (l.drop j) (rd_T39 p i).f0) = b → Ev (fun k => dialtonelaw34_RecoveryUrgent.l2 k l p q x i u (j : Int)) true := by
  induction n with
  | zero =>
    intro j u hj hb
    rw [List.drop_eq_nil_of_le (by omega)] at hb
    have hjl : j = l.length := by omega
    subst hjl
    simp only [urgB, List.any_nil, Bool.or_false] at hb
    subst hb
    exact hend
  | succ n ih =>
    intro j u hj hb
    have hw : wrap64 ((j : Int) + 1) = ((j + 1 : Nat) : Int) := by unfold wrap64; omega
    rw [drop60 l j (by omega)] at hb
    simp only [urgB, List.any_cons] at hb
    cases u with
    | true =>
      refine Ev.step (fun k => ?_) (ih (j + 1) true (by omega) (by rw [← hb]; rfl))
      simp only [dialtonelaw34_RecoveryUrgent.l2]
      rw [if_pos (by omega), if_pos trivial, hw]
    | false =>
      by_cases e : (rd_T60 l j).f0 = (rd_T39 p i).f0
      · refine Ev.step (fun k => ?_) (ih (j + 1) (rd_T60 l j).f2 (by omega) (by rw [← hb, decide_eq_true e]; rfl))
        simp only [dialtonelaw34_RecoveryUrgent.l2]
        rw [if_pos (by omega), if_neg Bool.false_ne_true, if_pos (by omega), if_pos hi0, if_pos hi, if_pos e, hw]
      · refine Ev.step (fun k => ?_) (ih (j + 1) false (by omega) (by rw [← hb, decide_eq_false e]; rfl))
        simp only [dialtonelaw34_RecoveryUrgent.l2]
        rw [if_pos (by omega), if_neg Bool.false_ne_true, if_pos (by omega), if_pos hi0, if_pos hi, if_neg e, hw]
theorem urgent_l1 (l o : List S60) (p q : List S39) (hl : l.length < 100000) (hp : p.length < 100000) (hq : q.length < 100000) (hlen : o.length = p.length) (hz : ∀ z ∈ o.zip p, z.2.f0 = z.1.f0 ∧ (z.1.f2 = true → z.2.f2 = z.2.f1)) (hu : ∀ a ∈ o, urgB l a.f0 = a.f2) (n : Nat) : ∀ i kk : Nat, i + n = p.length → kk ≤ q.length → q.drop kk = (((o.zip p).drop i).filter (fun z => !z.1.f2)).map (fun z => z.2) → Ev (fun k => dialtonelaw34_RecoveryUrgent.l1 k l p q (kk : Int) (i : Int)) true := by
  induction n with
  | zero =>
    intro i kk hi hk hd
    rw [show (o.zip p).drop i = [] from List.drop_eq_nil_of_le (by rw [List.length_zip]; omega)] at hd
    have hkl : kk = q.length := by
      have := congrArg List.length hd
      simp only [List.filter_nil, List.map_nil, List.length_nil, List.length_drop] at this
      omega
    refine Ev.step (fun k => ?_) (Ev.now true)
    simp only [dialtonelaw34_RecoveryUrgent.l1]
    rw [if_neg (by omega), hkl]
    simp
  | succ n ih =>
    intro i kk hi hk hd
    have hw : wrap64 ((i : Int) + 1) = ((i + 1 : Nat) : Int) := by unfold wrap64; omega
    have hwk : wrap64 ((kk : Int) + 1) = ((kk + 1 : Nat) : Int) := by unfold wrap64; omega
    have hiz : i < (o.zip p).length := by rw [List.length_zip]; omega
    have hio : i < o.length := by omega
    have hip : i < p.length := by omega
    have ez : (o.zip p)[i] = (o[i], p[i]) := List.getElem_zip
    have hrd : rd_T39 p i = p[i] := rd39_get p i hip
    have hzi := hz _ (List.getElem_mem hiz)
    rw [ez] at hzi
    dsimp only at hzi
    have hui : urgB l p[i].f0 = o[i].f2 := by rw [hzi.1]; exact hu _ (List.getElem_mem hio)
    rw [List.drop_eq_getElem_cons hiz, ez] at hd
    refine Ev.step (f := fun k => dialtonelaw34_RecoveryUrgent.l2 k l p q (kk : Int) (i : Int) false ((0 : Nat) : Int)) (fun k => ?_) (urgent_l2 l p q kk i hl (by omega) (by omega) o[i].f2 ?_ l.length 0 false (by omega) ?_)
    · simp only [dialtonelaw34_RecoveryUrgent.l1]
      rw [if_pos (by omega)]
      rfl
    · cases hb : o[i].f2 with
      | true =>
        rw [List.filter_cons_of_neg (by simp [hb])] at hd
        refine Ev.step (fun k => ?_) (ih (i + 1) kk (by omega) hk hd)
        simp only [dialtonelaw34_RecoveryUrgent.l2]
        rw [if_neg (by omega), if_pos trivial, if_pos (by omega), if_pos (by omega), hrd, if_pos (hzi.2 hb), hw]
      | false =>
        rw [List.filter_cons_of_pos (by simp [hb]), List.map_cons] at hd
        have hkq : kk < q.length := by
          have := congrArg List.length hd
          simp only [List.length_cons, List.length_drop] at this
          omega
        rw [drop39 q kk hkq, List.cons.injEq] at hd
        refine Ev.step (f := fun k => dialtonelaw34_RecoveryUrgent.j4 k l p q (kk : Int) (i : Int) false) (fun k => ?_) (Ev.step (fun k => ?_) (ih (i + 1) (kk + 1) (by omega) (by omega) hd.2))
        · simp only [dialtonelaw34_RecoveryUrgent.l2]
          rw [if_neg (by omega), if_neg Bool.false_ne_true, if_neg (by omega), if_pos (by omega), if_pos (by omega), if_pos (by omega), if_pos (by omega), hrd, hd.1]
          simp
        · simp only [dialtonelaw34_RecoveryUrgent.j4]
          rw [if_neg Bool.false_ne_true, hwk, hw]
    · rw [List.drop_zero, hrd, hui]
      rfl
theorem urgent_l0 (a3 : Int) (l O : List S60) (S : List S67) (s : Int) (hl : l.length < 100000) (hend : Ev (fun k => dialtonelaw34_RecoveryUrgent.l0 k a3 l O (l.length : Int) S s) true) (n : Nat) : ∀ (i : Nat) (acc : List S60), i + n = l.length → acc.length ≤ i → acc ++ (l.drop i).filter (fun a => !a.f2) = O → Ev (fun k => dialtonelaw34_RecoveryUrgent.l0 k a3 l acc (i : Int) S s) true := by
  induction n with
  | zero =>
    intro i acc hi hal ha
    rw [List.drop_eq_nil_of_le (by omega)] at ha
    have hil : i = l.length := by omega
    subst hil
    simp only [List.filter_nil, List.append_nil] at ha
    subst ha
    exact hend
  | succ n ih =>
    intro i acc hi hal ha
    have hw : wrap64 ((i : Int) + 1) = ((i + 1 : Nat) : Int) := by unfold wrap64; omega
    rw [drop60 l i (by omega)] at ha
    cases hb : (rd_T60 l i).f2 with
    | true =>
      rw [List.filter_cons_of_neg (by simp [hb])] at ha
      refine Ev.step (fun k => ?_) (ih (i + 1) acc (by omega) (by omega) ha)
      simp only [dialtonelaw34_RecoveryUrgent.l0]
      rw [if_pos (by omega), if_pos (by omega), if_pos hb, hw]
    | false =>
      rw [List.filter_cons_of_pos (by simp [hb])] at ha
      refine Ev.step (fun k => ?_) (ih (i + 1) (acc ++ [rd_T60 l i]) (by omega) (by simp; omega) (by rw [List.append_assoc]; exact ha))
      simp only [dialtonelaw34_RecoveryUrgent.l0]
      rw [if_pos (by omega), if_pos (by omega), if_neg (by rw [hb]; exact Bool.false_ne_true), if_pos (by omega), hw]
theorem urgent_ok (l0 : List S71) (a1 : Int) (l2 : List S71) (a3 : Int) (hg0 : ∀ x, x ∈ l0 → I64 x.f0 ∧ I64 x.f1) (hb0 : l0.length * 16 ≤ 140737488351232) (g1 : I64 a1) (hg2 : ∀ x, x ∈ l2 → I64 x.f0 ∧ I64 x.f1) (hb2 : l2.length * 16 ≤ 140737488351232) (g3 : I64 a3) :
    Ev (fun k => dialtonelaw34_RecoveryUrgent.f k l0 a1 l2 a3) true := by
  obtain ⟨S, s, hm, hreg⟩ := made_ok l0 hg0 (by omega) a1 g1
  obtain ⟨l, ha, hat⟩ := atts_ok l2 hg2 (by omega)
  obtain ⟨p, hp⟩ := planOf hreg.valid hat.ready
  obtain ⟨T, eT, hT0, hT1⟩ := pick_ok a3 60 g3 (by omega)
  have hlen := hp.len
  have h40 := hp.l40
  have hso := (sortAtts_perm l)
  have hnf : Nub (l.filter (fun a => !a.f2)) := List.Pairwise.filter _ hat.nub
  have hrf : readyB (l.filter (fun a => !a.f2)) = true := ready_of (fun a ha => by
    have h1 := hat.ready
    unfold readyB at h1
    rw [Bool.and_eq_true] at h1
    exact List.all_eq_true.1 h1.1 a (List.mem_filter.1 ha).1) (Nat.le_trans (List.length_filter_le _ _) h40) hnf
  obtain ⟨q, hq⟩ := planOf hreg.valid hrf
  have hqe : q = (((sortAtts l).zip p).filter (fun z => !z.1.f2)).map (fun z => z.2) := by
    have h1 := hq.go_
    rw [sort_filter hat.nub, planGo_filter S _ _ _ _ hp.go_] at h1
    exact (Option.some.inj h1).symm
  have hql : q.length ≤ 40 := by
    have := hq.len
    have := hq.l40
    omega
  have hld : recovery_Load.f S s l T = some (loadFn (sortAtts l) p T, 0) := by
    unfold recovery_Load.f
    rw [hp.eq]
    simp only [Option.bind_some, if_true]
    rw [if_neg (by omega), if_pos (by omega)]
  have hldf : recovery_Load.f S s (l.filter (fun a => !a.f2)) T = some (loadFn (sortAtts l) p T, 0) := by
    unfold recovery_Load.f
    rw [hq.eq]
    simp only [Option.bind_some, if_true]
    rw [if_neg (by omega), if_pos (by omega), sort_filter hat.nub, hqe, load_filter T _ _ (by omega)]
  unfold dialtonelaw34_RecoveryUrgent.f
  refine Ev.bind sane_ok ?_
  simp only [if_true]
  refine Ev.bind hm ?_
  refine Ev.bind ha ?_
  refine urgent_l0 a3 l (l.filter (fun a => !a.f2)) S s (by omega) ?_ l.length 0 [] (by omega) (Nat.le_refl _) (by rw [List.drop_zero, List.nil_append])
  have hb : ((p.length : Int) != (l.length : Int)) = false := bne_eq_false_iff_eq.2 (by omega)
  refine Ev.step (f := fun k => dialtonelaw34_RecoveryUrgent.j1 k l p q false) (fun k => ?_) (Ev.step (f := fun k => dialtonelaw34_RecoveryUrgent.l1 k l p q ((0 : Nat) : Int) ((0 : Nat) : Int)) (fun k => ?_) (urgent_l1 l (sortAtts l) p q (by omega) (by omega) (by omega) (by omega) (fun z hz => ?_) (fun a ha => ?_) p.length 0 0 (by omega) (by omega) ?_))
  · simp only [dialtonelaw34_RecoveryUrgent.l0]
    rw [if_neg (by omega), hp.eq, Option.bind_some, hq.eq, Option.bind_some, eT, Option.bind_some, hld, Option.bind_some, Option.bind_some, hldf, Option.bind_some]
    simp only [if_true]
    rw [hb]
  · simp only [dialtonelaw34_RecoveryUrgent.j1]
    rw [if_neg Bool.false_ne_true]
    rfl
  · have := plan_zip S _ _ _ _ hp.go_ z hz
    exact ⟨this.1, fun e => by rw [this.2.1]; exact this.2.2.2.1 e⟩
  · have hal := hso.1.mem_iff.1 ha
    unfold urgB
    cases hb : a.f2 with
    | true =>
      rw [List.any_eq_true]
      exact ⟨a, hal, by rw [hb]; simp⟩
    | false =>
      rw [List.any_eq_false]
      intro c hc h
      rw [Bool.and_eq_true, decide_eq_true_eq] at h
      have := hat.nub.uniq c hc a hal h.1
      rw [this, hb] at h
      exact Bool.false_ne_true h.2
  · rw [List.drop_zero, List.drop_zero]
    exact hqe
end Go.Proofs.Ytcldldmedphcfaa.C
