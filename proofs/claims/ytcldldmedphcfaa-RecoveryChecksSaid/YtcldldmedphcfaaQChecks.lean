import Derived.Test.YtcldldmedphcfaaFChecks
import Derived.Test.YtcldldmedphcfaaQSane
import Derived.Test.YtcldldmedphcfaaQKeys
import Derived.Test.YtcldldmedphcfaaQRd
/- The law RecoveryChecks answers true. Condition: the arguments are ints. -/
namespace Go.Proofs.Ytcldldmedphcfaa.C
open Go.RowKit Go.Proofs.YtcldldmedphcfaaW.PrintWords Go.Proofs.YtcldldmedphcfaaW.PrintLast Go.Proofs.YtcldldmedphcfaaW.PrintMore
set_option linter.unusedVariables false
theorem sameB_get {q p : List S39} (i : Nat) (hq : i < q.length) (hp : i < p.length) (h : q[i] ≠ p[i]) : sameB q p = false := by
  cases hs : sameB q p with
  | false => rfl
  | true =>
    have := (sameB_iff q p).1 hs
    subst this
    exact absurd rfl h
section
variable {S : List S67} {s : Int} {l : List S60} {p : List S39} (hp : PlanOf S s l p) (hn : Nub l)
include hp
theorem checks_j1 (q : List S39) (hq : q.length < 100000) (how c k m : Int) (h1 : dialtonelaw34_pick.f how 5 = some c) (hr : (if c = 2 then (sameB q p == (k == m)) else (sameB q p == false)) = true) : Ev (fun n => dialtonelaw34_RecoveryChecks.j1 n how l q k m S s) true := by
  refine Ev.step (f := fun n => (recovery_Check.f n S s l q).bind fun t315 => if c = 2 then some (t315 == (k == m)) else some (t315 == false)) (fun n => ?_) (Ev.bind (check_ok hp.eq q hq) ?_)
  · simp only [dialtonelaw34_RecoveryChecks.j1]
    rw [h1]
    rfl
  · by_cases c2 : c = 2
    · rw [if_pos c2] at hr
      simp only [if_pos c2]
      rw [hr]
      exact Ev.now true
    · rw [if_neg c2] at hr
      simp only [if_neg c2]
      rw [hr]
      exact Ev.now true
include hn
theorem checks_j0 (x3 x4 x5 x6 : Int) (g3 : I64 x3) (g4 : I64 x4) (g5 : I64 x5) (g6 : I64 x6) : Ev (fun n => dialtonelaw34_RecoveryChecks.j0 n x3 x4 x5 x6 l p false S s) true := by
  have hlen := hp.len
  have h40 := hp.l40
  by_cases h0 : (p.length : Int) = 0
  · have he : p = [] := List.eq_nil_of_length_eq_zero (by omega)
    refine Ev.step (f := fun n => (recovery_Check.f n S s l [⟨0, 0, 0⟩]).bind fun t => some (!t)) (fun n => ?_) (Ev.bind (check_ok hp.eq _ (by decide)) ?_)
    · simp only [dialtonelaw34_RecoveryChecks.j0, Bool.false_eq_true, if_false, Option.bind_some, List.nil_append, List.length_nil]
      rw [if_pos (by omega), if_pos h0]
    · rw [he]
      exact Ev.now true
  · obtain ⟨k, ek, bk1, bk2⟩ := pick_ok x3 (p.length : Int) g3 (by omega)
    obtain ⟨m, em, bm1, bm2⟩ := pick_ok x4 (p.length : Int) g4 (by omega)
    obtain ⟨c, ec, bc1, bc2⟩ := pick_ok x5 5 g5 (by omega)
    obtain ⟨d, ed, bd1, bd2⟩ := pick_ok x6 3 g6 (by omega)
    obtain ⟨kn, rfl⟩ : ∃ kn : Nat, k = kn := ⟨k.toNat, by omega⟩
    obtain ⟨mn', rfl⟩ : ∃ mn' : Nat, m = mn' := ⟨m.toNat, by omega⟩
    have hk : kn < p.length := by omega
    have hm : mn' < p.length := by omega
    have bx := hp.bd _ (List.getElem_mem hk)
    have w1 : ∀ _ : Unit, wrap64 (wrap64 (p[kn].f2 + 1) + d) = p[kn].f2 + 1 + d := fun _ => by
      have h1 : wrap64 (p[kn].f2 + 1) = p[kn].f2 + 1 := by unfold wrap64; omega
      rw [h1]
      unfold wrap64
      omega
    have w2 : ∀ _ : Unit, wrap64 (p[kn].f1 - 1) = p[kn].f1 - 1 := fun _ => by unfold wrap64; omega
    have w3 : ∀ _ : Unit, wrap64 ((kn : Int) + 1) = (kn : Int) + 1 := fun _ => by unfold wrap64; omega
    have start : ∀ (F : Nat → Option Bool), (∀ n, dialtonelaw34_RecoveryChecks.j0 (n + 1) x3 x4 x5 x6 l p false S s = F n) → Ev F true → Ev (fun n => dialtonelaw34_RecoveryChecks.j0 n x3 x4 x5 x6 l p false S s) true := fun F h1 h2 => Ev.step h1 h2
    have hcase : c = 0 ∨ c = 1 ∨ c = 2 ∨ c = 3 ∨ c = 4 := by omega
    rcases hcase with rfl | rfl | rfl | rfl | rfl
    · refine start (fun n => dialtonelaw34_RecoveryChecks.j1 n x5 l (p.set kn ⟨p[kn].f0, p[kn].f1, p[kn].f2 + 1 + d⟩) kn mn' S s) (fun n => ?_) (checks_j1 hp (p.set kn ⟨p[kn].f0, p[kn].f1, p[kn].f2 + 1 + d⟩) (by simp only [List.length_set, List.length_append, List.length_cons, List.length_nil]; omega) x5 0 kn mn' ec ?_)
      · simp only [dialtonelaw34_RecoveryChecks.j0, Bool.false_eq_true, if_false, Option.bind_some, List.nil_append, List.length_nil]
        rw [if_pos (by omega), if_neg h0, ek, Option.bind_some, em, Option.bind_some, ec, Option.bind_some, if_pos rfl, if_pos bk1, if_pos bk2, ed, Option.bind_some, rd39_get p kn hk, w1 (), Int.toNat_natCast]
      · rw [if_neg (by decide), sameB_get kn (by simpa using hk) hk (by
          rw [List.getElem_set_self]
          intro e
          have := congrArg S39.f2 e
          simp only at this
          omega)]
        rfl
    · refine start (fun n => dialtonelaw34_RecoveryChecks.j1 n x5 l (p.set kn ⟨p[kn].f0, p[kn].f1 - 1, p[kn].f2⟩) kn mn' S s) (fun n => ?_) (checks_j1 hp (p.set kn ⟨p[kn].f0, p[kn].f1 - 1, p[kn].f2⟩) (by simp only [List.length_set, List.length_append, List.length_cons, List.length_nil]; omega) x5 1 kn mn' ec ?_)
      · simp only [dialtonelaw34_RecoveryChecks.j0, Bool.false_eq_true, if_false, Option.bind_some, List.nil_append, List.length_nil]
        rw [if_pos (by omega), if_neg h0, ek, Option.bind_some, em, Option.bind_some, ec, Option.bind_some, if_neg (by decide), if_pos rfl, if_pos bk1, if_pos bk2, rd39_get p kn hk, w2 (), Int.toNat_natCast]
      · rw [if_neg (by decide), sameB_get kn (by simpa using hk) hk (by
          rw [List.getElem_set_self]
          intro e
          have := congrArg S39.f1 e
          simp only at this
          omega)]
        rfl
    · refine start (fun n => dialtonelaw34_RecoveryChecks.j1 n x5 l ((p.set kn p[mn']).set mn' p[kn]) kn mn' S s) (fun n => ?_) (checks_j1 hp ((p.set kn p[mn']).set mn' p[kn]) (by simp only [List.length_set, List.length_append, List.length_cons, List.length_nil]; omega) x5 2 kn mn' ec ?_)
      · simp only [dialtonelaw34_RecoveryChecks.j0, Bool.false_eq_true, if_false, Option.bind_some, List.nil_append, List.length_nil]
        rw [if_pos (by omega), if_neg h0, ek, Option.bind_some, em, Option.bind_some, ec, Option.bind_some, if_neg (by decide), if_neg (by decide), if_pos rfl, if_pos bm1, if_pos bm2, if_pos bk1, if_pos bk2, rd39_get p kn hk, rd39_get p mn' hm, Int.toNat_natCast, Int.toNat_natCast]
      · rw [if_pos rfl]
        by_cases e : kn = mn'
        · subst e
          have h1 : (p.set kn p[kn]).set kn p[kn] = p := by simp
          rw [h1, (sameB_iff p p).2 rfl]
          simp
        · have h1 : sameB ((p.set kn p[mn']).set mn' p[kn]) p = false := sameB_get kn (by simpa using hk) hk (by
            rw [List.getElem_set_ne (fun q => e q.symm), List.getElem_set_self]
            intro q
            exact hp.apart hn mn' kn hm hk (fun q => e q.symm) (congrArg S39.f0 q))
          rw [h1]
          have h2 : ((kn : Int) == (mn' : Int)) = false := beq_eq_false_iff_ne.mpr (by omega)
          rw [h2]
          rfl
    · refine start (fun n => dialtonelaw34_RecoveryChecks.j1 n x5 l (p.eraseIdx kn) kn mn' S s) (fun n => ?_) (checks_j1 hp (p.eraseIdx kn) (by rw [List.length_eraseIdx]; split <;> omega) x5 3 kn mn' ec ?_)
      · simp only [dialtonelaw34_RecoveryChecks.j0, Bool.false_eq_true, if_false, Option.bind_some, List.nil_append, List.length_nil]
        rw [if_pos (by omega), if_neg h0, ek, Option.bind_some, em, Option.bind_some, ec, Option.bind_some, if_neg (by decide), if_neg (by decide), if_neg (by decide), if_pos rfl, if_pos bk1, if_pos (by omega), w3 (), if_pos (by omega), if_pos (by omega), Int.toNat_natCast]
      · rw [if_neg (by decide), sameB_len (by rw [List.length_eraseIdx_of_lt hk]; omega)]
        rfl
    · refine start (fun n => dialtonelaw34_RecoveryChecks.j1 n x5 l (p ++ [p[kn]]) kn mn' S s) (fun n => ?_) (checks_j1 hp (p ++ [p[kn]]) (by simp only [List.length_set, List.length_append, List.length_cons, List.length_nil]; omega) x5 4 kn mn' ec ?_)
      · simp only [dialtonelaw34_RecoveryChecks.j0, Bool.false_eq_true, if_false, Option.bind_some, List.nil_append, List.length_nil]
        rw [if_pos (by omega), if_neg h0, ek, Option.bind_some, em, Option.bind_some, ec, Option.bind_some, if_neg (by decide), if_neg (by decide), if_neg (by decide), if_neg (by decide), if_pos bk1, if_pos bk2, if_pos (by omega), rd39_get p kn hk]
      · rw [if_neg (by decide), sameB_len (by simp)]
        rfl
end
theorem checks_ok (l0 : List S71) (a1 : Int) (l2 : List S71) (a3 a4 a5 a6 : Int) (hg0 : ∀ x, x ∈ l0 → I64 x.f0 ∧ I64 x.f1) (hb0 : l0.length * 16 ≤ 140737488351232) (g1 : I64 a1) (hg2 : ∀ x, x ∈ l2 → I64 x.f0 ∧ I64 x.f1) (hb2 : l2.length * 16 ≤ 140737488351232) (g3 : I64 a3) (g4 : I64 a4) (g5 : I64 a5) (g6 : I64 a6) :
    Ev (fun k => dialtonelaw34_RecoveryChecks.f k l0 a1 l2 a3 a4 a5 a6) true := by
  obtain ⟨S, s, hm, hreg⟩ := made_ok l0 hg0 (by omega) a1 g1
  obtain ⟨l, ha, hat⟩ := atts_ok l2 hg2 (by omega)
  obtain ⟨p, hp⟩ := planOf hreg.valid hat.ready
  unfold dialtonelaw34_RecoveryChecks.f
  refine Ev.bind sane_ok ?_
  simp only [if_true]
  refine Ev.bind hm ?_
  refine Ev.bind ha ?_
  simp only [hp.eq, Option.bind_some, if_true]
  refine Ev.bind (check_ok hp.eq p (by have := hp.len; have := hp.l40; omega)) ?_
  simp only [(sameB_iff p p).2 rfl, Bool.not_true]
  exact checks_j0 hp hat.nub a3 a4 a5 a6 g3 g4 g5 g6
end Go.Proofs.Ytcldldmedphcfaa.C
