import Derived.Test.YtcldldmedphcfaaCOrdered
import Derived.Test.YtcldldmedphcfaaQRd
import Derived.Test.YtcldldmedphcfaaQPlan
/- The reference's order is the order. Condition: fewer than 1000 attempts, no caller twice. -/
namespace Go.Proofs.Ytcldldmedphcfaa.C
open Go.RowKit Go.Proofs.YtcldldmedphcfaaW.PrintWords Go.Proofs.YtcldldmedphcfaaW.PrintLast Go.Proofs.YtcldldmedphcfaaW.PrintMore
set_option linter.unusedVariables false
set_option linter.unusedSimpArgs false
/-- One attempt strictly before another. -/
def bef (a b : S60) : Bool := decide (a.f1 < b.f1 ∨ a.f1 = b.f1 ∧ a.f0 < b.f0)
theorem before_eq (a b : S60) : dialtoneref34_Before.f a.f0 a.f1 a.f2 b.f0 b.f1 b.f2 = some (bef a b) := by
  unfold dialtoneref34_Before.f bef
  by_cases c : a.f1 < b.f1
  · rw [if_pos c, decide_eq_true (Or.inl c)]
  · rw [if_neg c]
    by_cases d : a.f1 = b.f1
    · rw [if_pos d]
      by_cases e : a.f0 < b.f0
      · rw [decide_eq_true e, decide_eq_true (Or.inr ⟨d, e⟩)]
      · rw [decide_eq_false e, decide_eq_false (fun q => q.elim c (fun r => e r.2))]
    · rw [if_neg d, decide_eq_false (fun q => q.elim c (fun r => d r.1))]
theorem leA_trans {a b c : S60} (h1 : leA a b) (h2 : leA b c) : leA a c := by
  unfold leA at *
  omega
theorem bef_le {a b : S60} (h : bef a b = true) : leA a b := by
  unfold bef at h
  rw [decide_eq_true_eq] at h
  unfold leA
  omega
theorem not_bef {a b : S60} (h : bef a b = false) : leA b a := by
  unfold bef at h
  rw [decide_eq_false_iff_not] at h
  unfold leA
  omega
theorem ordered_l1 (l : List S60) (R : List S60) (out : List S60) (i : Nat) (hi : i < l.length) (hl : l.length < 1000) (ho : out.length < 1000) (hs : out.Pairwise leA)
    (hend : ∀ k : Nat, k ≤ out.length → (∀ y ∈ out.drop k, leA (rd_T60 l i) y) → (∀ y ∈ out.take k, leA y (rd_T60 l i)) → Ev (fun q => dialtoneref34_Ordered.l0 q l (out.take k ++ ([rd_T60 l i] ++ out.drop k)) ((i + 1 : Nat) : Int)) R) : ∀ k : Nat, k ≤ out.length → (∀ y ∈ out.drop k, leA (rd_T60 l i) y) → Ev (fun q => dialtoneref34_Ordered.l1 q l out (i : Int) (k : Int)) R := by
  have hw : wrap64 ((i : Int) + 1) = ((i + 1 : Nat) : Int) := by unfold wrap64; omega
  have fin : ∀ k : Nat, k ≤ out.length → (∀ y ∈ out.drop k, leA (rd_T60 l i) y) → (∀ y ∈ out.take k, leA y (rd_T60 l i)) → Ev (fun q => dialtoneref34_Ordered.j2 q l out (i : Int) (k : Int) false) R := by
    intro k hk h1 h2
    have hlen1 : ([rd_T60 l i] : List S60).length + (out.drop k).length < 5864062014805 := by
      rw [List.length_singleton, List.length_drop]
      omega
    have hlen2 : (out.take k).length + (([rd_T60 l i] : List S60) ++ out.drop k).length < 5864062014805 := by
      rw [List.length_append, List.length_singleton, List.length_drop, List.length_take]
      omega
    refine Ev.step (fun q => ?_) (hend k hk h1 h2)
    simp only [dialtoneref34_Ordered.j2]
    rw [if_neg Bool.false_ne_true, if_pos (by omega), if_pos (by omega), Option.bind_some, if_pos (by omega), if_pos (by omega), Option.bind_some, Option.bind_some, Int.toNat_natCast, hw]
    rw [if_pos hlen1, Option.bind_some, if_pos hlen2]
  intro k
  induction k with
  | zero =>
    intro hk h1
    refine Ev.step (fun q => ?_) (fin 0 hk h1 (fun y hy => by rw [List.take_zero] at hy; cases hy))
    simp only [dialtoneref34_Ordered.l1]
    rw [if_neg (by omega)]
  | succ k ih =>
    intro hk h1
    have hk' : k < out.length := by omega
    have hwk : wrap64 (((k + 1 : Nat) : Int) - 1) = (k : Int) := by unfold wrap64; omega
    have hrk : rd_T60 out k = out[k] := rd60_get out k hk'
    obtain ⟨b, hb⟩ : ∃ b, bef (rd_T60 l i) (rd_T60 out k) = b := ⟨_, rfl⟩
    refine Ev.step (f := fun q => dialtoneref34_Ordered.j2 q l out (i : Int) ((k + 1 : Nat) : Int) b) (fun q => ?_) ?_
    · simp only [dialtoneref34_Ordered.l1]
      rw [if_pos (by omega), if_pos (by omega), if_pos (by omega), hwk, if_pos (by omega), if_pos (by omega), before_eq, hb, Option.bind_some]
    · cases b with
      | true =>
        refine Ev.step (fun q => ?_) (ih (by omega) (fun y hy => ?_))
        · simp only [dialtoneref34_Ordered.j2]
          rw [if_pos trivial, hwk]
        · rw [List.drop_eq_getElem_cons hk'] at hy
          rcases List.mem_cons.1 hy with rfl | hy
          · rw [hrk] at hb
            exact bef_le hb
          · exact h1 y hy
      | false =>
        refine fin (k + 1) hk h1 (fun y hy => ?_)
        have hle := not_bef hb
        rw [hrk] at hle
        rw [List.take_succ_eq_append_getElem hk'] at hy
        rcases List.mem_append.1 hy with hy | hy
        · have hsp : (out.take k ++ out.drop k).Pairwise leA := by rw [List.take_append_drop]; exact hs
          refine leA_trans ((List.pairwise_append.1 hsp).2.2 y hy out[k] ?_) hle
          rw [List.drop_eq_getElem_cons hk']
          exact List.mem_cons_self ..
        · rw [List.mem_singleton] at hy
          rw [hy]
          exact hle
theorem ordered_l0 (l : List S60) (hn : Nub l) (hl : l.length < 1000) (n : Nat) : ∀ (i : Nat) (out : List S60), i + n = l.length → out.Perm (l.take i) → out.Pairwise leA → Ev (fun q => dialtoneref34_Ordered.l0 q l out (i : Int)) (sortAtts l) := by
  induction n with
  | zero =>
    intro i out hi hp hs
    rw [List.take_of_length_le (by omega)] at hp
    have : out = sortAtts l := sorted_unique (Nub.uniq (hn.perm hp.symm)) (hp.trans (sortAtts_perm l).1.symm) hs (sortAtts_pairwise l)
    subst this
    refine Ev.step (fun q => ?_) (Ev.now _)
    simp only [dialtoneref34_Ordered.l0]
    rw [if_neg (by omega)]
  | succ n ih =>
    intro i out hi hp hs
    have hol : out.length = i := by
      rw [hp.length_eq, List.length_take]
      omega
    refine Ev.step (f := fun q => dialtoneref34_Ordered.l1 q l out (i : Int) (out.length : Int)) (fun q => ?_) (ordered_l1 l (sortAtts l) out i (by omega) hl (by omega) hs (fun k hk h1 h2 => ih (i + 1) _ (by omega) ?_ ?_) out.length (Nat.le_refl _) (fun y hy => by rw [List.drop_eq_nil_of_le (Nat.le_refl _)] at hy; cases hy))
    · simp only [dialtoneref34_Ordered.l0]
      rw [if_pos (by omega)]
    · rw [List.singleton_append]
      refine List.perm_middle.trans ?_
      rw [List.take_append_drop, List.take_succ_eq_append_getElem (show i < l.length by omega), ← rd60_get l i (by omega)]
      exact (List.Perm.cons _ hp).trans (List.perm_append_singleton _ _).symm
    · rw [List.singleton_append, List.pairwise_append]
      have hsp : (out.take k ++ out.drop k).Pairwise leA := by rw [List.take_append_drop]; exact hs
      obtain ⟨p1, p2, p3⟩ := List.pairwise_append.1 hsp
      refine ⟨p1, List.pairwise_cons.2 ⟨h1, p2⟩, fun a ha b hb => ?_⟩
      rcases List.mem_cons.1 hb with rfl | hb
      · exact h2 a ha
      · exact p3 a ha b hb
theorem ordered_ok {l : List S60} (hn : Nub l) (hl : l.length < 1000) : Ev (fun q => dialtoneref34_Ordered.f q l) (sortAtts l) := by
  unfold dialtoneref34_Ordered.f
  exact ordered_l0 l hn hl l.length 0 [] (by omega) (List.Perm.refl _) List.Pairwise.nil
end Go.Proofs.Ytcldldmedphcfaa.C
