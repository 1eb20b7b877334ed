import Derived.Test.YtcldldmedphcfaaQKeys
import Derived.Test.YtcldldmedphcfaaQEarly
/- A ticket and its attempt: found by the caller. Condition: no caller comes twice. -/
namespace Go.Proofs.Ytcldldmedphcfaa.C
open Go.RowKit Go.Proofs.YtcldldmedphcfaaW.PrintWords Go.Proofs.YtcldldmedphcfaaW.PrintLast Go.Proofs.YtcldldmedphcfaaW.PrintMore
set_option linter.unusedVariables false
theorem keys_cons {a : S60} {o : List S60} {x : S39} {p : List S39} (h : (x :: p).map (fun x => x.f0) = (a :: o).map (fun a => a.f0)) : x.f0 = a.f0 ∧ p.map (fun x => x.f0) = o.map (fun a => a.f0) := by
  simp only [List.map_cons, List.cons.injEq] at h
  exact h
theorem keys_ne {o : List S60} {p : List S39} (h : p.map (fun x => x.f0) = o.map (fun a => a.f0)) (c : Int) (hc : ∀ b ∈ o, c ≠ b.f0) : ∀ x ∈ p, x.f0 ≠ c := by
  intro x hx e
  have : x.f0 ∈ p.map (fun x => x.f0) := List.mem_map.2 ⟨x, hx, rfl⟩
  rw [h] at this
  obtain ⟨b, hb, eb⟩ := List.mem_map.1 this
  exact hc b hb (by rw [eb, e])
theorem cnt_zero {p : List S39} (f : S39 → Bool) (h : ∀ x ∈ p, f x = false) : p.countP f = 0 :=
  List.countP_eq_zero.2 (fun x hx => by rw [h x hx]; exact Bool.false_ne_true)
theorem cnt_one : ∀ (o : List S60) (p : List S39), p.map (fun x => x.f0) = o.map (fun a => a.f0) → Nub o → ∀ a ∈ o, p.countP (fun x => decide (x.f0 = a.f0)) = 1
  | [], _, _, _, a, ha => by cases ha
  | b :: o, [], h, _, a, ha => by simp at h
  | b :: o, x :: p, h, hn, a, ha => by
    obtain ⟨hx, h'⟩ := keys_cons h
    obtain ⟨h1, h2⟩ := List.pairwise_cons.1 hn
    rw [List.countP_cons]
    rcases List.mem_cons.1 ha with rfl | ha
    · rw [cnt_zero _ (fun y hy => decide_eq_false (keys_ne h' a.f0 h1 y hy)), if_pos (decide_eq_true hx)]
    · rw [cnt_one o p h' h2 a ha, if_neg (by rw [decide_eq_true_eq, hx]; exact h1 a ha)]
theorem zip_mem : ∀ (o : List S60) (p : List S39), p.map (fun x => x.f0) = o.map (fun a => a.f0) → Nub o → ∀ a ∈ o, ∀ x ∈ p, x.f0 = a.f0 → (a, x) ∈ o.zip p
  | [], _, _, _, a, ha => by cases ha
  | b :: o, [], h, _, a, ha => by simp at h
  | b :: o, y :: p, h, hn, a, ha => by
    obtain ⟨hy, h'⟩ := keys_cons h
    obtain ⟨h1, h2⟩ := List.pairwise_cons.1 hn
    intro x hx e
    rw [List.zip_cons_cons]
    rcases List.mem_cons.1 ha with rfl | ha
    · rcases List.mem_cons.1 hx with rfl | hx
      · exact List.mem_cons_self ..
      · exact absurd e (keys_ne h' a.f0 h1 x hx)
    · rcases List.mem_cons.1 hx with rfl | hx
      · exact absurd (hy.symm.trans e) (h1 a ha)
      · exact List.mem_cons_of_mem _ (zip_mem o p h' h2 a ha x hx e)
/-- The sum over a list. -/
def sumN {α : Type} (f : α → Nat) : List α → Nat
  | [] => 0
  | a :: l => f a + sumN f l
theorem sumN_perm {α : Type} (f : α → Nat) {l l' : List α} (h : l.Perm l') : sumN f l = sumN f l' := by
  induction h with
  | nil => rfl
  | cons x _ ih => simp only [sumN, ih]
  | swap x y l => simp only [sumN]; omega
  | trans _ _ ih1 ih2 => exact ih1.trans ih2
theorem sumN_congr {α : Type} {f g : α → Nat} : ∀ {l : List α}, (∀ a ∈ l, f a = g a) → sumN f l = sumN g l
  | [], _ => rfl
  | a :: l, h => by
    simp only [sumN]
    rw [h a (List.mem_cons_self ..), sumN_congr (fun b hb => h b (List.mem_cons_of_mem _ hb))]
theorem cnt_sum (T : Int) : ∀ (o : List S60) (p : List S39), p.map (fun x => x.f0) = o.map (fun a => a.f0) → Nub o → sumN (fun a => p.countP (fun x => decide (x.f0 = a.f0) && (decide (x.f2 = T) && !a.f2))) o = cntZ (o.zip p) T
  | [], p, h, _ => rfl
  | b :: o, [], h, _ => by simp at h
  | b :: o, x :: p, h, hn => by
    obtain ⟨hx, h'⟩ := keys_cons h
    obtain ⟨h1, h2⟩ := List.pairwise_cons.1 hn
    simp only [sumN]
    rw [sumN_congr (g := fun a => p.countP (fun x => decide (x.f0 = a.f0) && (decide (x.f2 = T) && !a.f2))) (fun a ha => ?_), cnt_sum T o p h' h2]
    · rw [List.countP_cons, cnt_zero _ (fun y hy => by rw [decide_eq_false (keys_ne h' b.f0 h1 y hy)]; rfl), List.zip_cons_cons]
      unfold cntZ
      rw [show (fun z : S60 × S39 => !z.1.f2 && decide (z.2.f2 = T)) = (fun z => decide (z.2.f2 = T) && !z.1.f2) from funext fun z => Bool.and_comm _ _]
      rw [List.countP_cons, decide_eq_true hx, Bool.true_and]
      dsimp only
      omega
    · rw [List.countP_cons, if_neg, Nat.add_zero]
      rw [hx, decide_eq_false (h1 a ha), Bool.false_and]
      exact Bool.false_ne_true
/-- A ticket of a plan stands for its attempt. -/
theorem PlanOf.match_ {S : List S67} {s : Int} {l : List S60} {p : List S39} (h : PlanOf S s l p) (hn : Nub l) : ∀ a ∈ l, ∀ x ∈ p, x.f0 = a.f0 → x.f1 = a.f1 ∧ a.f1 ≤ x.f2 ∧ (a.f2 = true → x.f2 = a.f1) := by
  intro a ha x hx e
  have hz := zip_mem _ _ h.cal (hn.perm (sortAtts_perm l).1.symm) a ((sortAtts_perm l).1.mem_iff.2 ha) x hx e
  have := plan_zip _ _ _ _ _ h.go_ _ hz
  exact ⟨this.2.1, this.2.2.1, this.2.2.2.1⟩
theorem PlanOf.one {S : List S67} {s : Int} {l : List S60} {p : List S39} (h : PlanOf S s l p) (hn : Nub l) : ∀ a ∈ l, p.countP (fun x => decide (x.f0 = a.f0)) = 1 :=
  fun a ha => cnt_one _ _ h.cal (hn.perm (sortAtts_perm l).1.symm) a ((sortAtts_perm l).1.mem_iff.2 ha)
theorem PlanOf.sum {S : List S67} {s : Int} {l : List S60} {p : List S39} (h : PlanOf S s l p) (hn : Nub l) (T : Int) : sumN (fun a => p.countP (fun x => decide (x.f0 = a.f0) && (decide (x.f2 = T) && !a.f2))) l = cntZ ((sortAtts l).zip p) T :=
  (sumN_perm _ (sortAtts_perm l).1.symm).trans (cnt_sum T _ _ h.cal (hn.perm (sortAtts_perm l).1.symm))
end Go.Proofs.Ytcldldmedphcfaa.C
