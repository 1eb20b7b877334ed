import Derived.Test.YtcldldmedphcfaaHStormS
/- The sorts of recovery in plain words: the one list in the order. Condition: no caller twice. -/
namespace Go.Proofs.Ytcldldmedphcfaa.C
open Go.RowKit Go.Proofs.YtcldldmedphcfaaW.PrintWords Go.Proofs.YtcldldmedphcfaaW.PrintLast Go.Proofs.YtcldldmedphcfaaW.PrintMore Go.Sort Go.Shelf
set_option linter.unusedVariables false
theorem perm_sorted_eq {α : Type} {R : α → α → Prop} : ∀ {l1 l2 : List α}, (∀ a ∈ l1, ∀ b ∈ l1, R a b → R b a → a = b) → l1.Perm l2 → l1.Pairwise R → l2.Pairwise R → l1 = l2
  | [], l2, _, hp, _, _ => (List.nil_perm.1 hp).symm
  | a :: t, [], _, hp, _, _ => absurd (List.perm_nil.1 hp) (by simp)
  | a :: t, b :: s, ha, hp, h1, h2 => by
    have e : a = b := by
      have ma : a ∈ b :: s := hp.mem_iff.1 (List.mem_cons_self ..)
      have mb : b ∈ a :: t := hp.mem_iff.2 (List.mem_cons_self ..)
      rcases List.mem_cons.1 ma with h | ha2
      · exact h
      · rcases List.mem_cons.1 mb with h | hb2
        · exact h.symm
        · exact ha a (List.mem_cons_self ..) b mb ((List.pairwise_cons.1 h1).1 b hb2) ((List.pairwise_cons.1 h2).1 a ha2)
    subst e
    congr 1
    exact perm_sorted_eq (fun x hx y hy => ha x (List.mem_cons_of_mem _ hx) y (List.mem_cons_of_mem _ hy)) ((List.perm_cons a).1 hp) (List.pairwise_cons.1 h1).2 (List.pairwise_cons.1 h2).2
/-- An element laid into a list in its order. -/
def insI (x : Int) : List Int → List Int
  | [] => [x]
  | y :: l => if x ≤ y then x :: y :: l else y :: insI x l
def isortI : List Int → List Int
  | [] => []
  | x :: l => insI x (isortI l)
theorem insI_perm (x : Int) (l : List Int) : (insI x l).Perm (x :: l) := by
  induction l with
  | nil => exact List.Perm.refl _
  | cons y l ih =>
    unfold insI
    split
    · exact List.Perm.refl _
    · exact (List.Perm.cons y ih).trans (List.Perm.swap x y l)
theorem isortI_perm (l : List Int) : (isortI l).Perm l := by
  induction l with
  | nil => exact List.Perm.refl _
  | cons x l ih => exact (insI_perm x _).trans (List.Perm.cons x ih)
theorem insI_sorted (x : Int) (l : List Int) (h : l.Pairwise (fun a b => a ≤ b)) : (insI x l).Pairwise (fun a b => a ≤ b) := by
  induction l with
  | nil => exact List.pairwise_singleton _ _
  | cons y l ih =>
    obtain ⟨h1, h2⟩ := List.pairwise_cons.1 h
    unfold insI
    split
    · refine List.pairwise_cons.2 ⟨fun z hz => ?_, h⟩
      rcases List.mem_cons.1 hz with rfl | hz
      · assumption
      · have := h1 z hz
        omega
    · refine List.pairwise_cons.2 ⟨fun z hz => ?_, ih h2⟩
      rcases List.mem_cons.1 ((insI_perm x l).mem_iff.1 hz) with rfl | hz
      · omega
      · exact h1 z hz
theorem isortI_sorted (l : List Int) : (isortI l).Pairwise (fun a b => a ≤ b) := by
  induction l with
  | nil => exact List.Pairwise.nil
  | cons x l ih => exact insI_sorted x _ ih
theorem sortInts_sorted (l : List Int) : (sortInts l).Pairwise (fun a b => a ≤ b) := by
  have h := List.pairwise_mergeSort (le := fun x y : Int => !(ltOf cmpI) y x) (fun a b c h1 h2 => by
    rw [ltI] at *
    simp at *
    omega) (fun a b => by
    rw [ltI, ltI]
    simp
    omega) l
  refine h.imp (fun {a b} hab => ?_)
  rw [ltI] at hab
  simpa using hab
theorem sortInts_eq (l : List Int) : sortInts l = isortI l :=
  perm_sorted_eq (fun a _ b _ h1 h2 => Int.le_antisymm h1 h2) ((sortInts_perm l).trans (isortI_perm l).symm) (sortInts_sorted l) (isortI_sorted l)
/-- One attempt before or at another in the order. -/
def leA (a b : S60) : Prop := a.f1 < b.f1 ∨ a.f1 = b.f1 ∧ a.f0 ≤ b.f0
instance (a b : S60) : Decidable (leA a b) := by unfold leA; infer_instance
def insA (x : S60) : List S60 → List S60
  | [] => [x]
  | y :: l => if leA x y then x :: y :: l else y :: insA x l
def isortA : List S60 → List S60
  | [] => []
  | x :: l => insA x (isortA l)
theorem insA_perm (x : S60) (l : List S60) : (insA x l).Perm (x :: l) := by
  induction l with
  | nil => exact List.Perm.refl _
  | cons y l ih =>
    unfold insA
    split
    · exact List.Perm.refl _
    · exact (List.Perm.cons y ih).trans (List.Perm.swap x y l)
theorem isortA_perm (l : List S60) : (isortA l).Perm l := by
  induction l with
  | nil => exact List.Perm.refl _
  | cons x l ih => exact (insA_perm x _).trans (List.Perm.cons x ih)
theorem insA_sorted (x : S60) (l : List S60) (h : l.Pairwise leA) : (insA x l).Pairwise leA := by
  induction l with
  | nil => exact List.pairwise_singleton _ _
  | cons y l ih =>
    obtain ⟨h1, h2⟩ := List.pairwise_cons.1 h
    unfold insA
    split
    · rename_i hxy
      refine List.pairwise_cons.2 ⟨fun z hz => ?_, h⟩
      rcases List.mem_cons.1 hz with rfl | hz
      · exact hxy
      · have := h1 z hz
        unfold leA at *
        omega
    · rename_i hxy
      refine List.pairwise_cons.2 ⟨fun z hz => ?_, ih h2⟩
      rcases List.mem_cons.1 ((insA_perm x l).mem_iff.1 hz) with rfl | hz
      · unfold leA at *
        omega
      · exact h1 z hz
theorem isortA_sorted (l : List S60) : (isortA l).Pairwise leA := by
  induction l with
  | nil => exact List.Pairwise.nil
  | cons x l ih => exact insA_sorted x _ ih
theorem sortAtts_pairwise (l : List S60) : (sortAtts l).Pairwise leA := by
  rw [List.pairwise_iff_getElem]
  intro i j hi hj hij
  have h := sortAtts_sorted l i j hij (by rw [← (sortAtts_perm l).2]; exact hj)
  have e : ∀ q (hq : q < (sortAtts l).length), rd_T60 (sortAtts l) q = (sortAtts l)[q] := fun q hq => by
    unfold rd_T60
    rw [Int.toNat_natCast]
    simp [List.getD, hq]
  rw [e i hi, e j hj] at h
  unfold leA
  omega
/-- No caller twice. -/
def Uniq (l : List S60) : Prop := ∀ a ∈ l, ∀ b ∈ l, a.f0 = b.f0 → a = b
theorem sorted_unique {l l' : List S60} (hu : Uniq l) (hp : l.Perm l') (h1 : l.Pairwise leA) (h2 : l'.Pairwise leA) : l = l' :=
  perm_sorted_eq (fun a ha b hb q1 q2 => hu a ha b hb (by unfold leA at *; omega)) hp h1 h2
theorem sortAtts_eq {l : List S60} (hu : Uniq l) : sortAtts l = isortA l :=
  sorted_unique (fun a ha b hb h => hu a ((sortAtts_perm l).1.mem_iff.1 ha) b ((sortAtts_perm l).1.mem_iff.1 hb) h) ((sortAtts_perm l).1.trans (isortA_perm l).symm) (sortAtts_pairwise l) (isortA_sorted l)
end Go.Proofs.Ytcldldmedphcfaa.C
