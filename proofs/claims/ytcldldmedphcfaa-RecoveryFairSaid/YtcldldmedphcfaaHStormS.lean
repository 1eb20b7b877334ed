import Derived.Test.YtcldldmedphcfaaHPlan
import Derived.Test.YtcldldmedphcfaaHGroups
/- What recovery.Storm answers, in plain words, and what of the world its loops keep. Condition: fewer than 1000 attempts. -/
namespace Go.Proofs.Ytcldldmedphcfaa.C
open Go.RowKit Go.Proofs.YtcldldmedphcfaaW.PrintWords Go.Proofs.YtcldldmedphcfaaW.PrintLast Go.Proofs.YtcldldmedphcfaaW.PrintMore
set_option linter.unusedVariables false
/-- Who waits for which tick: the callers who are not urgent, by their numbers in the order. -/
def pendFrom : List S60 → Nat → List (Int × Int)
  | [], _ => []
  | a :: l, i => (if a.f2 = true then [] else [(a.f1, (i : Int))]) ++ pendFrom l (i + 1)
/-- Who waits for the tick t. -/
def atT (P : List (Int × Int)) (t : Int) : List Int := (P.filter (fun x => decide (x.1 = t))).map (fun x => x.2)
/-- Those who are let in at t. -/
def setAll (I : Int → Option Int) (l : List Int) (t : Int) : Int → Option Int := l.foldl (fun I i => upd I i t) I
/-- Who still waits behind the tick t, c having been let in. -/
def nextP (P : List (Int × Int)) (t pause : Int) (c : Nat) : List (Int × Int) := P.filter (fun x => !decide (x.1 = t)) ++ ((sortInts (atT P t)).drop c).map (fun i => (t + pause, i))
def stormGo (S : List S67) (sig pause : Int) : Nat → Int → List (Int × Int) → (Int → Option Int) → Option ((Int → Option Int) × Int)
  | 0, _, _, _ => none
  | k + 1, t, P, I => if P = [] then some (I, -1) else if sig < (sortInts (atT P t)).length then some (I, t) else
      stormGo S sig pause k (t + 1) (nextP P t pause (capL S t).toNat) (setAll I ((sortInts (atT P t)).take (capL S t).toNat) t)
def stormOut (I : Int → Option Int) (fell : Int) : List S60 → Nat → List S39
  | [], _ => []
  | a :: l, i => (if a.f2 = true then (if 0 ≤ fell ∧ fell < a.f1 then [] else [⟨a.f0, a.f1, a.f1⟩]) else match I (i : Int) with | none => [] | some t => [⟨a.f0, a.f1, t⟩]) ++ stormOut I fell l (i + 1)
def recovery_Storm.f (s : List S67) (sig : Int) (l : List S60) (pause : Int) : Option (List S39 × Int × Int) :=
  if l.length < 1000 then (if validB s sig = true ∧ readyB l = true ∧ (1 ≤ pause ∧ pause ≤ 100) then (stormGo s sig pause 10000 0 (pendFrom (sortAtts l) 0) (fun _ => none)).map (fun r => (stormOut r.1 r.2 (sortAtts l) 0, r.2, 0)) else some ([], -1, 340)) else none
theorem pendFrom_append (l : List S60) (a : S60) : ∀ i : Nat, pendFrom (l ++ [a]) i = pendFrom l i ++ (if a.f2 = true then [] else [(a.f1, ((i + l.length : Nat) : Int))]) := by
  induction l with
  | nil => intro i; simp [pendFrom]
  | cons b l ih =>
    intro i
    simp only [List.cons_append, pendFrom, ih, List.append_assoc, List.length_cons]
    rw [show i + 1 + l.length = i + (l.length + 1) by omega]
theorem take_rd60 (o : List S60) (i : Nat) (hi : i < o.length) : o.take (i + 1) = o.take i ++ [rd_T60 o i] := by
  rw [List.take_succ_eq_append_getElem hi]
  unfold rd_T60
  rw [Int.toNat_natCast, show o.getD i z60 = o[i] by simp [List.getD, hi]]
theorem pend_step (o : List S60) (i : Nat) (hi : i < o.length) : pendFrom (o.take (i + 1)) 0 = pendFrom (o.take i) 0 ++ (if (rd_T60 o i).f2 = true then [] else [((rd_T60 o i).f1, (i : Int))]) := by
  rw [take_rd60 o i hi, pendFrom_append, List.length_take, show 0 + min i o.length = i by omega]
theorem pendFrom_len (l : List S60) : ∀ i, (pendFrom l i).length ≤ l.length ∧ ∀ x ∈ pendFrom l i, (i : Int) ≤ x.2 ∧ x.2 < i + l.length := by
  induction l with
  | nil => intro i; exact ⟨Nat.le_refl _, fun x hx => by cases hx⟩
  | cons a l ih =>
    intro i
    obtain ⟨h1, h2⟩ := ih (i + 1)
    simp only [pendFrom]
    split
    · simp only [List.nil_append, List.length_cons]
      refine ⟨by omega, fun x hx => ?_⟩
      have := h2 x hx
      omega
    · simp only [List.cons_append, List.nil_append, List.length_cons]
      refine ⟨by omega, fun x hx => ?_⟩
      rcases List.mem_cons.1 hx with rfl | hx
      · simp only
        omega
      · have := h2 x hx
        omega
theorem atT_append (P : List (Int × Int)) (t x : Int) : atT (P ++ [(t, x)]) = updG (atT P) t (atT P t ++ [x]) := by
  funext j
  unfold updG atT
  rw [List.filter_append, List.map_append]
  by_cases c : j = t
  · subst c
    simp
  · rw [if_neg c]
    have : ¬ t = j := fun e => c e.symm
    simp [this]
theorem atT_strike (P : List (Int × Int)) (t : Int) : atT (P.filter (fun x => !decide (x.1 = t))) = updG (atT P) t [] := by
  funext j
  unfold updG atT
  rw [List.filter_filter]
  by_cases c : j = t
  · subst c
    rw [if_pos rfl]
    have : (P.filter fun a => decide (a.1 = j) && !decide (a.1 = j)) = [] := by
      rw [List.filter_eq_nil_iff]
      intro a _
      simp
    rw [this]
    rfl
  · rw [if_neg c]
    congr 1
    apply List.filter_congr
    intro a _
    by_cases q : a.1 = j
    · have : ¬ a.1 = t := fun e => c (by rw [← q, e])
      simp [q, c]
    · simp [q]
theorem atT_none (P : List (Int × Int)) : P = [] ↔ ∀ k, atT P k = [] := by
  constructor
  · rintro rfl k
    rfl
  · intro h
    cases P with
    | nil => rfl
    | cons x P =>
      have := h x.1
      simp [atT] at this
theorem atT_len (P : List (Int × Int)) (t : Int) : (atT P t).length ≤ P.length := by
  unfold atT
  rw [List.length_map]
  exact List.length_filter_le _ _
theorem atT_mem {P : List (Int × Int)} {t x : Int} (h : x ∈ atT P t) : (t, x) ∈ P := by
  unfold atT at h
  obtain ⟨y, hy, rfl⟩ := List.mem_map.1 h
  obtain ⟨h1, h2⟩ := List.mem_filter.1 hy
  have : y.1 = t := by simpa using h2
  rw [← this]
  exact h1
theorem nextP_len (P : List (Int × Int)) (t pause : Int) (c : Nat) : (nextP P t pause c).length ≤ P.length := by
  unfold nextP
  rw [List.length_append, List.length_map, List.length_drop, (sortInts_perm _).length_eq]
  have h1 : (atT P t).length = (P.filter (fun x => decide (x.1 = t))).length := by unfold atT; rw [List.length_map]
  have h2 := List.length_eq_countP_add_countP (fun x : Int × Int => decide (x.1 = t)) (l := P)
  rw [List.countP_eq_length_filter, List.countP_eq_length_filter] at h2
  have h3 : (P.filter (fun a => decide ¬(decide (a.1 = t)) = true)).length = (P.filter (fun x => !decide (x.1 = t))).length := by
    congr 1
    apply List.filter_congr
    intro a _
    by_cases q : a.1 = t <;> simp [q]
  omega
theorem nextP_mem {P : List (Int × Int)} {t pause : Int} {c : Nat} {x : Int × Int} (h : x ∈ nextP P t pause c) : ∃ y ∈ P, y.2 = x.2 := by
  unfold nextP at h
  rcases List.mem_append.1 h with h | h
  · exact ⟨x, (List.mem_filter.1 h).1, rfl⟩
  · obtain ⟨i, hi, rfl⟩ := List.mem_map.1 h
    have := (sortInts_perm (atT P t)).mem_iff.1 (List.mem_of_mem_drop hi)
    exact ⟨_, atT_mem this, rfl⟩
theorem setAll_take_succ (I : Int → Option Int) (l : List Int) (t : Int) (j : Nat) (hj : j < l.length) : setAll I (l.take (j + 1)) t = upd (setAll I (l.take j) t) (rd l j) t := by
  unfold setAll
  rw [List.take_succ_eq_append_getElem hj, List.foldl_append]
  simp [rd, List.getD, hj]
/-- Who waits when j of those who try have been looked at. -/
def Pj (P : List (Int × Int)) (t pause : Int) (tr : List Int) (c j : Nat) : List (Int × Int) := P.filter (fun x => !decide (x.1 = t)) ++ ((tr.take j).drop c).map (fun i => (t + pause, i))
/-- Who is in when j of those who try have been looked at. -/
def Ij (I : Int → Option Int) (t : Int) (tr : List Int) (c j : Nat) : Int → Option Int := setAll I ((tr.take j).take c) t
theorem Pj_zero (P : List (Int × Int)) (t pause : Int) (tr : List Int) (c : Nat) : Pj P t pause tr c 0 = P.filter (fun x => !decide (x.1 = t)) := by simp [Pj]
theorem Ij_zero (I : Int → Option Int) (t : Int) (tr : List Int) (c : Nat) : Ij I t tr c 0 = I := by simp [Ij, setAll]
theorem take_rd (l : List Int) (j : Nat) (hj : j < l.length) : l.take (j + 1) = l.take j ++ [rd l j] := by
  rw [List.take_succ_eq_append_getElem hj]
  simp [rd, List.getD, hj]
theorem Pj_in (P : List (Int × Int)) (t pause : Int) (tr : List Int) (c j : Nat) (hj : j < tr.length) (hc : j < c) : Pj P t pause tr c (j + 1) = Pj P t pause tr c j := by
  unfold Pj
  rw [List.drop_eq_nil_of_le (by rw [List.length_take]; omega), List.drop_eq_nil_of_le (by rw [List.length_take]; omega)]
theorem Pj_out (P : List (Int × Int)) (t pause : Int) (tr : List Int) (c j : Nat) (hj : j < tr.length) (hc : c ≤ j) : Pj P t pause tr c (j + 1) = Pj P t pause tr c j ++ [(t + pause, rd tr j)] := by
  unfold Pj
  rw [take_rd tr j hj, List.drop_append_of_le_length (by rw [List.length_take]; omega), List.map_append, ← List.append_assoc]
  rfl
theorem Ij_in (I : Int → Option Int) (t : Int) (tr : List Int) (c j : Nat) (hj : j < tr.length) (hc : j < c) : Ij I t tr c (j + 1) = upd (Ij I t tr c j) (rd tr j) t := by
  unfold Ij
  rw [List.take_take, List.take_take, show min c (j + 1) = j + 1 by omega, show min c j = j by omega]
  exact setAll_take_succ I tr t j hj
theorem Ij_out (I : Int → Option Int) (t : Int) (tr : List Int) (c j : Nat) (hj : j < tr.length) (hc : c ≤ j) : Ij I t tr c (j + 1) = Ij I t tr c j := by
  unfold Ij
  rw [List.take_take, List.take_take, show min c (j + 1) = min c j by omega]
theorem Pj_len (P : List (Int × Int)) (t pause : Int) (c j : Nat) : (Pj P t pause (sortInts (atT P t)) c j).length ≤ P.length := by
  have h := nextP_len P t pause c
  unfold nextP at h
  unfold Pj
  rw [List.length_append, List.length_map, List.length_drop] at h ⊢
  rw [List.length_take]
  omega
theorem sortInts_mem {P : List (Int × Int)} {t : Int} (j : Nat) (hj : j < (sortInts (atT P t)).length) : ∃ x ∈ P, x.2 = rd (sortInts (atT P t)) j := by
  have hm : rd (sortInts (atT P t)) j ∈ sortInts (atT P t) := by
    unfold rd
    rw [Int.toNat_natCast, show (sortInts (atT P t)).getD j 0 = (sortInts (atT P t))[j] by simp [List.getD, hj]]
    exact List.getElem_mem hj
  exact ⟨_, atT_mem ((sortInts_perm _).mem_iff.1 hm), rfl⟩
/-- What of the numbers holds between two rounds of Storm's loop of ticks. -/
structure SN (S : List S67) (sig pause : Int) (I9 : Int → Option Int) (fell : Int) (t kq : Nat) (P : List (Int × Int)) (I : Int → Option Int) : Prop where
  go_ : stormGo S sig pause kq t P I = some (I9, fell)
  sum : t + kq = 10000
  len : P.length ≤ 40
  mem : ∀ x ∈ P, 0 ≤ x.2 ∧ x.2 < 1000
theorem SN.next {S : List S67} {sig pause : Int} {I9 I : Int → Option Int} {fell : Int} {t k : Nat} {P : List (Int × Int)} (h : SN S sig pause I9 fell t (k + 1) P I) (hP : P ≠ []) (hs : ¬ sig < (sortInts (atT P t)).length) :
    SN S sig pause I9 fell (t + 1) k (Pj P t pause (sortInts (atT P t)) (capL S t).toNat (sortInts (atT P t)).length) (Ij I t (sortInts (atT P t)) (capL S t).toNat (sortInts (atT P t)).length) := by
  refine ⟨?_, by have := h.sum; omega, Nat.le_trans (Pj_len _ _ _ _ _) h.len, fun x hx => ?_⟩
  · have := h.go_
    unfold stormGo at this
    rw [if_neg hP, if_neg hs] at this
    unfold Pj Ij
    rw [List.take_length]
    exact this
  · have hx' : x ∈ nextP P t pause (capL S t).toNat := by
      unfold Pj at hx
      rw [List.take_length] at hx
      exact hx
    obtain ⟨y, hy, e⟩ := nextP_mem hx'
    rw [← e]
    exact h.mem y hy
theorem SN.done {S : List S67} {sig pause : Int} {I9 I : Int → Option Int} {fell : Int} {t kq : Nat} (h : SN S sig pause I9 fell t kq [] I) : I9 = I ∧ fell = -1 := by
  have := h.go_
  cases kq with
  | zero => cases this
  | succ k =>
    unfold stormGo at this
    rw [if_pos rfl] at this
    simp only [Option.some.injEq, Prod.mk.injEq] at this
    exact ⟨this.1.symm, this.2.symm⟩
theorem SN.fall {S : List S67} {sig pause : Int} {I9 I : Int → Option Int} {fell : Int} {t kq : Nat} {P : List (Int × Int)} (h : SN S sig pause I9 fell t kq P I) (hP : P ≠ []) (hs : sig < (sortInts (atT P t)).length) : I9 = I ∧ fell = t := by
  have := h.go_
  cases kq with
  | zero => cases this
  | succ k =>
    unfold stormGo at this
    rw [if_neg hP, if_pos hs] at this
    simp only [Option.some.injEq, Prod.mk.injEq] at this
    exact ⟨this.1.symm, this.2.symm⟩
theorem stormOut_append (I : Int → Option Int) (fell : Int) (l : List S60) (a : S60) : ∀ i : Nat, stormOut I fell (l ++ [a]) i = stormOut I fell l i ++ stormOut I fell [a] (i + l.length) := by
  induction l with
  | nil => intro i; simp [stormOut]
  | cons b l ih =>
    intro i
    simp only [List.cons_append, stormOut, ih, List.append_assoc, List.length_cons]
    rw [show i + 1 + l.length = i + (l.length + 1) by omega]
theorem stormOut_step (I : Int → Option Int) (fell : Int) (o : List S60) (i : Nat) (hi : i < o.length) : stormOut I fell (o.take (i + 1)) 0 = stormOut I fell (o.take i) 0 ++ (if (rd_T60 o i).f2 = true then (if 0 ≤ fell ∧ fell < (rd_T60 o i).f1 then [] else [⟨(rd_T60 o i).f0, (rd_T60 o i).f1, (rd_T60 o i).f1⟩]) else match I (i : Int) with | none => [] | some t => [⟨(rd_T60 o i).f0, (rd_T60 o i).f1, t⟩]) := by
  rw [take_rd60 o i hi, stormOut_append, List.length_take, show 0 + min i o.length = i by omega]
  congr 1
  simp only [stormOut, List.append_nil]
theorem stormOut_len (I : Int → Option Int) (fell : Int) (l : List S60) : ∀ i : Nat, (stormOut I fell l i).length ≤ l.length := by
  induction l with
  | nil => intro i; exact Nat.le_refl _
  | cons a l ih =>
    intro i
    have := ih (i + 1)
    simp only [stormOut, List.length_append, List.length_cons]
    split
    · split <;> simp <;> omega
    · split <;> simp <;> omega
end Go.Proofs.Ytcldldmedphcfaa.C
