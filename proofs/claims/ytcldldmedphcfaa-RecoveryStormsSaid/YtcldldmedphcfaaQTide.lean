import Derived.Test.YtcldldmedphcfaaQLoad
import Derived.Test.YtcldldmedphcfaaQEval
/- A storm in plain words: nobody in before the first attempt, no tick beyond its capacity; it ends. Condition: attempts in their order, a valid region. -/
namespace Go.Proofs.Ytcldldmedphcfaa.C
open Go.RowKit Go.Proofs.YtcldldmedphcfaaW.PrintWords Go.Proofs.YtcldldmedphcfaaW.PrintLast Go.Proofs.YtcldldmedphcfaaW.PrintMore
set_option linter.unusedVariables false
set_option linter.unusedSimpArgs false
theorem setAll_eq (t : Int) : ∀ (L : List Int) (I : Int → Option Int) (i : Int), setAll I L t i = if i ∈ L then some t else I i
  | [], I, i => by
    rw [if_neg (List.not_mem_nil)]
    rfl
  | x :: L, I, i => by
    have ih := setAll_eq t L (upd I x t) i
    have e : setAll I (x :: L) t = setAll (upd I x t) L t := rfl
    rw [e, ih]
    by_cases c : i ∈ L
    · rw [if_pos c, if_pos (List.mem_cons_of_mem _ c)]
    · rw [if_neg c]
      unfold upd
      by_cases d : i = x
      · rw [if_pos d, if_pos (by rw [d]; exact List.mem_cons_self ..)]
      · rw [if_neg d, if_neg (by rw [List.mem_cons]; exact fun q => q.elim d c)]
/-- Who is in: first attempt and tick, of those who are not urgent. -/
def pairsOf (I : Int → Option Int) : List S60 → Nat → List (Int × Int)
  | [], _ => []
  | a :: o, i => (if a.f2 = true then [] else match I (i : Int) with | none => [] | some t => [(a.f1, t)]) ++ pairsOf I o (i + 1)
theorem cAt_append (A B : List (Int × Int)) (T : Int) : cAt (A ++ B) T = cAt A T + cAt B T := List.countP_append
theorem cLe_append (A B : List (Int × Int)) (T : Int) : cLe (A ++ B) T = cLe A T + cLe B T := List.countP_append
theorem cFst_append (A B : List (Int × Int)) (T : Int) : cFst (A ++ B) T = cFst A T + cFst B T := List.countP_append
theorem pairs_congr (T : Int) (I I' : Int → Option Int) (h : ∀ i, I i = some T ↔ I' i = some T) : ∀ (o : List S60) (i : Nat), cAt (pairsOf I o i) T = cAt (pairsOf I' o i) T
  | [], _ => rfl
  | a :: o, i => by
    simp only [pairsOf]
    rw [cAt_append, cAt_append, pairs_congr T I I' h o (i + 1)]
    congr 1
    by_cases hu : a.f2 = true
    · rw [if_pos hu, if_pos hu]
    · rw [if_neg hu, if_neg hu]
      have hi := h (i : Int)
      cases e : I (i : Int) with
      | none =>
        cases e' : I' (i : Int) with
        | none => rfl
        | some v =>
          rw [e, e'] at hi
          have : ¬ v = T := fun q => by
            have := hi.2 (by rw [q])
            cases this
          simp [cAt, this]
      | some u =>
        cases e' : I' (i : Int) with
        | none =>
          rw [e, e'] at hi
          have : ¬ u = T := fun q => by
            have := hi.1 (by rw [q])
            cases this
          simp [cAt, this]
        | some v =>
          rw [e, e'] at hi
          by_cases q : u = T
          · have : v = T := Option.some.inj (hi.1 (by rw [q]))
            simp [cAt, q, this]
          · have : ¬ v = T := fun r => q (Option.some.inj (hi.2 (by rw [r])))
            simp [cAt, q, this]
theorem cnt_from (j : Nat) : ∀ L : List Int, L.countP (fun x => decide ((j : Int) + 1 ≤ x)) + (if (j : Int) ∈ L then 1 else 0) ≤ L.countP (fun x => decide ((j : Int) ≤ x))
  | [] => by simp
  | x :: L => by
    have ih := cnt_from j L
    rw [List.countP_cons, List.countP_cons]
    by_cases c : (j : Int) = x
    · rw [if_pos (show (j : Int) ∈ x :: L by rw [c]; exact List.mem_cons_self ..), if_neg (by rw [decide_eq_true_eq]; omega), if_pos (by rw [decide_eq_true_eq]; omega)]
      split at ih <;> omega
    · have e : ((j : Int) ∈ x :: L) ↔ (j : Int) ∈ L := by
        rw [List.mem_cons]
        exact ⟨fun q => q.elim (fun r => absurd r c) id, Or.inr⟩
      simp only [e]
      by_cases d : (j : Int) + 1 ≤ x
      · rw [if_pos (decide_eq_true d), if_pos (decide_eq_true (show (j : Int) ≤ x by omega))]
        omega
      · rw [if_neg (show ¬ decide ((j : Int) + 1 ≤ x) = true by rw [decide_eq_true_eq]; exact d), if_neg (show ¬ decide ((j : Int) ≤ x) = true by rw [decide_eq_true_eq]; omega)]
        omega
theorem pairs_few (T : Int) (I : Int → Option Int) (L : List Int) (h : ∀ i, I i = some T → i ∈ L) : ∀ (o : List S60) (i : Nat), cAt (pairsOf I o i) T ≤ L.countP (fun x => decide ((i : Int) ≤ x))
  | [], _ => Nat.zero_le _
  | a :: o, i => by
    have ih := pairs_few T I L h o (i + 1)
    have hc := cnt_from i L
    have e : ((i + 1 : Nat) : Int) = (i : Int) + 1 := by omega
    rw [e] at ih
    simp only [pairsOf]
    rw [cAt_append]
    by_cases hu : a.f2 = true
    · rw [if_pos hu, show cAt [] T = 0 from rfl]
      split at hc <;> omega
    · rw [if_neg hu]
      cases q : I (i : Int) with
      | none =>
        simp only
        rw [show cAt [] T = 0 from rfl]
        split at hc <;> omega
      | some v =>
        simp only
        by_cases r : v = T
        · have hm := h (i : Int) (by rw [q, r])
          rw [if_pos hm] at hc
          have : cAt [(a.f1, v)] T ≤ 1 := List.countP_le_length
          omega
        · have : cAt [(a.f1, v)] T = 0 := by simp [cAt, r]
          split at hc <;> omega
theorem pairs_zero (T : Int) (I : Int → Option Int) (o : List S60) (h : ∀ i, I i ≠ some T) (i : Nat) : cAt (pairsOf I o i) T = 0 := by
  have := pairs_few T I [] (fun j hj => absurd hj (h j)) o i
  simpa using this
theorem part_perm {α : Type} (f : α → Bool) : ∀ l : List α, (l.filter (fun x => !f x) ++ l.filter f).Perm l
  | [] => List.Perm.refl _
  | x :: l => by
    have ih := part_perm f l
    cases c : f x with
    | true =>
      rw [List.filter_cons_of_neg (by simp [c]), List.filter_cons_of_pos (by simp [c])]
      exact List.perm_middle.trans (List.Perm.cons x ih)
    | false =>
      rw [List.filter_cons_of_pos (by simp [c]), List.filter_cons_of_neg (by simp [c])]
      exact List.Perm.cons x ih
/-- What holds at the begin of the tick t of a storm. -/
structure SI (o : List S60) (S : List S67) (t : Int) (P : List (Int × Int)) (I : Int → Option Int) : Prop where
  pend : ∀ x ∈ P, t ≤ x.1 ∧ I x.2 = none ∧ ∃ k : Nat, ∃ hk : k < o.length, x.2 = k ∧ o[k].f2 = false ∧ o[k].f1 ≤ x.1
  got : ∀ i v, I i = some v → v < t ∧ ∃ k : Nat, ∃ hk : k < o.length, i = k ∧ o[k].f2 = false ∧ o[k].f1 ≤ v
  all : ∀ (k : Nat) (hk : k < o.length), o[k].f2 = false → I k = none → ∃ x ∈ P, x.2 = k
  cap : ∀ T, 0 ≤ T → T < t → (cAt (pairsOf I o 0) T : Int) ≤ capL S T
  nd : (P.map (fun x => x.2)).Pairwise (fun a b => a ≠ b)
/-- The state behind the tick t. -/
def nxP (P : List (Int × Int)) (t pause : Int) (c : Nat) : List (Int × Int) := P.filter (fun x => !decide (x.1 = t)) ++ ((isortI (atT P t)).drop c).map (fun i => (t + pause, i))
theorem SI.next {o : List S60} {S : List S67} {t : Int} {P : List (Int × Int)} {I : Int → Option Int} (h : SI o S t P I) (pause : Int) (hp : 1 ≤ pause) (ht : 0 ≤ t) (hc : 0 ≤ capL S t) : SI o S (t + 1) (nxP P t pause (capL S t).toNat) (setAll I ((isortI (atT P t)).take (capL S t).toNat) t) := by
  have hLp := isortI_perm (atT P t)
  have hL : ∀ i ∈ isortI (atT P t), (t, i) ∈ P := fun i hi => atT_mem (hLp.mem_iff.1 hi)
  have hnd : (((P.filter (fun x => !decide (x.1 = t))).map (fun x => x.2)) ++ isortI (atT P t)).Pairwise (fun a b => a ≠ b) := by
    have h1 := (part_perm (fun x : Int × Int => decide (x.1 = t)) P).map (fun x => x.2)
    rw [List.map_append] at h1
    have h2 : (((P.filter (fun x => !decide (x.1 = t))).map (fun x => x.2)) ++ isortI (atT P t)).Perm (P.map (fun x => x.2)) := (List.Perm.append_left _ hLp).trans h1
    exact h2.symm.pairwise h.nd (fun {a b} q => q.symm)
  obtain ⟨hn1, hn2, hn3⟩ := List.pairwise_append.1 hnd
  have hsplit : ∀ i ∈ (isortI (atT P t)).drop (capL S t).toNat, i ∉ (isortI (atT P t)).take (capL S t).toNat := by
    intro i hi hj
    rw [← List.take_append_drop (capL S t).toNat (isortI (atT P t))] at hn2
    exact (List.pairwise_append.1 hn2).2.2 i hj i hi rfl
  refine ⟨fun x hx => ?_, fun i v hv => ?_, fun k hk hu hn => ?_, fun T hT0 hT1 => ?_, ?_⟩
  · unfold nxP at hx
    rcases List.mem_append.1 hx with hx | hx
    · obtain ⟨hx1, hx2⟩ := List.mem_filter.1 hx
      have hne : ¬ x.1 = t := by simpa using hx2
      obtain ⟨q1, q2, q3⟩ := h.pend x hx1
      refine ⟨by omega, ?_, q3⟩
      rw [setAll_eq, if_neg (fun hm => hn3 x.2 (List.mem_map.2 ⟨x, hx, rfl⟩) x.2 (List.mem_of_mem_take hm) rfl)]
      exact q2
    · obtain ⟨i, hi, rfl⟩ := List.mem_map.1 hx
      obtain ⟨q1, q2, k, hk, q3, q4, q5⟩ := h.pend (t, i) (hL i (List.mem_of_mem_drop hi))
      simp only at q1 q2 q3 q5 ⊢
      refine ⟨by omega, ?_, k, hk, q3, q4, by omega⟩
      rw [setAll_eq, if_neg (hsplit i hi)]
      exact q2
  · rw [setAll_eq] at hv
    by_cases c : i ∈ (isortI (atT P t)).take (capL S t).toNat
    · rw [if_pos c] at hv
      have := Option.some.inj hv
      subst this
      obtain ⟨q1, q2, k, hk, q3, q4, q5⟩ := h.pend (t, i) (hL i (List.mem_of_mem_take c))
      exact ⟨by omega, k, hk, q3, q4, q5⟩
    · rw [if_neg c] at hv
      obtain ⟨q1, q2⟩ := h.got i v hv
      exact ⟨by omega, q2⟩
  · rw [setAll_eq] at hn
    by_cases c : (k : Int) ∈ (isortI (atT P t)).take (capL S t).toNat
    · rw [if_pos c] at hn
      cases hn
    · rw [if_neg c] at hn
      obtain ⟨x, hx, e⟩ := h.all k hk hu hn
      unfold nxP
      by_cases d : x.1 = t
      · have hm : (k : Int) ∈ isortI (atT P t) := hLp.mem_iff.2 (by
          unfold atT
          exact List.mem_map.2 ⟨x, List.mem_filter.2 ⟨hx, decide_eq_true d⟩, e⟩)
        rw [← List.take_append_drop (capL S t).toNat (isortI (atT P t))] at hm
        rcases List.mem_append.1 hm with hm | hm
        · exact absurd hm c
        · exact ⟨(t + pause, (k : Int)), List.mem_append_right _ (List.mem_map.2 ⟨(k : Int), hm, rfl⟩), rfl⟩
      · exact ⟨x, List.mem_append_left _ (List.mem_filter.2 ⟨hx, by simp [d]⟩), e⟩
  · by_cases c : T = t
    · subst c
      have h1 := pairs_few T (setAll I ((isortI (atT P T)).take (capL S T).toNat) T) ((isortI (atT P T)).take (capL S T).toNat) (fun i hi => by
        rw [setAll_eq] at hi
        by_cases d : i ∈ (isortI (atT P T)).take (capL S T).toNat
        · exact d
        · rw [if_neg d] at hi
          have := (h.got i T hi).1
          omega) o 0
      have h2 : ((isortI (atT P T)).take (capL S T).toNat).countP (fun x => decide (((0 : Nat) : Int) ≤ x)) ≤ ((isortI (atT P T)).take (capL S T).toNat).length := List.countP_le_length
      rw [List.length_take] at h2
      omega
    · rw [pairs_congr T _ I (fun i => ?_) o 0]
      · exact h.cap T hT0 (by omega)
      · rw [setAll_eq]
        by_cases d : i ∈ (isortI (atT P t)).take (capL S t).toNat
        · rw [if_pos d]
          have hi := (h.pend (t, i) (hL i (List.mem_of_mem_take d))).2.1
          simp only at hi
          rw [hi]
          constructor
          · intro q
            exact absurd (Option.some.inj q).symm c
          · intro q
            cases q
        · rw [if_neg d]
  · unfold nxP
    rw [List.map_append, List.map_map]
    have e : ((fun x : Int × Int => x.2) ∘ fun i => (t + pause, i)) = id := rfl
    rw [e, List.map_id]
    exact hnd.sublist (List.Sublist.append (List.Sublist.refl _) (List.drop_sublist _ _))
/-- What a storm's end tells. -/
structure SE (o : List S60) (S : List S67) (I : Int → Option Int) (fell : Int) : Prop where
  fl : fell = -1 ∨ 0 ≤ fell
  got : ∀ i v, I i = some v → (0 ≤ fell → v ≤ fell) ∧ ∃ k : Nat, ∃ hk : k < o.length, i = k ∧ o[k].f2 = false ∧ o[k].f1 ≤ v
  all : fell = -1 → ∀ (k : Nat) (hk : k < o.length), o[k].f2 = false → I k ≠ none
  cap : ∀ T, 0 ≤ T → (cAt (pairsOf I o 0) T : Int) ≤ capL S T
theorem SI.done {o : List S60} {S : List S67} {t : Int} {P : List (Int × Int)} {I : Int → Option Int} (h : SI o S t P I) (hc : ∀ T, 0 ≤ T → 0 ≤ capL S T) (T : Int) (hT : 0 ≤ T) : (cAt (pairsOf I o 0) T : Int) ≤ capL S T := by
  by_cases c : T < t
  · exact h.cap T hT c
  · rw [pairs_zero T I o (fun i hi => by have := (h.got i T hi).1; omega)]
    exact hc T hT
theorem storm_end {o : List S60} {S : List S67} {sig pause : Int} (hp : 1 ≤ pause) (hc : ∀ T, 0 ≤ T → 0 ≤ capL S T) : ∀ (k : Nat) (t : Int) (P : List (Int × Int)) (I I9 : Int → Option Int) (fell : Int), stormI S sig pause k t P I = some (I9, fell) → 0 ≤ t → SI o S t P I → SE o S I9 fell
  | 0, _, _, _, _, _, h, _, _ => by cases h
  | k + 1, t, P, I, I9, fell, h, ht, hi => by
    unfold stormI at h
    by_cases c : P = []
    · rw [if_pos c] at h
      simp only [Option.some.injEq, Prod.mk.injEq] at h
      obtain ⟨rfl, rfl⟩ := h
      refine ⟨Or.inl rfl, fun i v hv => ⟨fun q => by omega, (hi.got i v hv).2⟩, fun _ k hk hu hn => ?_, hi.done hc⟩
      obtain ⟨x, hx, _⟩ := hi.all k hk hu hn
      rw [c] at hx
      cases hx
    · rw [if_neg c] at h
      by_cases d : sig < (isortI (atT P t)).length
      · rw [if_pos d] at h
        simp only [Option.some.injEq, Prod.mk.injEq] at h
        obtain ⟨rfl, rfl⟩ := h
        exact ⟨Or.inr ht, fun i v hv => ⟨fun q => by have := (hi.got i v hv).1; omega, (hi.got i v hv).2⟩, fun q => by omega, hi.done hc⟩
      · rw [if_neg d] at h
        exact storm_end hp hc k (t + 1) _ _ _ _ h (by omega) (hi.next pause hp ht (hc t ht))
/-! #### it ends -/
theorem nxP_len (P : List (Int × Int)) (t pause : Int) (c : Nat) : (nxP P t pause c).length = P.length - min c (atT P t).length := by
  unfold nxP
  rw [List.length_append, List.length_map, List.length_drop, (isortI_perm _).length_eq]
  have h1 := (part_perm (fun x : Int × Int => decide (x.1 = t)) P).length_eq
  rw [List.length_append] at h1
  have h2 : (atT P t).length = (P.filter (fun x => decide (x.1 = t))).length := by unfold atT; rw [List.length_map]
  omega
theorem nxP_bd {P : List (Int × Int)} {t pause M : Int} {c : Nat} (hp : pause ≤ 6) (hP : ∀ x ∈ P, x.1 ≤ M) (hM : t + 6 ≤ M) : ∀ x ∈ nxP P t pause c, x.1 ≤ M := by
  intro x hx
  unfold nxP at hx
  rcases List.mem_append.1 hx with hx | hx
  · exact hP x (List.mem_filter.1 hx).1
  · obtain ⟨i, _, rfl⟩ := List.mem_map.1 hx
    simp only
    omega
theorem atT_nil {P : List (Int × Int)} {t : Int} (h : (atT P t).length = 0) : ∀ x ∈ P, ¬ x.1 = t := by
  intro x hx e
  have : x.2 ∈ atT P t := List.mem_map.2 ⟨x, List.mem_filter.2 ⟨hx, decide_eq_true e⟩, rfl⟩
  rw [List.eq_nil_of_length_eq_zero h] at this
  cases this
theorem nxP_same {P : List (Int × Int)} {t pause : Int} {c : Nat} (h : (atT P t).length = 0) : nxP P t pause c = P := by
  unfold nxP
  rw [List.eq_nil_of_length_eq_zero h, show isortI [] = [] from rfl, List.drop_nil, List.map_nil, List.append_nil, List.filter_eq_self]
  intro x hx
  have := atT_nil h x hx
  simp [this]
theorem storm_late {S : List S67} {sig pause : Int} (hp : pause ≤ 6) (hc : ∀ T, 50 ≤ T → 0 < capL S T) : ∀ (k : Nat) (t : Int) (P : List (Int × Int)) (I : Int → Option Int) (e : Nat), 50 ≤ t → (∀ x ∈ P, t ≤ x.1 ∧ x.1 ≤ t + 5) → (P = [] ∨ ∃ x ∈ P, x.1 ≤ t + e) → (1 ≤ pause) → 7 * P.length + e + 1 ≤ k → ∃ r, stormI S sig pause k t P I = some r
  | 0, _, _, _, _, _, _, _, _, h => by omega
  | k + 1, t, P, I, e, ht, hb, he, h1, hk => by
    unfold stormI
    by_cases c : P = []
    · exact ⟨_, by rw [if_pos c]⟩
    · rw [if_neg c]
      by_cases d : sig < (isortI (atT P t)).length
      · exact ⟨_, by rw [if_pos d]⟩
      · rw [if_neg d]
        have hlen := nxP_len P t pause (capL S t).toNat
        have hct := hc t ht
        have hb' : ∀ x ∈ nxP P t pause (capL S t).toNat, t + 1 ≤ x.1 ∧ x.1 ≤ t + 1 + 5 := by
          intro x hx
          refine ⟨?_, nxP_bd hp (M := t + 1 + 5) (fun y hy => by have := hb y hy; omega) (by omega) x hx⟩
          unfold nxP at hx
          rcases List.mem_append.1 hx with hx | hx
          · obtain ⟨q1, q2⟩ := List.mem_filter.1 hx
            have := hb x q1
            have hne : ¬ x.1 = t := by simpa using q2
            omega
          · obtain ⟨i, _, rfl⟩ := List.mem_map.1 hx
            simp only
            omega
        by_cases z : (atT P t).length = 0
        · rcases he with he | ⟨x, hx, hxe⟩
          · exact absurd he c
          · have h2 := atT_nil z x hx
            have h3 := hb x hx
            have hs : nxP P t pause (capL S t).toNat = P := nxP_same z
            refine storm_late hp hc k (t + 1) (nxP P t pause (capL S t).toNat) _ (e - 1) (by omega) hb' (Or.inr ⟨x, by rw [hs]; exact hx, by omega⟩) h1 (by rw [hs]; omega)
        · have hPl : (atT P t).length ≤ P.length := atT_len P t
          refine storm_late hp hc k (t + 1) (nxP P t pause (capL S t).toNat) _ 5 (by omega) hb' ?_ h1 (by omega)
          by_cases w : nxP P t pause (capL S t).toNat = []
          · exact Or.inl w
          · obtain ⟨x, hx⟩ := List.exists_mem_of_ne_nil _ w
            exact Or.inr ⟨x, hx, (hb' x hx).2⟩
theorem storm_ends {S : List S67} {sig pause : Int} (hp : 1 ≤ pause ∧ pause ≤ 6) (hc : ∀ T, 50 ≤ T → 0 < capL S T) : ∀ (k : Nat) (t : Int) (P : List (Int × Int)) (I : Int → Option Int), 0 ≤ t → t ≤ 50 → (∀ x ∈ P, t ≤ x.1 ∧ x.1 ≤ max 25 t + 5) → (50 - t).toNat + 7 * P.length + 6 ≤ k → ∃ r, stormI S sig pause k t P I = some r
  | 0, _, _, _, _, _, _, h => by omega
  | k + 1, t, P, I, h0, h50, hb, hk => by
    by_cases e50 : t = 50
    · refine storm_late hp.2 hc (k + 1) t P I 5 (by omega) (fun x hx => by have := hb x hx; omega) ?_ hp.1 (by omega)
      by_cases w : P = []
      · exact Or.inl w
      · obtain ⟨x, hx⟩ := List.exists_mem_of_ne_nil _ w
        exact Or.inr ⟨x, hx, by have := hb x hx; push_cast; omega⟩
    · unfold stormI
      by_cases c : P = []
      · exact ⟨_, by rw [if_pos c]⟩
      · rw [if_neg c]
        by_cases d : sig < (isortI (atT P t)).length
        · exact ⟨_, by rw [if_pos d]⟩
        · rw [if_neg d]
          have hlen := nxP_len P t pause (capL S t).toNat
          refine storm_ends hp hc k (t + 1) (nxP P t pause (capL S t).toNat) _ (by omega) (by omega) (fun x hx => ⟨?_, nxP_bd hp.2 (M := max 25 (t + 1) + 5) (fun y hy => by have := hb y hy; omega) (by omega) x hx⟩) (by omega)
          unfold nxP at hx
          rcases List.mem_append.1 hx with hx | hx
          · obtain ⟨q1, q2⟩ := List.mem_filter.1 hx
            have := hb x q1
            have hne : ¬ x.1 = t := by simpa using q2
            omega
          · obtain ⟨i, _, rfl⟩ := List.mem_map.1 hx
            simp only
            omega
/-! #### the begin, and what is told of it -/
theorem pend_mem : ∀ (o : List S60) (i : Nat) (x : Int × Int), x ∈ pendFrom o i ↔ ∃ k : Nat, ∃ hk : k < o.length, x.2 = ((i + k : Nat) : Int) ∧ o[k].f2 = false ∧ o[k].f1 = x.1
  | [], i, x => by simp [pendFrom]
  | a :: o, i, x => by
    have ih := pend_mem o (i + 1) x
    simp only [pendFrom, List.mem_append]
    rw [ih]
    constructor
    · rintro (h | ⟨k, hk, h1, h2, h3⟩)
      · by_cases hu : a.f2 = true
        · rw [if_pos hu] at h
          cases h
        · rw [if_neg hu, List.mem_singleton] at h
          subst h
          exact ⟨0, by simp, by simp, by simpa using hu, rfl⟩
      · exact ⟨k + 1, by simpa using hk, by rw [h1]; congr 1; omega, h2, h3⟩
    · rintro ⟨k, hk, h1, h2, h3⟩
      cases k with
      | zero =>
        left
        simp only [List.getElem_cons_zero] at h2 h3
        rw [if_neg (by rw [h2]; exact Bool.false_ne_true), List.mem_singleton]
        exact Prod.ext h3.symm (by rw [h1]; rfl)
      | succ k =>
        right
        exact ⟨k, by simpa using hk, by rw [h1]; congr 1; omega, by simpa using h2, by simpa using h3⟩
theorem pend_nd : ∀ (o : List S60) (i : Nat), ((pendFrom o i).map (fun x => x.2)).Pairwise (fun a b => a ≠ b)
  | [], i => by simp [pendFrom]
  | a :: o, i => by
    have ih := pend_nd o (i + 1)
    simp only [pendFrom]
    by_cases hu : a.f2 = true
    · rw [if_pos hu, List.nil_append]
      exact ih
    · rw [if_neg hu, List.singleton_append, List.map_cons, List.pairwise_cons]
      refine ⟨fun y hy e => ?_, ih⟩
      obtain ⟨x, hx, rfl⟩ := List.mem_map.1 hy
      obtain ⟨k, hk, h1, _⟩ := (pend_mem o (i + 1) x).1 hx
      simp only at e
      omega
theorem SI.start (o : List S60) (S : List S67) (h0 : ∀ a ∈ o, 0 ≤ a.f1) : SI o S 0 (pendFrom o 0) (fun _ => none) := by
  refine ⟨fun x hx => ?_, fun i v hv => (by cases hv), fun k hk hu _ => ?_, fun T h1 h2 => (by omega), pend_nd o 0⟩
  · obtain ⟨k, hk, h1, h2, h3⟩ := (pend_mem o 0 x).1 hx
    rw [Nat.zero_add] at h1
    have := h0 _ (List.getElem_mem hk)
    exact ⟨by omega, rfl, k, hk, h1, h2, by omega⟩
  · exact ⟨(o[k].f1, (k : Int)), (pend_mem o 0 _).2 ⟨k, hk, by simp, hu, rfl⟩, rfl⟩
theorem out_len (I : Int → Option Int) (fell : Int) : ∀ (o : List S60) (i : Nat), (stormOut I fell o i).length ≤ o.length
  | [], _ => Nat.le_refl _
  | a :: o, i => by
    have ih := out_len I fell o (i + 1)
    simp only [stormOut, List.length_append, List.length_cons]
    by_cases hu : a.f2 = true
    · rw [if_pos hu]
      split <;> simp <;> omega
    · rw [if_neg hu]
      cases I (i : Int) <;> simp <;> omega
theorem out_all (I : Int → Option Int) : ∀ (o : List S60) (i : Nat), (∀ (k : Nat) (hk : k < o.length), o[k].f2 = false → I ((i + k : Nat) : Int) ≠ none) → (stormOut I (-1) o i).length = o.length
  | [], _, _ => rfl
  | a :: o, i, h => by
    have ih := out_all I o (i + 1) (fun k hk hu => by
      have := h (k + 1) (by simpa using hk) (by simpa using hu)
      rw [show i + 1 + k = i + (k + 1) by omega]
      exact this)
    simp only [stormOut, List.length_append, List.length_cons]
    by_cases hu : a.f2 = true
    · rw [if_pos hu, if_neg (by omega)]
      simp
      omega
    · rw [if_neg hu]
      have := h 0 (by simp) (by simpa using hu)
      rw [Nat.add_zero] at this
      cases q : I (i : Int) with
      | none => exact absurd q this
      | some v =>
        simp
        omega
theorem out_mem (I : Int → Option Int) (fell : Int) : ∀ (o : List S60) (i : Nat), (∀ (k : Nat) (hk : k < o.length) (v : Int), I ((i + k : Nat) : Int) = some v → (0 ≤ fell → v ≤ fell) ∧ o[k].f1 ≤ v) → ∀ x ∈ stormOut I fell o i, x.f1 ≤ x.f2 ∧ (0 ≤ fell → x.f2 ≤ fell)
  | [], _, _, x, hx => by cases hx
  | a :: o, i, h, x, hx => by
    simp only [stormOut, List.mem_append] at hx
    rcases hx with hx | hx
    · by_cases hu : a.f2 = true
      · rw [if_pos hu] at hx
        by_cases c : 0 ≤ fell ∧ fell < a.f1
        · rw [if_pos c] at hx
          cases hx
        · rw [if_neg c, List.mem_singleton] at hx
          subst hx
          simp only
          exact ⟨Int.le_refl _, fun q => by omega⟩
      · rw [if_neg hu] at hx
        cases q : I (i : Int) with
        | none =>
          rw [q] at hx
          cases hx
        | some v =>
          rw [q] at hx
          simp only [List.mem_singleton] at hx
          subst hx
          have := h 0 (by simp) v (by rw [Nat.add_zero]; exact q)
          simp only [List.getElem_cons_zero] at this ⊢
          exact ⟨this.2, this.1⟩
    · exact out_mem I fell o (i + 1) (fun k hk v hv => by
        have := h (k + 1) (by simpa using hk) v (by rw [show i + (k + 1) = i + 1 + k by omega]; exact hv)
        simpa using this) x hx
theorem out_count (I : Int → Option Int) (fell A : Int) : ∀ (o : List S60) (i : Nat), (stormOut I fell o i).countP (fun x => decide (x.f2 ≤ A)) ≤ cLe (pairsOf I o i) A + o.countP (fun a => a.f2 && decide (a.f1 ≤ A))
  | [], _ => Nat.zero_le _
  | a :: o, i => by
    have ih := out_count I fell A o (i + 1)
    simp only [stormOut, pairsOf]
    rw [List.countP_append, cLe_append, List.countP_cons]
    by_cases hu : a.f2 = true
    · rw [if_pos hu, if_pos hu, hu, show cLe [] A = 0 from rfl]
      by_cases c : 0 ≤ fell ∧ fell < a.f1
      · rw [if_pos c]
        simp only [List.countP_nil]
        omega
      · rw [if_neg c]
        by_cases d : a.f1 ≤ A
        · simp [d]
          omega
        · simp [d]
          omega
    · rw [if_neg hu, if_neg hu]
      cases I (i : Int) with
      | none =>
        simp only [List.countP_nil]
        rw [show cLe [] A = 0 from rfl]
        omega
      | some v =>
        simp only
        have : ([⟨a.f0, a.f1, v⟩] : List S39).countP (fun x => decide (x.f2 ≤ A)) = cLe [(a.f1, v)] A := by
          unfold cLe
          by_cases d : v ≤ A <;> simp [d]
        omega
theorem pairs_fst (I : Int → Option Int) (A : Int) : ∀ (o : List S60) (i : Nat), cFst (pairsOf I o i) A ≤ leO o A
  | [], _ => Nat.zero_le _
  | a :: o, i => by
    have ih := pairs_fst I A o (i + 1)
    unfold leO at *
    simp only [pairsOf]
    rw [cFst_append, List.countP_cons]
    by_cases hu : a.f2 = true
    · rw [if_pos hu, show cFst [] A = 0 from rfl]
      omega
    · have hu' : a.f2 = false := by simpa using hu
      rw [if_neg hu, hu']
      cases I (i : Int) with
      | none =>
        simp only
        rw [show cFst [] A = 0 from rfl]
        omega
      | some v =>
        simp only
        have : cFst [(a.f1, v)] A = if (!false && decide (a.f1 ≤ A)) = true then 1 else 0 := by
          unfold cFst
          by_cases d : a.f1 ≤ A <;> simp [d]
        omega
theorem pairs_mem (I : Int → Option Int) : ∀ (o : List S60) (i : Nat), (∀ a ∈ o, 0 ≤ a.f1) → (∀ (k : Nat) (hk : k < o.length) (v : Int), I ((i + k : Nat) : Int) = some v → o[k].f1 ≤ v) → ∀ e ∈ pairsOf I o i, 0 ≤ e.1 ∧ e.1 ≤ e.2
  | [], _, _, _, e, he => by cases he
  | a :: o, i, h0, h, e, he => by
    simp only [pairsOf, List.mem_append] at he
    rcases he with he | he
    · by_cases hu : a.f2 = true
      · rw [if_pos hu] at he
        cases he
      · rw [if_neg hu] at he
        cases q : I (i : Int) with
        | none =>
          rw [q] at he
          cases he
        | some v =>
          rw [q] at he
          simp only [List.mem_singleton] at he
          subst he
          have h1 := h 0 (by simp) v (by rw [Nat.add_zero]; exact q)
          have h2 := h0 a (List.mem_cons_self ..)
          exact ⟨h2, h1⟩
    · exact pairs_mem I o (i + 1) (fun b hb => h0 b (List.mem_cons_of_mem _ hb)) (fun k hk v hv => by
        have := h (k + 1) (by simpa using hk) v (by rw [show i + (k + 1) = i + 1 + k by omega]; exact hv)
        simpa using this) e he
end Go.Proofs.Ytcldldmedphcfaa.C
