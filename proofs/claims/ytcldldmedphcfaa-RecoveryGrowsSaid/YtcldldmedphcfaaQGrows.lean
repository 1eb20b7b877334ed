import Derived.Test.YtcldldmedphcfaaFGrows
import Derived.Test.YtcldldmedphcfaaQSane
import Derived.Test.YtcldldmedphcfaaQLoad
import Derived.Test.YtcldldmedphcfaaQRd
/- RecoveryGrows, in plain words. Condition: the arguments are ints. -/
namespace Go.Proofs.Ytcldldmedphcfaa.C
open Go.RowKit Go.Proofs.YtcldldmedphcfaaW.PrintWords Go.Proofs.YtcldldmedphcfaaW.PrintLast Go.Proofs.YtcldldmedphcfaaW.PrintMore
set_option linter.unusedVariables false
set_option linter.unusedSimpArgs false
theorem mx_max' (a b : Int) : mx a b = max a b := by unfold mx; split <;> omega
theorem mn_min (a b : Int) : mn a b = min a b := by unfold mn; split <;> omega
/-- A step with t more. -/
def up67 (t : Int) (x : S67) : S67 := ⟨x.f0, min (x.f1 + t) 20⟩
/-- The steps from w on with t more. -/
def bump (t : Int) : Nat → List S67 → List S67
  | _, [] => []
  | 0, x :: l => up67 t x :: bump t 0 l
  | w + 1, x :: l => x :: bump t w l
theorem bump_get (t : Int) : ∀ (l : List S67) (w j : Nat), (bump t w l)[j]? = (l[j]?).map (fun x => if w ≤ j then up67 t x else x)
  | [], w, j => by simp [bump]
  | x :: l, 0, 0 => by simp [bump]
  | x :: l, 0, j + 1 => by
    simp only [bump, List.getElem?_cons_succ]
    rw [bump_get t l 0 j]
    simp
  | x :: l, w + 1, 0 => by simp [bump]
  | x :: l, w + 1, j + 1 => by
    simp only [bump, List.getElem?_cons_succ]
    rw [bump_get t l w j]
    simp
theorem bump_len (t : Int) : ∀ (w : Nat) (l : List S67), (bump t w l).length = l.length
  | w, [] => by cases w <;> rfl
  | 0, x :: l => by simp [bump, bump_len t 0 l]
  | w + 1, x :: l => by simp [bump, bump_len t w l]
theorem bump_fa (t u : Int) : ∀ (w : Nat) (l : List S67), fa u (bump t w l) = fa u l
  | w, [] => by cases w <;> rfl
  | 0, x :: l => by simp only [bump, fa, bump_fa t u 0 l]; rfl
  | w + 1, x :: l => by simp only [bump, fa, bump_fa t u w l]
theorem bump_valid0 (t : Int) (ht : 0 ≤ t) : ∀ (l : List S67) (lf lc lc' : Int), validFrom l lf lc = true → lc ≤ lc' → lc' ≤ max lc (min (lc + t) 20) → validFrom (bump t 0 l) lf lc' = true
  | [], lf, lc, lc', h, h1, h2 => by
    simp only [bump, validFrom, decide_eq_true_eq] at h ⊢
    omega
  | x :: l, lf, lc, lc', h, h1, h2 => by
    simp only [validFrom] at h
    by_cases c : (lf + 1 ≤ x.f0 ∧ x.f0 ≤ 1000) ∧ (lc ≤ x.f1 ∧ x.f1 ≤ 20)
    · rw [if_pos c] at h
      simp only [bump, validFrom, up67]
      rw [if_pos (by omega)]
      exact bump_valid0 t ht l _ _ _ h (by omega) (by omega)
    · rw [if_neg c] at h
      cases h
theorem bump_valid (t : Int) (ht : 0 ≤ t) : ∀ (w : Nat) (l : List S67) (lf lc : Int), validFrom l lf lc = true → validFrom (bump t w l) lf lc = true
  | w, [], lf, lc, h => by cases w <;> exact h
  | 0, x :: l, lf, lc, h => bump_valid0 t ht (x :: l) lf lc lc h (Int.le_refl _) (by omega)
  | w + 1, x :: l, lf, lc, h => by
    simp only [validFrom] at h
    by_cases c : (lf + 1 ≤ x.f0 ∧ x.f0 ≤ 1000) ∧ (lc ≤ x.f1 ∧ x.f1 ≤ 20)
    · rw [if_pos c] at h
      simp only [bump, validFrom]
      rw [if_pos c]
      exact bump_valid t ht w l _ _ h
    · rw [if_neg c] at h
      cases h
theorem bump_rd (t : Int) (w : Nat) (l : List S67) (i : Int) (hi0 : 0 ≤ i) (hi : i < l.length) : rd_T67 (bump t w l) i = if w ≤ i.toNat then up67 t (rd_T67 l i) else rd_T67 l i := by
  unfold rd_T67
  rw [List.getD_eq_getElem?_getD, List.getD_eq_getElem?_getD, bump_get, List.getElem?_eq_getElem (show i.toNat < l.length by omega)]
  rfl
theorem bump_B {S : List S67} {s : Int} (h : validB S s = true) (t : Int) (ht : 0 ≤ t) (w : Nat) : validB (bump t w S) s = true ∧ ∀ u, 0 ≤ u → capL S u ≤ capL (bump t w S) u := by
  obtain ⟨h1, h2, h3, h4⟩ := validB_from h
  have hp : 0 < S.length := List.length_pos_iff.2 h2
  have hsig := sig_valid h
  constructor
  · unfold validB
    rw [bump_len, if_pos ⟨by omega, hsig, by
      rw [bump_rd t w S 0 (by omega) (by omega)]
      split
      · exact h3
      · exact h3⟩]
    exact bump_valid t ht w S _ _ h1
  · intro u hu
    have f1 := fa_valid h u hu
    have f2 := fa_bd u S
    unfold capL
    rw [bump_fa, bump_rd t w S _ (by omega) (by omega)]
    split
    · have hm : rd_T67 S (fa u S - 1) ∈ S := by
        unfold rd_T67
        rw [List.getD_eq_getElem?_getD, List.getElem?_eq_getElem (show (fa u S - 1).toNat < S.length by omega)]
        exact List.getElem_mem _
      have := valid_all S _ _ h1 _ hm
      unfold up67
      simp only
      omega
    · exact Int.le_refl _
section
variable {l : List S60} {S : List S67} {s : Int} {p : List S39}
theorem grows_l2 (p q : List S39) (hp : p.length < 100000) (hq : q.length = p.length) (hk : ∀ i : Nat, i < p.length → (rd_T39 q i).f0 = (rd_T39 p i).f0 ∧ (rd_T39 q i).f2 ≤ (rd_T39 p i).f2) (n : Nat) : ∀ i : Nat, i + n = p.length → Ev (fun k => dialtonelaw34_RecoveryGrows.l2 k true p q (i : Int)) true := by
  induction n with
  | zero =>
    intro i hi
    refine Ev.step (fun k => ?_) (Ev.now true)
    simp only [dialtonelaw34_RecoveryGrows.l2]
    rw [if_neg (by omega)]
  | succ n ih =>
    intro i hi
    have hw : wrap64 ((i : Int) + 1) = ((i + 1 : Nat) : Int) := by unfold wrap64; omega
    have h := hk i (by omega)
    refine Ev.step (f := fun k => dialtonelaw34_RecoveryGrows.j5 k true p q (i : Int) false) (fun k => ?_) (Ev.step (fun k => ?_) (ih (i + 1) (by omega)))
    · simp only [dialtonelaw34_RecoveryGrows.l2]
      rw [if_pos (by omega), if_pos (by omega), if_pos (by omega), if_pos h.1, decide_eq_false (by omega)]
    · simp only [dialtonelaw34_RecoveryGrows.j5]
      rw [if_neg Bool.false_ne_true, hw]
theorem grows_l1 (x5 t : Int) (e5 : dialtonelaw34_pick.f x5 4 = some t) (ht : 0 ≤ t ∧ t < 4) (hS : S.length ≤ 10) (hS1 : ∀ x ∈ S, 0 ≤ x.f1 ∧ x.f1 ≤ 20) (w : Nat) (hend : Ev (fun k => dialtonelaw34_RecoveryGrows.l1 k x5 true l p (S.length : Int) (bump t w S) s) true) (n : Nat) : ∀ (i : Nat) (C : List S67), i + n = S.length → w ≤ i → C.length = S.length → (∀ j : Nat, C[j]? = (S[j]?).map (fun x => if w ≤ j ∧ j < i then up67 t x else x)) → Ev (fun k => dialtonelaw34_RecoveryGrows.l1 k x5 true l p (i : Int) C s) true := by
  induction n with
  | zero =>
    intro i C hi hwi hC hj
    have : C = bump t w S := by
      refine List.ext_getElem? (fun j => ?_)
      rw [hj j, bump_get]
      by_cases c : j < S.length
      · rw [List.getElem?_eq_getElem c]
        simp only [Option.map_some]
        by_cases d : w ≤ j
        · rw [if_pos ⟨d, by omega⟩, if_pos d]
        · rw [if_neg (fun q => d q.1), if_neg d]
      · rw [List.getElem?_eq_none (by omega)]
        rfl
    subst this
    rw [show i = S.length by omega]
    exact hend
  | succ n ih =>
    intro i C hi hwi hC hj
    have hw : wrap64 ((i : Int) + 1) = ((i + 1 : Nat) : Int) := by unfold wrap64; omega
    have hCi : C[i]? = some (S[i]'(by omega)) := by
      rw [hj i, List.getElem?_eq_getElem (show i < S.length by omega)]
      simp only [Option.map_some]
      rw [if_neg (by omega)]
    have hrd : rd_T67 C i = S[i]'(by omega) := by
      unfold rd_T67
      rw [Int.toNat_natCast, List.getD_eq_getElem?_getD, hCi]
      rfl
    have hb := hS1 _ (List.getElem_mem (show i < S.length by omega))
    have hw2 : mn (wrap64 ((S[i]'(by omega)).f1 + t)) 20 = min ((S[i]'(by omega)).f1 + t) 20 := by
      have h1 : wrap64 ((S[i]'(by omega)).f1 + t) = (S[i]'(by omega)).f1 + t := by unfold wrap64; omega
      rw [h1, mn_min]
    refine Ev.step (fun k => ?_) (ih (i + 1) (C.set i (up67 t (S[i]'(by omega)))) (by omega) (by omega) (by rw [List.length_set]; exact hC) (fun j => ?_))
    · simp only [dialtonelaw34_RecoveryGrows.l1]
      rw [if_pos (by omega), if_pos (by omega), e5, Option.bind_some, hw, hrd, hw2, Int.toNat_natCast]
      rfl
    · rw [List.getElem?_set]
      by_cases c : i = j
      · subst c
        rw [if_pos rfl, if_pos (by omega), List.getElem?_eq_getElem (show i < S.length by omega)]
        simp only [Option.map_some]
        rw [if_pos ⟨hwi, by omega⟩]
      · rw [if_neg c, hj j]
        congr 1
        funext x
        by_cases d : w ≤ j ∧ j < i
        · rw [if_pos d, if_pos ⟨d.1, by omega⟩]
        · rw [if_neg d, if_neg (by omega)]
theorem grows_l0 (x3 x4 x5 : Int) (hl : l.length ≤ 20) (hf : ∀ a ∈ l, 0 ≤ a.f1 ∧ a.f1 < 25) (hend : ∀ m, 0 ≤ m → m < 25 → (∀ a ∈ l, a.f1 ≤ m) → Ev (fun k => dialtonelaw34_RecoveryGrows.l0 k x3 x4 x5 true l p 0 m (l.length : Int) S s) true) (n : Nat) : ∀ (i : Nat) (m : Int), i + n = l.length → 0 ≤ m → m < 25 → (∀ j : Nat, j < i → (rd_T60 l j).f1 ≤ m) → Ev (fun k => dialtonelaw34_RecoveryGrows.l0 k x3 x4 x5 true l p 0 m (i : Int) S s) true := by
  induction n with
  | zero =>
    intro i m hi h0 h1 hm
    have hil : i = l.length := by omega
    subst hil
    refine hend m h0 h1 (fun a ha => ?_)
    obtain ⟨j, hj, rfl⟩ := List.mem_iff_getElem.1 ha
    have := hm j hj
    rw [rd60_get l j hj] at this
    exact this
  | succ n ih =>
    intro i m hi h0 h1 hm
    have hw : wrap64 ((i : Int) + 1) = ((i + 1 : Nat) : Int) := by unfold wrap64; omega
    have hb := hf _ (rd60_mem l i (by omega))
    refine Ev.step (fun k => ?_) (ih (i + 1) (max m (rd_T60 l i).f1) (by omega) (by omega) (by omega) (fun j hj => ?_))
    · simp only [dialtonelaw34_RecoveryGrows.l0]
      rw [if_pos (by omega), if_pos (by omega), hw, mx_max']
    · by_cases c : j < i
      · have := hm j c
        omega
      · rw [show j = i by omega]
        omega
end
theorem keys_at {S S' : List S67} {o : List S60} {p q : List S39} (h : planGo S o (fun _ => 0) 0 = some p) (h' : planGo S' o (fun _ => 0) 0 = some q) (i : Nat) (hi : i < p.length) : (rd_T39 q i).f0 = (rd_T39 p i).f0 := by
  have e1 := (planGo_keys S _ _ _ _ h).1
  have e2 := (planGo_keys S' _ _ _ _ h').1
  have hl : q.length = p.length := by rw [planGo_len S _ _ _ _ h, planGo_len S' _ _ _ _ h']
  have e : (q.map (fun x => x.f0))[i]? = (p.map (fun x => x.f0))[i]? := by rw [e1, e2]
  rw [List.getElem?_map, List.getElem?_map, List.getElem?_eq_getElem (show i < q.length by omega), List.getElem?_eq_getElem hi] at e
  rw [rd39_get p i hi, rd39_get q i (by omega)]
  simpa using e
theorem grows_ok (l0 : List S71) (a1 : Int) (l2 : List S71) (a3 a4 a5 : Int) (hg0 : ∀ x, x ∈ l0 → I64 x.f0 ∧ I64 x.f1) (hb0 : l0.length * 16 ≤ 140737488351232) (g1 : I64 a1) (hg2 : ∀ x, x ∈ l2 → I64 x.f0 ∧ I64 x.f1) (hb2 : l2.length * 16 ≤ 140737488351232) (g3 : I64 a3) (g4 : I64 a4) (g5 : I64 a5) :
    Ev (fun k => dialtonelaw34_RecoveryGrows.f k l0 a1 l2 a3 a4 a5) true := by
  obtain ⟨S, s, hm, hreg⟩ := made_ok l0 hg0 (by omega) a1 g1
  obtain ⟨l, ha, hat⟩ := atts_ok l2 hg2 (by omega)
  obtain ⟨p, hp⟩ := planOf hreg.valid hat.ready
  have hlen := hp.len
  have h20 := hat.len
  have hso := sortAtts_perm l
  have hSl := hreg.len
  obtain ⟨hv1, hSn, _, _⟩ := validB_from hreg.valid
  have hSp : 0 < S.length := List.length_pos_iff.2 hSn
  obtain ⟨t3, e3, b31, b32⟩ := pick_ok a3 10 g3 (by omega)
  obtain ⟨w, e4, b41, b42⟩ := pick_ok a4 (S.length : Int) g4 (by omega)
  obtain ⟨t5, e5, b51, b52⟩ := pick_ok a5 4 g5 (by omega)
  obtain ⟨wn, rfl⟩ : ∃ wn : Nat, w = wn := ⟨w.toNat, by omega⟩
  unfold dialtonelaw34_RecoveryGrows.f
  refine Ev.bind sane_ok ?_
  simp only [if_true]
  refine Ev.bind hm ?_
  refine Ev.bind ha ?_
  rw [hp.eq]
  simp only [Option.bind_some]
  refine grows_l0 a3 a4 a5 h20 hat.at_ (fun m h0 h1 hmx => ?_) l.length 0 0 (by omega) (Int.le_refl _) (by omega) (fun j hj => by omega)
  have hw1 : ∀ _ : Unit, wrap64 (wrap64 (m + 1) + t3) = m + 1 + t3 := fun _ => by
    have : wrap64 (m + 1) = m + 1 := by unfold wrap64; omega
    rw [this]
    unfold wrap64
    omega
  have hnc : Nub ((⟨99, m + 1 + t3, false⟩ : S60) :: l) := List.pairwise_cons.2 ⟨fun a ham => by
    obtain ⟨i, hi, rfl⟩ := List.mem_iff_getElem.1 ham
    have := hat.cal i hi
    simp only
    omega, hat.nub⟩
  have hrc : readyB ((⟨99, m + 1 + t3, false⟩ : S60) :: l) = true := ready_of (fun a ham => by
    rcases List.mem_cons.1 ham with rfl | ham
    · unfold okAtt
      simp only [Bool.and_eq_true, decide_eq_true_eq]
      omega
    · have h1 := hat.ready
      unfold readyB at h1
      rw [Bool.and_eq_true] at h1
      exact List.all_eq_true.1 h1.1 a ham) (by rw [List.length_cons]; omega) hnc
  obtain ⟨q, hq⟩ := planOf hreg.valid hrc
  have hqg := hq.go_
  rw [sort_late hnc (fun a ham => by have := hmx a ham; simp only; omega)] at hqg
  obtain ⟨p', x, hp', hqe, hx0⟩ := planGo_append S _ _ _ _ _ hqg
  have hpp : p' = p := Option.some.inj (hp'.symm.trans hp.go_)
  subst hpp
  have hql : q.length = p'.length + 1 := by rw [hqe]; simp
  have htake : q.take p'.length = p' := by rw [hqe]; simp
  have hrx : rd_T39 q (p'.length : Int) = x := by
    rw [rd39_get q p'.length (by omega)]
    simp [hqe]
  have hwl : ∀ _ : Unit, wrap64 ((p'.length : Int) + 1) = (q.length : Int) := fun _ => by
    rw [hql]
    unfold wrap64
    omega
  obtain ⟨hvB, hcB⟩ := bump_B hreg.valid t5 b51 wn
  obtain ⟨u, hu⟩ := planOf hvB hat.ready
  have hul := hu.len
  have hall : ∀ y ∈ S, 0 ≤ y.f1 ∧ y.f1 ≤ 20 := fun y hy => by
    have := valid_all S _ _ hv1 y hy
    omega
  refine Ev.step (f := fun k => (dialtoneref34_Same.f k p' p').bind fun t667 => (if t667 = true then (dialtonelaw34_RecoveryGrows.j1 k a4 a5 true l p' false S s) else (dialtonelaw34_RecoveryGrows.j1 k a4 a5 true l p' true S s))) (fun k => ?_) (Ev.bind (same_ok p' p' (by omega)) ?_)
  · simp only [dialtonelaw34_RecoveryGrows.l0]
    rw [if_neg (by omega), e3, Option.bind_some, hw1 (), Option.bind_some, if_pos (by simp only [List.length_cons, List.length_nil]; omega)]
    rw [show ([⟨99, m + 1 + t3, false⟩] : List S60) ++ l = ⟨99, m + 1 + t3, false⟩ :: l from rfl, hq.eq, Option.bind_some]
    simp only [if_true]
    rw [if_pos (hwl ()).symm, if_pos (by omega), if_pos (by omega), Int.toNat_natCast, htake, hrx, hx0]
    congr 1
    funext t
    rw [if_pos (show (p'.length : Int) < (q.length : Int) by omega)]
    rfl
  · rw [(sameB_iff p' p').2 rfl]
    simp only [if_true]
    refine Ev.step (f := fun k => dialtonelaw34_RecoveryGrows.l1 k a5 true l p' (wn : Int) S s) (fun k => ?_) (grows_l1 (S := S) a5 t5 e5 ⟨b51, b52⟩ (by omega) hall wn ?_ (S.length - wn) wn S (by omega) (Nat.le_refl _) rfl (fun j => ?_))
    · simp only [dialtonelaw34_RecoveryGrows.j1]
      rw [if_neg Bool.false_ne_true, Option.bind_some, if_pos (by simp only [List.length_nil]; omega), Option.bind_some, List.nil_append, e4, Option.bind_some]
    · refine Ev.step (f := fun k => dialtonelaw34_RecoveryGrows.j3 k true p' u false) (fun k => ?_) (Ev.step (f := fun k => dialtonelaw34_RecoveryGrows.l2 k true p' u ((0 : Nat) : Int)) (fun k => ?_) (grows_l2 p' u (by omega) (by omega) (fun i hi => ⟨keys_at hp.go_ hu.go_ i hi, ?_⟩) p'.length 0 (by omega)))
      · simp only [dialtonelaw34_RecoveryGrows.l1]
        rw [if_neg (by rw [bump_len]; omega), hu.eq, Option.bind_some]
        simp only [if_true]
        rw [show ((u.length : Int) != (p'.length : Int)) = false from bne_eq_false_iff_eq.2 (by omega)]
      · simp only [dialtonelaw34_RecoveryGrows.j3]
        rw [if_neg Bool.false_ne_true]
        rfl
      · have := planGo_grow hcB _ _ _ _ _ _ _ hp.go_ hu.go_ (Int.le_refl _) (Int.le_refl _) (fun _ _ => Int.le_refl _) i
        exact this
    · rw [show (fun x : S67 => if wn ≤ j ∧ j < wn then up67 t5 x else x) = id from funext fun x => if_neg (by omega)]
      simp
end Go.Proofs.Ytcldldmedphcfaa.C
