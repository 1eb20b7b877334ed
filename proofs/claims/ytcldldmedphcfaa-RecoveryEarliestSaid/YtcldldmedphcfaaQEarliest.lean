import Derived.Test.YtcldldmedphcfaaFEarliest
import Derived.Test.YtcldldmedphcfaaQSane
import Derived.Test.YtcldldmedphcfaaQLoad
import Derived.Test.YtcldldmedphcfaaQRd
/- RecoveryEarliest, in plain words. Condition: the arguments are ints. -/
namespace Go.Proofs.Ytcldldmedphcfaa.C
open Go.RowKit Go.Proofs.YtcldldmedphcfaaW.PrintWords Go.Proofs.YtcldldmedphcfaaW.PrintLast Go.Proofs.YtcldldmedphcfaaW.PrintMore
set_option linter.unusedVariables false
set_option linter.unusedSimpArgs false
/-- How many of those who have chosen are of a kind. -/
def dF (f : S60 → Bool) : List S60 → List Bool → Nat
  | a :: l, b :: d => (if (b && f a) = true then 1 else 0) + dF f l d
  | _, _ => 0
theorem dF_le (f : S60 → Bool) : ∀ (l : List S60) (d : List Bool), dF f l d ≤ l.countP f
  | [], d => by cases d <;> exact Nat.le_refl _
  | a :: l, [] => by simp [dF]
  | a :: l, b :: d => by
    have ih := dF_le f l d
    simp only [dF]
    rw [List.countP_cons]
    cases b <;> cases f a <;> simp <;> omega
theorem dF_zero (f : S60 → Bool) : ∀ (l : List S60) (n : Nat), dF f l (List.replicate n false) = 0
  | [], n => by cases n <;> rfl
  | a :: l, 0 => rfl
  | a :: l, n + 1 => by
    rw [List.replicate_succ]
    simp only [dF]
    rw [dF_zero f l n]
    rfl
theorem dF_set (f : S60 → Bool) : ∀ (l : List S60) (d : List Bool) (k : Nat) (hk : k < l.length) (hkd : k < d.length), d[k] = false → dF f l (d.set k true) = dF f l d + (if f l[k] = true then 1 else 0)
  | [], d, k, hk, _, _ => by simp at hk
  | a :: l, [], k, hk, hkd, _ => by simp at hkd
  | a :: l, b :: d, 0, hk, hkd, h => by
    simp only [List.getElem_cons_zero] at h
    subst h
    simp only [List.set_cons_zero, dF, List.getElem_cons_zero, Bool.true_and, Bool.false_and, Bool.false_eq_true, if_false]
    omega
  | a :: l, b :: d, k + 1, hk, hkd, h => by
    simp only [List.getElem_cons_succ] at h
    simp only [List.set_cons_succ, dF, List.getElem_cons_succ]
    rw [dF_set f l d k (by simpa using hk) (by simpa using hkd) h]
    omega
theorem cnt_set : ∀ (d : List Bool) (k : Nat) (hkd : k < d.length), d[k] = false → (d.set k true).countP id = d.countP id + 1
  | [], k, hkd, _ => by simp at hkd
  | b :: d, 0, hkd, h => by
    simp only [List.getElem_cons_zero] at h
    subst h
    simp
  | b :: d, k + 1, hkd, h => by
    simp only [List.getElem_cons_succ] at h
    simp only [List.set_cons_succ, List.countP_cons]
    rw [cnt_set d k (by simpa using hkd) h]
    omega
theorem cnt_free : ∀ (d : List Bool), d.countP id < d.length → ∃ j, ∃ h : j < d.length, d[j] = false
  | [], h => by simp at h
  | b :: d, h => by
    cases b with
    | false => exact ⟨0, by simp, rfl⟩
    | true =>
      simp only [List.countP_cons, List.length_cons, id_eq, if_true] at h
      obtain ⟨j, hj, e⟩ := cnt_free d (by omega)
      exact ⟨j + 1, by simpa using hj, by simpa using e⟩
theorem rd_set (l : List Int) (k : Nat) (v : Int) (hk : k < l.length) (u : Nat) : rd (l.set k v) u = if k = u then v else rd l u := by
  unfold rd
  rw [Int.toNat_natCast, List.getD_eq_getElem?_getD, List.getD_eq_getElem?_getD, List.getElem?_set]
  by_cases c : k = u
  · rw [if_pos c, if_pos hk, if_pos c]
    rfl
  · rw [if_neg c, if_neg c]
theorem rd_mem (l : List Int) (k : Nat) (hk : k < l.length) : rd l k ∈ l := by
  unfold rd
  rw [Int.toNat_natCast, List.getD_eq_getElem?_getD, List.getElem?_eq_getElem hk]
  exact List.getElem_mem hk
theorem rdOf_get (d : List Bool) (k : Nat) (hk : k < d.length) : rdOf false d (k : Int) = d[k] := by
  unfold rdOf
  rw [Int.toNat_natCast, List.getD_eq_getElem?_getD, List.getElem?_eq_getElem hk]
  rfl
/-- What holds when n have chosen. -/
structure EI (l : List S60) (S : List S67) (A : Int) (E : List (Int × Int)) (taken : List Int) (done : List Bool) (ot ur : Int) (n : Nat) : Prop where
  dl : done.length = l.length
  dc : done.countP id = n
  el : E.length ≤ n
  fst : ∀ T, cFst E T = dF (fun a => !a.f2 && decide (a.f1 ≤ T)) l done
  ok : ∀ e ∈ E, 0 ≤ e.1 ∧ e.1 ≤ e.2
  tl : taken.length = 200
  tk : ∀ u : Nat, u < 200 → rd taken u = cAt E u
  cap : ∀ u : Int, 0 ≤ u → u < 199 → (cAt E u : Int) ≤ capL S u
  ot : ot = cLe E A
  ur : ur = dF (fun a => a.f2 && decide (a.f1 ≤ A)) l done
theorem cAt_cons (e : Int × Int) (E : List (Int × Int)) (T : Int) : cAt (e :: E) T = cAt E T + (if e.2 = T then 1 else 0) := by
  unfold cAt
  rw [List.countP_cons]
  by_cases c : e.2 = T <;> simp [c]
theorem cLe_cons (e : Int × Int) (E : List (Int × Int)) (T : Int) : cLe (e :: E) T = cLe E T + (if e.2 ≤ T then 1 else 0) := by
  unfold cLe
  rw [List.countP_cons]
  by_cases c : e.2 ≤ T <;> simp [c]
theorem cFst_cons (e : Int × Int) (E : List (Int × Int)) (T : Int) : cFst (e :: E) T = cFst E T + (if e.1 ≤ T then 1 else 0) := by
  unfold cFst
  rw [List.countP_cons]
  by_cases c : e.1 ≤ T <;> simp [c]
/-- One who is urgent has chosen. -/
theorem EI.urgent {l : List S60} {S : List S67} {A : Int} {E : List (Int × Int)} {taken : List Int} {done : List Bool} {ot ur : Int} {n : Nat} (h : EI l S A E taken done ot ur n) (k : Nat) (hk : k < l.length) (hkd : k < done.length) (hf : done[k] = false) (hu : l[k].f2 = true) : EI l S A E taken (done.set k true) ot (if l[k].f1 ≤ A then ur + 1 else ur) (n + 1) where
  dl := by rw [List.length_set]; exact h.dl
  dc := by rw [cnt_set done k hkd hf, h.dc]
  el := Nat.le_succ_of_le h.el
  fst := fun T => by
    rw [dF_set _ l done k hk hkd hf, h.fst T, if_neg]
    · rfl
    · rw [hu]
      simp
  ok := h.ok
  tl := h.tl
  tk := h.tk
  cap := h.cap
  ot := h.ot
  ur := by
    rw [dF_set _ l done k hk hkd hf, h.ur, hu]
    by_cases c : l[k].f1 ≤ A
    · simp [c]
    · simp [c]
/-- One who is not urgent has chosen the tick t. -/
theorem EI.calm {l : List S60} {S : List S67} {A : Int} {E : List (Int × Int)} {taken : List Int} {done : List Bool} {ot ur : Int} {n : Nat} (h : EI l S A E taken done ot ur n) (k : Nat) (hk : k < l.length) (hkd : k < done.length) (hf : done[k] = false) (hu : l[k].f2 = false) (h0 : 0 ≤ l[k].f1) (t : Nat) (ht : t < 200) (hft : l[k].f1 ≤ t) (hr : t < 199 → rd taken t < capL S t) : EI l S A ((l[k].f1, (t : Int)) :: E) (taken.set t (rd taken t + 1)) (done.set k true) (if (t : Int) ≤ A then ot + 1 else ot) ur (n + 1) where
  dl := by rw [List.length_set]; exact h.dl
  dc := by rw [cnt_set done k hkd hf, h.dc]
  el := by rw [List.length_cons]; have := h.el; omega
  fst := fun T => by
    rw [dF_set _ l done k hk hkd hf, cFst_cons, h.fst T, hu]
    simp
  ok := fun e he => by
    rcases List.mem_cons.1 he with rfl | he
    · exact ⟨h0, hft⟩
    · exact h.ok e he
  tl := by rw [List.length_set]; exact h.tl
  tk := fun u hu => by
    rw [rd_set _ _ _ (by rw [h.tl]; exact ht), cAt_cons, h.tk t ht]
    by_cases c : t = u
    · subst c
      rw [if_pos rfl, if_pos rfl]
      push_cast
      rfl
    · rw [if_neg c, if_neg (by simp only; omega), h.tk u hu]
      rfl
  cap := fun u h1 h2 => by
    rw [cAt_cons]
    have hc := h.cap u h1 h2
    by_cases c : (t : Int) = u
    · subst c
      rw [if_pos rfl]
      have := hr (by omega)
      rw [h.tk t ht] at this
      push_cast
      omega
    · rw [if_neg c]
      exact hc
  ot := by
    rw [cLe_cons, h.ot]
    by_cases c : (t : Int) ≤ A
    · simp [c]
    · simp [c]
  ur := by
    rw [dF_set _ l done k hk hkd hf, h.ur, hu]
    simp
section
variable {l : List S60} {S : List S67} {s : Int} {p : List S39} {x3 x4 : List Int} {A : Int}
theorem earl_l3 (p : List S39) (hp : p.length < 100000) (A o u : Int) (hou : 0 ≤ o + u ∧ o + u ≤ 100000) (h : o + u ≤ p.countP (fun x => decide (x.f2 ≤ A))) (n : Nat) : ∀ i c : Nat, i + n = p.length → c + (p.drop i).countP (fun x => decide (x.f2 ≤ A)) = p.countP (fun x => decide (x.f2 ≤ A)) → Ev (fun k => dialtonelaw34_RecoveryEarliest.l3 k p A o u (c : Int) (i : Int)) true := by
  induction n with
  | zero =>
    intro i c hi hc
    rw [List.drop_eq_nil_of_le (by omega), List.countP_nil, Nat.add_zero] at hc
    have hw : wrap64 (o + u) = o + u := by unfold wrap64; omega
    refine Ev.step (fun k => ?_) (Ev.now true)
    simp only [dialtonelaw34_RecoveryEarliest.l3]
    rw [if_neg (by omega), hw, decide_eq_true (by omega)]
  | succ n ih =>
    intro i c hi hc
    have hle : p.countP (fun x => decide (x.f2 ≤ A)) ≤ p.length := List.countP_le_length
    have hw : wrap64 ((i : Int) + 1) = ((i + 1 : Nat) : Int) := by unfold wrap64; omega
    have hwc : wrap64 ((c : Int) + 1) = ((c + 1 : Nat) : Int) := by unfold wrap64; omega
    rw [drop39 p i (by omega), List.countP_cons] at hc
    by_cases d : (rd_T39 p i).f2 ≤ A
    · rw [if_pos (decide_eq_true d)] at hc
      refine Ev.step (fun k => ?_) (ih (i + 1) (c + 1) (by omega) (by omega))
      simp only [dialtonelaw34_RecoveryEarliest.l3]
      rw [if_pos (by omega), if_pos (by omega), if_pos d, hw, hwc]
    · rw [if_neg (by rw [decide_eq_true_eq]; exact d)] at hc
      refine Ev.step (fun k => ?_) (ih (i + 1) c (by omega) (by omega))
      simp only [dialtonelaw34_RecoveryEarliest.l3]
      rw [if_pos (by omega), if_pos (by omega), if_neg d, hw]
theorem earl_l2 (hv : validB S s = true) (taken : List Int) (htl : taken.length = 200) (done : List Bool) (ot ur n : Int) (d : Nat) : ∀ t : Nat, t + d = 199 → (∀ u : Nat, t ≤ u → u < 200 → (u < 199 → rd taken u < capL S u) → Ev (fun k => dialtonelaw34_RecoveryEarliest.j6 k x3 x4 l p A taken done ot ur n (u : Int) S s) true) → Ev (fun k => dialtonelaw34_RecoveryEarliest.l2 k x3 x4 l p A taken done ot ur n (t : Int) S s) true := by
  induction d with
  | zero =>
    intro t ht hend
    refine Ev.step (fun k => ?_) (hend t (Nat.le_refl _) (by omega) (fun q => by omega))
    simp only [dialtonelaw34_RecoveryEarliest.l2]
    rw [if_neg (by omega)]
  | succ d ih =>
    intro t ht hend
    have hw : wrap64 ((t : Int) + 1) = ((t + 1 : Nat) : Int) := by unfold wrap64; omega
    refine Ev.step (f := fun k => (recovery_Capacity.f k S s (t : Int)).bind fun bt572 => (if bt572.2 = 0 then (if 0 ≤ (t : Int) then (if (t : Int) < (taken.length : Int) then (if (rd taken t) < bt572.1 then (dialtonelaw34_RecoveryEarliest.j6 k x3 x4 l p A taken done ot ur n (t : Int) S s) else (dialtonelaw34_RecoveryEarliest.l2 k x3 x4 l p A taken done ot ur n (wrap64 ((t : Int) + 1)) S s)) else (none)) else (none)) else (none))) (fun k => ?_) (Ev.bind (capacity_ok hv t (by omega)) ?_)
    · simp only [dialtonelaw34_RecoveryEarliest.l2]
      rw [if_pos (by omega)]
    · have c1 : (0 : Int) ≤ (t : Int) := by omega
      have c2 : (t : Int) < (taken.length : Int) := by omega
      simp only [if_true, if_pos c1, if_pos c2]
      by_cases c : rd taken t < capL S t
      · simp only [if_pos c]
        exact hend t (Nat.le_refl _) (by omega) (fun _ => c)
      · simp only [if_neg c, hw]
        exact ih (t + 1) (by omega) (fun u h1 h2 h3 => hend u (by omega) h2 h3)
theorem earl_l1 (hl : l.length ≤ 20) (taken : List Int) (done : List Bool) (hdl : done.length = l.length) (ot ur n : Int) (j : Nat) (hj : j < done.length) (hjf : done[j] = false) (hend : ∀ k : Nat, ∀ h : k < done.length, done[k] = false → Ev (fun q => dialtonelaw34_RecoveryEarliest.l1 q x3 x4 l p A taken done ot ur n (k : Int) S s) true) (d : Nat) : ∀ k : Nat, k < l.length → (k + d) % l.length = j → Ev (fun q => dialtonelaw34_RecoveryEarliest.l1 q x3 x4 l p A taken done ot ur n (k : Int) S s) true := by
  induction d with
  | zero =>
    intro k hk h
    have e : k = j := by rw [Nat.add_zero, Nat.mod_eq_of_lt hk] at h; exact h
    subst e
    exact hend k hj hjf
  | succ d ih =>
    intro k hk h
    by_cases c : done[k]'(by omega) = false
    · exact hend k (by omega) c
    · have c' : rdOf false done (k : Int) = true := by
        rw [rdOf_get done k (by omega)]
        simpa using c
      have hw : Int.tmod (wrap64 ((k : Int) + 1)) (l.length : Int) = (((k + 1) % l.length : Nat) : Int) := by
        have h1 : wrap64 ((k : Int) + 1) = ((k + 1 : Nat) : Int) := by unfold wrap64; omega
        rw [h1]
        rfl
      refine Ev.step (fun q => ?_) (ih ((k + 1) % l.length) (Nat.mod_lt _ (by omega)) ?_)
      · simp only [dialtonelaw34_RecoveryEarliest.l1]
        rw [if_pos (by omega), if_pos (by omega), if_pos c', if_neg (by omega), hw]
      · rw [Nat.mod_add_mod, show k + 1 + d = k + (d + 1) by omega]
        exact h
theorem earl_l0 (hl : l.length ≤ 20) (hv : validB S s = true) (hf : ∀ a ∈ l, 0 ≤ a.f1 ∧ a.f1 < 25) (hg3 : ∀ x, x ∈ x3 → I64 x) (hg4 : ∀ x, x ∈ x4 → I64 x) (hend : ∀ E taken done ot ur, EI l S A E taken done ot ur l.length → Ev (fun k => dialtonelaw34_RecoveryEarliest.l3 k p A ot ur 0 0) true) (m : Nat) : ∀ (n : Nat) (E : List (Int × Int)) (taken : List Int) (done : List Bool) (ot ur : Int), n + m = l.length → EI l S A E taken done ot ur n → Ev (fun k => dialtonelaw34_RecoveryEarliest.l0 k x3 x4 l p A taken done ot ur (n : Int) S s) true := by
  induction m with
  | zero =>
    intro n E taken done ot ur hn h
    have hnl : n = l.length := by omega
    subst hnl
    refine Ev.step (fun k => ?_) (hend E taken done ot ur h)
    simp only [dialtonelaw34_RecoveryEarliest.l0]
    rw [if_neg (by omega)]
  | succ m ih =>
    intro n E taken done ot ur hn h
    have hwn : wrap64 ((n : Int) + 1) = ((n + 1 : Nat) : Int) := by unfold wrap64; omega
    have hdl := h.dl
    have hel := h.el
    have hotb : 0 ≤ ot ∧ ot ≤ 20 := by
      have h1 := h.ot
      have h2 : cLe E A ≤ E.length := List.countP_le_length
      omega
    have hurb : 0 ≤ ur ∧ ur ≤ 20 := by
      have h1 := h.ur
      have h2 := dF_le (fun a => a.f2 && decide (a.f1 ≤ A)) l done
      have h3 : l.countP (fun a => a.f2 && decide (a.f1 ≤ A)) ≤ l.length := List.countP_le_length
      omega
    have hwo : wrap64 (ot + 1) = ot + 1 := by unfold wrap64; omega
    have hwu : wrap64 (ur + 1) = ur + 1 := by unfold wrap64; omega
    obtain ⟨j, hj, hjf⟩ := cnt_free done (by rw [h.dc]; omega)
    have body : ∀ k : Nat, ∀ hk : k < done.length, done[k] = false → Ev (fun q => dialtonelaw34_RecoveryEarliest.l1 q x3 x4 l p A taken done ot ur (n : Int) (k : Int) S s) true := by
      intro k hk hkf
      have hkl : k < l.length := by omega
      have hrk : rd_T60 l k = l[k] := rd60_get l k hkl
      have hfk := hf _ (List.getElem_mem hkl)
      have c' : ¬ rdOf false done (k : Int) = true := by
        rw [rdOf_get done k hk, hkf]
        exact Bool.false_ne_true
      cases hu : l[k].f2 with
      | true =>
        have hi := ih (n + 1) E taken (done.set k true) ot (if l[k].f1 ≤ A then ur + 1 else ur) (by omega) (h.urgent k hkl hk hkf hu)
        refine Ev.step (fun q => ?_) hi
        simp only [dialtonelaw34_RecoveryEarliest.l1]
        rw [if_pos (by omega), if_pos (by omega), if_neg c', Option.bind_some, if_pos (by omega), hrk, if_pos hu, hwn, hwu, Int.toNat_natCast]
        by_cases c : l[k].f1 ≤ A
        · rw [if_pos c, if_pos c]
        · rw [if_neg c, if_neg c]
      | false =>
        have fin : ∀ t0 : Nat, l[k].f1 ≤ t0 → t0 < 100 → Ev (fun q => dialtonelaw34_RecoveryEarliest.j4 q x3 x4 l p A taken (done.set k true) ot ur (n : Int) (t0 : Int) S s) true := by
          intro t0 h1 h2
          refine Ev.step (f := fun q => dialtonelaw34_RecoveryEarliest.l2 q x3 x4 l p A taken (done.set k true) ot ur (n : Int) (t0 : Int) S s) (fun q => ?_) (earl_l2 hv taken h.tl (done.set k true) ot ur n (199 - t0) t0 (by omega) (fun u hu1 hu2 hu3 => ?_))
          · simp only [dialtonelaw34_RecoveryEarliest.j4]
          · have hi := ih (n + 1) ((l[k].f1, (u : Int)) :: E) (taken.set u (rd taken u + 1)) (done.set k true) (if (u : Int) ≤ A then ot + 1 else ot) ur (by omega) (h.calm k hkl hk hkf hu hfk.1 u hu2 (by omega) hu3)
            have hcu : cAt E u ≤ E.length := List.countP_le_length
            have htku := h.tk u hu2
            have hwt : wrap64 (rd taken u + 1) = rd taken u + 1 := by rw [htku]; unfold wrap64; omega
            have htl := h.tl
            refine Ev.step (fun q => ?_) hi
            simp only [dialtonelaw34_RecoveryEarliest.j6]
            rw [if_pos (by omega), if_pos (by omega), Option.bind_some, hwn, hwo, hwt, Int.toNat_natCast]
            by_cases c : (u : Int) ≤ A
            · rw [if_pos c, if_pos c]
            · rw [if_neg c, if_neg c]
        by_cases cw : (n : Int) < (x4.length : Int)
        · obtain ⟨t5, e5, b1, b2⟩ := pick_ok (rd x4 (n : Int)) 5 (hg4 _ (rd_mem x4 n (by omega))) (by omega)
          have hwf : wrap64 (l[k].f1 + t5) = ((l[k].f1 + t5).toNat : Int) := by unfold wrap64; omega
          refine Ev.step (fun q => ?_) (fin (l[k].f1 + t5).toNat (by omega) (by omega))
          simp only [dialtonelaw34_RecoveryEarliest.l1]
          rw [if_pos (by omega), if_pos (by omega), if_neg c', Option.bind_some, if_pos (by omega), hrk, if_neg (by rw [hu]; exact Bool.false_ne_true), if_pos cw, if_pos (by omega), e5, Option.bind_some, hwf, Int.toNat_natCast]
        · refine Ev.step (fun q => ?_) (fin l[k].f1.toNat (by omega) (by omega))
          simp only [dialtonelaw34_RecoveryEarliest.l1]
          rw [if_pos (by omega), if_pos (by omega), if_neg c', Option.bind_some, if_pos (by omega), hrk, if_neg (by rw [hu]; exact Bool.false_ne_true), if_neg cw, Int.toNat_natCast (n := k), show ((l[k].f1.toNat : Nat) : Int) = l[k].f1 by omega]
    have start : ∀ k : Nat, k < l.length → Ev (fun q => dialtonelaw34_RecoveryEarliest.j2 q x3 x4 l p A taken done ot ur (n : Int) (k : Int) S s) true := by
      intro k hk
      refine Ev.step (f := fun q => dialtonelaw34_RecoveryEarliest.l1 q x3 x4 l p A taken done ot ur (n : Int) (k : Int) S s) (fun q => ?_) (earl_l1 hl taken done hdl ot ur n j hj hjf body (j + l.length - k) k hk ?_)
      · simp only [dialtonelaw34_RecoveryEarliest.j2]
      · rw [show k + (j + l.length - k) = j + l.length by omega, Nat.add_mod_right]
        exact Nat.mod_eq_of_lt (by omega)
    by_cases co : (n : Int) < (x3.length : Int)
    · obtain ⟨t5, e5, b1, b2⟩ := pick_ok (rd x3 (n : Int)) (l.length : Int) (hg3 _ (rd_mem x3 n (by omega))) (by omega)
      obtain ⟨kn, rfl⟩ : ∃ kn : Nat, t5 = kn := ⟨t5.toNat, by omega⟩
      refine Ev.step (fun q => ?_) (start kn (by omega))
      simp only [dialtonelaw34_RecoveryEarliest.l0]
      rw [if_pos (by omega), if_pos co, if_pos (by omega), e5, Option.bind_some]
    · refine Ev.step (fun q => ?_) (start 0 (by omega))
      simp only [dialtonelaw34_RecoveryEarliest.l0]
      rw [if_pos (by omega), if_neg co]
      rfl
end
theorem earliest_ok (l0 : List S71) (a1 : Int) (l2 : List S71) (l3 l4 : List Int) (a5 : Int) (hg0 : ∀ x, x ∈ l0 → I64 x.f0 ∧ I64 x.f1) (hb0 : l0.length * 16 ≤ 140737488351232) (g1 : I64 a1) (hg2 : ∀ x, x ∈ l2 → I64 x.f0 ∧ I64 x.f1) (hb2 : l2.length * 16 ≤ 140737488351232) (hg3 : ∀ x, x ∈ l3 → I64 x) (hb3 : l3.length * 8 ≤ 140737488351232) (hg4 : ∀ x, x ∈ l4 → I64 x) (hb4 : l4.length * 8 ≤ 140737488351232) (g5 : I64 a5) :
    Ev (fun k => dialtonelaw34_RecoveryEarliest.f k l0 a1 l2 l3 l4 a5) true := by
  obtain ⟨S, s, hm, hreg⟩ := made_ok l0 hg0 (by omega) a1 g1
  obtain ⟨l, ha, hat⟩ := atts_ok l2 hg2 (by omega)
  obtain ⟨p, hp⟩ := planOf hreg.valid hat.ready
  have hlen := hp.len
  have h20 := hat.len
  have hso := sortAtts_perm l
  obtain ⟨A, eA, bA1, bA2⟩ := pick_ok a5 60 g5 (by omega)
  obtain ⟨An, rfl⟩ : ∃ An : Nat, A = An := ⟨A.toNat, by omega⟩
  unfold dialtonelaw34_RecoveryEarliest.f
  refine Ev.bind sane_ok ?_
  simp only [if_true]
  refine Ev.bind hm ?_
  refine Ev.bind ha ?_
  rw [hp.eq]
  simp only [Option.bind_some, if_true]
  rw [show ((p.length : Int) != (l.length : Int)) = false from bne_eq_false_iff_eq.2 (by omega)]
  refine Ev.step (f := fun k => dialtonelaw34_RecoveryEarliest.l0 k l3 l4 l p (An : Int) (List.replicate 200 0) (List.replicate l.length false) 0 0 ((0 : Nat) : Int) S s) (fun k => ?_) (earl_l0 h20 hreg.valid hat.at_ hg3 hg4 (fun E taken done ot ur h => ?_) l.length 0 [] (List.replicate 200 0) (List.replicate l.length false) 0 0 (by omega) ⟨by simp, ?_, Nat.le_refl _, fun T => ?_, fun e he => (by cases he), List.length_replicate, fun u hu => ?_, fun u h1 h2 => ?_, rfl, ?_⟩)
  · simp only [dialtonelaw34_RecoveryEarliest.j0]
    rw [if_neg Bool.false_ne_true, eA, Option.bind_some, if_pos (by omega), if_pos (by omega), Int.toNat_natCast, if_pos (by omega)]
    rfl
  · have hcnt := in_count hp (An : Int)
    have h1 := earliest_pairs hp.go_ (sortAtts_pairwise l) E An h.ok (fun T h0 h1 => h.cap T h0 (by omega)) (fun T h0 h1 => by
      rw [h.fst T, leO_perm hso.1]
      exact dF_le _ l done) An (Nat.le_refl _)
    have h2 := dF_le (fun a => a.f2 && decide (a.f1 ≤ (An : Int))) l done
    have h3 := h.ot
    have h4 := h.ur
    have h5 : p.countP (fun x => decide (x.f2 ≤ (An : Int))) ≤ p.length := List.countP_le_length
    refine earl_l3 p (by omega) (An : Int) ot ur (by omega) (by omega) p.length 0 0 (by omega) (by rw [List.drop_zero]; omega)
  · rw [List.countP_replicate]
    simp
  · rw [dF_zero]
    rfl
  · unfold rd
    rw [Int.toNat_natCast, List.getD_eq_getElem?_getD, List.getElem?_replicate, if_pos hu]
    rfl
  · rw [show cAt [] u = 0 from rfl]
    exact (cap_range hreg.valid u h1).1
  · rw [dF_zero]
    rfl
end Go.Proofs.Ytcldldmedphcfaa.C
