import Derived.Test.YtcldldmedphcfaaQBase
import Derived.Test.YtcldldmedphcfaaQEval
import Derived.Test.YtcldldmedphcfaaCMade
import Derived.Test.YtcldldmedphcfaaCAttempts
/- The regions and attempts that integers determine are valid, and have a plan. Condition: none. -/
namespace Go.Proofs.Ytcldldmedphcfaa.C
open Go.RowKit Go.Proofs.YtcldldmedphcfaaW.PrintWords Go.Proofs.YtcldldmedphcfaaW.PrintLast Go.Proofs.YtcldldmedphcfaaW.PrintMore
set_option linter.unusedVariables false
theorem findOpen_some (S : List S67) (g : Int → Int) : ∀ (k : Nat) (a t : Int), a ≤ t → t < a + k → g t < capL S t → ∃ t', findOpen S g k a = some t'
  | 0, a, t, h1, h2, _ => by omega
  | k + 1, a, t, h1, h2, h3 => by
    unfold findOpen
    by_cases c : g a < capL S a
    · exact ⟨a, by rw [if_pos c]⟩
    · rw [if_neg c]
      have : a ≠ t := fun e => c (by rw [e]; exact h3)
      exact findOpen_some S g k (a + 1) t (by omega) (by omega) h3
/-- Behind the last step's begin the capacity is the last step's. -/
theorem cap_tail : ∀ (l : List S67) (lf lc t : Int), validFrom l lf lc = true → 1000 ≤ t → l ≠ [] → 0 < (rd_T67 l (fa t l - 1)).f1 ∧ fa t l = l.length
  | [], _, _, _, _, _, h => absurd rfl h
  | x :: l, lf, lc, t, h, ht, _ => by
    simp only [validFrom] at h
    by_cases c : (lf + 1 ≤ x.f0 ∧ x.f0 ≤ 1000) ∧ (lc ≤ x.f1 ∧ x.f1 ≤ 20)
    · rw [if_pos c] at h
      have hfa : fa t (x :: l) = 1 + fa t l := by
        simp only [fa]
        rw [if_neg (by omega)]
      rw [hfa]
      by_cases hl : l = []
      · subst hl
        simp only [validFrom, decide_eq_true_eq] at h
        simp only [fa]
        exact ⟨by simpa [rd_T67] using h, rfl⟩
      · obtain ⟨h1, h2⟩ := cap_tail l x.f0 x.f1 t h ht hl
        refine ⟨?_, by rw [h2]; simp; omega⟩
        have hp : 0 < l.length := List.length_pos_iff.2 hl
        have e : (1 + fa t l - 1).toNat = (fa t l - 1).toNat + 1 := by omega
        unfold rd_T67 at h1 ⊢
        rw [e, List.getD_cons_succ]
        exact h1
    · rw [if_neg c] at h
      cases h
theorem validB_from {S : List S67} {s : Int} (h : validB S s = true) : validFrom S (-1) 0 = true ∧ S ≠ [] ∧ (rd_T67 S 0).f0 = 0 ∧ S.length ≤ 10 := by
  unfold validB at h
  by_cases c : (1 ≤ (S.length : Int) ∧ (S.length : Int) ≤ 10) ∧ (1 ≤ s ∧ s ≤ 100) ∧ (rd_T67 S 0).f0 = 0
  · rw [if_pos c] at h
    exact ⟨h, fun e => by subst e; simp at c, c.2.2, by omega⟩
  · rw [if_neg c] at h
    cases h
theorem cap_late {S : List S67} {s : Int} (h : validB S s = true) (t : Int) (ht : 1000 ≤ t) : 0 < capL S t := by
  obtain ⟨h1, h2, _⟩ := validB_from h
  exact (cap_tail S (-1) 0 t h1 ht h2).1
theorem planGo_some {S : List S67} {s : Int} (hv : validB S s = true) : ∀ (l : List S60) (g : Int → Int) (b : Int), 0 ≤ b → (∀ j, b < j → g j = 0) → (∀ a ∈ l, 0 ≤ a.f1 ∧ a.f1 ≤ 1000) → ∃ p, planGo S l g b = some p
  | [], _, _, _, _, _ => ⟨[], rfl⟩
  | a :: l, g, b, h0, hg, hl => by
    have ha := hl a (List.mem_cons_self ..)
    have hl' : ∀ c ∈ l, 0 ≤ c.f1 ∧ c.f1 ≤ 1000 := fun c hc => hl c (List.mem_cons_of_mem _ hc)
    simp only [planGo]
    by_cases hu : a.f2 = true
    · rw [if_pos hu]
      obtain ⟨p, hp⟩ := planGo_some hv l g b h0 hg hl'
      exact ⟨_, by rw [hp]; rfl⟩
    · rw [if_neg hu]
      obtain ⟨t, ht⟩ := findOpen_some S g 2000 (max b a.f1) (max b 1000 + 1) (by omega) (by omega) (by rw [hg _ (by omega)]; exact cap_late hv _ (by omega))
      have hb := findOpen_bd _ _ _ _ _ ht
      obtain ⟨p, hp⟩ := planGo_some hv l (inc g t) t (by omega) (fun j hj => by unfold inc; rw [if_neg (by omega)]; exact hg j (by omega)) hl'
      exact ⟨_, by rw [ht, Option.bind_some, hp]; rfl⟩
theorem sorted_at {l : List S60} (h : readyB l = true) : ∀ a ∈ sortAtts l, 0 ≤ a.f1 ∧ a.f1 ≤ 1000 := fun a ha => by
  obtain ⟨i, hi, rfl⟩ := List.mem_iff_getElem.1 ha
  have := ready_at h i hi
  unfold rd_T60 at this
  rwa [Int.toNat_natCast, show (sortAtts l).getD i z60 = (sortAtts l)[i] by simp [List.getD, hi]] at this
theorem plan_some {S : List S67} {s : Int} {l : List S60} (hv : validB S s = true) (hr : readyB l = true) : ∃ p, recovery_Plan.f S s l = some (p, 0) ∧ planGo S (sortAtts l) (fun _ => 0) 0 = some p ∧ p.length = l.length ∧ l.length ≤ 40 := by
  obtain ⟨p, hp⟩ := planGo_some hv (sortAtts l) (fun _ => 0) 0 (Int.le_refl _) (fun _ _ => rfl) (sorted_at hr)
  have hlen := ready_len hr
  rw [(sortAtts_perm l).2] at hlen
  refine ⟨p, ?_, hp, ?_, hlen⟩
  · unfold recovery_Plan.f
    rw [if_pos (by omega), if_pos hv, if_pos hr, hp]
    rfl
  · rw [(planGo_bd _ _ _ _ _ hp (Int.le_refl _) (sorted_at hr)).1, (sortAtts_perm l).2]
/-- An index in 0..n-1. -/
theorem rpick_ok (a n : Int) (ha : I64 a) (hn : 0 < n ∧ n ≤ 1000000) : ∃ r, dialtoneref34_pick.f a n = some r ∧ 0 ≤ r ∧ r < n := by
  unfold dialtoneref34_pick.f I64 at *
  by_cases c : a < 0
  · rw [if_pos c, if_neg (by omega)]
    have h1 : wrap64 (a + 1) = a + 1 := by unfold wrap64; omega
    have h2 : wrap64 (-(a + 1)) = -(a + 1) := by unfold wrap64; omega
    rw [h1, h2]
    exact ⟨_, rfl, Int.tmod_nonneg _ (by omega), Int.tmod_lt_of_pos _ hn.1⟩
  · rw [if_neg c, if_neg (by omega)]
    exact ⟨_, rfl, Int.tmod_nonneg _ (by omega), Int.tmod_lt_of_pos _ hn.1⟩
theorem pick_ok (a n : Int) (ha : I64 a) (hn : 0 < n ∧ n ≤ 1000000) : ∃ r, dialtonelaw34_pick.f a n = some r ∧ 0 ≤ r ∧ r < n := rpick_ok a n ha hn
/-! #### attempts -/
/-- No caller twice, told place by place. -/
def Nub (l : List S60) : Prop := l.Pairwise (fun a b => a.f0 ≠ b.f0)
theorem addKey_new (acc : List Lit) (x : Lit) (h : ∀ y ∈ acc, y ≠ x) (hx : WideAt.IsKeyLit x) : Maps.addKey acc x = acc ++ [x] := by
  unfold Maps.addKey
  have : acc.any (fun y => y.sameKey x) = false := by
    rw [List.any_eq_false]
    intro y hy hs
    exact h y hy ((WideAt.sameKey_iff hx).1 hs)
  rw [this]
  rfl
theorem nub_fold (l : List S60) : ∀ acc : List Lit, Nub l → (∀ a ∈ l, ∀ y ∈ acc, y ≠ Lit.int .i64 a.f0) → ((keysOf l).foldl Maps.addKey acc).length = acc.length + l.length := by
  induction l with
  | nil => intro acc _ _; rfl
  | cons a l ih =>
    intro acc hn ha
    obtain ⟨h1, h2⟩ := List.pairwise_cons.1 hn
    show ((keysOf l).foldl Maps.addKey (Maps.addKey acc (Lit.int .i64 a.f0))).length = _
    rw [addKey_new acc _ (ha a (List.mem_cons_self ..)) trivial, ih _ h2 (fun b hb y hy => ?_)]
    · simp
      omega
    · rcases List.mem_append.1 hy with hy | hy
      · exact ha b (List.mem_cons_of_mem _ hb) y hy
      · simp only [List.mem_cons, List.not_mem_nil, or_false] at hy
        subst hy
        intro e
        injection e with _ e
        exact h1 b hb e
theorem ready_of {l : List S60} (h1 : ∀ a ∈ l, okAtt a = true) (h2 : l.length ≤ 40) (h3 : Nub l) : readyB l = true := by
  unfold readyB nubOf
  rw [nub_fold l [] h3 (fun _ _ y hy => by cases hy), List.all_eq_true.2 h1, decide_eq_true h2]
  simp
theorem Nub.uniq {l : List S60} (h : Nub l) : Uniq l := by
  induction l with
  | nil => intro a ha; cases ha
  | cons x l ih =>
    obtain ⟨h1, h2⟩ := List.pairwise_cons.1 h
    intro a ha b hb e
    rcases List.mem_cons.1 ha with ea | ha2 <;> rcases List.mem_cons.1 hb with eb | hb2
    · rw [ea, eb]
    · exact absurd e (by rw [ea]; exact h1 b hb2)
    · exact absurd e.symm (by rw [eb]; exact h1 a ha2)
    · exact ih h2 a ha2 b hb2 e
/-- What the attempts are that integers determine. -/
structure Atts (l : List S60) : Prop where
  len : l.length ≤ 20
  cal : ∀ i (h : i < l.length), l[i].f0 = 7 * ((i : Int) + 1) % 100
  at_ : ∀ a ∈ l, 0 ≤ a.f1 ∧ a.f1 < 25
theorem Atts.nub {l : List S60} (h : Atts l) : Nub l := by
  unfold Nub
  rw [List.pairwise_iff_getElem]
  intro i j hi hj hij e
  rw [h.cal i hi, h.cal j hj] at e
  have := h.len
  omega
theorem Atts.ready {l : List S60} (h : Atts l) : readyB l = true := by
  refine ready_of (fun a ha => ?_) (by have := h.len; omega) h.nub
  obtain ⟨i, hi, rfl⟩ := List.mem_iff_getElem.1 ha
  have h1 := h.cal i hi
  have h2 := h.at_ _ ha
  unfold okAtt
  simp only [Bool.and_eq_true, decide_eq_true_eq]
  omega
/-- Each element of the rows that came in is an int. -/
def Good71 (x : S71) : Prop := I64 x.f0 ∧ I64 x.f1
theorem rd71_good {y : List S71} (hy : ∀ x ∈ y, Good71 x) (i : Nat) (hi : i < y.length) : Good71 (rd_T71 y i) := by
  unfold rd_T71
  rw [Int.toNat_natCast, show y.getD i z71 = y[i] by simp [List.getD, hi]]
  exact hy _ (List.getElem_mem hi)
theorem atts_l0 (y : List S71) (hy : ∀ x ∈ y, Good71 x) (hb : y.length < 9223372036854775807) (m : Nat) : ∀ (i : Nat) (l : List S60), i + m = min y.length 20 → l.length = i → Atts l → ∃ r, Ev (fun k => dialtoneref34_Attempts.l0 k y l (i : Int)) r ∧ Atts r ∧ r.length = min y.length 20 := by
  induction m with
  | zero =>
    intro i l h hl ha
    refine ⟨l, ?_, ha, by omega⟩
    by_cases c : (i : Int) < (y.length : Int)
    · refine Ev.step (f := fun k => dialtoneref34_Attempts.j1 k y l (i : Int) false) (fun k => ?_) (Ev.step (fun k => ?_) (Ev.now l))
      · simp only [dialtoneref34_Attempts.l0]
        rw [if_pos c, decide_eq_false (by omega)]
      · simp only [dialtoneref34_Attempts.j1, Bool.false_eq_true, if_false]
    · refine Ev.step (f := fun k => dialtoneref34_Attempts.j1 k y l (i : Int) false) (fun k => ?_) (Ev.step (fun k => ?_) (Ev.now l))
      · simp only [dialtoneref34_Attempts.l0]
        rw [if_neg c]
      · simp only [dialtoneref34_Attempts.j1, Bool.false_eq_true, if_false]
  | succ m ih =>
    intro i l h hl ha
    have hg := rd71_good hy i (by omega)
    obtain ⟨r1, e1, b1, b2⟩ := rpick_ok _ 25 hg.1 (by omega)
    obtain ⟨r2, e2, b3, b4⟩ := rpick_ok _ 6 hg.2 (by omega)
    have hw : ∀ _ : Unit, wrap64 ((i : Int) + 1) = ((i + 1 : Nat) : Int) := fun _ => by unfold wrap64; omega
    have hw2 : ∀ _ : Unit, Int.tmod (wrap64 (7 * (((i + 1 : Nat) : Int)))) 100 = 7 * ((i : Int) + 1) % 100 := fun _ => by
      have h1 : wrap64 (7 * (((i + 1 : Nat) : Int))) = 7 * ((i : Int) + 1) := by unfold wrap64; omega
      rw [h1, Int.tmod_eq_emod_of_nonneg (by omega)]
    obtain ⟨r, hr, har, hrl⟩ := ih (i + 1) (l ++ [⟨7 * ((i : Int) + 1) % 100, r1, r2 == 5⟩]) (by omega) (by simp [hl]) ⟨by simp; omega, fun j hj => by
      by_cases q : j < l.length
      · rw [List.getElem_append_left q]
        exact ha.cal j q
      · have : j = i := by simp at hj; omega
        subst this
        rw [List.getElem_append_right (by omega)]
        simp [hl], fun a hq => by
      rcases List.mem_append.1 hq with hq | hq
      · exact ha.at_ a hq
      · simp only [List.mem_cons, List.not_mem_nil, or_false] at hq
        subst hq
        exact ⟨b1, b2⟩⟩
    refine ⟨r, ?_, har, hrl⟩
    refine Ev.step (f := fun k => dialtoneref34_Attempts.j1 k y l (i : Int) true) (fun k => ?_) (Ev.step (fun k => ?_) hr)
    · simp only [dialtoneref34_Attempts.l0]
      rw [if_pos (by omega), decide_eq_true (by omega)]
    · simp only [dialtoneref34_Attempts.j1, if_true]
      rw [if_pos (by omega), if_pos (by omega), e1, Option.bind_some, e2, Option.bind_some, if_pos (by omega), hw (), hw2 ()]
theorem atts_ok (y : List S71) (hy : ∀ x ∈ y, Good71 x) (hb : y.length < 9223372036854775807) : ∃ l, Ev (fun k => dialtoneref34_Attempts.f k y) l ∧ Atts l := by
  obtain ⟨r, h1, h2, _⟩ := atts_l0 y hy hb (min y.length 20) 0 [] (by omega) rfl ⟨by simp, fun j hj => by simp at hj, fun a ha => by cases ha⟩
  exact ⟨r, h1, h2⟩
/-! #### regions -/
/-- What the steps are when some have been laid: the last begins at lf and has the capacity lc. -/
structure Steps (st : List S67) (lf lc : Int) : Prop where
  pre : ∀ rest, validFrom (st ++ rest) (-1) 0 = validFrom rest lf lc
  fst : st ≠ [] → (rd_T67 st 0).f0 = 0
  low : ∀ x ∈ st, x.f0 ≤ 50
theorem Steps.add {st : List S67} {lf lc : Int} (h : Steps st lf lc) (x : S67) (h1 : lf + 1 ≤ x.f0) (h2 : x.f0 ≤ 50) (h3 : lc ≤ x.f1) (h4 : x.f1 ≤ 20) (h5 : st = [] → x.f0 = 0) : Steps (st ++ [x]) x.f0 x.f1 where
  pre := fun rest => by
    rw [List.append_assoc, h.pre]
    show validFrom (x :: rest) lf lc = _
    simp only [validFrom]
    rw [if_pos (by omega)]
  fst := fun _ => by
    cases st with
    | nil => exact h5 rfl
    | cons y l => exact h.fst (by simp)
  low := fun y hy => by
    rcases List.mem_append.1 hy with hy | hy
    · exact h.low y hy
    · simp only [List.mem_cons, List.not_mem_nil, or_false] at hy
      rw [hy]
      exact h2
theorem Steps.valid {st : List S67} {lf lc s : Int} (h : Steps st lf lc) (hl : st ≠ []) (h10 : st.length ≤ 10) (hc : 0 < lc) (hs : 1 ≤ s ∧ s ≤ 100) : validB st s = true := by
  have hp : 0 < st.length := List.length_pos_iff.2 hl
  unfold validB
  rw [if_pos ⟨by omega, hs, h.fst hl⟩]
  have := h.pre []
  rw [List.append_nil] at this
  rw [this]
  simp only [validFrom, decide_eq_true_eq]
  exact hc
/-- What the regions are that integers determine. -/
structure Reg (st : List S67) (s : Int) : Prop where
  valid : validB st s = true
  low : ∀ x ∈ st, x.f0 ≤ 50
  sig : s ≤ 12
  len : st.length ≤ 6
theorem made_l0 (x : List S71) (hx : ∀ a ∈ x, Good71 a) (hb : x.length < 9223372036854775807) (s : Int) (hs : 1 ≤ s ∧ s ≤ 12) (m : Nat) : ∀ (i : Nat) (st : List S67) (fr c : Int), i + m = min x.length 5 → st.length = i → 0 ≤ c → c ≤ 20 → 0 ≤ fr → fr ≤ 8 * (i : Int) → Steps st (if i = 0 then -1 else fr) c → (i = 0 → fr = 0 ∧ c = 0) →
    ∃ r, Ev (fun k => dialtoneref34_Made.l0 k x fr c (i : Int) st s) (r, s) ∧ Reg r s := by
  induction m with
  | zero =>
    intro i st fr c h hl c0 c20 f0 fb hst hz
    have hfin : ∀ k, dialtoneref34_Made.j1 (k + 1) x fr c (i : Int) false st s = if c = 0 then (if (st.length : Int) > 0 then some (st ++ [⟨fr + 1, 1⟩], s) else some (st ++ [⟨fr, 1⟩], s)) else some (st, s) := fun k => by
      have hw : wrap64 (fr + 1) = fr + 1 := by unfold wrap64; omega
      simp only [dialtoneref34_Made.j1, Bool.false_eq_true, if_false]
      have hlt : st.length < 8796093022208 := by omega
      simp only [hw, if_pos hlt]
    have key : ∃ r, (if c = 0 then (if (st.length : Int) > 0 then some (st ++ [⟨fr + 1, 1⟩], s) else some (st ++ [⟨fr, 1⟩], s)) else some (st, s)) = some (r, s) ∧ Reg r s := by
      by_cases hc : c = 0
      · rw [if_pos hc]
        by_cases hp : (st.length : Int) > 0
        · rw [if_pos hp]
          have h2 := hst.add ⟨fr + 1, 1⟩ (by rw [if_neg (show ¬ i = 0 by omega)]; simp) (by simp; omega) (by simp; omega) (by simp) (fun e => by subst e; simp at hp)
          exact ⟨_, rfl, h2.valid (by simp) (by rw [List.length_append]; simp only [List.length_cons, List.length_nil]; omega) (by simp) (by omega), h2.low, hs.2, by rw [List.length_append]; simp only [List.length_cons, List.length_nil]; omega⟩
        · rw [if_neg hp]
          have hi0 : i = 0 := by omega
          have he : st = [] := List.eq_nil_of_length_eq_zero (by omega)
          have hf := (hz hi0).1
          rw [if_pos hi0] at hst
          have h2 := hst.add ⟨fr, 1⟩ (by simp; omega) (by simp; omega) (by simp; omega) (by simp) (fun _ => hf)
          exact ⟨_, rfl, h2.valid (by simp) (by rw [List.length_append]; simp only [List.length_cons, List.length_nil]; omega) (by simp) (by omega), h2.low, hs.2, by rw [List.length_append]; simp only [List.length_cons, List.length_nil]; omega⟩
      · rw [if_neg hc]
        have hi : i ≠ 0 := fun e => hc (hz e).2
        exact ⟨st, rfl, hst.valid (fun e => by subst e; simp at hl; omega) (by omega) (by omega) (by omega), hst.low, hs.2, by omega⟩
    obtain ⟨r, hr, hreg⟩ := key
    refine ⟨r, ?_, hreg⟩
    rw [hr] at hfin
    by_cases q : (i : Int) < (x.length : Int)
    · refine Ev.step (f := fun k => dialtoneref34_Made.j1 k x fr c (i : Int) false st s) (fun k => ?_) (Ev.step hfin (Ev.now _))
      simp only [dialtoneref34_Made.l0]
      rw [if_pos q, decide_eq_false (by omega)]
    · refine Ev.step (f := fun k => dialtoneref34_Made.j1 k x fr c (i : Int) false st s) (fun k => ?_) (Ev.step hfin (Ev.now _))
      simp only [dialtoneref34_Made.l0]
      rw [if_neg q]
  | succ m ih =>
    intro i st fr c h hl c0 c20 f0 fb hst hz
    have hg := rd71_good hx i (by omega)
    obtain ⟨r1, e1, b1, b2⟩ := rpick_ok _ 8 hg.1 (by omega)
    obtain ⟨r2, e2, b3, b4⟩ := rpick_ok _ 4 hg.2 (by omega)
    have hw : ∀ _ : Unit, wrap64 ((i : Int) + 1) = ((i + 1 : Nat) : Int) := fun _ => by unfold wrap64; omega
    have hw2 : ∀ _ : Unit, mn (wrap64 (c + r2)) 20 = min (c + r2) 20 := fun _ => by
      have h1 : wrap64 (c + r2) = c + r2 := by unfold wrap64; omega
      rw [h1]
      unfold mn
      split <;> omega
    have hw3 : ∀ _ : Unit, wrap64 (wrap64 (fr + 1) + r1) = fr + 1 + r1 := fun _ => by
      have h1 : wrap64 (fr + 1) = fr + 1 := by unfold wrap64; omega
      rw [h1]
      unfold wrap64
      omega
    obtain ⟨f', hf'⟩ : ∃ f', (if (i : Int) > 0 then fr + 1 + r1 else fr) = f' := ⟨_, rfl⟩
    have hf1 : (if i = 0 then (-1 : Int) else fr) + 1 ≤ f' ∧ f' ≤ 8 * ((i : Int) + 1) ∧ 0 ≤ f' ∧ (i = 0 → f' = 0) := by
      rw [← hf']
      by_cases q : i = 0
      · have := (hz q).1
        rw [if_pos q, if_neg (by omega)]
        omega
      · rw [if_neg q, if_pos (by omega)]
        omega
    have hadd := hst.add ⟨f', min (c + r2) 20⟩ hf1.1 (by simp; omega) (by simp; omega) (by simp; omega) (fun e => hf1.2.2.2 (by subst e; simpa using hl.symm))
    obtain ⟨r, hr, hreg⟩ := ih (i + 1) (st ++ [⟨f', min (c + r2) 20⟩]) f' (min (c + r2) 20) (by omega) (by simp [hl]) (by omega) (by omega) (by omega) (by push_cast; omega) (by rw [if_neg (by omega)]; exact hadd) (fun e => by omega)
    refine ⟨r, ?_, hreg⟩
    have hj2 : Ev (fun k => dialtoneref34_Made.j2 k x f' c (i : Int) st s) (r, s) := by
      refine Ev.step (fun k => ?_) hr
      simp only [dialtoneref34_Made.j2]
      rw [if_pos (by omega), if_pos (by omega), e2, Option.bind_some, if_pos (by omega), hw (), hw2 ()]
    refine Ev.step (f := fun k => dialtoneref34_Made.j1 k x fr c (i : Int) true st s) (fun k => ?_) (Ev.step (fun k => ?_) hj2)
    · simp only [dialtoneref34_Made.l0]
      rw [if_pos (by omega), decide_eq_true (by omega)]
    · simp only [dialtoneref34_Made.j1, if_true]
      by_cases q : (i : Int) > 0
      · rw [if_pos q, if_pos (by omega), if_pos (by omega), e1, Option.bind_some, hw3 ()]
        rw [if_pos q] at hf'
        rw [hf']
      · rw [if_neg q]
        rw [if_neg q] at hf'
        rw [hf']
theorem made_ok (x : List S71) (hx : ∀ a ∈ x, Good71 a) (hb : x.length < 9223372036854775807) (a : Int) (ha : I64 a) : ∃ st s, Ev (fun k => dialtoneref34_Made.f k x a) (st, s) ∧ Reg st s := by
  obtain ⟨r, e, b1, b2⟩ := rpick_ok a 12 ha (by omega)
  have hw : wrap64 (1 + r) = 1 + r := by unfold wrap64; omega
  obtain ⟨st, h1, h2⟩ := made_l0 x hx hb (1 + r) (by omega) (min x.length 5) 0 [] 0 0 (by omega) rfl (Int.le_refl _) (by omega) (Int.le_refl _) (by omega) ⟨fun _ => rfl, fun h => absurd rfl h, fun y hy => by cases hy⟩ (fun _ => ⟨rfl, rfl⟩)
  refine ⟨st, 1 + r, ?_, h2⟩
  unfold dialtoneref34_Made.f
  rw [e]
  simp only [Option.bind_some, hw]
  exact h1
end Go.Proofs.Ytcldldmedphcfaa.C
