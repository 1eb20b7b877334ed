import Derived.Test.YtcldldmedphcfaaFLoads
import Derived.Test.YtcldldmedphcfaaQSane
import Derived.Test.YtcldldmedphcfaaQLoad
import Derived.Test.YtcldldmedphcfaaQRd
/- RecoveryLoads, in plain words. Condition: the arguments are ints. -/
namespace Go.Proofs.Ytcldldmedphcfaa.C
open Go.RowKit Go.Proofs.YtcldldmedphcfaaW.PrintWords Go.Proofs.YtcldldmedphcfaaW.PrintLast Go.Proofs.YtcldldmedphcfaaW.PrintMore
set_option linter.unusedVariables false
set_option linter.unusedSimpArgs false
theorem load_cand (t : Int) : ∀ (o : List S60) (p : List S39), loadFn o p t ≠ 0 → t ∈ candOf o p
  | [], p, h => absurd (by cases p <;> rfl) h
  | a :: o, [], h => absurd rfl h
  | a :: o, x :: p, h => by
    unfold candOf
    by_cases c : a.f1 = t
    · exact List.mem_append_left _ (by rw [List.map_cons, c]; exact List.mem_cons_self ..)
    · by_cases d : x.f2 = t
      · exact List.mem_append_right _ (by rw [List.map_cons, d]; exact List.mem_cons_self ..)
      · have ih := load_cand t o p (fun e => h (by
          simp only [loadFn]
          simp only [e, if_neg c, if_neg (show ¬ (a.f1 < x.f2 ∧ x.f2 = t) from fun q => d q.2)]
          split <;> rfl))
        unfold candOf at ih
        rcases List.mem_append.1 ih with h' | h'
        · exact List.mem_append_left _ (List.mem_cons_of_mem _ h')
        · exact List.mem_append_right _ (List.mem_cons_of_mem _ h')
/-- The first tick below t whose load is too great. -/
def Worst (G : Int → Int) (s : Int) (t : Int) (w : Int) : Prop := (w = -1 ∧ ∀ u, 0 ≤ u → u < t → ¬ s < G u) ∨ (0 ≤ w ∧ w < t ∧ s < G w ∧ ∀ u, 0 ≤ u → s < G u → w ≤ u)
theorem Worst.step {G : Int → Int} {s t w : Int} (h : Worst G s t w) (ht : 0 ≤ t) : Worst G s (t + 1) (if s < G t ∧ w < 0 then t else w) := by
  unfold Worst at *
  rcases h with ⟨rfl, h⟩ | ⟨h1, h2, h3, h4⟩
  · by_cases c : s < G t
    · rw [if_pos ⟨c, by omega⟩]
      refine Or.inr ⟨ht, by omega, c, fun u hu hg => ?_⟩
      by_cases d : t ≤ u
      · exact d
      · exact absurd hg (h u hu (by omega))
    · rw [if_neg (fun q => c q.1)]
      refine Or.inl ⟨rfl, fun u hu hut => ?_⟩
      by_cases d : u < t
      · exact h u hu d
      · rw [show u = t by omega]
        exact c
  · rw [if_neg (by omega)]
    exact Or.inr ⟨h1, by omega, h3, h4⟩
theorem Worst.bad {G : Int → Int} {s w : Int} {cs : List Int} (h : Worst G s 80 w) (hs : 0 ≤ s) (hc : ∀ t ∈ cs, 0 ≤ t ∧ t < 80) (hG : ∀ t, G t ≠ 0 → t ∈ cs) : pickBad G s cs = w := by
  have hp := pickBad_spec G s cs (fun t ht => (hc t ht).1)
  rcases h with ⟨rfl, h⟩ | ⟨h1, h2, h3, h4⟩
  · rcases hp with ⟨p1, p2⟩ | ⟨p1, p2, p3, p4⟩
    · exact p1
    · exact absurd p3 (h _ p1 (hc _ p2).2)
  · have hm := hG w (by omega)
    rcases hp with ⟨p1, p2⟩ | ⟨p1, p2, p3, p4⟩
    · exact absurd h3 (p2 w hm)
    · have a1 := p4 w hm h3
      have a2 := h4 _ p1 p3
      omega
theorem firstAt_le (l : List S60) (t : Int) : firstAt l t ≤ l.length := List.countP_le_length
section
variable {l : List S60} {S : List S67} {s : Int} {p : List S39}
theorem loads_l0 (hl : l.length ≤ 20) (hend : Ev (fun k => dialtonelaw34_RecoveryLoads.l1 k l 0 (calm l : Int) 0 (-1) 0 S s) true) (n : Nat) : ∀ i c : Nat, i + n = l.length → c + calm (l.drop i) = calm l → Ev (fun k => dialtonelaw34_RecoveryLoads.l0 k l 0 (c : Int) 0 (-1) (i : Int) S s) true := by
  induction n with
  | zero =>
    intro i c hi hc
    rw [List.drop_eq_nil_of_le (by omega)] at hc
    simp only [calm, List.countP_nil, Nat.add_zero] at hc
    subst hc
    refine Ev.step (fun k => ?_) hend
    simp only [dialtonelaw34_RecoveryLoads.l0]
    rw [if_neg (by omega)]
    rfl
  | succ n ih =>
    intro i c hi hc
    have hcl : calm l ≤ l.length := List.countP_le_length
    have hw : wrap64 ((i : Int) + 1) = ((i + 1 : Nat) : Int) := by unfold wrap64; omega
    rw [drop60 l i (by omega)] at hc
    unfold calm at hc
    rw [List.countP_cons] at hc
    cases hb : (rd_T60 l i).f2 with
    | true =>
      rw [hb] at hc
      simp only [Bool.not_true, Bool.false_eq_true, if_false, Nat.add_zero] at hc
      refine Ev.step (fun k => ?_) (ih (i + 1) c (by omega) hc)
      simp only [dialtonelaw34_RecoveryLoads.l0]
      rw [if_pos (by omega), if_pos (by omega), if_pos hb, hw]
    | false =>
      rw [hb] at hc
      simp only [Bool.not_false, if_true] at hc
      have hwc : wrap64 ((c : Int) + 1) = ((c + 1 : Nat) : Int) := by unfold calm at hcl; unfold wrap64; omega
      refine Ev.step (fun k => ?_) (ih (i + 1) (c + 1) (by omega) (by unfold calm; omega))
      simp only [dialtonelaw34_RecoveryLoads.l0]
      rw [if_pos (by omega), if_pos (by omega), if_neg (by rw [hb]; exact Bool.false_ne_true), hw, hwc]
theorem loads_l2 (hl : l.length ≤ 20) (x10 x11 x12 x13 x15 x16 x17 x18 x19 : Int) (hend : Ev (fun k => dialtonelaw34_RecoveryLoads.l2 k l x10 x11 x12 x13 x15 x16 x17 x18 x19 (firstAt l x15 : Int) (l.length : Int) S s) true) (n : Nat) : ∀ i c : Nat, i + n = l.length → c + firstAt (l.drop i) x15 = firstAt l x15 → Ev (fun k => dialtonelaw34_RecoveryLoads.l2 k l x10 x11 x12 x13 x15 x16 x17 x18 x19 (c : Int) (i : Int) S s) true := by
  induction n with
  | zero =>
    intro i c hi hc
    rw [List.drop_eq_nil_of_le (by omega)] at hc
    have hil : i = l.length := by omega
    subst hil
    rw [show firstAt ([] : List S60) x15 = 0 from rfl, Nat.add_zero] at hc
    subst hc
    exact hend
  | succ n ih =>
    intro i c hi hc
    have hcl := firstAt_le l x15
    have hw : wrap64 ((i : Int) + 1) = ((i + 1 : Nat) : Int) := by unfold wrap64; omega
    rw [drop60 l i (by omega)] at hc
    have hco : firstAt (rd_T60 l i :: l.drop (i + 1)) x15 = firstAt (l.drop (i + 1)) x15 + (if (!(rd_T60 l i).f2 && decide ((rd_T60 l i).f1 = x15)) = true then 1 else 0) := by
      unfold firstAt
      rw [List.countP_cons]
    rw [hco] at hc
    obtain ⟨b, hb⟩ : ∃ b, (!(rd_T60 l i).f2 && decide ((rd_T60 l i).f1 = x15)) = b := ⟨_, rfl⟩
    rw [hb] at hc
    refine Ev.step (f := fun k => dialtonelaw34_RecoveryLoads.j3 k l x10 x11 x12 x13 x15 x16 x17 x18 x19 (c : Int) (i : Int) b S s) (fun k => ?_) ?_
    · simp only [dialtonelaw34_RecoveryLoads.l2]
      rw [if_pos (by omega), if_pos (by omega)]
      by_cases e : (rd_T60 l i).f1 = x15
      · rw [if_pos e, ← hb, decide_eq_true e, Bool.and_true]
      · rw [if_neg e, ← hb, decide_eq_false e, Bool.and_false]
    · cases b with
      | true =>
        rw [if_pos rfl] at hc
        have hwc : wrap64 ((c : Int) + 1) = ((c + 1 : Nat) : Int) := by unfold wrap64; omega
        refine Ev.step (fun k => ?_) (ih (i + 1) (c + 1) (by omega) (by omega))
        simp only [dialtonelaw34_RecoveryLoads.j3]
        rw [if_pos trivial, hw, hwc]
      | false =>
        rw [if_neg Bool.false_ne_true] at hc
        refine Ev.step (fun k => ?_) (ih (i + 1) c (by omega) (by omega))
        simp only [dialtonelaw34_RecoveryLoads.j3]
        rw [if_neg Bool.false_ne_true, hw]
theorem loads_l1 (hl : l.length ≤ 20) (hv : validB S s = true) (G : Int → Int) (hld : ∀ t, 0 ≤ t → t < 80 → recovery_Load.f S s l t = some (G t, 0)) (hb : ∀ t, 0 ≤ t → t < 80 → (firstAt l t : Int) ≤ G t ∧ G t ≤ firstAt l t + capL S t) (hcap : ∀ t, 0 ≤ t → 0 ≤ capL S t ∧ capL S t ≤ 20)
    (hend : ∀ m w, Worst G s 80 w → (∀ u, 0 ≤ u → u < 80 → (firstAt l u : Int) ≤ m) → 0 ≤ m → m ≤ 20 → Ev (fun k => dialtonelaw34_RecoveryLoads.l1 k l (sumI G 80) (calm l : Int) m w 80 S s) true) (n : Nat) : ∀ (t : Nat) (m w : Int), t + n = 80 → Worst G s t w → (∀ u, 0 ≤ u → u < (t : Int) → (firstAt l u : Int) ≤ m) → 0 ≤ m → m ≤ 20 → 0 ≤ sumI G t → sumI G t ≤ 40 * (t : Int) → Ev (fun k => dialtonelaw34_RecoveryLoads.l1 k l (sumI G t) (calm l : Int) m w (t : Int) S s) true := by
  induction n with
  | zero =>
    intro t m w ht hw hm hm0 hm1 _ _
    have ht' : t = 80 := by omega
    subst ht'
    exact hend m w hw hm hm0 hm1
  | succ n ih =>
    intro t m w ht hw hm hm0 hm1 hs0 hs1
    have hwt : wrap64 ((t : Int) + 1) = ((t + 1 : Nat) : Int) := by unfold wrap64; omega
    have hbt := hb t (by omega) (by omega)
    have hct := hcap t (by omega)
    have hft := firstAt_le l t
    have hw1 : wrap64 ((firstAt l t : Int) + capL S t) = firstAt l t + capL S t := by unfold wrap64; omega
    have hw2 : wrap64 (sumI G t + G t) = sumI G (t + 1) := by
      rw [show sumI G (t + 1) = sumI G t + G t from rfl]
      unfold wrap64
      omega
    have hs2 : sumI G (t + 1) = sumI G t + G t := rfl
    have hmx : mx m (firstAt l t : Int) = max m (firstAt l t : Int) := by unfold mx; split <;> omega
    refine Ev.step (f := fun k => (recovery_Load.f S s l t).bind fun bt610 => ((recovery_Capacity.f k S s t).bind fun bt612 => (dialtonelaw34_RecoveryLoads.l2 k l (sumI G t) (calm l : Int) m w t bt610.1 bt610.2 bt612.1 bt612.2 0 0 S s))) (fun k => ?_) ?_
    · simp only [dialtonelaw34_RecoveryLoads.l1]
      rw [if_pos (by omega)]
    · rw [hld t (by omega) (by omega)]
      simp only [Option.bind_some]
      refine Ev.bind (capacity_ok hv t (by omega)) ?_
      refine loads_l2 hl (sumI G t) (calm l : Int) m w t (G t) 0 (capL S t) 0 ?_ l.length 0 0 (by omega) (by rw [List.drop_zero]; omega)
      refine Ev.step (f := fun k => dialtonelaw34_RecoveryLoads.j4 k l (sumI G t) (calm l : Int) m w t (G t) (firstAt l t : Int) false S s) (fun k => ?_) (Ev.step (f := fun k => dialtonelaw34_RecoveryLoads.j5 k l (sumI G (t + 1)) (calm l : Int) (max m (firstAt l t : Int)) w t (decide (s < G t ∧ w < 0)) S s) (fun k => ?_) (Ev.step (fun k => ?_) (ih (t + 1) (max m (firstAt l t : Int)) (if s < G t ∧ w < 0 then (t : Int) else w) (by omega) ?_ ?_ (by omega) (by omega) (by rw [hs2]; omega) (by rw [hs2]; push_cast; omega))))
      · simp only [dialtonelaw34_RecoveryLoads.l2]
        rw [if_neg (by omega)]
        simp only [if_true]
        rw [if_neg (by omega), hw1, decide_eq_false (by omega)]
      · simp only [dialtonelaw34_RecoveryLoads.j4]
        rw [if_neg Bool.false_ne_true, hw2, hmx]
        by_cases c : G t > s
        · rw [if_pos c]
          by_cases d : w < 0
          · rw [decide_eq_true d, decide_eq_true (show s < G t ∧ w < 0 from ⟨c, d⟩)]
          · rw [decide_eq_false d, decide_eq_false (fun q : s < G t ∧ w < 0 => d q.2)]
        · rw [if_neg c, decide_eq_false (fun q : s < G t ∧ w < 0 => c q.1)]
      · simp only [dialtonelaw34_RecoveryLoads.j5]
        by_cases d : s < G t ∧ w < 0
        · rw [decide_eq_true d, if_pos rfl, if_pos d, hwt]
        · rw [decide_eq_false d, if_neg Bool.false_ne_true, if_neg d, hwt]
      · have := hw.step (by omega : (0 : Int) ≤ t)
        exact this
      · intro u hu0 hu1
        by_cases c : u = t
        · subst c
          omega
        · have := hm u hu0 (by omega)
          omega
end
theorem loads_ok (l0 : List S71) (a1 : Int) (l2 : List S71) (hg0 : ∀ x, x ∈ l0 → I64 x.f0 ∧ I64 x.f1) (hb0 : l0.length * 16 ≤ 140737488351232) (g1 : I64 a1) (hg2 : ∀ x, x ∈ l2 → I64 x.f0 ∧ I64 x.f1) (hb2 : l2.length * 16 ≤ 140737488351232) :
    Ev (fun k => dialtonelaw34_RecoveryLoads.f k l0 a1 l2) true := by
  obtain ⟨S, s, hm, hreg⟩ := made_ok l0 hg0 (by omega) a1 g1
  obtain ⟨l, ha, hat⟩ := atts_ok l2 hg2 (by omega)
  obtain ⟨p, hp⟩ := planOf hreg.valid hat.ready
  have hlen := hp.len
  have h20 := hat.len
  have hso := sortAtts_perm l
  have hsig := sig_valid hreg.valid
  have htk := reg_plan hreg hat hp
  have hlo : (sortAtts l).length = p.length := by omega
  have hld : ∀ t : Int, 0 ≤ t → t < 80 → recovery_Load.f S s l t = some (loadFn (sortAtts l) p t, 0) := fun t h0 h1 => by
    unfold recovery_Load.f
    rw [hp.eq]
    simp only [Option.bind_some, if_true]
    rw [if_neg (by omega), if_pos (by omega)]
  have hcap : ∀ t : Int, 0 ≤ t → 0 ≤ capL S t ∧ capL S t ≤ 20 := fun t ht => cap_range hreg.valid t ht
  have hfirst : ∀ t, firstAt (sortAtts l) t = firstAt l t := fun t => firstAt_perm hso.1 t
  have hbd : ∀ t : Int, 0 ≤ t → t < 80 → (firstAt l t : Int) ≤ loadFn (sortAtts l) p t ∧ loadFn (sortAtts l) p t ≤ firstAt l t + capL S t := fun t h0 h1 => by
    have h2 := load_bounds t _ _ hlo
    rw [hfirst] at h2
    have h3 := plan_within S t _ _ _ _ hp.go_
    have h4 := hcap t h0
    rcases h3 with h3 | h3 <;> omega
  have hsum := load_sum 80 _ _ hlo (fun a ham => by have := hat.at_ a (hso.1.mem_iff.1 ham); omega) (fun x hx => by have := htk x hx; omega)
  rw [calm_perm hso.1] at hsum
  have hcl : calm l ≤ l.length := List.countP_le_length
  unfold dialtonelaw34_RecoveryLoads.f
  refine Ev.bind sane_ok ?_
  simp only [if_true]
  refine Ev.bind hm ?_
  refine Ev.bind ha ?_
  refine loads_l0 h20 ?_ l.length 0 0 (by omega) (by rw [List.drop_zero]; omega)
  refine loads_l1 h20 hreg.valid (loadFn (sortAtts l) p) hld hbd hcap ?_ 80 0 0 (-1) (by omega) (Or.inl ⟨rfl, fun u h0 h1 => by omega⟩) (fun u h0 h1 => by omega) (by omega) (by omega) (Int.le_refl _) (by simp [sumI])
  intro m w hw hmm hm0 hm1
  have hbad : pickBad (loadFn (sortAtts l) p) s (candOf (sortAtts l) p) = w := hw.bad (by omega) (fun t ht => by
    rcases List.mem_append.1 ht with ht | ht
    · obtain ⟨a, ham, rfl⟩ := List.mem_map.1 ht
      have := hat.at_ a (hso.1.mem_iff.1 ham)
      omega
    · obtain ⟨x, hx, rfl⟩ := List.mem_map.1 ht
      have := htk x hx
      omega) (fun t ht => load_cand t _ _ ht)
  have hsafe : recovery_Safe.f S s l = some (w, decide (w < 0)) := by
    unfold recovery_Safe.f
    rw [hp.eq]
    simp only [Option.bind_some, if_true]
    rw [hbad]
  have hw2 : wrap64 (2 * (calm l : Int)) = 2 * calm l := by unfold wrap64; omega
  have hSl := hreg.len
  have hSn : S ≠ [] := (validB_from hreg.valid).2.1
  have hSp : 0 < S.length := List.length_pos_iff.2 hSn
  have hw3 : wrap64 ((S.length : Int) - 1) = (S.length : Int) - 1 := by unfold wrap64; omega
  have hlast := (hreg.cap_pos 100 (by omega)).2
  have hl20 := hcap 100 (by omega)
  have hw4 : wrap64 (m + (rd_T67 S ((S.length : Int) - 1)).f1) = m + (rd_T67 S ((S.length : Int) - 1)).f1 := by rw [← hlast]; unfold wrap64; omega
  refine Ev.step (f := fun k => dialtonelaw34_RecoveryLoads.j6 k m (decide (w < 0)) false S s) (fun k => ?_) (Ev.step (fun k => ?_) (Ev.now true))
  · simp only [dialtonelaw34_RecoveryLoads.l1]
    rw [if_neg (by omega), hsafe, Option.bind_some, if_neg (by omega), hw2, if_neg (by omega)]
    simp only [bne_self_eq_false, Bool.false_eq_true, if_false]
  · simp only [dialtonelaw34_RecoveryLoads.j6]
    rw [if_neg Bool.false_ne_true]
    by_cases c : w < 0
    · rw [if_pos (decide_eq_true c)]
    · rw [if_neg (by rw [decide_eq_true_eq]; exact c), hw3, if_pos (by omega), if_pos (by omega), hw4, ← hlast]
      rcases hw with ⟨rfl, _⟩ | ⟨h1, h2, h3, h4⟩
      · exact absurd (by decide) c
      · have h5 := hbd w h1 h2
        have h6 := hmm w h1 h2
        have h7 := cap_mono hreg.valid w 100 h1 (by omega)
        rw [decide_eq_true (by omega)]
end Go.Proofs.Ytcldldmedphcfaa.C
