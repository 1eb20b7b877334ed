import Derived.Test.YtcldldmedphcfaaFLast
import Derived.Test.YtcldldmedphcfaaQSane
import Derived.Test.YtcldldmedphcfaaQBusy
import Derived.Test.YtcldldmedphcfaaQRd
/- RecoveryLast, in plain words. Condition: the arguments are ints. -/
namespace Go.Proofs.Ytcldldmedphcfaa.C
open Go.RowKit Go.Proofs.YtcldldmedphcfaaW.PrintWords Go.Proofs.YtcldldmedphcfaaW.PrintLast Go.Proofs.YtcldldmedphcfaaW.PrintMore
set_option linter.unusedVariables false
set_option linter.unusedSimpArgs false
theorem mx_max (a b : Int) : mx a b = max a b := by unfold mx; split <;> omega
theorem lastOf_spec : ∀ (p : List S39) (m : Int), m ≤ lastOf m p ∧ (∀ x ∈ p, x.f2 ≤ lastOf m p) ∧ (lastOf m p = m ∨ ∃ x ∈ p, x.f2 = lastOf m p)
  | [], m => ⟨Int.le_refl _, fun x hx => (by cases hx), Or.inl rfl⟩
  | x :: p, m => by
    obtain ⟨h1, h2, h3⟩ := lastOf_spec p (mx m x.f2)
    rw [mx_max] at h1 h2 h3
    simp only [lastOf]
    rw [mx_max]
    refine ⟨by omega, fun y hy => ?_, ?_⟩
    · rcases List.mem_cons.1 hy with rfl | hy
      · omega
      · exact h2 y hy
    · rcases h3 with h3 | ⟨y, hy, h3⟩
      · by_cases c : x.f2 ≤ m
        · left
          omega
        · right
          exact ⟨x, List.mem_cons_self .., by omega⟩
      · exact Or.inr ⟨y, List.mem_cons_of_mem _ hy, h3⟩
section
variable {l : List S60} {S : List S67} {s : Int} {W : Int}
theorem last_l2 (hl : l.length ≤ 20) (hv : validB S s = true) (hcap : ∀ t : Int, 0 ≤ t → 0 ≤ capL S t ∧ capL S t ≤ 20) (hW0 : W ≤ 70) (w i : Int) (f : Nat) (hf : (f : Int) ≤ W + 1) (n : Nat) (hn20 : n ≤ 20) (hn : (n : Int) ≤ sumI (capL S) (W + 1).toNat - sumI (capL S) f) (hend : ∀ g : Nat, f ≤ g → (g : Int) ≤ W + 1 → (n : Int) ≤ sumI (capL S) g - sumI (capL S) f → Ev (fun k => dialtonelaw34_RecoveryLast.l0 k l W (mx w ((g : Int) - 1)) (wrap64 (i + 1)) S s) true) (d : Nat) : ∀ g : Nat, f ≤ g → (g : Int) + d = W + 1 → sumI (capL S) g - sumI (capL S) f ≤ 2000 → Ev (fun k => dialtonelaw34_RecoveryLast.l2 k l W w i ((n : Int) - (sumI (capL S) g - sumI (capL S) f)) ((g : Int) - 1) S s) true := by
  have hdone : ∀ g : Nat, f ≤ g → (g : Int) ≤ W + 1 → (n : Int) ≤ sumI (capL S) g - sumI (capL S) f → Ev (fun k => dialtonelaw34_RecoveryLast.l2 k l W w i ((n : Int) - (sumI (capL S) g - sumI (capL S) f)) ((g : Int) - 1) S s) true := by
    intro g h1 h2 h3
    refine Ev.step (f := fun k => dialtonelaw34_RecoveryLast.j4 k l W w i ((n : Int) - (sumI (capL S) g - sumI (capL S) f)) ((g : Int) - 1) false S s) (fun k => ?_) (Ev.step (fun k => ?_) (hend g h1 h2 h3))
    · simp only [dialtonelaw34_RecoveryLast.l2]
      rw [if_neg (by omega)]
    · simp only [dialtonelaw34_RecoveryLast.j4]
      rw [if_neg Bool.false_ne_true]
  induction d with
  | zero =>
    intro g h1 h2 h3
    refine hdone g h1 (by omega) ?_
    rw [show (W + 1).toNat = g by omega] at hn
    exact hn
  | succ d ih =>
    intro g h1 h2 h3
    by_cases c : (n : Int) ≤ sumI (capL S) g - sumI (capL S) f
    · exact hdone g h1 (by omega) c
    · have hm := sumI_le (capL S) (fun t ht => (hcap t ht).1) h1
      have hcg := hcap g (by omega)
      have hw1 : wrap64 ((g : Int) - 1 + 1) = (g : Int) := by unfold wrap64; omega
      have hs2 : sumI (capL S) (g + 1) = sumI (capL S) g + capL S g := rfl
      have hw2 : wrap64 ((n : Int) - (sumI (capL S) g - sumI (capL S) f) - capL S g) = (n : Int) - (sumI (capL S) (g + 1) - sumI (capL S) f) := by
        rw [hs2]
        unfold wrap64
        omega
      refine Ev.step (f := fun k => dialtonelaw34_RecoveryLast.j4 k l W w i ((n : Int) - (sumI (capL S) g - sumI (capL S) f)) ((g : Int) - 1) true S s) (fun k => ?_) (Ev.step (f := fun k => (recovery_Capacity.f k S s (g : Int)).bind fun bt636 => (if bt636.2 = 0 then (dialtonelaw34_RecoveryLast.l2 k l W w i (wrap64 ((n : Int) - (sumI (capL S) g - sumI (capL S) f) - bt636.1)) (g : Int) S s) else (none))) (fun k => ?_) (Ev.bind (capacity_ok hv g (by omega)) ?_))
      · simp only [dialtonelaw34_RecoveryLast.l2]
        rw [if_pos (by omega), decide_eq_true (by omega)]
      · simp only [dialtonelaw34_RecoveryLast.j4]
        rw [if_pos trivial, hw1]
      · simp only [if_true]
        rw [hw2]
        have := ih (g + 1) (by omega) (by push_cast; omega) (by rw [hs2]; omega)
        rw [show ((g + 1 : Nat) : Int) - 1 = (g : Int) by omega] at this
        exact this
theorem last_l1 (hl : l.length ≤ 20) (hv : validB S s = true) (hcap : ∀ t : Int, 0 ≤ t → 0 ≤ capL S t ∧ capL S t ≤ 20) (hW0 : W ≤ 70) (w i : Int) (hi0 : 0 ≤ i) (hi : i < (l.length : Int)) (hfb : 0 ≤ (rd_T60 l i).f1 ∧ (rd_T60 l i).f1 ≤ 1000) (hend : Ev (fun k => dialtonelaw34_RecoveryLast.l2 k l W w i (geO l (rd_T60 l i).f1 : Int) ((rd_T60 l i).f1 - 1) S s) true) (n : Nat) : ∀ j c : Nat, j + n = l.length → c + geO (l.drop j) (rd_T60 l i).f1 = geO l (rd_T60 l i).f1 → Ev (fun k => dialtonelaw34_RecoveryLast.l1 k l W w i (c : Int) (j : Int) S s) true := by
  induction n with
  | zero =>
    intro j c hj hc
    rw [List.drop_eq_nil_of_le (by omega), show ∀ x, geO [] x = 0 from fun _ => rfl, Nat.add_zero] at hc
    subst hc
    have hw : wrap64 ((rd_T60 l i).f1 - 1) = (rd_T60 l i).f1 - 1 := by unfold wrap64; omega
    refine Ev.step (fun k => ?_) hend
    simp only [dialtonelaw34_RecoveryLast.l1]
    rw [if_neg (by omega), if_pos hi0, if_pos hi, hw]
  | succ n ih =>
    intro j c hj hc
    have hg : geO l (rd_T60 l i).f1 ≤ l.length := List.countP_le_length
    have hw : wrap64 ((j : Int) + 1) = ((j + 1 : Nat) : Int) := by unfold wrap64; omega
    rw [drop60 l j (by omega)] at hc
    have hco : geO (rd_T60 l j :: l.drop (j + 1)) (rd_T60 l i).f1 = geO (l.drop (j + 1)) (rd_T60 l i).f1 + (if (!(rd_T60 l j).f2 && decide ((rd_T60 l i).f1 ≤ (rd_T60 l j).f1)) = true then 1 else 0) := by
      unfold geO
      rw [List.countP_cons]
    rw [hco] at hc
    obtain ⟨b, hb⟩ : ∃ b, (!(rd_T60 l j).f2 && decide ((rd_T60 l i).f1 ≤ (rd_T60 l j).f1)) = b := ⟨_, rfl⟩
    rw [hb] at hc
    refine Ev.step (f := fun k => dialtonelaw34_RecoveryLast.j2 k l W w i (c : Int) (j : Int) b S s) (fun k => ?_) ?_
    · simp only [dialtonelaw34_RecoveryLast.l1]
      rw [if_pos (by omega), if_pos (by omega)]
      cases hu : (rd_T60 l j).f2 with
      | true =>
        rw [hu] at hb
        rw [if_pos rfl, ← hb]
        rfl
      | false =>
        rw [hu] at hb
        rw [if_neg Bool.false_ne_true, if_pos hi0, if_pos hi, ← hb]
        rfl
    · cases b with
      | true =>
        rw [if_pos rfl] at hc
        have hwc : wrap64 ((c : Int) + 1) = ((c + 1 : Nat) : Int) := by unfold wrap64; omega
        refine Ev.step (fun k => ?_) (ih (j + 1) (c + 1) (by omega) (by omega))
        simp only [dialtonelaw34_RecoveryLast.j2]
        rw [if_pos trivial, hw, hwc]
      | false =>
        rw [if_neg Bool.false_ne_true] at hc
        refine Ev.step (fun k => ?_) (ih (j + 1) c (by omega) (by omega))
        simp only [dialtonelaw34_RecoveryLast.j2]
        rw [if_neg Bool.false_ne_true, hw]
/-- What holds of the greatest tick among those of the first i. -/
structure LI (l : List S60) (S : List S67) (W : Int) (i : Nat) (w : Int) : Prop where
  low : -1 ≤ w
  top : w ≤ W
  urg : ∀ j : Nat, j < i → (rd_T60 l j).f2 = true → (rd_T60 l j).f1 ≤ w
  oth : ∀ j : Nat, j < i → (rd_T60 l j).f2 = false → ∀ g : Nat, (rd_T60 l j).f1 ≤ g → sumI (capL S) g - sumI (capL S) (rd_T60 l j).f1.toNat < geO l (rd_T60 l j).f1 → (g : Int) ≤ w
theorem lastl_l0 (hl : l.length ≤ 20) (hv : validB S s = true) (hcap : ∀ t : Int, 0 ≤ t → 0 ≤ capL S t ∧ capL S t ≤ 20) (hW0 : W ≤ 70) (hf : ∀ a ∈ l, 0 ≤ a.f1 ∧ a.f1 ≤ 1000) (hu : ∀ a ∈ l, a.f1 ≤ W) (hneed : ∀ a ∈ l, a.f2 = false → (geO l a.f1 : Int) ≤ sumI (capL S) (W + 1).toNat - sumI (capL S) a.f1.toNat) (hfin : ∀ w, LI l S W l.length w → w = W) (n : Nat) : ∀ (i : Nat) (w : Int), i + n = l.length → LI l S W i w → Ev (fun k => dialtonelaw34_RecoveryLast.l0 k l W w (i : Int) S s) true := by
  induction n with
  | zero =>
    intro i w hi h
    have hil : i = l.length := by omega
    subst hil
    have := hfin w h
    subst this
    refine Ev.step (fun k => ?_) (Ev.now true)
    simp only [dialtonelaw34_RecoveryLast.l0]
    rw [if_neg (by omega)]
    simp
  | succ n ih =>
    intro i w hi h
    have hm := rd60_mem l i (by omega)
    have hfi := hf _ hm
    have hui := hu _ hm
    have hw : wrap64 ((i : Int) + 1) = ((i + 1 : Nat) : Int) := by unfold wrap64; omega
    cases hb : (rd_T60 l i).f2 with
    | true =>
      refine Ev.step (fun k => ?_) (ih (i + 1) (mx w (rd_T60 l i).f1) (by omega) ?_)
      · simp only [dialtonelaw34_RecoveryLast.l0]
        rw [if_pos (by omega), if_pos (by omega), if_pos hb, hw]
      · rw [mx_max]
        refine ⟨by have := h.low; omega, by have := h.top; omega, fun j hj hju => ?_, fun j hj hju g h1 h2 => ?_⟩
        · by_cases c : j < i
          · have := h.urg j c hju
            omega
          · rw [show j = i by omega]
            omega
        · by_cases c : j < i
          · have := h.oth j c hju g h1 h2
            omega
          · rw [show j = i by omega, hb] at hju
            cases hju
    | false =>
      have hnd := hneed _ hm hb
      have hg : geO l (rd_T60 l i).f1 ≤ l.length := List.countP_le_length
      obtain ⟨f, hff⟩ : ∃ f : Nat, (rd_T60 l i).f1 = f := ⟨(rd_T60 l i).f1.toNat, by omega⟩
      refine Ev.step (f := fun k => dialtonelaw34_RecoveryLast.l1 k l W w (i : Int) ((0 : Nat) : Int) ((0 : Nat) : Int) S s) (fun k => ?_) (last_l1 hl hv hcap hW0 w i (by omega) (by omega) hfi ?_ l.length 0 0 (by omega) (by rw [List.drop_zero]; omega))
      · simp only [dialtonelaw34_RecoveryLast.l0]
        rw [if_pos (by omega), if_pos (by omega), if_neg (by rw [hb]; exact Bool.false_ne_true)]
        rfl
      · rw [hff] at hnd ⊢
        rw [Int.toNat_natCast] at hnd
        have key := last_l2 hl hv hcap hW0 w i f (by omega) (geO l (f : Int)) (by rw [← hff]; omega) hnd (fun g hg1 hg2 hg3 => ?_) (W + 1 - f).toNat f (Nat.le_refl _) (by omega) (by omega)
        · rw [Int.sub_self, Int.sub_zero] at key
          exact key
        · rw [hw]
          refine ih (i + 1) _ (by omega) ?_
          rw [mx_max]
          refine ⟨by have := h.low; omega, by have := h.top; omega, fun j hj hju => ?_, fun j hj hju q h1 h2 => ?_⟩
          · by_cases c : j < i
            · have := h.urg j c hju
              omega
            · rw [show j = i by omega, hb] at hju
              cases hju
          · by_cases c : j < i
            · have := h.oth j c hju q h1 h2
              omega
            · rw [show j = i by omega, hff, Int.toNat_natCast] at h2
              by_cases d : g ≤ q
              · have := sumI_le (capL S) (fun t ht => (hcap t ht).1) d
                omega
              · omega
end
theorem lastlaw_ok (l0 : List S71) (a1 : Int) (l2 : List S71) (hg0 : ∀ x, x ∈ l0 → I64 x.f0 ∧ I64 x.f1) (hb0 : l0.length * 16 ≤ 140737488351232) (g1 : I64 a1) (hg2 : ∀ x, x ∈ l2 → I64 x.f0 ∧ I64 x.f1) (hb2 : l2.length * 16 ≤ 140737488351232) :
    Ev (fun k => dialtonelaw34_RecoveryLast.f k l0 a1 l2) true := by
  obtain ⟨S, s, hm, hreg⟩ := made_ok l0 hg0 (by omega) a1 g1
  obtain ⟨l, ha, hat⟩ := atts_ok l2 hg2 (by omega)
  obtain ⟨p, hp⟩ := planOf hreg.valid hat.ready
  have hlen := hp.len
  have h20 := hat.len
  have hso := sortAtts_perm l
  have htk := reg_plan hreg hat hp
  have hcap : ∀ t : Int, 0 ≤ t → 0 ≤ capL S t ∧ capL S t ≤ 20 := fun t ht => cap_range hreg.valid t ht
  obtain ⟨hW1, hW2, hW3⟩ := lastOf_spec p (-1)
  have hz := plan_zip S _ _ _ _ hp.go_
  have hin : ∀ a ∈ sortAtts l, ∃ x, (a, x) ∈ (sortAtts l).zip p := fun a ham => by
    obtain ⟨i, hi, rfl⟩ := List.mem_iff_getElem.1 ham
    refine ⟨p[i]'(by omega), ?_⟩
    have : ((sortAtts l).zip p)[i]'(by rw [List.length_zip]; omega) = ((sortAtts l)[i], p[i]'(by omega)) := List.getElem_zip
    rw [← this]
    exact List.getElem_mem _
  have hout : ∀ x ∈ p, ∃ a, (a, x) ∈ (sortAtts l).zip p := fun x hx => by
    obtain ⟨i, hi, rfl⟩ := List.mem_iff_getElem.1 hx
    refine ⟨(sortAtts l)[i]'(by omega), ?_⟩
    have : ((sortAtts l).zip p)[i]'(by rw [List.length_zip]; omega) = ((sortAtts l)[i]'(by omega), p[i]) := List.getElem_zip
    rw [← this]
    exact List.getElem_mem _
  unfold dialtonelaw34_RecoveryLast.f
  refine Ev.bind sane_ok ?_
  simp only [if_true]
  refine Ev.bind hm ?_
  refine Ev.bind ha ?_
  refine Ev.bind (last_ok hp.eq (by omega)) ?_
  simp only [if_true]
  generalize lastOf (-1) p = W at hW1 hW2 hW3
  have hW70 : W ≤ 70 := by
    rcases hW3 with h | ⟨x, hx, h⟩
    · omega
    · have := htk x hx
      omega
  have huW : ∀ a ∈ l, a.f1 ≤ W := fun a ham => by
    obtain ⟨x, hx⟩ := hin a (hso.1.mem_iff.2 ham)
    have h1 := hz _ hx
    have h2 := hW2 x (List.of_mem_zip hx).2
    simp only at h1
    omega
  have hf : ∀ a ∈ l, 0 ≤ a.f1 ∧ a.f1 ≤ 1000 := fun a ham => by have := hat.at_ a ham; omega
  have hfo : ∀ a ∈ sortAtts l, 0 ≤ a.f1 := fun a ham => (hf a (hso.1.mem_iff.1 ham)).1
  refine lastl_l0 h20 hreg.valid hcap hW70 hf huW (fun a ham hau => ?_) (fun w hw => ?_) l.length 0 (-1) (by omega) ⟨by omega, by omega, fun j hj => by omega, fun j hj => by omega⟩
  · have h1 := hf a ham
    have h2 := huW a ham
    have h3 := need_le hp.go_ (sortAtts_pairwise l) hfo (fun t ht => (hcap t ht).1) W.toNat (fun x hx => by have := hW2 x hx; omega) a.f1.toNat (by omega)
    rw [geO_perm hso.1, show ((a.f1.toNat : Nat) : Int) = a.f1 by omega, show W.toNat + 1 = (W + 1).toNat by omega] at h3
    exact h3
  · have htop := hw.top
    have hlow := hw.low
    rcases hW3 with h | ⟨x, hx, h⟩
    · omega
    · obtain ⟨a, hax⟩ := hout x hx
      have h1 := hz _ hax
      have h0 := htk x hx
      simp only at h1
      have hidx : ∀ b ∈ l, ∃ j : Nat, j < l.length ∧ rd_T60 l j = b := fun b hb => by
        obtain ⟨j, hj, rfl⟩ := List.mem_iff_getElem.1 hb
        exact ⟨j, hj, rd60_get l j hj⟩
      cases hau : a.f2 with
      | true =>
        obtain ⟨j, hj, e⟩ := hidx a (hso.1.mem_iff.1 (List.of_mem_zip hax).1)
        have h2 := hw.urg j hj (by rw [e]; exact hau)
        rw [e] at h2
        have h3 := h1.2.2.2.1 hau
        omega
      | false =>
        obtain ⟨b, hb, hbu, hbW, hbn⟩ := need_gt hp.go_ (sortAtts_pairwise l) hfo (fun t ht => (hcap t ht).1) W.toNat (fun x hx => by have := hW2 x hx; omega) (a, x) hax hau (by simp only; omega)
        obtain ⟨j, hj, e⟩ := hidx b (hso.1.mem_iff.1 hb)
        have h2 := hw.oth j hj (by rw [e]; exact hbu) W.toNat (by rw [e]; exact hbW) (by rw [e, ← geO_perm hso.1]; exact hbn)
        omega
end Go.Proofs.Ytcldldmedphcfaa.C
