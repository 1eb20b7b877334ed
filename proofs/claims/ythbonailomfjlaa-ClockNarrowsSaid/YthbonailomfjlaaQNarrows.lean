import Derived.Test.YthbonailomfjlaaQAt
import Derived.Test.YthbonailomfjlaaFNarrows
/- ClockNarrows returns true. Conditions: whole numbers of 64 bits, and slices as long as a machine holds. -/
namespace Go.Proofs.Ythbonailomfjlaa.C
open Go.RowKit Go.Proofs.YthbonailomfjlaaW.PrintWords Go.Proofs.YthbonailomfjlaaW.PrintLast Go.Proofs.YthbonailomfjlaaW.PrintMore
/-- The readings without the one at k. -/
def fewR (k : Int) : Int → List S50 → List S50
  | _, [] => []
  | i, r :: l => if i = k then fewR k (i + 1) l else r :: fewR k (i + 1) l
/-- A reading whose true second is known less exactly. -/
def vag (p q : Int) (r : S50) : S50 := ⟨r.f0, mx (r.f1 - p) 0, r.f2 + q⟩
def vagR (k p q : Int) : Int → List S50 → List S50
  | _, [] => []
  | i, r :: l => (if i = k then vag p q r else r) :: vagR k p q (i + 1) l
theorem chain_less (l : List S50) (a b : Int) (h : b ≤ a) (hc : chain a l = true) : chain b l = true := by
  cases l with
  | nil => rfl
  | cons r l =>
    simp only [chain, Bool.and_eq_true, decide_eq_true_eq] at hc ⊢
    exact ⟨⟨by omega, hc.1.2⟩, hc.2⟩
theorem few_chain (k : Int) (l : List S50) : ∀ i a, chain a l = true → chain a (fewR k i l) = true := by
  induction l with
  | nil => intro i a _; rfl
  | cons r l ih =>
    intro i a h
    simp only [chain, Bool.and_eq_true, decide_eq_true_eq] at h
    simp only [fewR]
    split
    · exact ih _ _ (chain_less _ _ _ (by omega) h.2)
    · simp only [chain, Bool.and_eq_true, decide_eq_true_eq]
      exact ⟨h.1, ih _ _ h.2⟩
theorem few_len (k : Int) (l : List S50) : ∀ i, (fewR k i l).length ≤ l.length := by
  induction l with
  | nil => intro i; exact Nat.le_refl _
  | cons r l ih =>
    intro i
    have := ih (i + 1)
    simp only [fewR]
    split <;> simp only [List.length_cons] <;> omega
theorem few_lo (k d loc : Int) (l : List S50) : ∀ i a b, a ≤ b → arLo d loc a (fewR k i l) ≤ arLo d loc b l := by
  induction l with
  | nil => intro i a b h; exact h
  | cons r l ih =>
    intro i a b h
    simp only [fewR]
    split
    · exact ih _ _ _ (by split <;> omega)
    · exact ih _ _ _ (by split <;> split <;> omega)
theorem few_hi (k d loc : Int) (l : List S50) : ∀ i a b, b ≤ a → arHi d loc b l ≤ arHi d loc a (fewR k i l) := by
  induction l with
  | nil => intro i a b h; exact h
  | cons r l ih =>
    intro i a b h
    simp only [fewR]
    split
    · exact ih _ _ _ (by split <;> omega)
    · exact ih _ _ _ (by split <;> split <;> omega)
theorem vag_f1 (p q : Int) (hp : 0 ≤ p) (r : S50) (h : 0 ≤ r.f1) : 0 ≤ (vag p q r).f1 ∧ (vag p q r).f1 ≤ r.f1 := by
  unfold vag mx
  simp only
  split <;> omega
theorem vag_lo (p q : Int) (hp : 0 ≤ p) (d loc : Int) (r : S50) (h : 0 ≤ r.f1) : rLo d loc (vag p q r) ≤ rLo d loc r := by
  have h1 := vag_f1 p q hp r h
  have h2 : (vag p q r).f0 = r.f0 := rfl
  unfold rLo
  rw [h2]
  split
  · omega
  · split <;> omega
theorem vag_hi (p q : Int) (hq : 0 ≤ q ∧ q ≤ 1000) (d loc : Int) (r : S50) : rHi d loc r ≤ rHi d loc (vag p q r) := by
  have h1 : (vag p q r).f2 = r.f2 + q := rfl
  have h2 : (vag p q r).f0 = r.f0 := rfl
  unfold rHi
  rw [h1, h2]
  split
  · omega
  · split <;> omega
theorem vagR_chain (p q : Int) (hp : 0 ≤ p) (hq : 0 ≤ q ∧ q ≤ 1000) (k : Int) (l : List S50) : ∀ i a, (∀ r, r ∈ l → r.f2 ≤ 100000) → chain a l = true → chain a (vagR k p q i l) = true := by
  induction l with
  | nil => intro i a _ _; rfl
  | cons r l ih =>
    intro i a hs h
    simp only [chain, Bool.and_eq_true, decide_eq_true_eq] at h
    have h2 := hs r (List.mem_cons_self ..)
    simp only [vagR, chain, Bool.and_eq_true, decide_eq_true_eq]
    split
    · have h1 := vag_f1 p q hp r h.1.2.2.1
      refine ⟨⟨h.1.1, h.1.2.1, h1.1, ?_, ?_⟩, ih _ _ (fun x hx => hs x (List.mem_cons_of_mem _ hx)) h.2⟩
      · show (vag p q r).f1 ≤ r.f2 + q
        omega
      · show r.f2 + q ≤ _
        omega
    · exact ⟨h.1, ih _ _ (fun x hx => hs x (List.mem_cons_of_mem _ hx)) h.2⟩
theorem vagR_len (p q : Int) (k : Int) (l : List S50) : ∀ i, (vagR k p q i l).length = l.length := by
  induction l with
  | nil => intro i; rfl
  | cons r l ih => intro i; simp only [vagR, List.length_cons, ih]
theorem vagR_lo (p q : Int) (hp : 0 ≤ p) (k d loc : Int) (l : List S50) : ∀ i a b, (∀ r, r ∈ l → 0 ≤ r.f1) → a ≤ b → arLo d loc a (vagR k p q i l) ≤ arLo d loc b l := by
  induction l with
  | nil => intro i a b _ h; exact h
  | cons r l ih =>
    intro i a b hs h
    have h1 := vag_lo p q hp d loc r (hs r (List.mem_cons_self ..))
    simp only [vagR, arLo]
    refine ih _ _ _ (fun x hx => hs x (List.mem_cons_of_mem _ hx)) ?_
    split <;> split <;> split <;> omega
theorem vagR_hi (p q : Int) (hq : 0 ≤ q ∧ q ≤ 1000) (k d loc : Int) (l : List S50) : ∀ i a b, b ≤ a → arHi d loc b l ≤ arHi d loc a (vagR k p q i l) := by
  induction l with
  | nil => intro i a b h; exact h
  | cons r l ih =>
    intro i a b h
    have h1 := vag_hi p q hq d loc r
    simp only [vagR, arHi]
    refine ih _ _ _ ?_
    split <;> split <;> split <;> omega
/-- The end of the law: what it compares. -/
def narFin (k : Nat) (l D : Int) (R F V : List S50) : Option Bool := ((clock_At.f k D R l).bind fun bt334 => ((clock_At.f k D F l).bind fun bt337 => ((clock_At.f k D V l).bind fun bt340 => (if bt334.2.2 = 0 then (if bt337.2.2 = 0 then (if bt337.1 ≤ bt334.1 then (if bt337.2.1 ≥ bt334.2.1 then (if bt340.2.2 = 0 then (if bt340.1 ≤ bt334.1 then (some (decide (bt340.2.1 ≥ bt334.2.1))) else (none)) else (none)) else (none)) else (none)) else (none)) else (if bt334.1 = 0 then (some (bt334.2.1 == 0)) else (none))))))
theorem nar_loop (l D c b0 b1 : Int) (R : List S50) (h0b : I64 b0) (h1b : I64 b1) (hR : ∀ r, r ∈ R → 0 ≤ r.f1 ∧ r.f1 ≤ 10000 ∧ 0 ≤ r.f2 ∧ r.f2 ≤ 10000) (hlen : R.length ≤ 12) (m : Nat) :
    ∀ (i : Int) (F V : List S50), 0 ≤ i → i ≤ R.length → (R.length : Int) - i = m → (F.length : Int) ≤ i → (V.length : Int) ≤ i → Ev (fun k => narFin k l D R (F ++ fewR c i (R.drop i.toNat)) (V ++ vagR c (pk b0 100) (pk b1 100) i (R.drop i.toNat))) true →
      Ev (fun k => dialtonelaw05_ClockNarrows.l0 k l c i b0 b1 D R D F D V) true := by
  obtain ⟨p1, p2, p3⟩ := pick_ok b0 100 h0b (by omega)
  obtain ⟨q1, q2, q3⟩ := pick_ok b1 100 h1b (by omega)
  induction m with
  | zero =>
    intro i F V h0 h1 hm ha hb hf
    rw [List.drop_eq_nil_of_le (by omega)] at hf
    simp only [fewR, vagR, List.append_nil] at hf
    refine Ev.step (fun k => ?_) hf
    simp only [dialtonelaw05_ClockNarrows.l0]
    rw [if_neg (by omega)]
    rfl
  | succ m ih =>
    intro i F V h0 h1 hm ha hb hf
    obtain ⟨b1, b2, b3, b4⟩ := hR _ (rd_mem R i h0 (by omega))
    rw [drop_rd R i h0 (by omega)] at hf
    simp only [fewR, vagR] at hf
    by_cases hi : i = c
    · rw [if_pos hi, if_pos hi] at hf
      have next := ih (i + 1) F (V ++ [vag (pk b0 100) (pk _ 100) (rd_T50 R i)]) (by omega) (by omega) (by omega) (by omega) (by simp; omega) (by
        rw [List.append_assoc]
        exact hf)
      refine Ev.step (fun k => ?_) next
      simp only [dialtonelaw05_ClockNarrows.l0]
      rw [if_pos (by omega), if_pos h0, if_pos hi, p1, q1]
      simp only [Option.bind_some]
      rw [if_pos (by omega), wrap64_id (i + 1) (by omega) (by omega), wrap64_id (_ - pk b0 100) (by omega) (by omega), wrap64_id (_ + pk _ 100) (by omega) (by omega)]
      rfl
    · rw [if_neg hi, if_neg hi] at hf
      have next := ih (i + 1) (F ++ [rd_T50 R i]) (V ++ [rd_T50 R i]) (by omega) (by omega) (by omega) (by simp; omega) (by simp; omega) (by
        rw [List.append_assoc, List.append_assoc]
        exact hf)
      refine Ev.step (fun k => ?_) next
      simp only [dialtonelaw05_ClockNarrows.l0]
      rw [if_pos (by omega), if_pos h0, if_neg hi, if_pos (by omega), if_pos (by omega), wrap64_id (i + 1) (by omega) (by omega)]
theorem nar_fin (l D c p q : Int) (R : List S50) (hv : ∀ r, r ∈ R → 0 ≤ r.f1 ∧ r.f1 ≤ 10000 ∧ 0 ≤ r.f2 ∧ r.f2 ≤ 10000) (hp : 0 ≤ p) (hq : 0 ≤ q ∧ q ≤ 1000) : Ev (fun k => narFin k l D R (fewR c 0 R) (vagR c p q 0 R)) true := by
  refine Ev.bind (at_ev _ _ _) (Ev.bind (at_ev _ _ _) (Ev.bind (at_ev _ _ _) ?_))
  by_cases h1 : (atR D R l).2.2 = 0
  · obtain ⟨e1, e2, e3, e4, e5⟩ := atR_out _ _ _ h1
    have hvl := e4
    unfold vld at hvl
    rw [Bool.and_eq_true, decide_eq_true_eq] at hvl
    have f1 := few_lo c D l R 0 0 0 (Int.le_refl _)
    have f2 := few_hi c D l R 0 10000000 10000000 (Int.le_refl _)
    have g1 := vagR_lo p q hp c D l R 0 0 0 (fun r h => (hv r h).1) (Int.le_refl _)
    have g2 := vagR_hi p q hq c D l R 0 10000000 10000000 (Int.le_refl _)
    have v1 : vld D (fewR c 0 R) = true := by
      unfold vld
      have := few_len c R 0
      rw [Bool.and_eq_true, decide_eq_true_eq]
      exact ⟨⟨hvl.1.1, hvl.1.2.1, by omega⟩, few_chain c R 0 _ hvl.2⟩
    have v2 : vld D (vagR c p q 0 R) = true := by
      unfold vld
      have := vagR_len p q c R 0
      rw [Bool.and_eq_true, decide_eq_true_eq]
      exact ⟨⟨hvl.1.1, hvl.1.2.1, by omega⟩, vagR_chain p q hp hq c R 0 _ (fun r h => by have := hv r h; omega) hvl.2⟩
    have a1 : atR D (fewR c 0 R) l = (arLo D l 0 (fewR c 0 R), arHi D l 10000000 (fewR c 0 R), 0) := by
      unfold atR
      rw [if_pos ⟨v1, e5⟩, if_neg (by omega)]
    have a2 : atR D (vagR c p q 0 R) l = (arLo D l 0 (vagR c p q 0 R), arHi D l 10000000 (vagR c p q 0 R), 0) := by
      unfold atR
      rw [if_pos ⟨v2, e5⟩, if_neg (by omega)]
    rw [a1, a2, e1, e2]
    refine ⟨0, fun k _ => ?_⟩
    rw [if_pos h1]
    simp only [if_true]
    rw [if_pos f1, if_pos f2, if_pos g1, decide_eq_true g2]
  · have e : atR D R l = (0, 0, 50) := by
      unfold atR at h1 ⊢
      split
      · rename_i q
        rw [if_pos q] at h1
        split
        · rfl
        · rename_i q2
          rw [if_neg q2] at h1
          exact absurd rfl h1
      · rfl
    rw [e]
    exact ⟨0, fun k _ => rfl⟩
theorem narrows_ok (drift start : Int) (rates : List Int) (at_ : List S60) (which b0 b1 loc : Int) (hd : I64 drift) (hs : I64 start) (hr : ∀ r, r ∈ rates → I64 r) (hlr : rates.length * 8 ≤ 140737488351232) (ha : ∀ x, x ∈ at_ → I64 x.f0 ∧ I64 x.f1 ∧ I64 x.f2) (hla : at_.length * 24 ≤ 140737488351232) (hw : I64 which) (h0b : I64 b0) (h1b : I64 b1) (hl : I64 loc) :
    Ev (fun k => dialtonelaw05_ClockNarrows.f k drift start rates at_ which b0 b1 loc) true := by
  unfold dialtonelaw05_ClockNarrows.f
  refine Ev.bind sane_ok ?_
  simp only [if_true]
  obtain ⟨R, e1, fit⟩ := made_ok drift start rates at_ hd hs hr (by omega) ha (by omega)
  refine Ev.bind e1 ?_
  simp only
  by_cases h0 : (R.length : Int) = 0
  · simp only [if_pos h0]
    exact Ev.now true
  · simp only [if_neg h0]
    obtain ⟨p1, p2, p3⟩ := pick_ok loc 5000 hl (by omega)
    obtain ⟨q1, q2, q3⟩ := pick_ok which (R.length : Int) hw (by omega)
    obtain ⟨_, r2, r3⟩ := pick_ok b0 100 h0b (by omega)
    obtain ⟨_, s2, s3⟩ := pick_ok b1 100 h1b (by omega)
    rw [p1]
    simp only [Option.bind_some]
    rw [q1]
    simp only [Option.bind_some]
    have hlen : R.length ≤ 12 := by
      have := fit.1
      unfold vld at this
      rw [Bool.and_eq_true, decide_eq_true_eq] at this
      exact this.1.2.2
    have hR : ∀ r, r ∈ R → 0 ≤ r.f1 ∧ r.f1 ≤ 10000 ∧ 0 ≤ r.f2 ∧ r.f2 ≤ 10000 := by
      intro r h
      obtain ⟨s, s0, s1, e, g1, g2, g3, g4⟩ := fit.2 r h
      omega
    exact nar_loop _ _ _ _ _ R h0b h1b hR hlen R.length 0 [] [] (by omega) (by omega) (by omega) (by simp) (by simp) (nar_fin _ _ _ _ _ R hR r2 ⟨s2, by omega⟩)
end Go.Proofs.Ythbonailomfjlaa.C
