import Derived.Test.YthbonailomfjlaaQMade
/- What Made returns: a valid clock of a drift of at most 100, with at most 12 readings, each of its course. Conditions: whole numbers of 64 bits. -/
namespace Go.Proofs.Ythbonailomfjlaa.C
open Go.RowKit Go.Proofs.YthbonailomfjlaaW.PrintWords Go.Proofs.YthbonailomfjlaaW.PrintLast Go.Proofs.YthbonailomfjlaaW.PrintMore
theorem shownR_bd (drift start : Int) (rates : List Int) (t : Int) (hd : I64 drift) (hs : I64 start) (hr : ∀ r, r ∈ rates → I64 r) (ht : 0 ≤ t) (ht2 : t ≤ 10000) : 0 ≤ shownR drift start rates t ∧ shownR drift start rates t ≤ 12000 := by
  obtain ⟨p1, p2, p3⟩ := rpick_ok drift 101 hd (by omega)
  obtain ⟨q1, q2, q3⟩ := rpick_ok start 1000 hs (by omega)
  have hl := crs_lip (pk drift 101) p2 rates hr 0 t ht
  rw [crs_zero] at hl
  have h1 : 0 ≤ (1000 - pk drift 101) * (t - 0) := Int.mul_nonneg (by omega) (by omega)
  have h2 : (1000 + pk drift 101) * (t - 0) ≤ 1100 * (t - 0) := Int.mul_le_mul_of_nonneg_right (by omega) (by omega)
  unfold shownR
  omega
/-- A reading of the course. -/
def OnCourse (drift start : Int) (rates : List Int) (r : S50) : Prop := ∃ s, 0 ≤ s ∧ s < 3000 ∧ r.f0 = shownR drift start rates s ∧ 0 ≤ r.f1 ∧ r.f1 ≤ s ∧ s ≤ r.f2 ∧ r.f2 ≤ 3050
theorem chain_snoc (r : S50) (hr : r.f0 ≤ 10000000 ∧ 0 ≤ r.f1 ∧ r.f1 ≤ r.f2 ∧ r.f2 ≤ 10000000) (l : List S50) : ∀ a, chain a l = true → (l = [] → a < r.f0) → (l ≠ [] → (rd_T50 l ((l.length : Int) - 1)).f0 < r.f0) → chain a (l ++ [r]) = true := by
  induction l with
  | nil =>
    intro a _ h2 _
    have := h2 rfl
    simp only [List.nil_append, chain, Bool.and_true]
    exact decide_eq_true ⟨this, hr⟩
  | cons x l ih =>
    intro a h1 _ h3
    simp only [chain, Bool.and_eq_true] at h1
    simp only [List.cons_append, chain, Bool.and_eq_true]
    have h4 := h3 (by simp)
    refine ⟨h1.1, ih _ h1.2 (fun h => ?_) (fun h => ?_)⟩
    · subst h
      exact h4
    · have hp : 0 < l.length := List.length_pos_iff.2 h
      have e : rd_T50 (x :: l) (((x :: l).length : Int) - 1) = rd_T50 l ((l.length : Int) - 1) := by
        unfold rd_T50
        rw [show (((x :: l).length : Int) - 1).toNat = ((l.length : Int) - 1).toNat + 1 by simp only [List.length_cons]; omega]
        rfl
      rw [e] at h4
      exact h4
def pks (at_ : List S60) : List Int := (at_.take 12).map fun x => pk x.f0 3000
def cnt (ps : List Int) (t : Int) (i : Nat) : Nat := ps.countP (fun p => decide (p < t)) + (ps.take i).countP (fun p => decide (p = t))
theorem cnt_next (ps : List Int) (t : Int) : cnt ps (t + 1) 0 = cnt ps t ps.length := by
  unfold cnt
  simp only [List.take_zero, List.countP_nil, Nat.add_zero, List.take_length]
  induction ps with
  | nil => rfl
  | cons p ps ih =>
    simp only [List.countP_cons, decide_eq_true_eq]
    rw [ih]
    split <;> split <;> split <;> omega
theorem cnt_le (ps : List Int) (t : Int) (i : Nat) : cnt ps t i ≤ ps.length := by
  have h : cnt ps t i ≤ cnt ps t ps.length := by
    unfold cnt
    rw [List.take_length]
    exact Nat.add_le_add_left (List.Sublist.countP_le (List.take_sublist _ _)) _
  rw [← cnt_next] at h
  refine Nat.le_trans h ?_
  unfold cnt
  simp only [List.take_zero, List.countP_nil, Nat.add_zero]
  exact List.countP_le_length
theorem cnt_step (ps : List Int) (t : Int) (i : Nat) (h : i < ps.length) : cnt ps t (i + 1) = cnt ps t i + if ps[i] = t then 1 else 0 := by
  unfold cnt
  rw [List.take_add_one, List.getElem?_eq_getElem h]
  simp only [Option.toList_some, List.countP_append, List.countP_cons, List.countP_nil, decide_eq_true_eq, Nat.zero_add]
  omega
section
variable (drift start : Int) (rates : List Int) (at_ : List S60)
/-- What the loops keep. -/
def Kept (t : Int) (i : Nat) (acc : List S50) : Prop := acc.length ≤ cnt (pks at_) t i ∧ chain (-1) acc = true ∧ ∀ r, r ∈ acc → OnCourse drift start rates r
def Fit (D : Int) (R : List S50) : Prop := vld D R = true ∧ ∀ r, r ∈ R → OnCourse drift start rates r
variable (hd : I64 drift) (hs : I64 start) (hr : ∀ r, r ∈ rates → I64 r) (hlen : (rates.length : Int) ≤ 9000000000000000000) (ha : ∀ x, x ∈ at_ → I64 x.f0 ∧ I64 x.f1 ∧ I64 x.f2) (hal : (at_.length : Int) ≤ 9000000000000000000)
include hd hs hr hlen ha hal
theorem made_inner (D t : Int) (ht : 0 ≤ t) (ht2 : t < 3000) (next : ∀ acc, Kept drift start rates at_ (t + 1) 0 acc → ∃ R, Ev (fun k => dialtoneref05_Made.l0 k drift start rates at_ (t + 1) D acc) (D, R) ∧ Fit drift start rates D R) (m : Nat) :
    ∀ (i : Nat) (acc : List S50), (pks at_).length - i = m → i ≤ (pks at_).length → Kept drift start rates at_ t i acc → ∃ R, Ev (fun k => dialtoneref05_Made.l1 k drift start rates at_ t i D acc) (D, R) ∧ Fit drift start rates D R := by
  have hpl : (pks at_).length = min 12 at_.length := by simp only [pks, List.length_map, List.length_take]
  induction m with
  | zero =>
    intro i acc hm hi hK
    have hie : i = (pks at_).length := by omega
    obtain ⟨R, h1, h2⟩ := next acc (by
      unfold Kept at hK ⊢
      rw [cnt_next, ← hie]
      exact hK)
    refine ⟨R, Ev.step (f := fun k => dialtoneref05_Made.j2 k drift start rates at_ t i false D acc) (fun k => ?_) (Ev.step (fun k => ?_) h1), h2⟩
    · simp only [dialtoneref05_Made.l1]
      split
      · rw [decide_eq_false (by omega)]
      · rfl
    · simp only [dialtoneref05_Made.j2]
      rw [if_neg (by simp), wrap64_id (t + 1) (by omega) (by omega)]
  | succ m ih =>
    intro i acc hm hi hK
    have hlt : i < (pks at_).length := by omega
    have hia : i < at_.length := by omega
    have ha1' : (i : Int) < (at_.length : Int) := by omega
    have ha2' : (i : Int) < 12 := by omega
    have hrd : rd_T60 at_ (i : Int) = at_[i] := by
      unfold rd_T60
      rw [show (i : Int).toNat = i by omega]
      simp [List.getD, hia]
    obtain ⟨g0, g1, g2⟩ := ha _ (List.getElem_mem hia)
    obtain ⟨p1, p2, p3⟩ := rpick_ok _ 3000 g0 (by omega)
    obtain ⟨q1, q2, q3⟩ := rpick_ok _ 51 g1 (by omega)
    obtain ⟨u1, u2, u3⟩ := rpick_ok _ 51 g2 (by omega)
    have hst0 : cnt (pks at_) t (i + 1) = cnt (pks at_) t i + if pk at_[i].f0 3000 = t then 1 else 0 := by
      rw [cnt_step (pks at_) t i hlt]
      simp only [pks, List.getElem_map, List.getElem_take]
    have hc1 := cnt_le (pks at_) t i
    have hK1 := hK.1
    obtain ⟨C0, hC0⟩ : ∃ c, cnt (pks at_) t i = c := ⟨_, rfl⟩
    obtain ⟨C1, hC1⟩ : ∃ c, cnt (pks at_) t (i + 1) = c := ⟨_, rfl⟩
    have keep : ∀ n : Nat, n ≤ C1 → n ≤ cnt (pks at_) t (i + 1) := fun n h => hC1 ▸ h
    rw [hC0, hC1] at hst0
    rw [hC0] at hc1 hK1
    clear hC0 hC1
    obtain ⟨a0, ha0⟩ : ∃ a0, pk at_[i].f0 3000 = a0 := ⟨_, rfl⟩
    obtain ⟨a1, ha1⟩ : ∃ a1, pk at_[i].f1 51 = a1 := ⟨_, rfl⟩
    obtain ⟨a2, ha2⟩ : ∃ a2, pk at_[i].f2 51 = a2 := ⟨_, rfl⟩
    rw [ha0] at p1 p2 p3 hst0
    rw [ha1] at q1 q2 q3
    rw [ha2] at u1 u2 u3
    clear ha0 ha1 ha2
    have hi1 : ∀ _ : Unit, wrap64 ((i : Int) + 1) = ((i + 1 : Nat) : Int) := by
      intro _
      rw [wrap64_id _ (by omega) (by omega)]
      rfl
    have first : ∀ k, dialtoneref05_Made.l1 (k + 1) drift start rates at_ t i D acc = dialtoneref05_Made.j2 k drift start rates at_ t i true D acc := by
      intro k
      simp only [dialtoneref05_Made.l1]
      rw [if_pos ha1', decide_eq_true ha2']
    by_cases hp : a0 = t
    · have hst : C1 = C0 + 1 := by
        rw [hst0, if_pos hp]
      clear hst0
      have hsh := shown_ok drift start rates t hd hs hr hlen ht (by omega)
      obtain ⟨b1, b2⟩ := shownR_bd drift start rates t hd hs hr ht (by omega)
      obtain ⟨S, hS⟩ : ∃ S, shownR drift start rates t = S := ⟨_, rfl⟩
      rw [hS] at hsh b1 b2
      have hmb : 0 ≤ mx (t - a1) 0 ∧ mx (t - a1) 0 ≤ t := by
        rw [mx_eq]
        split <;> omega
      have hw : wrap64 (t - a1) = t - a1 := wrap64_id _ (by omega) (by omega)
      obtain ⟨lo, hlo⟩ : ∃ lo, mx (t - a1) 0 = lo := ⟨_, rfl⟩
      have hmx : ∀ _ : Unit, mx (wrap64 (t - a1)) 0 = lo := by
        intro _
        rw [hw, hlo]
      rw [hlo] at hmb
      clear hlo hw
      have oc : OnCourse drift start rates ⟨S, lo, t + a2⟩ := ⟨t, ht, ht2, hS.symm, hmb.1, hmb.2, (by simp only; omega), (by simp only; omega)⟩
      obtain ⟨R0, e1, e2⟩ := ih (i + 1) acc (by omega) (by omega) ⟨keep _ (by omega), hK.2⟩
      have stay : ∀ k, dialtoneref05_Made.j3 (k + 1) drift start rates at_ t i false D acc (S) lo (t + a2) = dialtoneref05_Made.l1 k drift start rates at_ t ((i + 1 : Nat) : Int) D acc := by
        intro k
        simp only [dialtoneref05_Made.j3]
        rw [if_neg (by simp), hi1 ()]
      have more : (acc = [] ∨ (rd_T50 acc ((acc.length : Int) - 1)).f0 < S) → ∃ R, Ev (fun k => dialtoneref05_Made.j3 k drift start rates at_ t i true D acc (S) lo (t + a2)) (D, R) ∧ Fit drift start rates D R := by
        intro hor
        obtain ⟨R, f1, f2⟩ := ih (i + 1) (acc ++ [⟨S, lo, t + a2⟩]) (by omega) (by omega) (by
          refine ⟨?_, ?_, ?_⟩
          · rw [List.length_append, List.length_singleton]
            refine keep _ ?_
            omega
          · refine chain_snoc _ ⟨?_, ?_, ?_, ?_⟩ acc (-1) hK.2.1 (fun _ => ?_) (fun hne => ?_) <;> (try simp only) <;> (try omega)
            rcases hor with h | h
            · exact absurd h hne
            · exact h
          · intro r hr'
            rcases List.mem_append.1 hr' with h | h
            · exact hK.2.2 r h
            · rw [List.mem_singleton.1 h]
              exact oc)
        refine ⟨R, Ev.step (fun k => ?_) f1, f2⟩
        simp only [dialtoneref05_Made.j3]
        simp only [if_true]
        rw [if_pos (by omega), hi1 ()]
      have head : ∀ {R : List S50} {G : Nat → Option (Int × List S50)}, Ev G (D, R) → (∀ k, (if (acc.length : Int) = 0 then (dialtoneref05_Made.j3 k drift start rates at_ t i true D acc (S) lo (t + a2)) else (if 0 ≤ (wrap64 ((acc.length : Int) - 1)) then (if (wrap64 ((acc.length : Int) - 1)) < (acc.length : Int) then (dialtoneref05_Made.j3 k drift start rates at_ t i (decide (((rd_T50 acc (wrap64 ((acc.length : Int) - 1))).f0) < (S))) D acc (S) lo (t + a2)) else (none)) else (none))) = G k) →
          Ev (fun k => dialtoneref05_Made.l1 k drift start rates at_ t i D acc) (D, R) := by
        intro R G hG he
        refine Ev.step first ?_
        refine Ev.step (f := fun k => (dialtoneref05_Shown.f k drift start rates t).bind fun t193 => if (acc.length : Int) = 0 then (dialtoneref05_Made.j3 k drift start rates at_ t i true D acc t193 lo (t + a2)) else (if 0 ≤ (wrap64 ((acc.length : Int) - 1)) then (if (wrap64 ((acc.length : Int) - 1)) < (acc.length : Int) then (dialtoneref05_Made.j3 k drift start rates at_ t i (decide (((rd_T50 acc (wrap64 ((acc.length : Int) - 1))).f0) < t193)) D acc t193 lo (t + a2)) else (none)) else (none))) (fun k => ?_) (Ev.bind hsh (Ev.congr he hG))
        simp only [dialtoneref05_Made.j2]
        simp only [if_true]
        rw [if_pos (by omega), if_pos ha1', hrd, p1, q1, u1]
        simp only [Option.bind_some]
        rw [if_pos hp, hmx (), wrap64_id (t + _) (by omega) (by omega)]
      by_cases h0 : acc.length = 0
      · obtain ⟨R, f1, f2⟩ := more (Or.inl (List.length_eq_zero_iff.1 h0))
        exact ⟨R, head f1 (fun k => by rw [if_pos (by omega)]), f2⟩
      · by_cases hb : (rd_T50 acc ((acc.length : Int) - 1)).f0 < S
        · obtain ⟨R, f1, f2⟩ := more (Or.inr hb)
          refine ⟨R, head f1 (fun k => ?_), f2⟩
          rw [if_neg (by omega), wrap64_id _ (by omega) (by omega), if_pos (by omega), if_pos (by omega), decide_eq_true hb]
        · refine ⟨R0, head (Ev.step (g := fun k => dialtoneref05_Made.j3 k drift start rates at_ t i false D acc S lo (t + a2)) stay e1) (fun k => ?_), e2⟩
          rw [if_neg (by omega), wrap64_id _ (by omega) (by omega), if_pos (by omega), if_pos (by omega), decide_eq_false hb]
    · have hst : C1 = C0 := by
        rw [hst0, if_neg hp, Nat.add_zero]
      clear hst0
      obtain ⟨R, e1, e2⟩ := ih (i + 1) acc (by omega) (by omega) ⟨keep _ (by omega), hK.2⟩
      refine ⟨R, Ev.step first (Ev.step (fun k => ?_) e1), e2⟩
      simp only [dialtoneref05_Made.j2]
      simp only [if_true]
      rw [if_pos (by omega), if_pos ha1', hrd, p1]
      simp only [Option.bind_some]
      rw [if_neg hp, hi1 ()]
theorem made_outer (D : Int) (hD : 0 ≤ D ∧ D ≤ 100) (m : Nat) : ∀ (t : Int) (acc : List S50), 3000 - t = m → 0 ≤ t → Kept drift start rates at_ t 0 acc → ∃ R, Ev (fun k => dialtoneref05_Made.l0 k drift start rates at_ t D acc) (D, R) ∧ Fit drift start rates D R := by
  induction m with
  | zero =>
    intro t acc hm ht hK
    refine ⟨acc, ⟨1, fun k hk => ?_⟩, ?_, hK.2.2⟩
    · obtain ⟨k, rfl⟩ : ∃ q, k = q + 1 := ⟨k - 1, by omega⟩
      simp only [dialtoneref05_Made.l0]
      rw [if_neg (by omega)]
    · unfold vld
      have h1 := hK.1
      have h2 := cnt_le (pks at_) t 0
      have hpl : (pks at_).length = min 12 at_.length := by simp only [pks, List.length_map, List.length_take]
      rw [Bool.and_eq_true]
      exact ⟨decide_eq_true ⟨hD.1, hD.2, by omega⟩, hK.2.1⟩
  | succ m ih =>
    intro t acc hm ht hK
    obtain ⟨R, e1, e2⟩ := made_inner drift start rates at_ hd hs hr hlen ha hal D t ht (by omega) (fun acc' h' => ih (t + 1) acc' (by omega) (by omega) h') _ 0 acc rfl (by omega) hK
    refine ⟨R, Ev.step (fun k => ?_) e1, e2⟩
    simp only [dialtoneref05_Made.l0]
    rw [if_pos (by omega)]
    rfl
theorem made_ok : ∃ R, Ev (fun k => dialtoneref05_Made.f k drift start rates at_) (pk drift 101, R) ∧ Fit drift start rates (pk drift 101) R := by
  obtain ⟨p1, p2, p3⟩ := rpick_ok drift 101 hd (by omega)
  obtain ⟨R, e1, e2⟩ := made_outer drift start rates at_ hd hs hr hlen ha hal (pk drift 101) ⟨p2, by omega⟩ 3000 0 [] (by omega) (by omega) ⟨by simp, rfl, fun r h => by cases h⟩
  refine ⟨R, ?_, e2⟩
  unfold dialtoneref05_Made.f
  rw [p1]
  simp only [Option.bind_some]
  exact e1
end
end Go.Proofs.Ythbonailomfjlaa.C
