import Derived.Test.YthbonailomfjlaaQShown
import Derived.Test.YthbonailomfjlaaCMade
/- What Shown and Made return: a clock that integers determine is valid, and its readings are of its course. Conditions: whole numbers of 64 bits. -/
namespace Go.Proofs.Ythbonailomfjlaa.C
open Go.RowKit Go.Proofs.YthbonailomfjlaaW.PrintWords Go.Proofs.YthbonailomfjlaaW.PrintLast Go.Proofs.YthbonailomfjlaaW.PrintMore
theorem mn_eq (a b : Int) : mn a b = if b < a then b else a := rfl
theorem mx_eq (a b : Int) : mx a b = if a < b then b else a := rfl
theorem coefs_drop (D : Int) (rates : List Int) (i : Nat) (h : i < rates.length) (h20 : i < 20) : (coefs D rates).drop i = (pk (rd rates i) (2 * D + 1) - D) :: (coefs D rates).drop (i + 1) := by
  have hl : i < (coefs D rates).length := by simp only [coefs, List.length_map, List.length_take]; omega
  rw [List.drop_eq_getElem_cons hl]
  congr 1
  simp only [coefs, List.getElem_map, List.getElem_take]
  unfold rd
  rw [show (i : Int).toNat = i by omega, show rates.getD i 0 = rates[i] by simp [List.getD, h]]
theorem coefs_len (D : Int) (rates : List Int) : (coefs D rates).length = min 20 rates.length := by simp only [coefs, List.length_map, List.length_take]
theorem rd_mem_ (l : List Int) (i : Nat) (h : i < l.length) : rd l i ∈ l := by
  unfold rd
  rw [show (i : Int).toNat = i by omega, show l.getD i 0 = l[i] by simp [List.getD, h]]
  exact List.getElem_mem h
theorem shown_loop (start : Int) (rates : List Int) (t D : Int) (hs : I64 start) (hr : ∀ r, r ∈ rates → I64 r) (hD : 0 ≤ D) (hD2 : D ≤ 100) (ht : 0 ≤ t) (ht2 : t ≤ 10000) (hlen : (rates.length : Int) ≤ 9000000000000000000) (m : Nat) :
    ∀ (i : Nat) (acc : Int), 20 - i = m → i ≤ 20 → (-(100 * (i * 100)) ≤ acc ∧ acc ≤ 100 * (i * 100)) →
      (∀ s, s = acc + sumC t i ((coefs D rates).drop i) + 1000 * t → 0 ≤ s ∧ s ≤ 100000000) →
      Ev (fun k => dialtoneref05_Shown.l0 k start rates t D acc i) (pk start 1000 + (acc + sumC t i ((coefs D rates).drop i) + 1000 * t) / 1000) := by
  induction m with
  | zero =>
    intro i acc hm hi ha hs2
    have hi20 : i = 20 := by omega
    subst hi20
    obtain ⟨p1, p2, p3⟩ := rpick_ok start 1000 hs (by omega)
    have hd : (coefs D rates).drop 20 = [] := List.drop_eq_nil_of_le (by rw [coefs_len]; omega)
    have hz := hs2 _ rfl
    rw [hd] at hz ⊢
    simp only [sumC, Int.add_zero] at hz ⊢
    refine ⟨2, fun k hk => ?_⟩
    obtain ⟨k, rfl⟩ : ∃ q, k = q + 1 + 1 := ⟨k - 2, by omega⟩
    simp only [dialtoneref05_Shown.l0, dialtoneref05_Shown.j1]
    have e : (if ((20 : Nat) : Int) < (rates.length : Int) then (if ((20 : Nat) : Int) < 20 then dialtoneref05_Shown.j1 (k + 1) start rates t D acc ((20 : Nat) : Int) (decide (t > (wrap64 (100 * ((20 : Nat) : Int))))) else dialtoneref05_Shown.j1 (k + 1) start rates t D acc ((20 : Nat) : Int) false) else dialtoneref05_Shown.j1 (k + 1) start rates t D acc ((20 : Nat) : Int) false) = dialtoneref05_Shown.j1 (k + 1) start rates t D acc ((20 : Nat) : Int) false := by
      split <;> rfl
    simp only [dialtoneref05_Shown.j1] at e
    rw [e, if_neg (by simp), p1]
    simp only [Option.bind_some]
    rw [wrap64_id (1000 * t) (by omega) (by omega), wrap64_id (acc + 1000 * t) (by omega) (by omega), Int.tdiv_eq_ediv_of_nonneg (by omega), wrap64_id ((acc + 1000 * t) / 1000) (by omega) (by omega), wrap64_id (pk start 1000 + (acc + 1000 * t) / 1000) (by omega) (by omega)]
  | succ m ih =>
    intro i acc hm hi ha hs2
    have hi20 : i < 20 := by omega
    obtain ⟨p1, p2, p3⟩ := rpick_ok start 1000 hs (by omega)
    have hstop : ∀ k, dialtoneref05_Shown.j1 (k + 1) start rates t D acc (i : Int) false = some (pk start 1000 + (acc + 1000 * t) / 1000) ∨ ¬ (0 ≤ acc + 1000 * t ∧ acc + 1000 * t ≤ 100000000) := by
      intro k
      by_cases hq : 0 ≤ acc + 1000 * t ∧ acc + 1000 * t ≤ 100000000
      · left
        simp only [dialtoneref05_Shown.j1]
        rw [if_neg (by simp), p1]
        simp only [Option.bind_some]
        rw [wrap64_id (1000 * t) (by omega) (by omega), wrap64_id (acc + 1000 * t) (by omega) (by omega), Int.tdiv_eq_ediv_of_nonneg (by omega), wrap64_id ((acc + 1000 * t) / 1000) (by omega) (by omega), wrap64_id (pk start 1000 + (acc + 1000 * t) / 1000) (by omega) (by omega)]
      · right; exact hq
    by_cases hlt : i < rates.length
    · by_cases hgo : 100 * (i : Int) < t
      · obtain ⟨q1, q2, q3⟩ := rpick_ok (rd rates i) (2 * D + 1) (hr _ (rd_mem_ rates i hlt)) (by omega)
        have hcd := coefs_drop D rates i hlt hi20
        rw [hcd] at hs2 ⊢
        simp only [sumC] at hs2 ⊢
        have hmn : mn (t - 100 * (i : Int)) 100 = cl (t - 100 * (i : Int)) := by
          rw [mn_eq]; unfold cl
          rw [if_neg (show ¬ t - 100 * (i : Int) < 0 by omega)]
        have hcl : 0 ≤ cl (t - 100 * (i : Int)) ∧ cl (t - 100 * (i : Int)) ≤ 100 := by unfold cl; split <;> (try split) <;> omega
        obtain ⟨c, hc⟩ : ∃ c, pk (rd rates i) (2 * D + 1) - D = c := ⟨_, rfl⟩
        have hcb : -D ≤ c ∧ c ≤ D := by omega
        have hmul := mul_between c 100 _ (by omega) (by omega) hcl.1
        rw [hc] at hs2 ⊢
        have key := ih (i + 1) (acc + c * cl (t - 100 * (i : Int))) (by omega) (by omega) (by omega) (by
          intro s hs'
          refine hs2 s ?_
          rw [hs']
          push_cast
          omega)
        refine Ev.step (f := fun k => dialtoneref05_Shown.j1 k start rates t D acc (i : Int) true) (fun k => ?_) (Ev.step (f := fun k => dialtoneref05_Shown.l0 k start rates t D (acc + c * cl (t - 100 * (i : Int))) ((i + 1 : Nat) : Int)) (fun k => ?_) ?_)
        · simp only [dialtoneref05_Shown.l0]
          rw [if_pos (by omega), if_pos (by omega), wrap64_id _ (by omega) (by omega), decide_eq_true (by omega)]
        · simp only [dialtoneref05_Shown.j1]
          simp only [if_true]
          rw [if_pos (by omega), if_pos (by omega), wrap64_id (2 * D) (by omega) (by omega), wrap64_id (2 * D + 1) (by omega) (by omega), q1]
          simp only [Option.bind_some]
          rw [wrap64_id (100 * (i : Int)) (by omega) (by omega), wrap64_id (t - 100 * (i : Int)) (by omega) (by omega), hmn, wrap64_id (pk _ _ - D) (by omega) (by omega), hc, wrap64_id (c * _) (by omega) (by omega), wrap64_id (acc + _) (by omega) (by omega), wrap64_id ((i : Int) + 1) (by omega) (by omega)]
          rfl
        · have e : acc + (c * cl (t - 100 * (i : Int)) + sumC t ((i : Int) + 1) ((coefs D rates).drop (i + 1))) + 1000 * t = acc + c * cl (t - 100 * (i : Int)) + sumC t (((i + 1 : Nat) : Int)) ((coefs D rates).drop (i + 1)) + 1000 * t := by
            push_cast; omega
          rw [e]
          exact key
      · have hz : sumC t i ((coefs D rates).drop i) = 0 := sumC_zero _ _ _ (by omega)
        have hb := hs2 _ rfl
        rw [hz] at hb ⊢
        refine Ev.step (f := fun k => dialtoneref05_Shown.j1 k start rates t D acc (i : Int) false) (fun k => ?_) ⟨1, fun k hk => ?_⟩
        · simp only [dialtoneref05_Shown.l0]
          rw [if_pos (by omega), if_pos (by omega), wrap64_id _ (by omega) (by omega), decide_eq_false (by omega)]
        · obtain ⟨k, rfl⟩ : ∃ q, k = q + 1 := ⟨k - 1, by omega⟩
          rcases hstop k with h | h
          · show dialtoneref05_Shown.j1 (k + 1) start rates t D acc (i : Int) false = _
            rw [h, Int.add_zero]
          · omega
    · have hd : (coefs D rates).drop i = [] := List.drop_eq_nil_of_le (by rw [coefs_len]; omega)
      have hb := hs2 _ rfl
      rw [hd] at hb ⊢
      simp only [sumC] at hb ⊢
      refine Ev.step (f := fun k => dialtoneref05_Shown.j1 k start rates t D acc (i : Int) false) (fun k => ?_) ⟨1, fun k hk => ?_⟩
      · simp only [dialtoneref05_Shown.l0]
        rw [if_neg (by omega)]
      · obtain ⟨k, rfl⟩ : ∃ q, k = q + 1 := ⟨k - 1, by omega⟩
        rcases hstop k with h | h
        · show dialtoneref05_Shown.j1 (k + 1) start rates t D acc (i : Int) false = _
          rw [h, Int.add_zero]
        · omega
theorem shown_ok (drift start : Int) (rates : List Int) (t : Int) (hd : I64 drift) (hs : I64 start) (hr : ∀ r, r ∈ rates → I64 r) (hlen : (rates.length : Int) ≤ 9000000000000000000) (ht : 0 ≤ t) (ht2 : t ≤ 10000) :
    Ev (fun k => dialtoneref05_Shown.f k drift start rates t) (shownR drift start rates t) := by
  obtain ⟨p1, p2, p3⟩ := rpick_ok drift 101 hd (by omega)
  have hl := crs_lip (pk drift 101) p2 rates hr 0 t ht
  rw [crs_zero] at hl
  have h1 : 0 ≤ (1000 - pk drift 101) * (t - 0) := Int.mul_nonneg (by omega) (by omega)
  have h2 : (1000 + pk drift 101) * (t - 0) ≤ 1100 * (t - 0) := Int.mul_le_mul_of_nonneg_right (by omega) (by omega)
  have key := shown_loop start rates t (pk drift 101) hs hr p2 (by omega) ht ht2 hlen 20 0 0 rfl (by omega) (by omega) (by
    intro s hs'
    unfold crs at hl
    simp only [List.drop_zero, Int.zero_add] at hs'
    have : sumC t ((0 : Nat) : Int) (coefs (pk drift 101) rates) = sumC t 0 (coefs (pk drift 101) rates) := rfl
    omega)
  unfold dialtoneref05_Shown.f
  rw [p1]
  simp only [Option.bind_some]
  unfold shownR crs
  simp only [List.drop_zero, Int.zero_add] at key
  exact key
end Go.Proofs.Ythbonailomfjlaa.C
