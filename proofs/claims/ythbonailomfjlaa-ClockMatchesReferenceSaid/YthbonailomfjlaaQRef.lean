import Derived.Test.YthbonailomfjlaaQAt
import Derived.Test.YthbonailomfjlaaCRefAt
import Derived.Test.YthbonailomfjlaaCRefSpread
import Derived.Test.YthbonailomfjlaaCRefValid
/- What the reference's Spread, Valid, At, Before, After and Reads return: the same as the package's. Condition: none beyond whole numbers of 64 bits. -/
namespace Go.Proofs.Ythbonailomfjlaa.C
open Go.RowKit Go.Proofs.YthbonailomfjlaaW.PrintWords Go.Proofs.YthbonailomfjlaaW.PrintLast Go.Proofs.YthbonailomfjlaaW.PrintMore
def spR (d n : Int) : Int × Int := if 0 ≤ d ∧ d ≤ 100 ∧ 0 ≤ n ∧ n ≤ 10000000 then (sLo d n, sHi d n) else (0, 0)
theorem fits_ok (d x n : Int) (hd : 0 ≤ d) (hd2 : d ≤ 100) (hn : 0 ≤ n) (hn2 : n ≤ 10000000) (hx : 0 ≤ x) (hx2 : x ≤ 20000000) : dialtoneref05_Fits.f d x n = some (decide (sLo d n ≤ x ∧ x ≤ sHi d n)) := by
  have h1 : 0 ≤ (1000 - d) * x := Int.mul_nonneg (by omega) hx
  have h2 : (1000 - d) * x ≤ 1000 * 20000000 := Int.mul_le_mul (by omega) hx2 hx (by omega)
  have h3 : 0 ≤ (1000 + d) * x := Int.mul_nonneg (by omega) hx
  have h4 : (1000 + d) * x ≤ 1100 * 20000000 := Int.mul_le_mul (by omega) hx2 hx (by omega)
  have a1 := lo_iff d n x hd hx
  have a2 := hi_iff d n x hd2
  unfold dialtoneref05_Fits.f
  rw [wrap64_id (1000 - d) (by omega) (by omega), wrap64_id (1000 + d) (by omega) (by omega), wrap64_id ((1000 - d) * x) (by omega) (by omega), wrap64_id ((1000 + d) * x) (by omega) (by omega), wrap64_id (_ - 1000) (by omega) (by omega), wrap64_id (_ + 1000) (by omega) (by omega), wrap64_id (1000 * n) (by omega) (by omega)]
  generalize (1000 - d) * x = u at *
  generalize (1000 + d) * x = v at *
  generalize sLo d n = lo at *
  generalize sHi d n = hi at *
  by_cases q : u - 1000 < 1000 * n
  · rw [if_pos q]
    congr 1
    refine decide_eq_decide.2 ?_
    omega
  · rw [if_neg q]
    congr 1
    rw [eq_comm, decide_eq_false_iff_not]
    omega
theorem rspread_l1 (d n x : Int) (hd : 0 ≤ d) (hd2 : d ≤ 100) (hn : 0 ≤ n) (hn2 : n ≤ 10000000) (m : Nat) : ∀ y : Int, sLo d n ≤ y → y ≤ sHi d n → sHi d n - y = m → Ev (fun k => dialtoneref05_Spread.l1 k d n x y) (x, sHi d n) := by
  obtain ⟨b1, b2⟩ := sLo_bd d n hd hn hn2
  obtain ⟨b3, b4⟩ := sHi_bd d n hd hd2 hn hn2
  induction m with
  | zero =>
    intro y h1 h2 hm
    have e : y = sHi d n := by omega
    refine ⟨1, fun k hk => ?_⟩
    obtain ⟨k, rfl⟩ : ∃ q, k = q + 1 := ⟨k - 1, by omega⟩
    simp only [dialtoneref05_Spread.l1]
    rw [wrap64_id (y + 1) (by omega) (by omega), fits_ok d (y + 1) n hd hd2 hn hn2 (by omega) (by omega)]
    simp only [Option.bind_some]
    rw [decide_eq_false (by omega), if_neg (by simp), e]
  | succ m ih =>
    intro y h1 h2 hm
    refine Ev.step (fun k => ?_) (ih (y + 1) (by omega) (by omega) (by omega))
    simp only [dialtoneref05_Spread.l1]
    rw [wrap64_id (y + 1) (by omega) (by omega), fits_ok d (y + 1) n hd hd2 hn hn2 (by omega) (by omega)]
    simp only [Option.bind_some]
    rw [decide_eq_true (by omega), if_pos rfl]
theorem rspread_l0 (d n : Int) (hd : 0 ≤ d) (hd2 : d ≤ 100) (hn : 0 ≤ n) (hn2 : n ≤ 10000000) (m : Nat) : ∀ x : Int, 0 ≤ x → x ≤ sLo d n → sLo d n - x = m → Ev (fun k => dialtoneref05_Spread.l0 k d n x) (sLo d n, sHi d n) := by
  obtain ⟨b1, b2⟩ := sLo_bd d n hd hn hn2
  obtain ⟨b3, b4⟩ := sHi_bd d n hd hd2 hn hn2
  induction m with
  | zero =>
    intro x h1 h2 hm
    have e : x = sLo d n := by omega
    have q0 : 0 ≤ 1000 * n / (1000 - d) := Int.ediv_nonneg (by omega) (by omega)
    have q1 : 1000 * n / (1000 - d) ≤ sHi d n := by
      unfold sHi
      exact Int.ediv_le_ediv (by omega) (by omega)
    have hy : sLo d n ≤ mx (1000 * n / (1000 - d) - 1) x ∧ mx (1000 * n / (1000 - d) - 1) x ≤ sHi d n := by
      unfold mx
      split <;> omega
    rw [← e] at hy ⊢
    refine Ev.step (fun k => ?_) (rspread_l1 d n x hd hd2 hn hn2 _ (mx (1000 * n / (1000 - d) - 1) x) (by omega) hy.2 (Int.toNat_of_nonneg (by omega)).symm)
    simp only [dialtoneref05_Spread.l0]
    rw [fits_ok d x n hd hd2 hn hn2 (by omega) (by omega)]
    simp only [Option.bind_some]
    rw [decide_eq_true (by omega), if_pos rfl, wrap64_id (1000 - d) (by omega) (by omega), if_neg (by omega), wrap64_id (1000 * n) (by omega) (by omega), Int.tdiv_eq_ediv_of_nonneg (by omega), wrap64_id (1000 * n / (1000 - d)) (by omega) (by omega), wrap64_id (_ - 1) (by omega) (by omega)]
  | succ m ih =>
    intro x h1 h2 hm
    refine Ev.step (fun k => ?_) (ih (x + 1) (by omega) (by omega) (by omega))
    simp only [dialtoneref05_Spread.l0]
    rw [fits_ok d x n hd hd2 hn hn2 (by omega) (by omega)]
    simp only [Option.bind_some]
    rw [decide_eq_false (by omega), if_neg (by simp), wrap64_id (x + 1) (by omega) (by omega)]
theorem rspread_ok (d n : Int) : Ev (fun k => dialtoneref05_Spread.f k d n) (spR d n) := by
  have stop : Ev (fun k => dialtoneref05_Spread.j0 k d n true) (0, 0) := by
    refine ⟨1, fun k hk => ?_⟩
    obtain ⟨k, rfl⟩ : ∃ q, k = q + 1 := ⟨k - 1, by omega⟩
    simp only [dialtoneref05_Spread.j0, if_true]
  unfold dialtoneref05_Spread.f spR
  by_cases h1 : d < 0
  · simp only [if_pos h1, if_neg (show ¬ (0 ≤ d ∧ d ≤ 100 ∧ 0 ≤ n ∧ n ≤ 10000000) by omega)]
    exact stop
  · simp only [if_neg h1]
    by_cases h2 : d > 100
    · simp only [if_pos h2, if_neg (show ¬ (0 ≤ d ∧ d ≤ 100 ∧ 0 ≤ n ∧ n ≤ 10000000) by omega)]
      exact stop
    · simp only [if_neg h2]
      by_cases h3 : n < 0
      · simp only [if_pos h3, if_neg (show ¬ (0 ≤ d ∧ d ≤ 100 ∧ 0 ≤ n ∧ n ≤ 10000000) by omega)]
        exact stop
      · simp only [if_neg h3]
        by_cases h4 : n > 10000000
        · simp only [decide_eq_true h4, if_neg (show ¬ (0 ≤ d ∧ d ≤ 100 ∧ 0 ≤ n ∧ n ≤ 10000000) by omega)]
          exact stop
        · rw [decide_eq_false h4, if_pos (show 0 ≤ d ∧ d ≤ 100 ∧ 0 ≤ n ∧ n ≤ 10000000 by omega)]
          obtain ⟨b1, b2⟩ := sLo_bd d n (by omega) (by omega) (by omega)
          obtain ⟨t, ht⟩ : ∃ t, Int.tdiv (1000 * (n - 1)) (1000 + d) = t := ⟨_, rfl⟩
          have hx : 0 ≤ mx (t - 1) 0 ∧ mx (t - 1) 0 ≤ sLo d n ∧ -2 ≤ t ∧ t ≤ 10000000 := by
            by_cases hn : 0 < n
            · rw [Int.tdiv_eq_ediv_of_nonneg (by omega)] at ht
              have : sLo d n = t + 1 := by
                unfold sLo
                rw [if_pos hn, ht]
              unfold mx
              split <;> omega
            · have hn0 : n = 0 := by omega
              subst hn0
              have : t = 0 ∨ t = -1 := by
                rw [show (1000 * (0 - 1) : Int) = -1000 by omega, Int.neg_tdiv, Int.tdiv_eq_ediv_of_nonneg (by omega)] at ht
                have h5 : 0 ≤ (1000 : Int) / (1000 + d) := Int.ediv_nonneg (by omega) (by omega)
                have h6 : (1000 : Int) / (1000 + d) ≤ 1 := div_le_of _ _ _ (by omega) (by omega)
                omega
              unfold mx
              split <;> omega
          refine Ev.step (fun k => ?_) (rspread_l0 d n (by omega) (by omega) (by omega) (by omega) _ (mx (t - 1) 0) hx.1 hx.2.1 (Int.toNat_of_nonneg (by omega)).symm)
          simp only [dialtoneref05_Spread.j0]
          rw [if_neg (by simp), wrap64_id (1000 + d) (by omega) (by omega), if_neg (by omega), wrap64_id (n - 1) (by omega) (by omega), wrap64_id (1000 * (n - 1)) (by omega) (by omega), ht, wrap64_id t (by omega) (by omega), wrap64_id (t - 1) (by omega) (by omega)]
theorem rvalid_l0 (d : Int) (l : List S50) (hl : l.length ≤ 100) (m : Nat) : ∀ (i : Nat) (a : Int), i ≤ l.length → l.length - i = m → -1 ≤ a → (0 < i → a = (rd_T50 l ((i : Int) - 1)).f0) → (i = 0 → a = -1) → Ev (fun k => dialtoneref05_Valid.l0 k i d l) (chain a (l.drop i)) := by
  induction m with
  | zero =>
    intro i a hi hm _ _ _
    rw [List.drop_eq_nil_of_le (by omega)]
    refine ⟨1, fun k hk => ?_⟩
    obtain ⟨k, rfl⟩ : ∃ q, k = q + 1 := ⟨k - 1, by omega⟩
    simp only [dialtoneref05_Valid.l0]
    rw [if_neg (by omega)]
    rfl
  | succ m ih =>
    intro i a hi hm ha ha2 ha3
    have hdr := drop_rd l (i : Int) (by omega) (by omega)
    rw [show ((i : Int)).toNat = i by omega, show ((i : Int) + 1).toNat = i + 1 by omega] at hdr
    rw [hdr]
    obtain ⟨r, hr⟩ : ∃ r, rd_T50 l (i : Int) = r := ⟨_, rfl⟩
    have stop : chain a (r :: l.drop (i + 1)) = false → Ev (fun k => dialtoneref05_Valid.j2 k i true d l) (chain a (r :: l.drop (i + 1))) := by
      intro h
      rw [h]
      refine ⟨1, fun k hk => ?_⟩
      obtain ⟨k, rfl⟩ : ∃ q, k = q + 1 := ⟨k - 1, by omega⟩
      simp only [dialtoneref05_Valid.j2, if_true]
    rw [hr]
    have next := ih (i + 1) r.f0 (by omega) (by omega)
    by_cases c : a < r.f0 ∧ r.f0 ≤ 10000000 ∧ 0 ≤ r.f1 ∧ r.f1 ≤ r.f2 ∧ r.f2 ≤ 10000000
    · have hc : chain a (r :: l.drop (i + 1)) = chain r.f0 (l.drop (i + 1)) := by
        simp only [chain]
        rw [decide_eq_true c, Bool.true_and]
      rw [hc]
      refine Ev.step (f := fun k => dialtoneref05_Valid.j2 k i false d l) (fun k => ?_) (Ev.step (fun k => ?_) (next (by omega) (fun _ => by rw [show (((i + 1 : Nat) : Int) - 1) = (i : Int) by omega, hr]) (by omega)))
      · simp only [dialtoneref05_Valid.l0]
        rw [hr, if_pos (by omega), if_pos (by omega), if_neg (by omega), if_neg (by omega), if_neg (by omega), if_neg (by omega), if_neg (by omega)]
        by_cases hi0 : (i : Int) > 0
        · rw [if_pos hi0, wrap64_id ((i : Int) - 1) (by omega) (by omega), if_pos (by omega), if_pos (by omega), ← ha2 (by omega), decide_eq_false (by omega)]
        · rw [if_neg hi0]
      · simp only [dialtoneref05_Valid.j2]
        rw [if_neg (by simp), wrap64_id ((i : Int) + 1) (by omega) (by omega)]
        rfl
    · have hc : chain a (r :: l.drop (i + 1)) = false := by
        simp only [chain]
        rw [decide_eq_false c, Bool.false_and]
      refine Ev.step (fun k => ?_) (stop hc)
      simp only [dialtoneref05_Valid.l0]
      rw [hr, if_pos (by omega), if_pos (by omega)]
      by_cases c1 : r.f0 < 0
      · rw [if_pos c1]
      · rw [if_neg c1]
        by_cases c2 : r.f0 > 10000000
        · rw [if_pos c2]
        · rw [if_neg c2]
          by_cases c3 : r.f1 < 0
          · rw [if_pos c3]
          · rw [if_neg c3]
            by_cases c4 : r.f2 < r.f1
            · rw [if_pos c4]
            · rw [if_neg c4]
              by_cases c5 : r.f2 > 10000000
              · rw [if_pos c5]
              · rw [if_neg c5]
                by_cases hi0 : (i : Int) > 0
                · rw [if_pos hi0, wrap64_id ((i : Int) - 1) (by omega) (by omega), if_pos (by omega), if_pos (by omega), ← ha2 (by omega), decide_eq_true (by omega)]
                · exfalso
                  have := ha3 (by omega)
                  exact c ⟨by omega, by omega, by omega, by omega, by omega⟩
theorem rvalid_ok (d : Int) (l : List S50) : Ev (fun k => dialtoneref05_Valid.f k d l) (vld d l) := by
  have stop : vld d l = false → Ev (fun k => dialtoneref05_Valid.j0 k true d l) (vld d l) := by
    intro h
    rw [h]
    refine ⟨1, fun k hk => ?_⟩
    obtain ⟨k, rfl⟩ : ∃ q, k = q + 1 := ⟨k - 1, by omega⟩
    simp only [dialtoneref05_Valid.j0, if_true]
  have hv : ¬ (0 ≤ d ∧ d ≤ 100 ∧ l.length ≤ 12) → vld d l = false := by
    intro h
    unfold vld
    rw [decide_eq_false h, Bool.false_and]
  unfold dialtoneref05_Valid.f
  by_cases h1 : d < 0
  · simp only [if_pos h1]
    exact stop (hv (by omega))
  · simp only [if_neg h1]
    by_cases h2 : d > 100
    · simp only [if_pos h2]
      exact stop (hv (by omega))
    · simp only [if_neg h2]
      by_cases h3 : (l.length : Int) > 12
      · rw [decide_eq_true h3]
        exact stop (hv (by omega))
      · rw [decide_eq_false h3]
        have e : vld d l = chain (-1) l := by
          unfold vld
          rw [decide_eq_true (by omega), Bool.true_and]
        rw [e]
        have := rvalid_l0 d l (by omega) l.length 0 (-1) (by omega) rfl (by omega) (by omega) (fun _ => rfl)
        rw [List.drop_zero] at this
        refine Ev.step (fun k => ?_) this
        simp only [dialtoneref05_Valid.j0]
        rw [if_neg (by simp)]
        rfl
theorem spR_in (d n : Int) (h : 0 ≤ d ∧ d ≤ 100 ∧ 0 ≤ n ∧ n ≤ 10000000) : spR d n = (sLo d n, sHi d n) := if_pos h
theorem rbounds_l0 (d loc : Int) (l : List S50) (hd : 0 ≤ d ∧ d ≤ 100) (hloc : 0 ≤ loc ∧ loc ≤ 10000000) (hl : l.length ≤ 100) (hr : ∀ r, r ∈ l → 0 ≤ r.f0 ∧ r.f0 ≤ 10000000 ∧ 0 ≤ r.f1 ∧ r.f1 ≤ 10000000 ∧ 0 ≤ r.f2 ∧ r.f2 ≤ 10000000) (m : Nat) :
    ∀ (i : Nat) (a b : Int), i ≤ l.length → l.length - i = m → Ev (fun k => dialtoneref05_bounds.l0 k loc a b i d l) (arLo d loc a (l.drop i), arHi d loc b (l.drop i)) := by
  induction m with
  | zero =>
    intro i a b hi hm
    rw [List.drop_eq_nil_of_le (by omega)]
    refine ⟨1, fun k hk => ?_⟩
    obtain ⟨k, rfl⟩ : ∃ q, k = q + 1 := ⟨k - 1, by omega⟩
    simp only [dialtoneref05_bounds.l0]
    rw [if_neg (by omega)]
    rfl
  | succ m ih =>
    intro i a b hi hm
    have hdr := drop_rd l (i : Int) (by omega) (by omega)
    rw [show ((i : Int)).toNat = i by omega, show ((i : Int) + 1).toNat = i + 1 by omega] at hdr
    obtain ⟨b0, b1, b2, b3, b4, b5⟩ := hr _ (rd_mem l (i : Int) (by omega) (by omega))
    obtain ⟨r, hrr⟩ : ∃ r, rd_T50 l (i : Int) = r := ⟨_, rfl⟩
    rw [hrr] at hdr b0 b1 b2 b3 b4 b5
    rw [hdr]
    have next := ih (i + 1) (mx a (rLo d loc r)) (mn b (rHi d loc r)) (by omega) (by omega)
    show Ev _ (arLo d loc (mx a (rLo d loc r)) (l.drop (i + 1)), arHi d loc (mn b (rHi d loc r)) (l.drop (i + 1)))
    rcases Int.lt_trichotomy loc r.f0 with c | c | c
    · obtain ⟨s1, s2⟩ := sLo_bd d (r.f0 - loc) hd.1 (by omega) (by omega)
      obtain ⟨s3, s4⟩ := sHi_bd d (r.f0 - loc) hd.1 hd.2 (by omega) (by omega)
      refine Ev.step (fun k => ?_) (Ev.bind (rspread_ok d (r.f0 - loc)) (f := fun k bt214 => dialtoneref05_bounds.l0 k loc (mx a (wrap64 (r.f1 - bt214.2))) (mn b (wrap64 (r.f2 - bt214.1))) (wrap64 ((i : Int) + 1)) d l) (Ev.congr (fun k => ?_) next))
      · simp only [dialtoneref05_bounds.l0]
        rw [hrr, if_pos (by omega), if_pos (by omega), if_neg (by omega), if_neg (by omega), wrap64_id (r.f0 - loc) (by omega) (by omega)]
      · rw [spR_in d _ ⟨hd.1, hd.2, by omega, by omega⟩]
        simp only
        rw [wrap64_id (r.f1 - _) (by omega) (by omega), wrap64_id (r.f2 - _) (by omega) (by omega), wrap64_id ((i : Int) + 1) (by omega) (by omega)]
        unfold rLo rHi
        simp only [if_pos c]
        rfl
    · obtain ⟨s3, s4⟩ := sHi_bd d 0 hd.1 hd.2 (by omega) (by omega)
      refine Ev.step (fun k => ?_) (Ev.bind (rspread_ok d 0) (f := fun k bt210 => dialtoneref05_bounds.l0 k loc (mx a (wrap64 (r.f1 - bt210.2))) (mn b (wrap64 (r.f2 + bt210.2))) (wrap64 ((i : Int) + 1)) d l) (Ev.congr (fun k => ?_) next))
      · simp only [dialtoneref05_bounds.l0]
        rw [hrr, if_pos (by omega), if_pos (by omega), if_pos c]
      · rw [spR_in d _ ⟨hd.1, hd.2, by omega, by omega⟩]
        simp only
        rw [wrap64_id (r.f1 - _) (by omega) (by omega), wrap64_id (r.f2 + _) (by omega) (by omega), wrap64_id ((i : Int) + 1) (by omega) (by omega)]
        unfold rLo rHi
        simp only [if_neg (show ¬ loc < r.f0 by omega), if_pos c]
        rfl
    · obtain ⟨s1, s2⟩ := sLo_bd d (loc - r.f0) hd.1 (by omega) (by omega)
      obtain ⟨s3, s4⟩ := sHi_bd d (loc - r.f0) hd.1 hd.2 (by omega) (by omega)
      refine Ev.step (fun k => ?_) (Ev.bind (rspread_ok d (loc - r.f0)) (f := fun k bt212 => dialtoneref05_bounds.l0 k loc (mx a (wrap64 (r.f1 + bt212.1))) (mn b (wrap64 (r.f2 + bt212.2))) (wrap64 ((i : Int) + 1)) d l) (Ev.congr (fun k => ?_) next))
      · simp only [dialtoneref05_bounds.l0]
        rw [hrr, if_pos (by omega), if_pos (by omega), if_neg (by omega), if_pos c, wrap64_id (loc - r.f0) (by omega) (by omega)]
      · rw [spR_in d _ ⟨hd.1, hd.2, by omega, by omega⟩]
        simp only
        rw [wrap64_id (r.f1 + _) (by omega) (by omega), wrap64_id (r.f2 + _) (by omega) (by omega), wrap64_id ((i : Int) + 1) (by omega) (by omega)]
        unfold rLo rHi
        simp only [if_neg (show ¬ loc < r.f0 by omega), if_neg (show ¬ loc = r.f0 by omega)]
        rfl
theorem rbounds_ok (d : Int) (l : List S50) (hv : vld d l = true) (loc : Int) (h0 : 0 ≤ loc) (h1 : loc ≤ 10000000) : Ev (fun k => dialtoneref05_bounds.f k d l loc) (arLo d loc 0 l, arHi d loc 10000000 l) := by
  have hv2 := hv
  unfold vld at hv2
  rw [Bool.and_eq_true, decide_eq_true_eq] at hv2
  have := rbounds_l0 d loc l ⟨hv2.1.1, hv2.1.2.1⟩ ⟨h0, h1⟩ (by omega) (fun r h => by have := chain_all l (-1) (by omega) hv2.2 r h; omega) l.length 0 0 10000000 (by omega) rfl
  rw [List.drop_zero] at this
  exact this
theorem rat_ok (d : Int) (l : List S50) (loc : Int) : Ev (fun k => dialtoneref05_At.f k d l loc) (atR d l loc) := by
  have stop : ¬ (vld d l = true ∧ 0 ≤ loc ∧ loc ≤ 10000000) → Ev (fun k => dialtoneref05_At.j0 k loc true d l) (atR d l loc) := by
    intro h
    unfold atR
    rw [if_neg h]
    refine ⟨1, fun k hk => ?_⟩
    obtain ⟨k, rfl⟩ : ∃ q, k = q + 1 := ⟨k - 1, by omega⟩
    simp only [dialtoneref05_At.j0, if_true]
  unfold dialtoneref05_At.f
  refine Ev.bind (rvalid_ok d l) ?_
  by_cases hv : vld d l = true
  · simp only [if_pos hv]
    by_cases c1 : loc < 0
    · simp only [if_pos c1]
      exact stop (by omega)
    · simp only [if_neg c1]
      by_cases c2 : loc > 10000000
      · rw [decide_eq_true c2]
        exact stop (by omega)
      · rw [decide_eq_false c2]
        refine Ev.step (fun k => ?_) (Ev.bind (rbounds_ok d l hv loc (by omega) (by omega)) (f := fun (_ : Nat) (bt218 : Int × Int) => if bt218.1 > bt218.2 then (some (0, 0, 50)) else (some (bt218.1, bt218.2, 0))) ?_)
        · simp only [dialtoneref05_At.j0]
          rw [if_neg (by simp)]
        · unfold atR
          rw [if_pos (show vld d l = true ∧ 0 ≤ loc ∧ loc ≤ 10000000 from ⟨hv, by omega, by omega⟩)]
          refine ⟨0, fun k _ => ?_⟩
          by_cases q : arLo d loc 0 l > arHi d loc 10000000 l
          · simp only [if_pos q]
          · simp only [if_neg q]
  · simp only [if_neg hv]
    exact stop (fun h => hv h.1)
theorem rbefore_ok (d : Int) (l : List S50) (loc t : Int) : Ev (fun k => dialtoneref05_Before.f k d l loc t) (decide ((atR d l loc).2.2 = 0 ∧ (atR d l loc).2.1 < t)) := by
  unfold dialtoneref05_Before.f
  refine Ev.bind (rat_ok d l loc) (show Ev _ _ from ⟨0, fun k _ => ?_⟩)
  by_cases c : (atR d l loc).2.2 = 0
  · rw [if_pos c]
    exact congrArg some (decide_eq_decide.2 ⟨fun h => ⟨c, h⟩, fun h => h.2⟩)
  · rw [if_neg c, decide_eq_false (fun h => c h.1)]
theorem rafter_ok (d : Int) (l : List S50) (loc t : Int) : Ev (fun k => dialtoneref05_After.f k d l loc t) (decide ((atR d l loc).2.2 = 0 ∧ (atR d l loc).1 > t)) := by
  unfold dialtoneref05_After.f
  refine Ev.bind (rat_ok d l loc) (show Ev _ _ from ⟨0, fun k _ => ?_⟩)
  by_cases c : (atR d l loc).2.2 = 0
  · rw [if_pos c]
    exact congrArg some (decide_eq_decide.2 ⟨fun h => ⟨c, h⟩, fun h => h.2⟩)
  · rw [if_neg c, decide_eq_false (fun h => c h.1)]
theorem rreads_l1 (d t first : Int) (l : List S50) (hv : vld d l = true) (m : Nat) : ∀ last beyond : Int, -1 ≤ last → last + 1 ≤ rdB d l t → rdB d l t ≤ beyond → beyond ≤ 10000001 → (beyond - last).toNat ≤ m →
    Ev (fun k => dialtoneref05_Reads.l1 k t first beyond last d l) (if first > rdB d l t - 1 then (0, 0, 50) else (first, rdB d l t - 1, 0)) := by
  have hv2 := hv
  unfold vld at hv2
  rw [Bool.and_eq_true, decide_eq_true_eq] at hv2
  induction m with
  | zero => intro last beyond h1 h2 h3 h4 hm; omega
  | succ m ih =>
    intro last beyond h1 h2 h3 h4 hm
    by_cases c : last + 1 < beyond
    · obtain ⟨q, hq⟩ : ∃ q, (last + beyond) / 2 = q := ⟨_, rfl⟩
      have hb := rdB_iff (l := l) ⟨hv2.1.1, hv2.1.2.1⟩ t q (by omega) (by omega)
      have hl1 : arLo d q 0 l ≤ t → Ev (fun k => dialtoneref05_Reads.l1 k t first beyond q d l) (if first > rdB d l t - 1 then (0, 0, 50) else (first, rdB d l t - 1, 0)) := fun h => ih q beyond (by omega) (by omega) (by omega) (by omega) (by omega)
      have hl2 : ¬ arLo d q 0 l ≤ t → Ev (fun k => dialtoneref05_Reads.l1 k t first q last d l) (if first > rdB d l t - 1 then (0, 0, 50) else (first, rdB d l t - 1, 0)) := fun h => ih last q (by omega) (by omega) (by omega) (by omega) (by omega)
      refine Ev.step (fun k => ?_) (Ev.bind (rbounds_ok d l hv q (by omega) (by omega)) (f := fun k bt224 => if bt224.1 ≤ t then (dialtoneref05_Reads.l1 k t first beyond q d l) else (dialtoneref05_Reads.l1 k t first q last d l)) ?_)
      · simp only [dialtoneref05_Reads.l1]
        rw [wrap64_id (last + 1) (by omega) (by omega), if_pos c, wrap64_id (last + beyond) (by omega) (by omega), Int.tdiv_eq_ediv_of_nonneg (by omega), hq, wrap64_id q (by omega) (by omega)]
      · by_cases e : arLo d q 0 l ≤ t
        · simp only [if_pos e]
          exact hl1 e
        · simp only [if_neg e]
          exact hl2 e
    · have e : last = rdB d l t - 1 := by omega
      refine ⟨1, fun k hk => ?_⟩
      obtain ⟨k, rfl⟩ : ∃ q, k = q + 1 := ⟨k - 1, by omega⟩
      simp only [dialtoneref05_Reads.l1]
      rw [wrap64_id (last + 1) (by omega) (by omega), if_neg c, e]
      split <;> rfl
theorem rreads_l0 (d t : Int) (l : List S50) (hv : vld d l = true) (m : Nat) : ∀ first beyond : Int, 0 ≤ first → first ≤ rdF d l t → rdF d l t ≤ beyond → beyond ≤ 10000001 → (beyond - first).toNat ≤ m →
    Ev (fun k => dialtoneref05_Reads.l0 k t first beyond d l) (if rdF d l t > rdB d l t - 1 then (0, 0, 50) else (rdF d l t, rdB d l t - 1, 0)) := by
  have hv2 := hv
  unfold vld at hv2
  rw [Bool.and_eq_true, decide_eq_true_eq] at hv2
  have fin : ∀ first beyond : Int, ¬ first < beyond → first = rdF d l t → Ev (fun k => dialtoneref05_Reads.l0 k t first beyond d l) (if rdF d l t > rdB d l t - 1 then (0, 0, 50) else (rdF d l t, rdB d l t - 1, 0)) := by
    intro first beyond c e
    obtain ⟨g1, g2⟩ := rdB_bd d l t
    refine Ev.step (fun k => ?_) (rreads_l1 d t (rdF d l t) l hv _ (-1) 10000001 (by omega) (by omega) (by omega) (by omega) (Nat.le_refl _))
    simp only [dialtoneref05_Reads.l0]
    rw [if_neg c, e]
  induction m with
  | zero =>
    intro first beyond h1 h2 h3 h4 hm
    exact fin first beyond (by omega) (by omega)
  | succ m ih =>
    intro first beyond h1 h2 h3 h4 hm
    by_cases c : first < beyond
    · obtain ⟨q, hq⟩ : ∃ q, (first + beyond) / 2 = q := ⟨_, rfl⟩
      have hb := rdF_iff (l := l) ⟨hv2.1.1, hv2.1.2.1⟩ t q (by omega) (by omega)
      have hl1 : t ≤ arHi d q 10000000 l → Ev (fun k => dialtoneref05_Reads.l0 k t first q d l) (if rdF d l t > rdB d l t - 1 then (0, 0, 50) else (rdF d l t, rdB d l t - 1, 0)) := fun h => ih first q (by omega) (by omega) (by omega) (by omega) (by omega)
      have hl2 : ¬ t ≤ arHi d q 10000000 l → Ev (fun k => dialtoneref05_Reads.l0 k t (q + 1) beyond d l) (if rdF d l t > rdB d l t - 1 then (0, 0, 50) else (rdF d l t, rdB d l t - 1, 0)) := fun h => ih (q + 1) beyond (by omega) (by omega) (by omega) (by omega) (by omega)
      refine Ev.step (fun k => ?_) (Ev.bind (rbounds_ok d l hv q (by omega) (by omega)) (f := fun k bt222 => if bt222.2 ≥ t then (dialtoneref05_Reads.l0 k t first q d l) else (dialtoneref05_Reads.l0 k t (q + 1) beyond d l)) ?_)
      · simp only [dialtoneref05_Reads.l0]
        rw [if_pos c, wrap64_id (first + beyond) (by omega) (by omega), Int.tdiv_eq_ediv_of_nonneg (by omega), hq, wrap64_id q (by omega) (by omega), wrap64_id (q + 1) (by omega) (by omega)]
      · by_cases e : t ≤ arHi d q 10000000 l
        · simp only [ge_iff_le, if_pos e]
          exact hl1 e
        · simp only [ge_iff_le, if_neg e]
          exact hl2 e
    · exact fin first beyond c (by omega)
theorem rreads_ok (d : Int) (l : List S50) (t : Int) : Ev (fun k => dialtoneref05_Reads.f k d l t) (readsR d l t) := by
  have stop : ¬ (vld d l = true ∧ 0 ≤ t ∧ t ≤ 10000000) → Ev (fun k => dialtoneref05_Reads.j0 k t true d l) (readsR d l t) := by
    intro h
    unfold readsR
    rw [if_neg h]
    refine ⟨1, fun k hk => ?_⟩
    obtain ⟨k, rfl⟩ : ∃ q, k = q + 1 := ⟨k - 1, by omega⟩
    simp only [dialtoneref05_Reads.j0, if_true]
  unfold dialtoneref05_Reads.f
  refine Ev.bind (rvalid_ok d l) ?_
  by_cases hv : vld d l = true
  · simp only [if_pos hv]
    by_cases c1 : t < 0
    · simp only [if_pos c1]
      exact stop (by omega)
    · simp only [if_neg c1]
      by_cases c2 : t > 10000000
      · rw [decide_eq_true c2]
        exact stop (by omega)
      · rw [decide_eq_false c2]
        obtain ⟨g1, g2⟩ := rdF_bd d l t
        have e : readsR d l t = if rdF d l t > rdB d l t - 1 then (0, 0, 50) else (rdF d l t, rdB d l t - 1, 0) := by
          unfold readsR
          rw [if_pos ⟨hv, by omega, by omega⟩]
          by_cases q : rdB d l t ≤ rdF d l t
          · rw [if_pos q, if_pos (by omega)]
          · rw [if_neg q, if_neg (by omega)]
        rw [e]
        refine Ev.step (fun k => ?_) (rreads_l0 d t l hv _ 0 10000001 (by omega) g1 g2 (by omega) (Nat.le_refl _))
        simp only [dialtoneref05_Reads.j0]
        rw [if_neg (by simp)]
  · simp only [if_neg hv]
    exact stop (fun h => hv h.1)
end Go.Proofs.Ythbonailomfjlaa.C
