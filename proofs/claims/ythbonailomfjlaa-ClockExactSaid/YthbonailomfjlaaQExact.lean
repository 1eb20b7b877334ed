import Derived.Test.YthbonailomfjlaaQSane
import Derived.Test.YthbonailomfjlaaQFits
import Derived.Test.YthbonailomfjlaaFExact
/- ClockExact, in plain numbers. Conditions: whole numbers of 64 bits. -/
namespace Go.Proofs.Ythbonailomfjlaa.C
open Go.RowKit Go.Proofs.YthbonailomfjlaaW.PrintWords Go.Proofs.YthbonailomfjlaaW.PrintLast Go.Proofs.YthbonailomfjlaaW.PrintMore
theorem rdInt_mem (l : List Int) (i : Nat) (h : i < l.length) : rd l i ∈ l := by
  unfold rd
  rw [show (i : Int).toNat = i by omega, show l.getD i 0 = l[i] by simp [List.getD, h]]
  exact List.getElem_mem h
theorem mul_bound (a x : Int) (h1 : 900 ≤ a) (h2 : a ≤ 1100) (h3 : -30000000 ≤ x) (h4 : x ≤ 30000000) : -33000000000 ≤ a * x ∧ a * x ≤ 33000000000 := by
  rcases Int.le_total 0 x with h | h
  · have e1 := Int.mul_nonneg (show 0 ≤ a by omega) h
    have e2 := Int.mul_le_mul_of_nonneg_right h2 h
    omega
  · have e1 := Int.mul_nonneg (show 0 ≤ a by omega) (show 0 ≤ -x by omega)
    have e2 := Int.mul_le_mul_of_nonneg_right h2 (show 0 ≤ -x by omega)
    rw [Int.mul_neg] at e1 e2
    omega
theorem exact_l0 (more n m d : Int) (hm : I64 more) (hd : 0 ≤ d) (hd2 : d ≤ 100) (hn : 0 ≤ n) (hn2 : n ≤ m) (hm2 : m ≤ 10000000) (l : List Int) (hlen : l.length ≤ 100) (hl : ∀ x, x ∈ l → -30000000 ≤ x ∧ x ≤ 30000000) (q : Nat) :
    ∀ i : Nat, l.length - i = q → i ≤ l.length → Ev (fun k => dialtonelaw05_ClockExact.l0 k more n m d (sLo d n) (sHi d n) l i) true := by
  induction q with
  | zero =>
    intro i hq hi
    obtain ⟨p1, p2, p3⟩ := pick_ok more (101 - d) hm (by omega)
    refine ⟨3, fun k hk => ?_⟩
    obtain ⟨k, rfl⟩ : ∃ q, k = q + 1 + 1 := ⟨k - 2, by omega⟩
    simp only [dialtonelaw05_ClockExact.l0]
    have z := spread_zero n hn
    have m1 := sLo_mono d n m hd hn2
    have m2 := sHi_mono d n m hd2 hn2
    have m3 := sLo_anti d (d + pk more (101 - d)) n hd (by omega)
    have m4 := sHi_grows d (d + pk more (101 - d)) n (by omega) (by omega) hn
    rw [if_neg (by omega), spread_ok 0 n (by omega) (by omega) hn (by omega) k, spread_ok d m hd hd2 (by omega) hm2 k, wrap64_id (101 - d) (by omega) (by omega), p1]
    simp only [Option.bind_some]
    rw [wrap64_id (d + pk more (101 - d)) (by omega) (by omega), spread_ok (d + pk more (101 - d)) n (by omega) (by omega) hn (by omega) k]
    simp only [Option.bind_some]
    rw [if_pos z.1, if_pos z.2, if_pos m1, if_pos m2, if_pos m3, decide_eq_true m4]
  | succ q ih =>
    intro i hq hi
    have hlt : i < l.length := by omega
    have hx := hl _ (rdInt_mem l i hlt)
    obtain ⟨x, he⟩ : ∃ x, rd l i = x := ⟨_, rfl⟩
    rw [he] at hx
    have hwi : wrap64 ((i : Int) + 1) = ((i + 1 : Nat) : Int) := by rw [wrap64_id _ (by omega) (by omega)]; rfl
    have b1 := mul_bound (1000 - d) x (by omega) (by omega) hx.1 hx.2
    have b2 := mul_bound (1000 + d) x (by omega) (by omega) hx.1 hx.2
    have w1 : wrap64 (1000 - d) = 1000 - d := wrap64_id _ (by omega) (by omega)
    have w2 : wrap64 (1000 + d) = 1000 + d := wrap64_id _ (by omega) (by omega)
    have w3 : wrap64 ((1000 - d) * x) = (1000 - d) * x := wrap64_id _ (by omega) (by omega)
    have w4 : wrap64 ((1000 + d) * x) = (1000 + d) * x := wrap64_id _ (by omega) (by omega)
    have w5 : wrap64 ((1000 - d) * x - 1000) = (1000 - d) * x - 1000 := wrap64_id _ (by omega) (by omega)
    have w6 : wrap64 ((1000 + d) * x + 1000) = (1000 + d) * x + 1000 := wrap64_id _ (by omega) (by omega)
    have w7 : wrap64 (1000 * n) = 1000 * n := wrap64_id _ (by omega) (by omega)
    have step1 : ∀ k, dialtonelaw05_ClockExact.l0 (k + 1) more n m d (sLo d n) (sHi d n) l i = dialtonelaw05_ClockExact.j2 k more n m d (sLo d n) (sHi d n) l i (decide (sLo d n ≤ x ∧ x ≤ sHi d n)) := by
      intro k
      simp only [dialtonelaw05_ClockExact.l0]
      rw [if_pos (by omega), if_pos (by omega), he, w1, w2, w3, w4, w5, w6, w7]
      have hlo := sLo_nonneg d n hd
      by_cases c0 : x ≥ 0
      · rw [if_pos c0]
        have l1 := lo_iff d n x hd c0
        have l2 := hi_iff d n x hd2
        by_cases c1 : (1000 - d) * x - 1000 < 1000 * n
        · rw [if_pos c1]
          congr 1
          rw [decide_eq_decide, ← l1]
          constructor
          · intro h; exact ⟨h, l2.2 c1⟩
          · intro h; exact h.1
        · rw [if_neg c1]
          congr 1
          symm
          rw [decide_eq_false_iff_not]
          intro h
          exact c1 (l2.1 h.2)
      · rw [if_neg c0]
        congr 1
        symm
        rw [decide_eq_false_iff_not]
        omega
    refine Ev.step step1 (Ev.step (f := fun k => dialtonelaw05_ClockExact.j3 k more n m d (sLo d n) (sHi d n) l i false) (fun k => ?_) (Ev.step (fun k => ?_) (ih (i + 1) (by omega) (by omega))))
    · simp only [dialtonelaw05_ClockExact.j2]
      rw [if_pos (by omega), if_pos (by omega), he]
      by_cases c : x ≥ sLo d n
      · rw [if_pos c]
        congr 1
        by_cases c' : x ≤ sHi d n
        · simp [c', show sLo d n ≤ x from c]
        · simp [c']
      · rw [if_neg c]
        congr 1
        simp [show ¬ sLo d n ≤ x by omega]
    · simp only [dialtonelaw05_ClockExact.j3]
      rw [if_neg (by simp), hwi]
theorem exact_ok (drift more n m x : Int) (h1 : I64 drift) (h2 : I64 more) (h3 : I64 n) (h4 : I64 m) (h5 : I64 x) : Ev (fun k => dialtonelaw05_ClockExact.f k drift more n m x) true := by
  unfold dialtonelaw05_ClockExact.f
  refine Ev.bind sane_ok ?_
  simp only [if_true]
  obtain ⟨p1, p2, p3⟩ := pick_ok drift 101 h1 (by omega)
  obtain ⟨q1, q2, q3⟩ := pick_ok n 10000001 h3 (by omega)
  generalize pk drift 101 = d at p1 p2 p3
  generalize pk n 10000001 = n' at q1 q2 q3
  obtain ⟨s1, s2, s3⟩ := pick_ok m (10000001 - n') h4 (by omega)
  generalize pk m (10000001 - n') = m' at s1 s2 s3
  have hs := fun k => spread_ok d n' p2 (by omega) q2 (by omega) k
  have b1 := sLo_bd d n' p2 q2 (by omega)
  have b2 := sHi_bd d n' p2 (by omega) q2 (by omega)
  obtain ⟨t1, t2, t3⟩ := pick_ok x 20000000 h5 (by omega)
  obtain ⟨u1, u2, u3⟩ := pick_ok x (sHi d n' - sLo d n' + 1) h5 (by omega)
  have key := exact_l0 more n' (n' + m') d h2 p2 (by omega) q2 (by omega) (by omega) [sLo d n' - 1, sLo d n', sHi d n', sHi d n' + 1, pk x 20000000, sLo d n' + pk x (sHi d n' - sLo d n' + 1)] (by simp) (by
    intro y hy
    simp only [List.mem_cons, List.not_mem_nil, or_false] at hy
    rcases hy with rfl | rfl | rfl | rfl | rfl | rfl <;> omega) 6 0 (by simp) (by simp)
  rw [p1]
  simp only [Option.bind_some]
  rw [q1]
  simp only [Option.bind_some]
  rw [wrap64_id (10000001 - n') (by omega) (by omega), s1]
  simp only [Option.bind_some]
  rw [wrap64_id (n' + m') (by omega) (by omega)]
  refine Ev.bind (g := fun k => clock_Spread.f k d n') (a := (sLo d n', sHi d n')) ⟨1, fun k hk => ?_⟩ ?_
  · obtain ⟨k, rfl⟩ : ∃ q, k = q + 1 := ⟨k - 1, by omega⟩
    exact hs k
  · simp only
    simp only [if_neg (show ¬ sLo d n' < 0 by omega), if_neg (show ¬ sHi d n' < sLo d n' by omega), decide_eq_false (show ¬ sHi d n' > 20000000 by omega)]
    refine Ev.step (fun k => ?_) key
    simp only [dialtonelaw05_ClockExact.j0]
    rw [if_neg (by simp), t1]
    simp only [Option.bind_some]
    rw [wrap64_id (sHi d n' - sLo d n') (by omega) (by omega), wrap64_id (sHi d n' - sLo d n' + 1) (by omega) (by omega), u1]
    simp only [Option.bind_some]
    rw [wrap64_id (sLo d n' - 1) (by omega) (by omega), wrap64_id (sHi d n' + 1) (by omega) (by omega), wrap64_id (sLo d n' + _) (by omega) (by omega)]
    rfl
end Go.Proofs.Ythbonailomfjlaa.C
