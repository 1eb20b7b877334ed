import Derived.Test.YthbonailomfjlaaQAt
import Derived.Test.YthbonailomfjlaaFInverse
/- ClockInverse returns true. Conditions: whole numbers of 64 bits, and slices as long as a machine holds. -/
namespace Go.Proofs.Ythbonailomfjlaa.C
open Go.RowKit Go.Proofs.YthbonailomfjlaaW.PrintWords Go.Proofs.YthbonailomfjlaaW.PrintLast Go.Proofs.YthbonailomfjlaaW.PrintMore
/-- The second t lies in what At returns. -/
def oneAt (D : Int) (R : List S50) (u x : Int) : Bool := if (atR D R x).2.2 = 0 then (if (atR D R x).1 ≤ u then decide (u ≤ (atR D R x).2.1) else false) else false
theorem one_iff (D : Int) (R : List S50) (hD : 0 ≤ D ∧ D ≤ 100) (hv : vld D R = true) (u x : Int) (h0 : 0 ≤ x) (h1 : x ≤ 10000000) : oneAt D R u x = decide (rdF D R u ≤ x ∧ x ≤ rdB D R u - 1) := by
  have hf := rdF_iff (l := R) hD u x h0 h1
  have hb := rdB_iff (l := R) hD u x h0 h1
  unfold oneAt atR
  rw [if_pos (show vld D R = true ∧ 0 ≤ x ∧ x ≤ 10000000 from ⟨hv, h0, h1⟩)]
  generalize arLo D x 0 R = lo at *
  generalize arHi D x 10000000 R = hi at *
  generalize rdF D R u = f at *
  generalize rdB D R u = g at *
  by_cases q : lo > hi
  · rw [if_pos q]
    simp only [if_neg (show ¬ (50 : Int) = 0 by decide)]
    rw [eq_comm, decide_eq_false_iff_not]
    omega
  · rw [if_neg q]
    simp only [if_true]
    by_cases e : lo ≤ u
    · rw [if_pos e]
      refine decide_eq_decide.2 ?_
      omega
    · rw [if_neg e, eq_comm, decide_eq_false_iff_not]
      omega
theorem inv_loop (u D a b : Int) (R : List S50) (xs : List Int) (hx : xs.length ≤ 100) (key : ∀ x, 0 ≤ x → x ≤ 10000000 → oneAt D R u x = decide (a ≤ x ∧ x ≤ b)) (m : Nat) :
    ∀ i : Int, 0 ≤ i → i ≤ xs.length → (xs.length : Int) - i = m → Ev (fun k => dialtonelaw05_ClockInverse.l0 k u true a b 0 xs i D R) true := by
  induction m with
  | zero =>
    intro i h0 h1 hm
    refine ⟨1, fun k hk => ?_⟩
    obtain ⟨k, rfl⟩ : ∃ q, k = q + 1 := ⟨k - 1, by omega⟩
    simp only [dialtonelaw05_ClockInverse.l0]
    rw [if_neg (by omega)]
  | succ m ih =>
    intro i h0 h1 hm
    have next := ih (i + 1) (by omega) (by omega) (by omega)
    have skip : Ev (fun k => dialtonelaw05_ClockInverse.j1 k u true a b 0 xs i true D R) true := by
      refine Ev.step (fun k => ?_) next
      simp only [dialtonelaw05_ClockInverse.j1, if_true]
      rw [wrap64_id (i + 1) (by omega) (by omega)]
    obtain ⟨x, hxx⟩ : ∃ x, rd xs i = x := ⟨_, rfl⟩
    by_cases hn : x < 0
    · refine Ev.step (fun k => ?_) skip
      simp only [dialtonelaw05_ClockInverse.l0]
      rw [if_pos (by omega), if_pos h0, hxx, if_pos hn]
    · by_cases hm2 : x > 10000000
      · refine Ev.step (fun k => ?_) skip
        simp only [dialtonelaw05_ClockInverse.l0]
        rw [if_pos (by omega), if_pos h0, hxx, if_neg hn, decide_eq_true hm2]
      · refine Ev.step (f := fun k => dialtonelaw05_ClockInverse.j1 k u true a b 0 xs i false D R) (fun k => ?_) ?_
        · simp only [dialtonelaw05_ClockInverse.l0]
          rw [if_pos (by omega), if_pos h0, hxx, if_neg hn, decide_eq_false hm2]
        · have fin : Ev (fun k => dialtonelaw05_ClockInverse.j2 k u true a b 0 xs i (oneAt D R u x) D R) true := by
            refine Ev.step (f := fun k => dialtonelaw05_ClockInverse.j3 k u true a b 0 xs i false D R) (fun k => ?_) (Ev.step (fun k => ?_) next)
            · simp only [dialtonelaw05_ClockInverse.j2, if_true]
              rw [if_pos h0, if_pos (by omega), hxx, key x (by omega) (by omega)]
              by_cases q : a ≤ x
              · rw [if_pos q]
                congr 1
                rw [show decide (a ≤ x ∧ x ≤ b) = decide (x ≤ b) from decide_eq_decide.2 ⟨fun h => h.2, fun h => ⟨q, h⟩⟩]
                simp
              · rw [if_neg q]
                congr 1
                rw [decide_eq_false (fun h => q h.1)]
                rfl
            · simp only [dialtonelaw05_ClockInverse.j3]
              rw [if_neg (by simp), wrap64_id (i + 1) (by omega) (by omega)]
          refine Ev.step (fun k => ?_) (Ev.bind (at_ev D R x) (f := fun k bt => if bt.2.2 = 0 then (if bt.1 ≤ u then (dialtonelaw05_ClockInverse.j2 k u true a b 0 xs i (decide (u ≤ bt.2.1)) D R) else (dialtonelaw05_ClockInverse.j2 k u true a b 0 xs i false D R)) else (dialtonelaw05_ClockInverse.j2 k u true a b 0 xs i false D R)) (Ev.congr (fun k => ?_) fin))
          · simp only [dialtonelaw05_ClockInverse.j1]
            rw [if_neg (by simp), if_pos h0, if_pos (by omega), hxx]
          · unfold oneAt
            split
            · split <;> rfl
            · rfl
theorem inverse_ok (drift start : Int) (rates : List Int) (at_ : List S60) (loc t : Int) (hd : I64 drift) (hs : I64 start) (hr : ∀ r, r ∈ rates → I64 r) (hlr : rates.length * 8 ≤ 140737488351232) (ha : ∀ x, x ∈ at_ → I64 x.f0 ∧ I64 x.f1 ∧ I64 x.f2) (hla : at_.length * 24 ≤ 140737488351232) (hl : I64 loc) (ht : I64 t) :
    Ev (fun k => dialtonelaw05_ClockInverse.f k drift start rates at_ loc t) true := by
  unfold dialtonelaw05_ClockInverse.f
  refine Ev.bind sane_ok ?_
  simp only [if_true]
  obtain ⟨R, e1, fit⟩ := made_ok drift start rates at_ hd hs hr (by omega) ha (by omega)
  refine Ev.bind e1 ?_
  obtain ⟨p1, p2, p3⟩ := pick_ok t 5000 ht (by omega)
  obtain ⟨q1, q2, q3⟩ := pick_ok loc 5000 hl (by omega)
  obtain ⟨s1, s2, s3⟩ := pick_ok loc 21 hl (by omega)
  rw [q1]
  simp only [Option.bind_some]
  rw [p1]
  simp only [Option.bind_some]
  rw [reads_ok]
  simp only [Option.bind_some]
  obtain ⟨d1, d2, d3⟩ := rpick_ok drift 101 hd (by omega)
  obtain ⟨f, g, r1, r2, r3⟩ := course_reads drift start rates R (pk t 5000) hd hs hr fit p2 (by omega)
  refine Ev.bind (shown_ok drift start rates (pk t 5000) hd hs hr (by omega) p2 (by omega)) ?_
  rw [s1]
  simp only [Option.bind_some]
  have e : readsR (pk drift 101) R (pk t 5000) = (rdF (pk drift 101) R (pk t 5000), rdB (pk drift 101) R (pk t 5000) - 1, 0) := by
    unfold readsR at r1 ⊢
    rw [if_pos ⟨fit.1, p2, by omega⟩] at r1 ⊢
    split
    · rename_i h
      rw [if_pos h] at r1
      simp at r1
    · rfl
  rw [e]
  exact inv_loop _ _ _ _ R _ (by simp) (fun x h0 h1 => one_iff _ R ⟨d2, by omega⟩ fit.1 _ x h0 h1) _ 0 (by omega) (by simp) rfl
end Go.Proofs.Ythbonailomfjlaa.C
