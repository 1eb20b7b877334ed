import Derived.Test.YthbonailomfjlaaQRef
import Derived.Test.YthbonailomfjlaaQRefAgree
import Derived.Test.YthbonailomfjlaaFMatches
/- ClockMatchesReference returns true. Conditions: whole numbers of 64 bits, and slices as long as a machine holds. -/
namespace Go.Proofs.Ythbonailomfjlaa.C
open Go.RowKit Go.Proofs.YthbonailomfjlaaW.PrintWords Go.Proofs.YthbonailomfjlaaW.PrintLast Go.Proofs.YthbonailomfjlaaW.PrintMore
theorem spread_ev (d n : Int) : Ev (fun k => clock_Spread.f k d n) (spR d n) := by
  by_cases h : 0 ≤ d ∧ d ≤ 100 ∧ 0 ≤ n ∧ n ≤ 10000000
  · rw [spR_in d n h]
    refine ⟨1, fun k hk => ?_⟩
    obtain ⟨k, rfl⟩ : ∃ q, k = q + 1 := ⟨k - 1, by omega⟩
    exact spread_ok d n h.1 h.2.1 h.2.2.1 h.2.2.2 k
  · unfold spR
    rw [if_neg h]
    refine ⟨1, fun k hk => ?_⟩
    obtain ⟨k, rfl⟩ : ∃ q, k = q + 1 := ⟨k - 1, by omega⟩
    simp only [clock_Spread.f, clock_Spread.j0, if_true]
    by_cases h1 : d < 0
    · rw [if_pos h1]
    · rw [if_neg h1]
      by_cases h2 : d > 100
      · rw [if_pos h2]
      · rw [if_neg h2]
        by_cases h3 : n < 0
        · rw [if_pos h3]
        · rw [if_neg h3, decide_eq_true (show n > 10000000 by omega), if_pos rfl]
section
variable (a5 a6 : Int) (xs : List S24)
theorem match_l1 (x27 : Int) (u v : Int) (d : Int) (l : List S50) (m : Nat) (next : Ev (fun k => dialtonelaw05_ClockMatchesReference.l0 k a5 a6 true xs (wrap64 (x27 + 1))) true) :
    ∀ i : Int, 0 ≤ i → i ≤ 2 → 2 - i = m → Ev (fun k => dialtonelaw05_ClockMatchesReference.l1 k a5 a6 true xs x27 [a5, u] [a6, v] i d l) true := by
  induction m with
  | zero =>
    intro i h0 h1 hm
    refine Ev.step (fun k => ?_) next
    simp only [dialtonelaw05_ClockMatchesReference.l1]
    rw [if_neg (by omega)]
  | succ m ih =>
    intro i h0 h1 hm
    have go := ih (i + 1) (by omega) (by omega) (by omega)
    obtain ⟨p, hp⟩ : ∃ p, rd [a5, u] i = p := ⟨_, rfl⟩
    obtain ⟨q, hq⟩ : ∃ q, rd [a6, v] i = q := ⟨_, rfl⟩
    have j3 : Ev (fun k => dialtonelaw05_ClockMatchesReference.j3 k a5 a6 true xs x27 [a5, u] [a6, v] i false d l) true := by
      refine Ev.step (f := fun k => (clock_Before.f k d l p q).bind fun t291 => ((dialtoneref05_Before.f k d l p q).bind fun t294 => (if (t291 != t294) = true then (none) else ((clock_After.f k d l p q).bind fun t297 => ((dialtoneref05_After.f k d l p q).bind fun t300 => (if (t297 != t300) = true then (none) else (dialtonelaw05_ClockMatchesReference.l1 k a5 a6 true xs x27 [a5, u] [a6, v] (i + 1) d l))))))) (fun k => ?_) ?_
      · simp only [dialtonelaw05_ClockMatchesReference.j3]
        rw [if_neg (by simp), if_pos h0, if_pos (by simp; omega), if_pos (by simp; omega), hp, hq, wrap64_id (i + 1) (by omega) (by omega)]
      · refine Ev.bind (⟨41, fun k hk => before_ok d l p q k hk⟩ : Ev (fun k => clock_Before.f k d l p q) _) (Ev.bind (rbefore_ok d l p q) ?_)
        simp only [bne_self_eq_false, Bool.false_eq_true, if_false]
        refine Ev.bind (⟨41, fun k hk => after_ok d l p q k hk⟩ : Ev (fun k => clock_After.f k d l p q) _) (Ev.bind (rafter_ok d l p q) ?_)
        simp only [bne_self_eq_false, Bool.false_eq_true, if_false]
        exact go
    refine Ev.step (f := fun k => (clock_At.f k d l p).bind fun bt274 => ((dialtoneref05_At.f k d l p).bind fun bt278 => (if i < (([a6, v] : List Int).length : Int) then ((clock_Reads.f d l q).bind fun bt282 => ((dialtoneref05_Reads.f k d l q).bind fun bt286 => (if bt274.1 = bt278.1 then (if bt274.2.1 = bt278.2.1 then (if bt274.2.2 = bt278.2.2 then (if bt282.1 = bt286.1 then (if bt282.2.1 = bt286.2.1 then (dialtonelaw05_ClockMatchesReference.j3 k a5 a6 true xs x27 [a5, u] [a6, v] i (bt282.2.2 != bt286.2.2) d l) else (dialtonelaw05_ClockMatchesReference.j3 k a5 a6 true xs x27 [a5, u] [a6, v] i true d l)) else (dialtonelaw05_ClockMatchesReference.j3 k a5 a6 true xs x27 [a5, u] [a6, v] i true d l)) else (dialtonelaw05_ClockMatchesReference.j3 k a5 a6 true xs x27 [a5, u] [a6, v] i true d l)) else (dialtonelaw05_ClockMatchesReference.j3 k a5 a6 true xs x27 [a5, u] [a6, v] i true d l)) else (dialtonelaw05_ClockMatchesReference.j3 k a5 a6 true xs x27 [a5, u] [a6, v] i true d l)))) else (none)))) (fun k => ?_) ?_
    · simp only [dialtonelaw05_ClockMatchesReference.l1]
      rw [if_pos (by omega), if_pos h0, if_pos (by simp; omega), hp, hq]
    · refine Ev.bind (at_ev d l p) (Ev.bind (rat_ok d l p) ?_)
      simp only [if_pos (show i < (([a6, v] : List Int).length : Int) by simp; omega)]
      rw [reads_ok]
      simp only [Option.bind_some]
      refine Ev.bind (rreads_ok d l q) ?_
      simp only [if_true, bne_self_eq_false]
      exact j3
theorem match_l0 (h5 : I64 a5) (h6 : I64 a6) (hx : xs.length = 2) (m : Nat) : ∀ i : Int, 0 ≤ i → i ≤ 2 → 2 - i = m → Ev (fun k => dialtonelaw05_ClockMatchesReference.l0 k a5 a6 true xs i) true := by
  obtain ⟨p1, _, _⟩ := pick_ok a5 5000 h5 (by omega)
  obtain ⟨q1, _, _⟩ := pick_ok a6 5000 h6 (by omega)
  induction m with
  | zero =>
    intro i h0 h1 hm
    refine ⟨1, fun k hk => ?_⟩
    obtain ⟨k, rfl⟩ : ∃ q, k = q + 1 := ⟨k - 1, by omega⟩
    simp only [dialtonelaw05_ClockMatchesReference.l0]
    rw [if_neg (by omega)]
  | succ m ih =>
    intro i h0 h1 hm
    have next := ih (i + 1) (by omega) (by omega) (by omega)
    obtain ⟨d, hd⟩ : ∃ d, (rd_T24 xs i).f0 = d := ⟨_, rfl⟩
    obtain ⟨l, hl⟩ : ∃ l, (rd_T24 xs i).f1 = l := ⟨_, rfl⟩
    refine Ev.step (f := fun k => (clock_Valid.f k d l).bind fun t263 => ((dialtoneref05_Valid.f k d l).bind fun t264 => (if (t263 != t264) = true then (none) else ((dialtonelaw05_pick.f a5 5000).bind fun t265 => ((dialtonelaw05_pick.f a6 5000).bind fun t269 => (dialtonelaw05_ClockMatchesReference.l1 k a5 a6 true xs i (([a5, t265] : List Int)) (([a6, t269] : List Int)) 0 d l)))))) (fun k => ?_) ?_
    · simp only [dialtonelaw05_ClockMatchesReference.l0]
      rw [if_pos (by omega), if_pos h0, if_pos (by omega), hd, hl]
    · refine Ev.bind (valid_ev d l) (Ev.bind (rvalid_ok d l) ?_)
      simp only [bne_self_eq_false, Bool.false_eq_true, if_false]
      rw [p1]
      simp only [Option.bind_some]
      rw [q1]
      simp only [Option.bind_some]
      refine match_l1 a5 a6 xs i _ _ d l 2 ?_ 0 (by omega) (by omega) (by omega)
      rw [wrap64_id (i + 1) (by omega) (by omega)]
      exact next
end
theorem matches_ok (d0 : Int) (l0 : List S50) (drift start : Int) (rates : List Int) (at_ : List S60) (loc t : Int) (ls : List S32) (hd : I64 drift) (hs : I64 start) (hr : ∀ r, r ∈ rates → I64 r) (hlr : rates.length * 8 ≤ 140737488351232) (ha : ∀ x, x ∈ at_ → I64 x.f0 ∧ I64 x.f1 ∧ I64 x.f2) (hla : at_.length * 24 ≤ 140737488351232) (hl : I64 loc) (ht : I64 t) (_ : ∀ x, x ∈ ls → I64 x.f0 ∧ I64 x.f1) (_ : ls.length * 16 ≤ 140737488351232) :
    Ev (fun k => dialtonelaw05_ClockMatchesReference.f k d0 l0 drift start rates at_ loc t ls) true := by
  unfold dialtonelaw05_ClockMatchesReference.f
  refine Ev.bind sane_ok ?_
  simp only [if_true]
  refine Ev.bind (spread_ev drift loc) (Ev.bind (rspread_ok drift loc) ?_)
  have hmn : 0 ≤ mn (ls.length : Int) 20 ∧ mn (ls.length : Int) 20 ≤ ls.length ∧ mn (ls.length : Int) 20 ≤ 20 := by
    unfold mn
    split <;> omega
  simp only [if_pos hmn.1, if_pos hmn.2.1]
  obtain ⟨ys, hys⟩ : ∃ ys, ls.take (mn (ls.length : Int) 20).toNat = ys := ⟨_, rfl⟩
  have hlen : ys.length ≤ 400 := by
    rw [← hys, List.length_take]
    omega
  rw [hys]
  obtain ⟨a, b, c, e1, e2⟩ := agree_ok ys hlen
  obtain ⟨a', b', c', e3, e4⟩ := ragree_ok ys hlen
  obtain ⟨rfl, rfl, rfl⟩ := e2.unique e4
  refine Ev.bind e1 (Ev.bind e3 ?_)
  simp only [if_true, beq_self_eq_true, Bool.not_true, Bool.or_self, Bool.false_eq_true, if_false, bne_self_eq_false]
  obtain ⟨R, e5, fit⟩ := made_ok drift start rates at_ hd hs hr (by omega) ha (by omega)
  refine Ev.step (f := fun k => (dialtonelaw05_few.f d0 l0).bind fun bt250 => ((dialtoneref05_Made.f k drift start rates at_).bind fun bt254 => (dialtonelaw05_ClockMatchesReference.l0 k loc t true (([(⟨bt250.1, bt250.2⟩ : S24), (⟨bt254.1, bt254.2⟩ : S24)] : List (S24))) 0))) (fun k => ?_) ?_
  · simp only [dialtonelaw05_ClockMatchesReference.j0]
    rw [if_neg (by simp)]
  · unfold dialtonelaw05_few.f
    simp only [Option.bind_some]
    refine Ev.bind e5 ?_
    exact match_l0 loc t _ hl ht rfl 2 0 (by omega) (by omega) (by omega)
end Go.Proofs.Ythbonailomfjlaa.C
