-- Written for this claim by a program of this session (wip/tools/hprint.py) out of the translation. Lean checks it.
import Derived.Test.YthbonailomfjlaaCKinds
namespace Go.Proofs.Ythbonailomfjlaa.C
open Go.RowKit Go.Proofs.YthbonailomfjlaaW.PrintWords Go.Proofs.YthbonailomfjlaaW.PrintLast Go.Proofs.YthbonailomfjlaaW.PrintMore
attribute [local go_sem] max2_int min2_int max_two min_two max_three min_three max_four min_four   -- for this text's walks alone
set_option linter.unusedVariables false
set_option linter.unusedSimpArgs false

/-! ### clock_Spread: function 11 -/
def clock_Spread.j0 : Nat → Int → Int → Bool → Option (Int × Int)
 | 0, _, _, _ => none
 | k + 1, x0, x1, x20 => if x20 = true then (some (0, 0)) else (if x1 > 0 then (if (wrap64 (1000 + x0)) = 0 then (none) else (if (wrap64 (1000 - x0)) = 0 then (none) else (some (wrap64 ((wrap64 (Int.tdiv (wrap64 (1000 * (wrap64 (x1 - 1)))) (wrap64 (1000 + x0)))) + 1), wrap64 (Int.tdiv (wrap64 ((wrap64 (1000 * (wrap64 (x1 + 1)))) - 1)) (wrap64 (1000 - x0))))))) else (if (wrap64 (1000 - x0)) = 0 then (none) else (some (0, wrap64 (Int.tdiv (wrap64 ((wrap64 (1000 * (wrap64 (x1 + 1)))) - 1)) (wrap64 (1000 - x0)))))))
def clock_Spread.f (k : Nat) (a0 : Int) (a1 : Int) : Option (Int × Int) := if a0 < 0 then (clock_Spread.j0 k a0 a1 true) else (if a0 > 100 then (clock_Spread.j0 k a0 a1 true) else (if a1 < 0 then (clock_Spread.j0 k a0 a1 true) else (clock_Spread.j0 k a0 a1 (decide (a1 > 10000000)))))
theorem clock_Spread.mono_l : ∀ k, (∀ y0 y1 y2, LeO (clock_Spread.j0 k y0 y1 y2) (clock_Spread.j0 (k + 1) y0 y1 y2))
 | 0 => fun _ _ _ r h => by simp [clock_Spread.j0] at h
 | k + 1 => by
  have ih0 := clock_Spread.mono_l k
  ·
   intro y0 y1 y2
   unfold clock_Spread.j0
   repeat' first
   | (with_reducible exact ih0 _ _ _)
   | (with_reducible exact LeO.refl _)
   | (with_reducible exact LeO.none _)
   | (with_reducible refine LeO.ite ?_ ?_)
   | (with_reducible refine LeO.bind ?_ (fun _ => ?_))
   | exact ih0 _ _ _
   | exact LeO.none _
   | refine LeO.ite ?_ ?_
   | refine LeO.bind ?_ (fun _ => ?_)
theorem clock_Spread.mono : ∀ a0 a1 k, LeO (clock_Spread.f k a0 a1) (clock_Spread.f (k + 1) a0 a1) := by
 intro a0 a1 k
 have ih0 := clock_Spread.mono_l k
 unfold clock_Spread.f
 repeat' first
   | (with_reducible exact ih0 _ _ _)
   | (with_reducible exact LeO.refl _)
   | (with_reducible exact LeO.none _)
   | (with_reducible refine LeO.ite ?_ ?_)
   | (with_reducible refine LeO.bind ?_ (fun _ => ?_))
   | exact ih0 _ _ _
   | exact LeO.none _
   | refine LeO.ite ?_ ?_
   | refine LeO.bind ?_ (fun _ => ?_)
set_option maxHeartbeats 8000000 in
set_option maxRecDepth 100000 in
theorem clock_Spread.calls (k : Nat) (a0 : Int) (a1 : Int) (r1 : Int) (r2 : Int) (w : World) (h : clock_Spread.f k a0 a1 = some (r1, r2)) :
  Calls Try.prog 11 #[.int .i64 a0, .int .i64 a1] w fun e w' => e = .returned (.tuple #[.int .i64 r1, .int .i64 r2]) ∧ Drawn0 w w' := by
 have H : (if a0 < 0 then (clock_Spread.j0 k a0 a1 true) else (if a0 > 100 then (clock_Spread.j0 k a0 a1 true) else (if a1 < 0 then (clock_Spread.j0 k a0 a1 true) else (clock_Spread.j0 k a0 a1 (decide (a1 > 10000000)))))) = some (r1, r2) := h
 clear h
 have HC3 := Aside0.mk H
 clear H
 go_enter Try.func11, Try.ntmps11
 go_upto_region 1 with (fail)
 repeat (go_quiet (fail); go_upto_region 1 with (fail))
 go_cut [20] (fun v20 wc => ∃ (kq : Nat) (x20_2 : Bool), v20 = .bool x20_2 ∧ Aside0 (clock_Spread.j0 kq a0 a1 x20_2 = some (r1, r2)) ∧ Aside0 (kq ≤ k) ∧ Drawn0 w wc)
 case first =>
  have H := HC3.out
  clear HC3
  by_cases c4 : a0 < 0
  ·
   rw [if_pos c4] at H
   have c4b0 : decide (a0 < 0) = true := decide_eq_true c4
   clear c4
   (first | rw [c4b0] | (simp only [i64_w, i32_w]; rw [c4b0]) | skip)
   have H' := Aside0.mk H
   clear H
   go_wp2
   repeat (go_quiet (fail); try go_wp2)
   go_meet
   case rel => exact ⟨_, (true), (by first | rfl | (simp; done) | (simp [*]; done)), H', ⟨by first | omega | exact Nat.le_refl _⟩, by repeat (first | exact Drawn0.refl _ | apply Drawn0.step)⟩
  ·
   rw [if_neg c4] at H
   have c4b0 : decide (a0 < 0) = false := decide_eq_false c4
   clear c4
   (first | rw [c4b0] | (simp only [i64_w, i32_w]; rw [c4b0]) | skip)
   by_cases c5 : a0 > 100
   ·
    rw [if_pos c5] at H
    have c5b0 : decide (100 < a0) = true := decide_eq_true c5
    clear c5
    have H' := Aside0.mk H
    clear H
    go_wp2
    repeat (go_quiet (fail); try go_wp2)
    go_meet
    case rel => exact ⟨_, (true), (by first | rfl | (simp; done) | (simp [*]; done)), H', ⟨by first | omega | exact Nat.le_refl _⟩, by repeat (first | exact Drawn0.refl _ | apply Drawn0.step)⟩
   ·
    rw [if_neg c5] at H
    have c5b0 : decide (100 < a0) = false := decide_eq_false c5
    clear c5
    by_cases c6 : a1 < 0
    ·
     rw [if_pos c6] at H
     have c6b0 : decide (a1 < 0) = true := decide_eq_true c6
     clear c6
     have H' := Aside0.mk H
     clear H
     go_wp2
     repeat (go_quiet (fail); try go_wp2)
     go_meet
     case rel => exact ⟨_, (true), (by first | rfl | (simp; done) | (simp [*]; done)), H', ⟨by first | omega | exact Nat.le_refl _⟩, by repeat (first | exact Drawn0.refl _ | apply Drawn0.step)⟩
    ·
     rw [if_neg c6] at H
     have c6b0 : decide (a1 < 0) = false := decide_eq_false c6
     clear c6
     have H' := Aside0.mk H
     clear H
     go_wp2
     repeat (go_quiet (fail); try go_wp2)
     go_meet
     case rel => exact ⟨_, (decide (a1 > 10000000)), (by first | rfl | (simp; done) | (simp [*]; done)), H', ⟨by first | omega | exact Nat.le_refl _⟩, by repeat (first | exact Drawn0.refl _ | apply Drawn0.step)⟩
 case rest =>
  clear HC3
  try clear c1
  try clear p2
  try clear c4
  try clear c4b0
  try clear c5
  try clear c5b0
  try clear c6
  try clear c6b0
  obtain ⟨kq, x20_2, rfl, HA, HJ2, ⟨mc2, rfl⟩⟩ := hcut
  cases kq with
  | zero => exact absurd HA.out (by simp [clock_Spread.j0])
  | succ kj2 =>
   have H := HA.out
   clear HA
   simp only [clock_Spread.j0] at H
   by_cases c7 : x20_2 = true
   ·
    subst c7
    have H1 : (some (0, 0)) = some (r1, r2) := by rw [if_pos rfl] at H; exact H
    clear H
    have H := H1
    clear H1
    simp only [Option.some.injEq, Prod.mk.injEq] at H
    obtain ⟨rfl, rfl⟩ := H
    go_wp2
    repeat (go_quiet (fail); try go_wp2)
    go_ret2
    exact ⟨by first | rfl | (simp; done) | (simp [*]; done), by repeat (first | exact Drawn0.refl _ | apply Drawn0.step)⟩
   ·
    replace c7 := Bool.eq_false_iff.mpr c7
    subst c7
    have H1 : (if a1 > 0 then (if (wrap64 (1000 + a0)) = 0 then (none) else (if (wrap64 (1000 - a0)) = 0 then (none) else (some (wrap64 ((wrap64 (Int.tdiv (wrap64 (1000 * (wrap64 (a1 - 1)))) (wrap64 (1000 + a0)))) + 1), wrap64 (Int.tdiv (wrap64 ((wrap64 (1000 * (wrap64 (a1 + 1)))) - 1)) (wrap64 (1000 - a0))))))) else (if (wrap64 (1000 - a0)) = 0 then (none) else (some (0, wrap64 (Int.tdiv (wrap64 ((wrap64 (1000 * (wrap64 (a1 + 1)))) - 1)) (wrap64 (1000 - a0))))))) = some (r1, r2) := by rw [if_neg (show ¬ (false = true) by decide)] at H; exact H
    clear H
    have H := H1
    clear H1
    by_cases c8 : a1 > 0
    ·
     rw [if_pos c8] at H
     have c8b0 : decide (0 < a1) = true := decide_eq_true c8
     clear c8
     by_cases c9 : (wrap64 (1000 + a0)) = 0
     ·
      rw [if_pos c9] at H
      exact absurd H (by simp)
     ·
      rw [if_neg c9] at H
      have c9b0 : ((wrap64 (1000 + a0)) == 0) = false := beq_eq_false_iff_ne.mpr c9
      have c9b1 : ((wrap64 (1000 + a0)) != 0) = true := bne_iff_ne.mpr c9
      by_cases c10 : (wrap64 (1000 - a0)) = 0
      ·
       rw [if_pos c10] at H
       exact absurd H (by simp)
      ·
       rw [if_neg c10] at H
       have c10b0 : ((wrap64 (1000 - a0)) == 0) = false := beq_eq_false_iff_ne.mpr c10
       have c10b1 : ((wrap64 (1000 - a0)) != 0) = true := bne_iff_ne.mpr c10
       simp only [Option.some.injEq, Prod.mk.injEq] at H
       obtain ⟨rfl, rfl⟩ := H
       go_wp2
       repeat (go_quiet (fail); try go_wp2)
       go_ret2
       exact ⟨by first | rfl | (simp; done) | (simp [*]; done), by repeat (first | exact Drawn0.refl _ | apply Drawn0.step)⟩
    ·
     rw [if_neg c8] at H
     have c8b0 : decide (0 < a1) = false := decide_eq_false c8
     clear c8
     by_cases c11 : (wrap64 (1000 - a0)) = 0
     ·
      rw [if_pos c11] at H
      exact absurd H (by simp)
     ·
      rw [if_neg c11] at H
      have c11b0 : ((wrap64 (1000 - a0)) == 0) = false := beq_eq_false_iff_ne.mpr c11
      have c11b1 : ((wrap64 (1000 - a0)) != 0) = true := bne_iff_ne.mpr c11
      simp only [Option.some.injEq, Prod.mk.injEq] at H
      obtain ⟨rfl, rfl⟩ := H
      go_wp2
      repeat (go_quiet (fail); try go_wp2)
      go_ret2
      exact ⟨by first | rfl | (simp; done) | (simp [*]; done), by repeat (first | exact Drawn0.refl _ | apply Drawn0.step)⟩

end Go.Proofs.Ythbonailomfjlaa.C
