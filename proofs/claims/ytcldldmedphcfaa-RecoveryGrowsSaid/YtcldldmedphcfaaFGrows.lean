-- Written for this claim by a program of this session (wip/tools/hprint.py) out of the translation. Lean checks it.
import Derived.Test.YtcldldmedphcfaaCKinds
import Derived.Test.YtcldldmedphcfaaCSame
import Derived.Test.YtcldldmedphcfaaCSane
import Derived.Test.YtcldldmedphcfaaCMade
import Derived.Test.YtcldldmedphcfaaCAttempts
import Derived.Test.YtcldldmedphcfaaHPick
import Derived.Test.YtcldldmedphcfaaHPlan
namespace Go.Proofs.Ytcldldmedphcfaa.C
open Go.RowKit Go.Proofs.YtcldldmedphcfaaW.PrintWords Go.Proofs.YtcldldmedphcfaaW.PrintLast Go.Proofs.YtcldldmedphcfaaW.PrintMore
attribute [local go_sem] max2_int min2_int max_two min_two max_three min_three max_four min_four   -- for this text's walks alone
set_option linter.unusedVariables false
set_option linter.unusedSimpArgs false

/-! ### dialtonelaw34_RecoveryGrows: function 11 -/
mutual
def dialtonelaw34_RecoveryGrows.l0 : Nat → Int → Int → Int → Bool → List (S60) → List (S39) → Int → Int → Int → List (S67) → Int → Option (Bool)
 | 0, _, _, _, _, _, _, _, _, _, _, _ => none
 | k + 1, x3, x4, x5, x13, x15, x16, x17, x18, x19, x644000, x644001 => if x19 < (x15.length : Int) then (if 0 ≤ x19 then (dialtonelaw34_RecoveryGrows.l0 k x3 x4 x5 x13 x15 x16 x17 (mx x18 ((rd_T60 x15 x19).f1)) (wrap64 (x19 + 1)) x644000 x644001) else (none)) else ((dialtonelaw34_pick.f x3 10).bind fun t652 => ((some (([(⟨99, wrap64 ((wrap64 (x18 + 1)) + t652), false⟩ : S60)] : List (S60)) : List (S60))).bind fun y653 => (if y653.length + x15.length < 5864062014805 then ((recovery_Plan.f x644000 x644001 (y653 ++ x15)).bind fun bt659 => (if x17 = 0 then (if bt659.2 = 0 then (if (bt659.1.length : Int) = (wrap64 ((x16.length : Int) + 1)) then (if 0 ≤ (x16.length : Int) then (if (x16.length : Int) ≤ (bt659.1.length : Int) then ((dialtoneref34_Same.f k (bt659.1.take ((x16.length : Int) : Int).toNat) x16).bind fun t667 => (if t667 = true then (if (x16.length : Int) < (bt659.1.length : Int) then (dialtonelaw34_RecoveryGrows.j1 k x4 x5 x13 x15 x16 (((rd_T39 bt659.1 (x16.length : Int)).f0) != 99) x644000 x644001) else (none)) else (dialtonelaw34_RecoveryGrows.j1 k x4 x5 x13 x15 x16 true x644000 x644001))) else (none)) else (none)) else (dialtonelaw34_RecoveryGrows.j1 k x4 x5 x13 x15 x16 true x644000 x644001)) else (dialtonelaw34_RecoveryGrows.j1 k x4 x5 x13 x15 x16 true x644000 x644001)) else (dialtonelaw34_RecoveryGrows.j1 k x4 x5 x13 x15 x16 true x644000 x644001))) else (none))))
def dialtonelaw34_RecoveryGrows.j1 : Nat → Int → Int → Bool → List (S60) → List (S39) → Bool → List (S67) → Int → Option (Bool)
 | 0, _, _, _, _, _, _, _, _ => none
 | k + 1, x4, x5, x13, x15, x16, x99, x644000, x644001 => if x99 = true then (none) else ((some (([] : List (S67)) : List (S67))).bind fun y669 => (if y669.length + x644000.length < 8796093022208 then ((some (y669 ++ x644000 : List (S67))).bind fun y672 => ((dialtonelaw34_pick.f x4 (y672.length : Int)).bind fun t676 => (dialtonelaw34_RecoveryGrows.l1 k x5 x13 x15 x16 t676 y672 x644001))) else (none)))
def dialtonelaw34_RecoveryGrows.l1 : Nat → Int → Bool → List (S60) → List (S39) → Int → List (S67) → Int → Option (Bool)
 | 0, _, _, _, _, _, _, _ => none
 | k + 1, x5, x13, x15, x16, x23, x676000, x676001 => if x23 < (x676000.length : Int) then (if 0 ≤ x23 then ((dialtonelaw34_pick.f x5 4).bind fun t678 => (dialtonelaw34_RecoveryGrows.l1 k x5 x13 x15 x16 (wrap64 (x23 + 1)) (x676000.set (x23 : Int).toNat (⟨(rd_T67 x676000 x23).f0, mn (wrap64 (((rd_T67 x676000 x23).f1) + t678)) 20⟩ : S67)) x676001)) else (none)) else ((recovery_Plan.f x676000 x676001 x15).bind fun bt680 => (if bt680.2 = 0 then (dialtonelaw34_RecoveryGrows.j3 k x13 x16 bt680.1 ((bt680.1.length : Int) != (x16.length : Int))) else (dialtonelaw34_RecoveryGrows.j3 k x13 x16 bt680.1 true)))
def dialtonelaw34_RecoveryGrows.j3 : Nat → Bool → List (S39) → List (S39) → Bool → Option (Bool)
 | 0, _, _, _, _ => none
 | k + 1, x13, x16, x24, x148 => if x148 = true then (none) else (dialtonelaw34_RecoveryGrows.l2 k x13 x16 x24 0)
def dialtonelaw34_RecoveryGrows.l2 : Nat → Bool → List (S39) → List (S39) → Int → Option (Bool)
 | 0, _, _, _, _ => none
 | k + 1, x13, x16, x24, x26 => if x26 < (x16.length : Int) then (if 0 ≤ x26 then (if x26 < (x24.length : Int) then (if ((rd_T39 x24 x26).f0) = ((rd_T39 x16 x26).f0) then (dialtonelaw34_RecoveryGrows.j5 k x13 x16 x24 x26 (decide (((rd_T39 x24 x26).f2) > ((rd_T39 x16 x26).f2)))) else (dialtonelaw34_RecoveryGrows.j5 k x13 x16 x24 x26 true)) else (none)) else (none)) else (some x13)
def dialtonelaw34_RecoveryGrows.j5 : Nat → Bool → List (S39) → List (S39) → Int → Bool → Option (Bool)
 | 0, _, _, _, _, _ => none
 | k + 1, x13, x16, x24, x26, x178 => if x178 = true then (none) else (dialtonelaw34_RecoveryGrows.l2 k x13 x16 x24 (wrap64 (x26 + 1)))
end
def dialtonelaw34_RecoveryGrows.f (k : Nat) (l0 : List (S71)) (a1 : Int) (l2 : List (S71)) (a3 : Int) (a4 : Int) (a5 : Int) : Option (Bool) := (dialtonelaw34_sane.f k).bind fun t638 => (if t638 = true then ((dialtoneref34_Made.f k l0 a1).bind fun bt639 => ((dialtoneref34_Attempts.f k l2).bind fun t644 => ((recovery_Plan.f bt639.1 bt639.2 t644).bind fun bt647 => (dialtonelaw34_RecoveryGrows.l0 k a3 a4 a5 t638 t644 bt647.1 bt647.2 0 0 bt639.1 bt639.2)))) else (none))
theorem dialtonelaw34_RecoveryGrows.mono_l : ∀ k, (∀ y0 y1 y2 y3 y4 y5 y6 y7 y8 y9 y10, LeO (dialtonelaw34_RecoveryGrows.l0 k y0 y1 y2 y3 y4 y5 y6 y7 y8 y9 y10) (dialtonelaw34_RecoveryGrows.l0 (k + 1) y0 y1 y2 y3 y4 y5 y6 y7 y8 y9 y10)) ∧ (∀ y0 y1 y2 y3 y4 y5 y6 y7, LeO (dialtonelaw34_RecoveryGrows.j1 k y0 y1 y2 y3 y4 y5 y6 y7) (dialtonelaw34_RecoveryGrows.j1 (k + 1) y0 y1 y2 y3 y4 y5 y6 y7)) ∧ (∀ y0 y1 y2 y3 y4 y5 y6, LeO (dialtonelaw34_RecoveryGrows.l1 k y0 y1 y2 y3 y4 y5 y6) (dialtonelaw34_RecoveryGrows.l1 (k + 1) y0 y1 y2 y3 y4 y5 y6)) ∧ (∀ y0 y1 y2 y3, LeO (dialtonelaw34_RecoveryGrows.j3 k y0 y1 y2 y3) (dialtonelaw34_RecoveryGrows.j3 (k + 1) y0 y1 y2 y3)) ∧ (∀ y0 y1 y2 y3, LeO (dialtonelaw34_RecoveryGrows.l2 k y0 y1 y2 y3) (dialtonelaw34_RecoveryGrows.l2 (k + 1) y0 y1 y2 y3)) ∧ (∀ y0 y1 y2 y3 y4, LeO (dialtonelaw34_RecoveryGrows.j5 k y0 y1 y2 y3 y4) (dialtonelaw34_RecoveryGrows.j5 (k + 1) y0 y1 y2 y3 y4))
 | 0 => ⟨fun _ _ _ _ _ _ _ _ _ _ _ r h => by simp [dialtonelaw34_RecoveryGrows.l0] at h, fun _ _ _ _ _ _ _ _ r h => by simp [dialtonelaw34_RecoveryGrows.j1] at h, fun _ _ _ _ _ _ _ r h => by simp [dialtonelaw34_RecoveryGrows.l1] at h, fun _ _ _ _ r h => by simp [dialtonelaw34_RecoveryGrows.j3] at h, fun _ _ _ _ r h => by simp [dialtonelaw34_RecoveryGrows.l2] at h, fun _ _ _ _ _ r h => by simp [dialtonelaw34_RecoveryGrows.j5] at h⟩
 | k + 1 => by
  obtain ⟨ih0, ih1, ih2, ih3, ih4, ih5⟩ := dialtonelaw34_RecoveryGrows.mono_l k
  refine ⟨?_, ?_, ?_, ?_, ?_, ?_⟩
  ·
   intro y0 y1 y2 y3 y4 y5 y6 y7 y8 y9 y10
   unfold dialtonelaw34_RecoveryGrows.l0
   repeat' first
   | (with_reducible exact ih0 _ _ _ _ _ _ _ _ _ _ _)
   | (with_reducible exact ih1 _ _ _ _ _ _ _ _)
   | (with_reducible exact ih2 _ _ _ _ _ _ _)
   | (with_reducible exact ih3 _ _ _ _)
   | (with_reducible exact ih4 _ _ _ _)
   | (with_reducible exact ih5 _ _ _ _ _)
   | (with_reducible exact dialtonelaw34_sane.mono _)
   | (with_reducible exact dialtoneref34_Attempts.mono _ _)
   | (with_reducible exact dialtoneref34_Made.mono _ _ _)
   | (with_reducible exact dialtoneref34_Same.mono _ _ _)
   | (with_reducible exact LeO.refl _)
   | (with_reducible exact LeO.none _)
   | (with_reducible refine LeO.ite ?_ ?_)
   | (with_reducible refine LeO.bind ?_ (fun _ => ?_))
   | exact ih0 _ _ _ _ _ _ _ _ _ _ _
   | exact ih1 _ _ _ _ _ _ _ _
   | exact ih2 _ _ _ _ _ _ _
   | exact ih3 _ _ _ _
   | exact ih4 _ _ _ _
   | exact ih5 _ _ _ _ _
   | exact dialtonelaw34_sane.mono _
   | exact dialtoneref34_Attempts.mono _ _
   | exact dialtoneref34_Made.mono _ _ _
   | exact dialtoneref34_Same.mono _ _ _
   | exact LeO.none _
   | refine LeO.ite ?_ ?_
   | refine LeO.bind ?_ (fun _ => ?_)
  ·
   intro y0 y1 y2 y3 y4 y5 y6 y7
   unfold dialtonelaw34_RecoveryGrows.j1
   repeat' first
   | (with_reducible exact ih0 _ _ _ _ _ _ _ _ _ _ _)
   | (with_reducible exact ih1 _ _ _ _ _ _ _ _)
   | (with_reducible exact ih2 _ _ _ _ _ _ _)
   | (with_reducible exact ih3 _ _ _ _)
   | (with_reducible exact ih4 _ _ _ _)
   | (with_reducible exact ih5 _ _ _ _ _)
   | (with_reducible exact dialtonelaw34_sane.mono _)
   | (with_reducible exact dialtoneref34_Attempts.mono _ _)
   | (with_reducible exact dialtoneref34_Made.mono _ _ _)
   | (with_reducible exact dialtoneref34_Same.mono _ _ _)
   | (with_reducible exact LeO.refl _)
   | (with_reducible exact LeO.none _)
   | (with_reducible refine LeO.ite ?_ ?_)
   | (with_reducible refine LeO.bind ?_ (fun _ => ?_))
   | exact ih0 _ _ _ _ _ _ _ _ _ _ _
   | exact ih1 _ _ _ _ _ _ _ _
   | exact ih2 _ _ _ _ _ _ _
   | exact ih3 _ _ _ _
   | exact ih4 _ _ _ _
   | exact ih5 _ _ _ _ _
   | exact dialtonelaw34_sane.mono _
   | exact dialtoneref34_Attempts.mono _ _
   | exact dialtoneref34_Made.mono _ _ _
   | exact dialtoneref34_Same.mono _ _ _
   | exact LeO.none _
   | refine LeO.ite ?_ ?_
   | refine LeO.bind ?_ (fun _ => ?_)
  ·
   intro y0 y1 y2 y3 y4 y5 y6
   unfold dialtonelaw34_RecoveryGrows.l1
   repeat' first
   | (with_reducible exact ih0 _ _ _ _ _ _ _ _ _ _ _)
   | (with_reducible exact ih1 _ _ _ _ _ _ _ _)
   | (with_reducible exact ih2 _ _ _ _ _ _ _)
   | (with_reducible exact ih3 _ _ _ _)
   | (with_reducible exact ih4 _ _ _ _)
   | (with_reducible exact ih5 _ _ _ _ _)
   | (with_reducible exact dialtonelaw34_sane.mono _)
   | (with_reducible exact dialtoneref34_Attempts.mono _ _)
   | (with_reducible exact dialtoneref34_Made.mono _ _ _)
   | (with_reducible exact dialtoneref34_Same.mono _ _ _)
   | (with_reducible exact LeO.refl _)
   | (with_reducible exact LeO.none _)
   | (with_reducible refine LeO.ite ?_ ?_)
   | (with_reducible refine LeO.bind ?_ (fun _ => ?_))
   | exact ih0 _ _ _ _ _ _ _ _ _ _ _
   | exact ih1 _ _ _ _ _ _ _ _
   | exact ih2 _ _ _ _ _ _ _
   | exact ih3 _ _ _ _
   | exact ih4 _ _ _ _
   | exact ih5 _ _ _ _ _
   | exact dialtonelaw34_sane.mono _
   | exact dialtoneref34_Attempts.mono _ _
   | exact dialtoneref34_Made.mono _ _ _
   | exact dialtoneref34_Same.mono _ _ _
   | exact LeO.none _
   | refine LeO.ite ?_ ?_
   | refine LeO.bind ?_ (fun _ => ?_)
  ·
   intro y0 y1 y2 y3
   unfold dialtonelaw34_RecoveryGrows.j3
   repeat' first
   | (with_reducible exact ih0 _ _ _ _ _ _ _ _ _ _ _)
   | (with_reducible exact ih1 _ _ _ _ _ _ _ _)
   | (with_reducible exact ih2 _ _ _ _ _ _ _)
   | (with_reducible exact ih3 _ _ _ _)
   | (with_reducible exact ih4 _ _ _ _)
   | (with_reducible exact ih5 _ _ _ _ _)
   | (with_reducible exact dialtonelaw34_sane.mono _)
   | (with_reducible exact dialtoneref34_Attempts.mono _ _)
   | (with_reducible exact dialtoneref34_Made.mono _ _ _)
   | (with_reducible exact dialtoneref34_Same.mono _ _ _)
   | (with_reducible exact LeO.refl _)
   | (with_reducible exact LeO.none _)
   | (with_reducible refine LeO.ite ?_ ?_)
   | (with_reducible refine LeO.bind ?_ (fun _ => ?_))
   | exact ih0 _ _ _ _ _ _ _ _ _ _ _
   | exact ih1 _ _ _ _ _ _ _ _
   | exact ih2 _ _ _ _ _ _ _
   | exact ih3 _ _ _ _
   | exact ih4 _ _ _ _
   | exact ih5 _ _ _ _ _
   | exact dialtonelaw34_sane.mono _
   | exact dialtoneref34_Attempts.mono _ _
   | exact dialtoneref34_Made.mono _ _ _
   | exact dialtoneref34_Same.mono _ _ _
   | exact LeO.none _
   | refine LeO.ite ?_ ?_
   | refine LeO.bind ?_ (fun _ => ?_)
  ·
   intro y0 y1 y2 y3
   unfold dialtonelaw34_RecoveryGrows.l2
   repeat' first
   | (with_reducible exact ih0 _ _ _ _ _ _ _ _ _ _ _)
   | (with_reducible exact ih1 _ _ _ _ _ _ _ _)
   | (with_reducible exact ih2 _ _ _ _ _ _ _)
   | (with_reducible exact ih3 _ _ _ _)
   | (with_reducible exact ih4 _ _ _ _)
   | (with_reducible exact ih5 _ _ _ _ _)
   | (with_reducible exact dialtonelaw34_sane.mono _)
   | (with_reducible exact dialtoneref34_Attempts.mono _ _)
   | (with_reducible exact dialtoneref34_Made.mono _ _ _)
   | (with_reducible exact dialtoneref34_Same.mono _ _ _)
   | (with_reducible exact LeO.refl _)
   | (with_reducible exact LeO.none _)
   | (with_reducible refine LeO.ite ?_ ?_)
   | (with_reducible refine LeO.bind ?_ (fun _ => ?_))
   | exact ih0 _ _ _ _ _ _ _ _ _ _ _
   | exact ih1 _ _ _ _ _ _ _ _
   | exact ih2 _ _ _ _ _ _ _
   | exact ih3 _ _ _ _
   | exact ih4 _ _ _ _
   | exact ih5 _ _ _ _ _
   | exact dialtonelaw34_sane.mono _
   | exact dialtoneref34_Attempts.mono _ _
   | exact dialtoneref34_Made.mono _ _ _
   | exact dialtoneref34_Same.mono _ _ _
   | exact LeO.none _
   | refine LeO.ite ?_ ?_
   | refine LeO.bind ?_ (fun _ => ?_)
  ·
   intro y0 y1 y2 y3 y4
   unfold dialtonelaw34_RecoveryGrows.j5
   repeat' first
   | (with_reducible exact ih0 _ _ _ _ _ _ _ _ _ _ _)
   | (with_reducible exact ih1 _ _ _ _ _ _ _ _)
   | (with_reducible exact ih2 _ _ _ _ _ _ _)
   | (with_reducible exact ih3 _ _ _ _)
   | (with_reducible exact ih4 _ _ _ _)
   | (with_reducible exact ih5 _ _ _ _ _)
   | (with_reducible exact dialtonelaw34_sane.mono _)
   | (with_reducible exact dialtoneref34_Attempts.mono _ _)
   | (with_reducible exact dialtoneref34_Made.mono _ _ _)
   | (with_reducible exact dialtoneref34_Same.mono _ _ _)
   | (with_reducible exact LeO.refl _)
   | (with_reducible exact LeO.none _)
   | (with_reducible refine LeO.ite ?_ ?_)
   | (with_reducible refine LeO.bind ?_ (fun _ => ?_))
   | exact ih0 _ _ _ _ _ _ _ _ _ _ _
   | exact ih1 _ _ _ _ _ _ _ _
   | exact ih2 _ _ _ _ _ _ _
   | exact ih3 _ _ _ _
   | exact ih4 _ _ _ _
   | exact ih5 _ _ _ _ _
   | exact dialtonelaw34_sane.mono _
   | exact dialtoneref34_Attempts.mono _ _
   | exact dialtoneref34_Made.mono _ _ _
   | exact dialtoneref34_Same.mono _ _ _
   | exact LeO.none _
   | refine LeO.ite ?_ ?_
   | refine LeO.bind ?_ (fun _ => ?_)
theorem dialtonelaw34_RecoveryGrows.mono : ∀ a0 a1 a2 a3 a4 a5 k, LeO (dialtonelaw34_RecoveryGrows.f k a0 a1 a2 a3 a4 a5) (dialtonelaw34_RecoveryGrows.f (k + 1) a0 a1 a2 a3 a4 a5) := by
 intro a0 a1 a2 a3 a4 a5 k
 obtain ⟨ih0, ih1, ih2, ih3, ih4, ih5⟩ := dialtonelaw34_RecoveryGrows.mono_l k
 unfold dialtonelaw34_RecoveryGrows.f
 repeat' first
   | (with_reducible exact ih0 _ _ _ _ _ _ _ _ _ _ _)
   | (with_reducible exact ih1 _ _ _ _ _ _ _ _)
   | (with_reducible exact ih2 _ _ _ _ _ _ _)
   | (with_reducible exact ih3 _ _ _ _)
   | (with_reducible exact ih4 _ _ _ _)
   | (with_reducible exact ih5 _ _ _ _ _)
   | (with_reducible exact dialtonelaw34_sane.mono _)
   | (with_reducible exact dialtoneref34_Attempts.mono _ _)
   | (with_reducible exact dialtoneref34_Made.mono _ _ _)
   | (with_reducible exact dialtoneref34_Same.mono _ _ _)
   | (with_reducible exact LeO.refl _)
   | (with_reducible exact LeO.none _)
   | (with_reducible refine LeO.ite ?_ ?_)
   | (with_reducible refine LeO.bind ?_ (fun _ => ?_))
   | exact ih0 _ _ _ _ _ _ _ _ _ _ _
   | exact ih1 _ _ _ _ _ _ _ _
   | exact ih2 _ _ _ _ _ _ _
   | exact ih3 _ _ _ _
   | exact ih4 _ _ _ _
   | exact ih5 _ _ _ _ _
   | exact dialtonelaw34_sane.mono _
   | exact dialtoneref34_Attempts.mono _ _
   | exact dialtoneref34_Made.mono _ _ _
   | exact dialtoneref34_Same.mono _ _ _
   | exact LeO.none _
   | refine LeO.ite ?_ ?_
   | refine LeO.bind ?_ (fun _ => ?_)
def dialtonelaw34_RecoveryGrows.T12 : Bool × List (List Nat × List Nat) := (true, [([], []), ([], []), ([1], [1]), ([], []), ([3], [3]), ([2, 4], [2, 4]), ([5], [5]), ([6], [6]), ([], []), ([7, 8, 4], [7, 8]), ([0, 9, 9], [0, 9]), ([10], [10]), ([11], [11]), ([11], [11]), ([12, 10, 0, 1, 2, 3, 4, 5, 6, 7, 8, 9, 10, 11, 12], [12]), ([13, 14, 0, 1, 2, 3, 4, 5, 6, 7, 8, 9, 10, 11, 12, 13, 14], [13])])
def dialtonelaw34_RecoveryGrows.B12 : List Nat := [0, 0, 2, 0, 8, 30, 62, 126, 0, 510, 1023, 2047, 4095, 4095, 8191, 32767]
theorem dialtonelaw34_RecoveryGrows.tab12 : rtab .any (opsOf Try.f11 12) = dialtonelaw34_RecoveryGrows.T12 := by kernel_rfl
theorem dialtonelaw34_RecoveryGrows.bits12 : waitsOk dialtonelaw34_RecoveryGrows.T12.2 dialtonelaw34_RecoveryGrows.B12 = true := by kernel_rfl
def dialtonelaw34_RecoveryGrows.T15 : Bool × List (List Nat × List Nat) := (true, [([], []), ([], []), ([1], [1]), ([0, 2], [0, 2]), ([], []), ([4], [4]), ([3, 5], [3, 5]), ([], []), ([7, 6, 3, 0, 1, 2, 3, 4, 5, 6, 7], [6, 7])])
def dialtonelaw34_RecoveryGrows.B15 : List Nat := [0, 0, 2, 7, 0, 16, 63, 0, 255]
theorem dialtonelaw34_RecoveryGrows.tab15 : rtab .any (opsOf Try.f11 15) = dialtonelaw34_RecoveryGrows.T15 := by kernel_rfl
theorem dialtonelaw34_RecoveryGrows.bits15 : waitsOk dialtonelaw34_RecoveryGrows.T15.2 dialtonelaw34_RecoveryGrows.B15 = true := by kernel_rfl
def dialtonelaw34_RecoveryGrows.T19 : Bool × List (List Nat × List Nat) := (true, [([], []), ([0], [0]), ([], []), ([], []), ([3], [3]), ([], []), ([4, 5], [4, 5]), ([6], [6]), ([7], [7]), ([], []), ([9], [9]), ([8, 10], [8, 10]), ([11], [11]), ([1, 2, 0, 1, 2, 3, 4, 5, 6, 7, 8, 9, 10, 11, 12], [1, 2]), ([13, 0, 1, 2, 3, 4, 5, 6, 7, 8, 9, 10, 11, 12], [13]), ([14, 12, 10, 0, 1, 2, 3, 4, 5, 6, 7, 8, 9, 10, 11, 12], [12, 14])])
def dialtonelaw34_RecoveryGrows.B19 : List Nat := [0, 1, 0, 0, 8, 0, 56, 120, 248, 0, 512, 2040, 4088, 8191, 16383, 32767]
theorem dialtonelaw34_RecoveryGrows.tab19 : rtab .any (opsOf Try.f11 19) = dialtonelaw34_RecoveryGrows.T19 := by kernel_rfl
theorem dialtonelaw34_RecoveryGrows.bits19 : waitsOk dialtonelaw34_RecoveryGrows.T19.2 dialtonelaw34_RecoveryGrows.B19 = true := by kernel_rfl
def dialtonelaw34_RecoveryGrows.T26 : Bool × List (List Nat × List Nat) := (true, [([], []), ([], []), ([0, 1], [0, 1]), ([2], [2]), ([3], [3]), ([], []), ([], []), ([5, 6], [5, 6]), ([7], [7]), ([8], [8]), ([4, 9], [4, 9]), ([10], [10]), ([11], [11]), ([11], [11]), ([12, 13, 11], [11, 12, 13]), ([14, 11], [11, 14]), ([15, 11], [11, 15]), ([11], [11]), ([11], [11]), ([17, 18, 11], [11, 17, 18]), ([19, 11], [11, 19]), ([20, 11], [11, 20]), ([16, 21, 11], [11, 16, 21]), ([11, 22], [11, 22])])
def dialtonelaw34_RecoveryGrows.B26 : List Nat := [0, 0, 3, 7, 15, 0, 0, 96, 224, 480, 1023, 2047, 4095, 4095, 16383, 32767, 65535, 4095, 4095, 397311, 921599, 1970175, 4194303, 8388607]
theorem dialtonelaw34_RecoveryGrows.tab26 : rtab .any (opsOf Try.f11 26) = dialtonelaw34_RecoveryGrows.T26 := by kernel_rfl
theorem dialtonelaw34_RecoveryGrows.bits26 : waitsOk dialtonelaw34_RecoveryGrows.T26.2 dialtonelaw34_RecoveryGrows.B26 = true := by kernel_rfl
set_option maxHeartbeats 8000000 in
set_option maxRecDepth 100000 in
theorem dialtonelaw34_RecoveryGrows.calls (k : Nat) (A0 : Option Addr) (c0 : Nat) (l0 : List (S71)) (a1 : Int) (A2 : Option Addr) (c2 : Nat) (l2 : List (S71)) (a3 : Int) (a4 : Int) (a5 : Int) (r : Bool) (w : World) (hr0 : Kd.C k71 w A0 l0.length l0) (hc0 : l0.length ≤ c0) (hr2 : Kd.C k71 w A2 l2.length l2) (hc2 : l2.length ≤ c2) (h : dialtonelaw34_RecoveryGrows.f k l0 a1 l2 a3 a4 a5 = some r) :
  Calls Try.prog 11 #[.slice A0 l0.length c0, .int .i64 a1, .slice A2 l2.length c2, .int .i64 a3, .int .i64 a4, .int .i64 a5] w fun e w' => e = .returned (.bool r) ∧ Below w.heap.size w w' := by
 have hu26 := Try.underlying26
 have hu60 := Try.underlying60
 have HR0 := Aside0.mk hr0
 have HC0 := Aside0.mk hc0
 clear hr0 hc0
 have HR2 := Aside0.mk hr2
 have HC2 := Aside0.mk hc2
 clear hr2 hc2
 have HB := Aside0.mk (Below.refl w.heap.size w)
 have H : ((dialtonelaw34_sane.f k).bind fun t638 => (if t638 = true then ((dialtoneref34_Made.f k l0 a1).bind fun bt639 => ((dialtoneref34_Attempts.f k l2).bind fun t644 => ((recovery_Plan.f bt639.1 bt639.2 t644).bind fun bt647 => (dialtonelaw34_RecoveryGrows.l0 k a3 a4 a5 t638 t644 bt647.1 bt647.2 0 0 bt639.1 bt639.2)))) else (none))) = some r := h
 clear h
 replace H := Option.bind_eq_some_iff.mp H
 obtain ⟨t638, A70, H⟩ := H
 replace H : (if t638 = true then ((dialtoneref34_Made.f k l0 a1).bind fun bt639 => ((dialtoneref34_Attempts.f k l2).bind fun t644 => ((recovery_Plan.f bt639.1 bt639.2 t644).bind fun bt647 => (dialtonelaw34_RecoveryGrows.l0 k a3 a4 a5 t638 t644 bt647.1 bt647.2 0 0 bt639.1 bt639.2)))) else (none)) = some r := H
 have A7 := Aside0.mk A70
 clear A70
 by_cases c8 : t638 = true
 ·
  subst c8
  have H1 : ((dialtoneref34_Made.f k l0 a1).bind fun bt639 => ((dialtoneref34_Attempts.f k l2).bind fun t644 => ((recovery_Plan.f bt639.1 bt639.2 t644).bind fun bt647 => (dialtonelaw34_RecoveryGrows.l0 k a3 a4 a5 true t644 bt647.1 bt647.2 0 0 bt639.1 bt639.2)))) = some r := by rw [if_pos rfl] at H; exact H
  clear H
  have H := H1
  clear H1
  replace H := Option.bind_eq_some_iff.mp H
  obtain ⟨⟨t639, t642⟩, A90, H⟩ := H
  replace H : ((dialtoneref34_Attempts.f k l2).bind fun t644 => ((recovery_Plan.f t639 t642 t644).bind fun bt647 => (dialtonelaw34_RecoveryGrows.l0 k a3 a4 a5 true t644 bt647.1 bt647.2 0 0 t639 t642))) = some r := H
  have A9 := Aside0.mk A90
  clear A90
  replace H := Option.bind_eq_some_iff.mp H
  obtain ⟨t644, A100, H⟩ := H
  replace H : ((recovery_Plan.f t639 t642 t644).bind fun bt647 => (dialtonelaw34_RecoveryGrows.l0 k a3 a4 a5 true t644 bt647.1 bt647.2 0 0 t639 t642)) = some r := H
  have A10 := Aside0.mk A100
  clear A100
  replace H := Option.bind_eq_some_iff.mp H
  obtain ⟨⟨t647, t650⟩, A110, H⟩ := H
  replace H : (dialtonelaw34_RecoveryGrows.l0 k a3 a4 a5 true t644 t647 t650 0 0 t639 t642) = some r := H
  have A11 := Aside0.mk A110
  clear A110
  have H' := Aside0.mk H
  clear H
  go_enter Try.func11, Try.ntmps11
  go_wp2_with (first | ((with_reducible refine gate_callee (f := 13) rfl ?_); refine goesL_ (some 27) rfl rfl Try.func13 (by kernel_rfl) rfl #[] rfl (by (try simp only [List.map_toArray, List.map_cons, List.map_nil]); first | done | rfl | (simp only [List.length_drop, List.length_take]; rfl)) ?_; (with_reducible refine (dialtonelaw34_sane.calls k  true _ A7.out).mono ?_); rintro e w12 ⟨rfl, hb⟩; refine ⟨_, rfl, ?_⟩; have n0_ := Aside0.mk (below_step (by repeat (first | (with_reducible first | exact HB.out | apply below_alloc | apply pw_below_drewN | apply below_drew1) | exact HB.out)) hb); clear HB; have HB := n0_; clear n0_; (try clear hb); (try clear hb2); (try clear hk); (try clear hi)) | ((with_reducible refine gate_callee (f := 14) rfl ?_); refine goesL_ (some 32) rfl rfl Try.func14 (by kernel_rfl) rfl #[.slice A0 l0.length c0, .int .i64 a1] rfl (by (try simp only [List.map_toArray, List.map_cons, List.map_nil]); first | done | rfl | (simp only [List.length_drop, List.length_take]; rfl)) ?_; (with_reducible refine (dialtoneref34_Made.calls k _ _ l0 a1 t639 t642 _ ?side1 ?side2 A9.out).mono ?_); (case side1 => repeat (first | exact (Kd.C_below HR0.out HB.out) | (with_reducible refine Kd.C_alloc ?_ _) | (with_reducible refine Kd.C_drewN ?_ _) | (with_reducible refine Kd.C_drew ?_))); (case side2 => exact HC0.out); rintro e w13 ⟨v640, rfl, ho0, hb⟩; refine ⟨_, rfl, ?_⟩; have n0_ := Aside0.mk (Kd.R_lower ho0 (below_size (by repeat (first | (with_reducible first | exact HB.out | apply below_alloc | apply pw_below_drewN | apply below_drew1) | exact HB.out)))); have n1_ := Aside0.mk (below_step (by repeat (first | (with_reducible first | exact HB.out | apply below_alloc | apply pw_below_drewN | apply below_drew1) | exact HB.out)) hb); clear HB; have HO641 := n0_; have HB := n1_; clear n0_ n1_; (try clear hb); (try clear hb2); (try clear hk); (try clear hi); (try clear ho0)) | ((with_reducible refine gate_dst (N := 14) rfl ?_); (try (refine gate_guard (by rfl) ?_; dsimp only)); refine box_event ?hg (N := 14) ?hd (cs := #[.slice none 0 0, .int .i64 0]) (t := 26) ?hr ?_; (case hd => rfl); (case hg => rfl); (case hr => first | (go_simp; done) | (go_simp; rfl)); intro gb643 hg w14 hbox hb; have n0_ := Aside0.mk (Kd.R_below (by (with_reducible repeat (first | apply Kd.R_alloc | apply Kd.R_drewN | apply Kd.R_drew)); exact HO641.out) hb); have n1_ := Aside0.mk (below_step (by repeat (first | (with_reducible first | exact HB.out | apply below_alloc | apply pw_below_drewN | apply below_drew1) | exact HB.out)) hb); have n2_ := Aside0.mk (hbox); have n3_ := Aside0.mk ((by rw [hg]; exact (below_size (by repeat (first | (with_reducible first | exact HB.out | apply below_alloc | apply pw_below_drewN | apply below_drew1) | exact HB.out))) : w.heap.size ≤ gb643)); have n4_ := Aside0.mk ((by rw [hg]; exact (below_size (by repeat (first | (with_reducible first | exact HB.out | apply below_alloc | apply pw_below_drewN | apply below_drew1) | exact HB.out))) : w.heap.size ≤ gb643)); clear HO641; clear HB; have HO641 := n0_; have HB := n1_; have BK643 := n2_; have GW643 := n3_; have GE643 := n4_; clear n0_ n1_ n2_ n3_ n4_; clear hb hbox hg; obtain ⟨Ao15, co15, eo15⟩ := Kd.R_slice HO641.out; subst eo15; have hcz16_0 : w14.cell? ⟨gb643, 0, none⟩ = some (.slice none 0 0) := (blk_cell BK643.out 0).trans rfl; have hcz16_1 : w14.cell? ⟨gb643, 1, none⟩ = some (.int .i64 0) := (blk_cell BK643.out 1).trans rfl; have hfz16_0 := blk_frozen BK643.out 0; have hfz16_1 := blk_frozen BK643.out 1) | ((with_reducible refine gate_callee (f := 15) rfl ?_); refine goesL_ (some 34) rfl rfl Try.func15 (by kernel_rfl) rfl #[.slice A2 l2.length c2] rfl (by (try simp only [List.map_toArray, List.map_cons, List.map_nil]); first | done | rfl | (simp only [List.length_drop, List.length_take]; rfl)) ?_; (with_reducible refine (dialtoneref34_Attempts.calls k _ _ l2 t644 _ ?side1 ?side2 A10.out).mono ?_); (case side1 => exact Kd.C_below HR2.out (by repeat (first | (with_reducible first | exact HB.out | apply below_alloc | apply pw_below_drewN | apply below_drew1 | refine below_set ?_ GE643.out) | exact HB.out))); (case side2 => exact HC2.out); rintro e w17 ⟨v645, rfl, ho0, hb⟩; refine ⟨_, rfl, ?_⟩; have n0_ := Aside0.mk (Kd.R_below (by (with_reducible repeat (first | apply Kd.R_alloc | apply Kd.R_drewN | apply Kd.R_drew)); exact (Kd.R_mono (Kd.R_far (p := ⟨gb643, 1, none⟩) (Kd.R_far (p := ⟨gb643, 0, none⟩) (Kd.R_types HO641.out BK643.out (by decide)) (fun _ hk => hk.2) (.slice Ao15 t639.length co15)) (fun _ hk => hk.2) (.int .i64 t642)) (fun _ h_ => h_.1))) hb); have n1_ := Aside0.mk (Kd.R_lower ho0 (below_size (by repeat (first | (with_reducible first | exact HB.out | apply below_alloc | apply pw_below_drewN | apply below_drew1 | refine below_set ?_ GE643.out) | exact HB.out)))); have n2_ := Aside0.mk (blk_below (g := gb643) (o := .cells #[.slice Ao15 t639.length co15, .int .i64 t642] 26 (0, 0)) (by (with_reducible repeat (first | refine blk_drewN ?_ _ | refine blk_drew ?_ | refine blk_alloc ?_ _)); refine blk_put (cs := #[.slice Ao15 t639.length co15, .int .i64 0]) ?_ 1 _ rfl; (with_reducible repeat (first | refine blk_drewN ?_ _ | refine blk_drew ?_ | refine blk_alloc ?_ _)); refine blk_put (cs := #[.slice none 0 0, .int .i64 0]) ?_ 0 _ rfl; (with_reducible repeat (first | refine blk_drewN ?_ _ | refine blk_drew ?_ | refine blk_alloc ?_ _)); exact BK643.out) hb); have n3_ := Aside0.mk (below_step (by repeat (first | (with_reducible first | exact HB.out | apply below_alloc | apply pw_below_drewN | apply below_drew1 | refine below_set ?_ GE643.out) | exact HB.out)) hb); clear HO641; clear BK643; clear HB; have HO641 := n0_; have HO646 := n1_; have BK643 := n2_; have HB := n3_; clear n0_ n1_ n2_ n3_; (try clear hb); (try clear hb2); (try clear hk); (try clear hi); (try clear ho0); have hcz18_0 : w17.cell? ⟨gb643, 0, none⟩ = some (.slice Ao15 t639.length co15) := (blk_cell BK643.out 0).trans rfl; have hcz18_1 : w17.cell? ⟨gb643, 1, none⟩ = some (.int .i64 t642) := (blk_cell BK643.out 1).trans rfl; have hfz18_0 := blk_frozen BK643.out 0; have hfz18_1 := blk_frozen BK643.out 1; obtain ⟨Ao19, co19, eo19⟩ := Kd.R_slice HO646.out; subst eo19) | ((with_reducible refine gate_callee (f := 16) rfl ?_); refine goesL_ (some 38) rfl rfl Try.func16 (by kernel_rfl) rfl #[.agg #[.slice Ao15 t639.length co15, .int .i64 t642], .slice Ao19 t644.length co19] rfl (by (try simp only [List.map_toArray, List.map_cons, List.map_nil]); first | done | rfl | (simp only [List.length_drop, List.length_take]; rfl)) ?_; (with_reducible refine (recovery_Plan.calls _ _ t639 t642 _ _ t644 t647 t650 _ ?side1 ?side2 ?side3 ?side4 A11.out).mono ?_); (case side1 => repeat (first | exact (Kd.R_reads' HO641.out).2.2 | (with_reducible refine Kd.C_alloc ?_ _) | (with_reducible refine Kd.C_drewN ?_ _) | (with_reducible refine Kd.C_drew ?_))); (case side2 => exact (Kd.R_reads' HO641.out).2.1); (case side3 => repeat (first | exact (Kd.R_reads' HO646.out).2.2 | (with_reducible refine Kd.C_alloc ?_ _) | (with_reducible refine Kd.C_drewN ?_ _) | (with_reducible refine Kd.C_drew ?_))); (case side4 => exact (Kd.R_reads' HO646.out).2.1); rintro e w20 ⟨v648, rfl, ho0, hb⟩; refine ⟨_, rfl, ?_⟩; have n0_ := Aside0.mk (Kd.R_below (by (with_reducible repeat (first | apply Kd.R_alloc | apply Kd.R_drewN | apply Kd.R_drew)); exact HO641.out) hb); have n1_ := Aside0.mk (Kd.R_below (by (with_reducible repeat (first | apply Kd.R_alloc | apply Kd.R_drewN | apply Kd.R_drew)); exact HO646.out) hb); have n2_ := Aside0.mk (Kd.R_lower ho0 (below_size (by repeat (first | (with_reducible first | exact HB.out | apply below_alloc | apply pw_below_drewN | apply below_drew1 | refine below_set ?_ GE643.out) | exact HB.out)))); have n3_ := Aside0.mk (blk_below (g := gb643) (o := .cells #[.slice Ao15 t639.length co15, .int .i64 t642] 26 (0, 0)) (by (with_reducible repeat (first | refine blk_drewN ?_ _ | refine blk_drew ?_ | refine blk_alloc ?_ _)); exact BK643.out) hb); have n4_ := Aside0.mk (below_step (by repeat (first | (with_reducible first | exact HB.out | apply below_alloc | apply pw_below_drewN | apply below_drew1 | refine below_set ?_ GE643.out) | exact HB.out)) hb); clear HO641; clear HO646; clear BK643; clear HB; have HO641 := n0_; have HO646 := n1_; have HO649 := n2_; have BK643 := n3_; have HB := n4_; clear n0_ n1_ n2_ n3_ n4_; (try clear hb); (try clear hb2); (try clear hk); (try clear hi); (try clear ho0)))
  go_loopg [18, 19] k (fun kq v18 v19 w' => ∃ (x18_1 : Int) (x19_1 : Int), v18 = .int .i64 x18_1 ∧ v19 = .int .i64 x19_1 ∧ Aside0 (dialtonelaw34_RecoveryGrows.l0 kq a3 a4 a5 true t644 t647 t650 x18_1 x19_1 t639 t642 = some r) ∧ Aside0 (kq ≤ k) ∧ Aside0 (Kd.R k60 60 w' w.heap.size (fun _ => True) (.slice Ao19 t644.length co19) t644) ∧ Aside0 (Kd.R k39 39 w' w.heap.size (fun _ => True) v648 t647) ∧ Aside0 (Kd.R k67 67 w' w.heap.size (fun _ => True) (.slice Ao15 t639.length co15) t639) ∧ Aside0 (w'.heap[gb643]? = some (.cells #[(.slice Ao15 t639.length co15), .int .i64 t642] 26 (0, 0))) ∧ Aside0 (Below w.heap.size w w'))
  case atStart => exact ⟨(0), (0), (by first | rfl | (simp; done) | (simp [*]; done)), (by first | rfl | (simp; done) | (simp [*]; done)), H', ⟨Nat.le_refl _⟩, ⟨by (with_reducible repeat (first | apply Kd.R_alloc | apply Kd.R_drewN | apply Kd.R_drew)); exact HO646.out⟩, ⟨by (with_reducible repeat (first | apply Kd.R_alloc | apply Kd.R_drewN | apply Kd.R_drew)); exact HO649.out⟩, ⟨by (with_reducible repeat (first | apply Kd.R_alloc | apply Kd.R_drewN | apply Kd.R_drew)); exact HO641.out⟩, ⟨by (with_reducible repeat (first | refine blk_drewN ?_ _ | refine blk_drew ?_ | refine blk_alloc ?_ _)); exact BK643.out⟩, ⟨by repeat (first | (with_reducible first | exact HB.out | apply below_alloc | apply pw_below_drewN | apply below_drew1 | refine below_set ?_ GE643.out) | exact HB.out)⟩⟩
  case round =>
   clear H'
   try clear c1
   try clear c2
   try clear p2
   try clear c8
   try clear c11
   try clear c13
   try clear c14
   try clear c15
   try clear c16
   try clear hcz16_0
   try clear hcz16_1
   try clear hcz18_0
   try clear hcz18_1
   try clear hfz16_0
   try clear hfz16_1
   try clear hfz18_0
   try clear hfz18_1
   obtain ⟨x18_1, x19_1, rfl, rfl, HA, HK1, HO_15, HO_16, HO_644000, BK643, HB⟩ := hrel
   cases gk with
   | zero => exact absurd HA.out (by simp [dialtonelaw34_RecoveryGrows.l0])
   | succ k1 =>
    have H := HA.out
    clear HA
    simp only [dialtonelaw34_RecoveryGrows.l0] at H
    by_cases c21 : x19_1 < (t644.length : Int)
    ·
     rw [if_pos c21] at H
     have c21b0 : decide (x19_1 < (t644.length : Int)) = true := decide_eq_true c21
     clear c21
     by_cases c22 : 0 ≤ x19_1
     ·
      rw [if_pos c22] at H
      have c22b0 : decide (0 ≤ x19_1) = true := decide_eq_true c22
      clear c22
      obtain ⟨ji23, hji23⟩ : ∃ j_ : Int, (mx x18_1 ((rd_T60 t644 x19_1).f1)) = j_ := ⟨_, rfl⟩
      replace H : (dialtonelaw34_RecoveryGrows.l0 k1 a3 a4 a5 true t644 t647 t650 ji23 (wrap64 (x19_1 + 1)) t639 t642) = some r := by first | (rw [hji23] at H; exact H) | (simp only [hji23] at H ⊢; exact H)
      have hji23_ : (if x18_1 < ((rd_T60 t644 x19_1).f1) then ((rd_T60 t644 x19_1).f1) else x18_1) = ji23 := hji23
      have H' := Aside0.mk H
      clear H
      have p651 : 0 ≤ (x19_1 : Int) := of_decide_eq_true (by first | (with_reducible assumption) | assumption)
      have q651 : x19_1 < (t644.length : Int) := of_decide_eq_true (by first | (with_reducible assumption) | assumption)
      obtain ⟨ad651, e651, hx651_0, hx651_1, hx651_2⟩ := at_T60 (Kd.R_reads' HO_15.out).2.2 x19_1 p651 q651
      cases e651
      replace p651 := eq_true p651
      replace q651 := eq_true q651
      go_wp2
      go_roundg k1
      case measure => have := HK1.out; omega
      case rel => exact ⟨(ji23), (wrap64 (x19_1 + 1)), (by first | rfl | (simp; done) | (simp only [← hji23] <;> (first | rfl | simp)) | (simp [*]; done)), (by first | rfl | (simp; done) | (simp [*]; done)), H', ⟨by have := HK1.out; omega⟩, ⟨by (with_reducible repeat (first | apply Kd.R_alloc | apply Kd.R_drewN | apply Kd.R_drew)); exact HO_15.out⟩, ⟨by (with_reducible repeat (first | apply Kd.R_alloc | apply Kd.R_drewN | apply Kd.R_drew)); exact HO_16.out⟩, ⟨by (with_reducible repeat (first | apply Kd.R_alloc | apply Kd.R_drewN | apply Kd.R_drew)); exact HO_644000.out⟩, ⟨by (with_reducible repeat (first | refine blk_drewN ?_ _ | refine blk_drew ?_ | refine blk_alloc ?_ _)); exact BK643.out⟩, ⟨by repeat (first | (with_reducible first | exact HB.out | apply below_alloc | apply pw_below_drewN | apply below_drew1 | refine below_set ?_ GE643.out) | exact HB.out)⟩⟩
     ·
      rw [if_neg c22] at H
      exact absurd H (by simp)
    ·
     rw [if_neg c21] at H
     have c21b0 : decide (x19_1 < (t644.length : Int)) = false := decide_eq_false c21
     clear c21
     replace H := Option.bind_eq_some_iff.mp H
     obtain ⟨t652, A240, H⟩ := H
     replace H : ((some (([(⟨99, wrap64 ((wrap64 (x18_1 + 1)) + t652), false⟩ : S60)] : List (S60)) : List (S60))).bind fun y653 => (if y653.length + t644.length < 5864062014805 then ((recovery_Plan.f t639 t642 (y653 ++ t644)).bind fun bt659 => (if t650 = 0 then (if bt659.2 = 0 then (if (bt659.1.length : Int) = (wrap64 ((t647.length : Int) + 1)) then (if 0 ≤ (t647.length : Int) then (if (t647.length : Int) ≤ (bt659.1.length : Int) then ((dialtoneref34_Same.f k1 (bt659.1.take ((t647.length : Int) : Int).toNat) t647).bind fun t667 => (if t667 = true then (if (t647.length : Int) < (bt659.1.length : Int) then (dialtonelaw34_RecoveryGrows.j1 k1 a4 a5 true t644 t647 (((rd_T39 bt659.1 (t647.length : Int)).f0) != 99) t639 t642) else (none)) else (dialtonelaw34_RecoveryGrows.j1 k1 a4 a5 true t644 t647 true t639 t642))) else (none)) else (none)) else (dialtonelaw34_RecoveryGrows.j1 k1 a4 a5 true t644 t647 true t639 t642)) else (dialtonelaw34_RecoveryGrows.j1 k1 a4 a5 true t644 t647 true t639 t642)) else (dialtonelaw34_RecoveryGrows.j1 k1 a4 a5 true t644 t647 true t639 t642))) else (none))) = some r := H
     have A24 := Aside0.mk A240
     clear A240
     obtain ⟨y653, hy653⟩ : ∃ y_ : List (S60), y_ = (([(⟨99, wrap64 ((wrap64 (x18_1 + 1)) + t652), false⟩ : S60)] : List (S60))) := ⟨_, rfl⟩
     replace H : (if y653.length + t644.length < 5864062014805 then ((recovery_Plan.f t639 t642 (y653 ++ t644)).bind fun bt659 => (if t650 = 0 then (if bt659.2 = 0 then (if (bt659.1.length : Int) = (wrap64 ((t647.length : Int) + 1)) then (if 0 ≤ (t647.length : Int) then (if (t647.length : Int) ≤ (bt659.1.length : Int) then ((dialtoneref34_Same.f k1 (bt659.1.take ((t647.length : Int) : Int).toNat) t647).bind fun t667 => (if t667 = true then (if (t647.length : Int) < (bt659.1.length : Int) then (dialtonelaw34_RecoveryGrows.j1 k1 a4 a5 true t644 t647 (((rd_T39 bt659.1 (t647.length : Int)).f0) != 99) t639 t642) else (none)) else (dialtonelaw34_RecoveryGrows.j1 k1 a4 a5 true t644 t647 true t639 t642))) else (none)) else (none)) else (dialtonelaw34_RecoveryGrows.j1 k1 a4 a5 true t644 t647 true t639 t642)) else (dialtonelaw34_RecoveryGrows.j1 k1 a4 a5 true t644 t647 true t639 t642)) else (dialtonelaw34_RecoveryGrows.j1 k1 a4 a5 true t644 t647 true t639 t642))) else (none)) = some r := by first | (rw [hy653]; with_reducible exact H) | (have H2_ := (Option.bind_some _ _).symm.trans H; rw [hy653]; with_reducible exact H2_) | (have H2_ := (Option.bind_some _ _).symm.trans H; with_reducible exact H2_) | with_reducible exact H | (rw [hy653]; exact H) | exact H
     have Ny653 := Aside0.mk hy653
     clear hy653
     by_cases c25 : y653.length + t644.length < 5864062014805
     ·
      rw [if_pos c25] at H
      have LMc25 := Aside0.mk c25
      clear c25
      obtain ⟨y656, hy656⟩ : ∃ y_ : List (S60), y_ = (y653 ++ t644) := ⟨_, rfl⟩
      replace H : ((recovery_Plan.f t639 t642 y656).bind fun bt659 => (if t650 = 0 then (if bt659.2 = 0 then (if (bt659.1.length : Int) = (wrap64 ((t647.length : Int) + 1)) then (if 0 ≤ (t647.length : Int) then (if (t647.length : Int) ≤ (bt659.1.length : Int) then ((dialtoneref34_Same.f k1 (bt659.1.take ((t647.length : Int) : Int).toNat) t647).bind fun t667 => (if t667 = true then (if (t647.length : Int) < (bt659.1.length : Int) then (dialtonelaw34_RecoveryGrows.j1 k1 a4 a5 true t644 t647 (((rd_T39 bt659.1 (t647.length : Int)).f0) != 99) t639 t642) else (none)) else (dialtonelaw34_RecoveryGrows.j1 k1 a4 a5 true t644 t647 true t639 t642))) else (none)) else (none)) else (dialtonelaw34_RecoveryGrows.j1 k1 a4 a5 true t644 t647 true t639 t642)) else (dialtonelaw34_RecoveryGrows.j1 k1 a4 a5 true t644 t647 true t639 t642)) else (dialtonelaw34_RecoveryGrows.j1 k1 a4 a5 true t644 t647 true t639 t642))) = some r := by first | (rw [hy656]; with_reducible exact H) | (have H2_ := (Option.bind_some _ _).symm.trans H; rw [hy656]; with_reducible exact H2_) | (have H2_ := (Option.bind_some _ _).symm.trans H; with_reducible exact H2_) | with_reducible exact H | (rw [hy656]; exact H) | exact H
      have Ny656 := Aside0.mk hy656
      clear hy656
      replace H := Option.bind_eq_some_iff.mp H
      obtain ⟨⟨t659, t662⟩, A260, H⟩ := H
      replace H : (if t650 = 0 then (if t662 = 0 then (if (t659.length : Int) = (wrap64 ((t647.length : Int) + 1)) then (if 0 ≤ (t647.length : Int) then (if (t647.length : Int) ≤ (t659.length : Int) then ((dialtoneref34_Same.f k1 (t659.take ((t647.length : Int) : Int).toNat) t647).bind fun t667 => (if t667 = true then (if (t647.length : Int) < (t659.length : Int) then (dialtonelaw34_RecoveryGrows.j1 k1 a4 a5 true t644 t647 (((rd_T39 t659 (t647.length : Int)).f0) != 99) t639 t642) else (none)) else (dialtonelaw34_RecoveryGrows.j1 k1 a4 a5 true t644 t647 true t639 t642))) else (none)) else (none)) else (dialtonelaw34_RecoveryGrows.j1 k1 a4 a5 true t644 t647 true t639 t642)) else (dialtonelaw34_RecoveryGrows.j1 k1 a4 a5 true t644 t647 true t639 t642)) else (dialtonelaw34_RecoveryGrows.j1 k1 a4 a5 true t644 t647 true t639 t642)) = some r := H
      have A26 := Aside0.mk A260
      clear A260
      have HC27 := Aside0.mk H
      clear H
      try go_wp2
      have n0_ := Aside0.mk (Kd.R_drew HO_15.out)
      have n1_ := Aside0.mk (Kd.R_drew HO_16.out)
      have n2_ := Aside0.mk (Kd.R_drew HO_644000.out)
      have n3_ := Aside0.mk (blk_drew BK643.out)
      have n4_ := Aside0.mk (below_drew1 HB.out)
      clear HO_15
      clear HO_16
      clear HO_644000
      clear BK643
      clear HB
      have HO_15 := n0_
      have HO_16 := n1_
      have HO_644000 := n2_
      have BK643 := n3_
      have HB := n4_
      clear n0_ n1_ n2_ n3_ n4_
      refine start_ (n := 16) (S := fun w' => w'.cell? ⟨gb643, 0, none⟩ = some (.slice Ao15 t639.length co15) ∧ w'.cell? ⟨gb643, 1, none⟩ = some (.int .i64 t642)) (ds := []) #[false, false, false, false, false, false, false, false, false, false, false, false, false, false, false, false] (by kernel_rfl) rfl rfl ⟨(blk_cell BK643.out 0).trans rfl, (blk_cell BK643.out 1).trans rfl⟩ (fun hHeld => ?_); refine with_tabW dialtonelaw34_RecoveryGrows.tab12 dialtonelaw34_RecoveryGrows.bits12 (fun HT_ HW_ => ?_)
      generalize wr.drew = w28 at HO_15 HO_16 HO_644000 BK643 HB hHeld ⊢
      refine pure_ (i := 1) (N := some 56) (v := ?_) (a' := ?_) #[false, true, false, false, false, false, false, false, false, false, false, false, false, false, false, false] rfl rfl (any_of HT_.out (by kernel_rfl)) (fun _ _ _ h => h) (Or.inl ⟨by rfl, ?_⟩) ?_ ?_
      rotate_left
      ·
       intro w'
       go_simp
       with_reducible rfl
      rotate_left
      ·
       simp only [Act.put, List.setIfInBounds_toArray, List.set_cons_zero, List.set_cons_succ, i64_w, i32_w]
       rfl
      refine pure_ (i := 2) (N := some 57) (v := ?_) (a' := ?_) #[false, true, true, false, false, false, false, false, false, false, false, false, false, false, false, false] rfl rfl (any_of HT_.out (by kernel_rfl)) (fun _ _ _ h => h) (Or.inl ⟨by rfl, ?_⟩) ?_ ?_
      rotate_left
      ·
       intro w'
       go_simp
       with_reducible rfl
      rotate_left
      ·
       simp only [Act.put, List.setIfInBounds_toArray, List.set_cons_zero, List.set_cons_succ, i64_w, i32_w]
       rfl
      refine pure_ (i := 3) (N := some 58) (v := ?_) (a' := ?_) #[false, true, true, true, false, false, false, false, false, false, false, false, false, false, false, false] rfl rfl (any_of HT_.out (by kernel_rfl)) (fun _ _ _ h => h) (Or.inl ⟨by rfl, ?_⟩) ?_ ?_
      rotate_left
      ·
       intro w'
       go_simp
       with_reducible rfl
      rotate_left
      ·
       simp only [Act.put, List.setIfInBounds_toArray, List.set_cons_zero, List.set_cons_succ, i64_w, i32_w]
       rfl
      refine pure_ (i := 8) (N := some 63) (v := ?_) (a' := ?_) #[false, true, true, true, false, false, false, false, true, false, false, false, false, false, false, false] rfl rfl (any_of HT_.out (by kernel_rfl)) (fun _ _ _ h => h) (Or.inl ⟨by rfl, ?_⟩) ?_ ?_
      rotate_left
      ·
       intro w'
       go_simp
       with_reducible rfl
      rotate_left
      ·
       simp only [Act.put, List.setIfInBounds_toArray, List.set_cons_zero, List.set_cons_succ, i64_w, i32_w]
       rfl
      refine take_ (i := 0) (N := some 55) (v := ?_) (a' := ?_) #[true, true, true, true, false, false, false, false, true, false, false, false, false, false, false, false] rfl rfl (take_ofW HT_.out HW_.out (by kernel_rfl)) (fun _ _ _ h => h) (Or.inl ⟨by rfl, ?_⟩) hHeld ?_ ?_
      rotate_left
      ·
       rintro w' ⟨s0, s1⟩
       go_simp
       with_reducible rfl
      rotate_left
      ·
       simp only [Act.put, List.setIfInBounds_toArray, List.set_cons_zero, List.set_cons_succ, i64_w, i32_w]
       rfl
      refine one_ (i := 4) (N := some 59) #[true, true, true, true, true, false, false, false, true, false, false, false, false, false, false, false] rfl rfl (one_of HT_.out (by kernel_rfl)) (by decide) (fun K hK => ?_)
      refine goes_ Try.func18 (by kernel_rfl) rfl #[.int .i64 a3, .int .i64 10] (by rfl) rfl rfl (by (try simp only [List.map_toArray, List.map_cons, List.map_nil]); first | done | rfl | (simp only [List.length_drop, List.length_take]; rfl)) ?_
      with_reducible refine (dialtonelaw34_pick.calls a3 10 t652 _ A24.out).mono ?_
      rintro e w29 ⟨rfl, hb⟩
      refine ⟨_, rfl, ?_⟩
      have n0_ := Aside0.mk (Kd.R_below (by (with_reducible repeat (first | apply Kd.R_alloc | apply Kd.R_drewN | apply Kd.R_drew)); exact HO_15.out) hb)
      have n1_ := Aside0.mk (Kd.R_below (by (with_reducible repeat (first | apply Kd.R_alloc | apply Kd.R_drewN | apply Kd.R_drew)); exact HO_16.out) hb)
      have n2_ := Aside0.mk (Kd.R_below (by (with_reducible repeat (first | apply Kd.R_alloc | apply Kd.R_drewN | apply Kd.R_drew)); exact HO_644000.out) hb)
      have n3_ := Aside0.mk (blk_below (g := gb643) (o := .cells #[.slice Ao15 t639.length co15, .int .i64 t642] 26 (0, 0)) (by (with_reducible repeat (first | refine blk_drewN ?_ _ | refine blk_drew ?_ | refine blk_alloc ?_ _)); exact BK643.out) hb)
      have n4_ := Aside0.mk (below_step (by repeat (first | (with_reducible first | exact HB.out | apply below_alloc | apply pw_below_drewN | apply below_drew1 | refine below_set ?_ GE643.out) | exact HB.out)) hb)
      clear HO_15
      clear HO_16
      clear HO_644000
      clear BK643
      clear HB
      have HO_15 := n0_
      have HO_16 := n1_
      have HO_644000 := n2_
      have BK643 := n3_
      have HB := n4_
      clear n0_ n1_ n2_ n3_ n4_
      (try clear hb)
      (try clear hb2)
      (try clear hk)
      (try clear hi)
      refine hK.out _ _ ⟨(blk_cell BK643.out 0).trans rfl, (blk_cell BK643.out 1).trans rfl⟩ (fun hHeld => ?_)
      clear hK K
      refine norm_ (a' := ?_) ?_ ?_
      rotate_left
      ·
       show Act.put _ (some 59) _ = _
       simp only [Act.put, List.setIfInBounds_toArray, List.set_cons_zero, List.set_cons_succ, i64_w, i32_w]
       rfl
      refine pure_ (i := 5) (N := some 60) (v := ?_) (a' := ?_) #[true, true, true, true, true, true, false, false, true, false, false, false, false, false, false, false] rfl rfl (any_of HT_.out (by kernel_rfl)) (fun _ _ _ h => h) (Or.inl ⟨by rfl, ?_⟩) ?_ ?_
      rotate_left
      ·
       intro w'
       go_simp
       with_reducible rfl
      rotate_left
      ·
       simp only [Act.put, List.setIfInBounds_toArray, List.set_cons_zero, List.set_cons_succ, i64_w, i32_w]
       rfl
      refine pure_ (i := 6) (N := some 61) (v := ?_) (a' := ?_) #[true, true, true, true, true, true, true, false, true, false, false, false, false, false, false, false] rfl rfl (any_of HT_.out (by kernel_rfl)) (fun _ _ _ h => h) (Or.inl ⟨by rfl, ?_⟩) ?_ ?_
      rotate_left
      ·
       intro w'
       go_simp
       with_reducible rfl
      rotate_left
      ·
       simp only [Act.put, List.setIfInBounds_toArray, List.set_cons_zero, List.set_cons_succ, i64_w, i32_w]
       rfl
      refine one_ (i := 7) (N := some 62) #[true, true, true, true, true, true, true, true, true, false, false, false, false, false, false, false] rfl rfl (one_of HT_.out (by kernel_rfl)) (by decide) (fun K hK => ?_)
      refine Kd.R_lit_step k60 _ 60 ?hg (N := 62) ?hd (xs := ([(⟨99, wrap64 ((wrap64 (x18_1 + 1)) + t652), false⟩ : S60)] : List (S60))) (inner := [.int .i64 99, .int .i64 (wrap64 ((wrap64 (x18_1 + 1)) + t652)), .bool false]) (ok := fun _ => True) (okp := fun _ => True) ?hr ?hp (fun _ hk => hk) trivial (Below.refl _ _) (Nat.le_refl _) (by simp) ?_; (case hd => rfl); (case hg => rfl); (case hr => first | (go_simp; done) | (go_simp; rfl)); (case hp => exact (Reps.c3 (show Kd.M k60 _ _ _ (⟨99, wrap64 ((wrap64 (x18_1 + 1)) + t652), false⟩ : S60) [.int .i64 99, .int .i64 (wrap64 ((wrap64 (x18_1 + 1)) + t652)), .bool false] from (k60_mkM _ _ _ (⟨99, wrap64 ((wrap64 (x18_1 + 1)) + t652), false⟩ : S60) )) (Reps.none _ _)))
      intro v654 w30 ho31 hb hg_ hnew_
      clear hg_ hnew_
      (first | rw [← Ny653.out] at ho31 | (simp only [Int.reduceToNat] at ho31; rw [← Ny653.out] at ho31))
      have n0_ := Aside0.mk (Kd.R_elder' (by (with_reducible repeat (first | apply Kd.R_alloc | apply Kd.R_drewN | apply Kd.R_drew)); exact HO_15.out) (Kd.R_base ho31) hb)
      have n1_ := Aside0.mk (Kd.R_below (by (with_reducible repeat (first | apply Kd.R_alloc | apply Kd.R_drewN | apply Kd.R_drew)); exact HO_16.out) hb)
      have n2_ := Aside0.mk (Kd.R_below (by (with_reducible repeat (first | apply Kd.R_alloc | apply Kd.R_drewN | apply Kd.R_drew)); exact HO_644000.out) hb)
      have n3_ := Aside0.mk (Kd.R_lower (Kd.R_new' ho31 (Kd.R_lt (by (with_reducible repeat (first | apply Kd.R_alloc | apply Kd.R_drewN | apply Kd.R_drew)); exact HO_15.out))) (below_size (by repeat (first | (with_reducible first | exact HB.out | apply below_alloc | apply pw_below_drewN | apply below_drew1 | refine below_set ?_ GE643.out) | exact HB.out))))
      have n4_ := Aside0.mk (blk_below (g := gb643) (o := .cells #[.slice Ao15 t639.length co15, .int .i64 t642] 26 (0, 0)) (by (with_reducible repeat (first | refine blk_drewN ?_ _ | refine blk_drew ?_ | refine blk_alloc ?_ _)); exact BK643.out) hb)
      have n5_ := Aside0.mk (below_step (by repeat (first | (with_reducible first | exact HB.out | apply below_alloc | apply pw_below_drewN | apply below_drew1 | refine below_set ?_ GE643.out) | exact HB.out)) hb)
      clear HO_15
      clear HO_16
      clear HO_644000
      clear BK643
      clear HB
      have HO_15 := n0_
      have HO_16 := n1_
      have HO_644000 := n2_
      have HO655 := n3_
      have BK643 := n4_
      have HB := n5_
      clear n0_ n1_ n2_ n3_ n4_ n5_
      clear hb ho31
      refine hK.out _ _ ⟨(blk_cell BK643.out 0).trans rfl, (blk_cell BK643.out 1).trans rfl⟩ (fun hHeld => ?_)
      clear hK K
      refine norm_ (a' := ?_) ?_ ?_
      rotate_left
      ·
       show Act.put _ (some 62) _ = _
       simp only [Act.put, List.setIfInBounds_toArray, List.set_cons_zero, List.set_cons_succ, i64_w, i32_w]
       rfl
      refine one_ (i := 9) (N := some 64) #[true, true, true, true, true, true, true, true, true, true, false, false, false, false, false, false] rfl rfl (one_of HT_.out (by kernel_rfl)) (by decide) (fun K hK => ?_)
      refine Kd.R_append_rows_step k60 (w0 := w) w.heap.size (by rfl) (.tmp 62) (.tmp 63) 28 60 (.agg #[(.int .i64 0), (.int .i64 0), (.bool false)]) 24 rfl Try.underlying28 info60 rfl (by decide) (by omega) v654 y653 t644 _ _ _ (fun k_ => some k_ ≠ (.slice Ao19 t644.length co19 : Value).ownBlock) (fun _ => False) rfl rfl ?aO ?aR (fun _ _ h => h) (fun _ h => h.elim) ?aF ?aB ?aS ?aL ?_
      (case aR => repeat (first | exact (Kd.R_reads' HO_15.out).2.2 | (with_reducible refine Kd.C_alloc ?_ _) | (with_reducible refine Kd.C_drewN ?_ _) | (with_reducible refine Kd.C_drew ?_)))
      (case aB => exact (by repeat (first | (with_reducible first | exact HB.out | apply below_alloc | apply pw_below_drewN | apply below_drew1 | refine below_set ?_ GE643.out) | exact HB.out)))
      (case aF => exact (fun k_ hk => Kd.fresh' (Kd.R_lt (by (with_reducible repeat (first | apply Kd.R_alloc | apply Kd.R_drewN | apply Kd.R_drew)); exact HO_15.out)) k_ hk))
      (case aO => exact (by (with_reducible repeat (first | apply Kd.R_alloc | apply Kd.R_drewN | apply Kd.R_drew)); exact Kd.R_mono HO655.out (fun _ hk => hk.2)))
      (case aS => exact (below_size (by repeat (first | (with_reducible first | exact HB.out | apply below_alloc | apply pw_below_drewN | apply below_drew1 | refine below_set ?_ GE643.out) | exact HB.out))))
      (case aL => have := LMc25.out; omega)
      intro v657 w32 ho hb hg hat
      rw [← Ny656.out] at ho
      have n0_ := Aside0.mk (Kd.R_after (ok := (fun _ => True)) (by (with_reducible repeat (first | apply Kd.R_alloc | apply Kd.R_drewN | apply Kd.R_drew)); exact HO_15.out) hg hat)
      have n1_ := Aside0.mk (Kd.R_over' (by (with_reducible repeat (first | apply Kd.R_alloc | apply Kd.R_drewN | apply Kd.R_drew)); exact HO_16.out) (Kd.R_typed (by (with_reducible repeat (first | apply Kd.R_alloc | apply Kd.R_drewN | apply Kd.R_drew)); exact HO655.out)) (by decide) hg)
      have n2_ := Aside0.mk (Kd.R_over' (by (with_reducible repeat (first | apply Kd.R_alloc | apply Kd.R_drewN | apply Kd.R_drew)); exact HO_644000.out) (Kd.R_typed (by (with_reducible repeat (first | apply Kd.R_alloc | apply Kd.R_drewN | apply Kd.R_drew)); exact HO655.out)) (by decide) hg)
      have n3_ := Aside0.mk (blk_grown (g := gb643) (o := .cells #[.slice Ao15 t639.length co15, .int .i64 t642] 26 (0, 0)) (by (with_reducible repeat (first | refine blk_drewN ?_ _ | refine blk_drew ?_ | refine blk_alloc ?_ _)); exact BK643.out) hg (Kd.R_ne HO655.out BK643.out (by decide)))
      have n4_ := Aside0.mk (hb)
      have n5_ := Aside0.mk (ho)
      clear HO_15
      clear HO_16
      clear HO_644000
      clear BK643
      clear HB
      clear HO655
      have HO_15 := n0_
      have HO_16 := n1_
      have HO_644000 := n2_
      have BK643 := n3_
      have HB := n4_
      have HO658 := n5_
      clear n0_ n1_ n2_ n3_ n4_ n5_
      clear ho hb hg hat
      obtain ⟨Ao33, co33, eo33⟩ := Kd.R_slice HO658.out
      (first | subst eo33 | (injection eo33 with f1_ f2_ f3_; have f4_ := f1_.symm; have f5_ := f3_.symm; clear f1_ f2_ f3_; subst f4_; subst f5_))
      refine hK.out _ _ ⟨(blk_cell BK643.out 0).trans rfl, (blk_cell BK643.out 1).trans rfl⟩ (fun hHeld => ?_)
      clear hK K
      refine norm_ (a' := ?_) ?_ ?_
      rotate_left
      ·
       show Act.put _ (some 64) _ = _
       simp only [Act.put, List.setIfInBounds_toArray, List.set_cons_zero, List.set_cons_succ, i64_w, i32_w]
       rfl
      refine one_ (i := 10) (N := some 65) #[true, true, true, true, true, true, true, true, true, true, true, false, false, false, false, false] rfl rfl (one_of HT_.out (by kernel_rfl)) (by decide) (fun K hK => ?_)
      refine goes_ Try.func16 (by kernel_rfl) rfl #[.agg #[.slice Ao15 t639.length co15, .int .i64 t642], .slice Ao33 y656.length co33] (by rfl) rfl rfl (by (try simp only [List.map_toArray, List.map_cons, List.map_nil]); first | done | rfl | (simp only [List.length_drop, List.length_take]; rfl)) ?_
      with_reducible refine (recovery_Plan.calls _ _ t639 t642 _ _ y656 t659 t662 _ ?side1 ?side2 ?side3 ?side4 A26.out).mono ?_
      (case side1 => repeat (first | exact (Kd.R_reads' HO_644000.out).2.2 | (with_reducible refine Kd.C_alloc ?_ _) | (with_reducible refine Kd.C_drewN ?_ _) | (with_reducible refine Kd.C_drew ?_)))
      (case side2 => exact (Kd.R_reads' HO_644000.out).2.1)
      (case side3 => repeat (first | exact (Kd.R_reads' HO658.out).2.2 | (with_reducible refine Kd.C_alloc ?_ _) | (with_reducible refine Kd.C_drewN ?_ _) | (with_reducible refine Kd.C_drew ?_)))
      (case side4 => exact (Kd.R_reads' HO658.out).2.1)
      rintro e w34 ⟨v660, rfl, ho0, hb⟩
      refine ⟨_, rfl, ?_⟩
      have n0_ := Aside0.mk (Kd.R_below (by (with_reducible repeat (first | apply Kd.R_alloc | apply Kd.R_drewN | apply Kd.R_drew)); exact HO_15.out) hb)
      have n1_ := Aside0.mk (Kd.R_elder' (by (with_reducible repeat (first | apply Kd.R_alloc | apply Kd.R_drewN | apply Kd.R_drew)); exact HO_16.out) (Kd.R_base ho0) hb)
      have n2_ := Aside0.mk (Kd.R_below (by (with_reducible repeat (first | apply Kd.R_alloc | apply Kd.R_drewN | apply Kd.R_drew)); exact HO_644000.out) hb)
      have n3_ := Aside0.mk (Kd.R_below (by (with_reducible repeat (first | apply Kd.R_alloc | apply Kd.R_drewN | apply Kd.R_drew)); exact HO658.out) hb)
      have n4_ := Aside0.mk (Kd.R_lower (Kd.R_new' ho0 (Kd.R_lt (by (with_reducible repeat (first | apply Kd.R_alloc | apply Kd.R_drewN | apply Kd.R_drew)); exact HO_16.out))) (below_size (by repeat (first | (with_reducible first | exact HB.out | apply below_alloc | apply pw_below_drewN | apply below_drew1 | refine below_set ?_ GE643.out) | exact HB.out))))
      have n5_ := Aside0.mk (blk_below (g := gb643) (o := .cells #[.slice Ao15 t639.length co15, .int .i64 t642] 26 (0, 0)) (by (with_reducible repeat (first | refine blk_drewN ?_ _ | refine blk_drew ?_ | refine blk_alloc ?_ _)); exact BK643.out) hb)
      have n6_ := Aside0.mk (below_step (by repeat (first | (with_reducible first | exact HB.out | apply below_alloc | apply pw_below_drewN | apply below_drew1 | refine below_set ?_ GE643.out) | exact HB.out)) hb)
      clear HO_15
      clear HO_16
      clear HO_644000
      clear HO658
      clear BK643
      clear HB
      have HO_15 := n0_
      have HO_16 := n1_
      have HO_644000 := n2_
      have HO658 := n3_
      have HO661 := n4_
      have BK643 := n5_
      have HB := n6_
      clear n0_ n1_ n2_ n3_ n4_ n5_ n6_
      (try clear hb)
      (try clear hb2)
      (try clear hk)
      (try clear hi)
      (try clear ho0)
      refine hK.out _ _ ⟨(blk_cell BK643.out 0).trans rfl, (blk_cell BK643.out 1).trans rfl⟩ (fun hHeld => ?_)
      clear hK K
      refine norm_ (a' := ?_) ?_ ?_
      rotate_left
      ·
       show Act.put _ (some 65) _ = _
       simp only [Act.put, List.setIfInBounds_toArray, List.set_cons_zero, List.set_cons_succ, i64_w, i32_w]
       rfl
      refine pure_ (i := 11) (N := some 54) (v := ?_) (a' := ?_) #[true, true, true, true, true, true, true, true, true, true, true, true, false, false, false, false] rfl rfl (any_of HT_.out (by kernel_rfl)) (fun _ _ _ h => h) (Or.inl ⟨by rfl, ?_⟩) ?_ ?_
      rotate_left
      ·
       intro w'
       go_simp
       with_reducible rfl
      rotate_left
      ·
       simp only [Act.put, List.setIfInBounds_toArray, List.set_cons_zero, List.set_cons_succ, i64_w, i32_w]
       rfl
      refine pure_ (i := 12) (N := some 66) (v := ?_) (a' := ?_) #[true, true, true, true, true, true, true, true, true, true, true, true, true, false, false, false] rfl rfl (any_of HT_.out (by kernel_rfl)) (fun _ _ _ h => h) (Or.inl ⟨by rfl, ?_⟩) ?_ ?_
      rotate_left
      ·
       intro w'
       go_simp
       with_reducible rfl
      rotate_left
      ·
       simp only [Act.put, List.setIfInBounds_toArray, List.set_cons_zero, List.set_cons_succ, i64_w, i32_w]
       rfl
      refine pure_ (i := 13) (N := some 67) (v := ?_) (a' := ?_) #[true, true, true, true, true, true, true, true, true, true, true, true, true, true, false, false] rfl rfl (any_of HT_.out (by kernel_rfl)) (fun _ _ _ h => h) (Or.inl ⟨by rfl, ?_⟩) ?_ ?_
      rotate_left
      ·
       intro w'
       go_simp
       with_reducible rfl
      rotate_left
      ·
       simp only [Act.put, List.setIfInBounds_toArray, List.set_cons_zero, List.set_cons_succ, i64_w, i32_w]
       rfl
      refine pure_ (i := 14) (N := some 20) (v := ?_) (a' := ?_) #[true, true, true, true, true, true, true, true, true, true, true, true, true, true, true, false] rfl rfl (any_of HT_.out (by kernel_rfl)) (fun _ _ _ h => h) (Or.inl ⟨by rfl, ?_⟩) ?_ ?_
      rotate_left
      ·
       intro w'
       go_simp
       with_reducible rfl
      rotate_left
      ·
       simp only [Act.put, List.setIfInBounds_toArray, List.set_cons_zero, List.set_cons_succ, i64_w, i32_w]
       rfl
      refine pure_ (i := 15) (N := some 21) (v := ?_) (a' := ?_) #[true, true, true, true, true, true, true, true, true, true, true, true, true, true, true, true] rfl rfl (any_of HT_.out (by kernel_rfl)) (fun _ _ _ h => h) (Or.inl ⟨by rfl, ?_⟩) ?_ ?_
      rotate_left
      ·
       intro w'
       go_simp
       with_reducible rfl
      rotate_left
      ·
       simp only [Act.put, List.setIfInBounds_toArray, List.set_cons_zero, List.set_cons_succ, i64_w, i32_w]
       rfl
      refine done_ (done_of HT_.out (by kernel_rfl)) ?_
      go_upto_region 13 with (fail)
      go_cut [99] (fun v99 wc => ∃ (kq : Nat) (x99_26 : Bool), v99 = .bool x99_26 ∧ Aside0 (dialtonelaw34_RecoveryGrows.j1 kq a4 a5 true t644 t647 x99_26 t639 t642 = some r) ∧ Aside0 (kq ≤ k1) ∧ Aside0 (Kd.R k60 60 wc w.heap.size (fun _ => True) (.slice Ao19 t644.length co19) t644) ∧ Aside0 (Kd.R k39 39 wc w.heap.size (fun _ => True) v648 t647) ∧ Aside0 (Kd.R k67 67 wc w.heap.size (fun _ => True) (.slice Ao15 t639.length co15) t639) ∧ Aside0 (wc.heap[gb643]? = some (.cells #[(.slice Ao15 t639.length co15), .int .i64 t642] 26 (0, 0))) ∧ Aside0 (Below w.heap.size w wc))
      case first =>
       have H := HC27.out
       clear HC27
       by_cases c35 : t650 = 0
       ·
        rw [if_pos c35] at H
        have c35b0 : (t650 == 0) = true := beq_iff_eq.mpr c35
        have c35b1 : (t650 != 0) = false := bne_eq_false_iff_eq.mpr c35
        clear c35
        (first | rw [c35b0] | (simp only [i64_w, i32_w]; rw [c35b0]) | skip)
        by_cases c36 : t662 = 0
        ·
         rw [if_pos c36] at H
         have c36b0 : (t662 == 0) = true := beq_iff_eq.mpr c36
         have c36b1 : (t662 != 0) = false := bne_eq_false_iff_eq.mpr c36
         clear c36
         by_cases c37 : (t659.length : Int) = (wrap64 ((t647.length : Int) + 1))
         ·
          rw [if_pos c37] at H
          have c37b0 : ((t659.length : Int) == (wrap64 ((t647.length : Int) + 1))) = true := beq_iff_eq.mpr c37
          have c37b1 : ((t659.length : Int) != (wrap64 ((t647.length : Int) + 1))) = false := bne_eq_false_iff_eq.mpr c37
          clear c37
          by_cases c38 : 0 ≤ (t647.length : Int)
          ·
           rw [if_pos c38] at H
           have c38b0 := eq_true c38
           have c38b1 : decide (0 ≤ (t647.length : Int)) = true := decide_eq_true c38
           clear c38
           by_cases c39 : (t647.length : Int) ≤ (t659.length : Int)
           ·
            rw [if_pos c39] at H
            have c39b0 := eq_true c39
            have c39b1 : decide ((t647.length : Int) ≤ (t659.length : Int)) = true := decide_eq_true c39
            clear c39
            obtain ⟨y663, hy663⟩ : ∃ y_ : List (S39), y_ = (t659.take ((t647.length : Int) : Int).toNat) := ⟨_, rfl⟩
            replace H : ((dialtoneref34_Same.f k1 y663 t647).bind fun t667 => (if t667 = true then (if (t647.length : Int) < (t659.length : Int) then (dialtonelaw34_RecoveryGrows.j1 k1 a4 a5 true t644 t647 (((rd_T39 t659 (t647.length : Int)).f0) != 99) t639 t642) else (none)) else (dialtonelaw34_RecoveryGrows.j1 k1 a4 a5 true t644 t647 true t639 t642))) = some r := by first | (rw [hy663]; with_reducible exact H) | (have H2_ := (Option.bind_some _ _).symm.trans H; rw [hy663]; with_reducible exact H2_) | (have H2_ := (Option.bind_some _ _).symm.trans H; with_reducible exact H2_) | with_reducible exact H | (rw [hy663]; exact H) | exact H
            have Ny663 := Aside0.mk hy663
            clear hy663
            replace H := Option.bind_eq_some_iff.mp H
            obtain ⟨t667, A400, H⟩ := H
            replace H : (if t667 = true then (if (t647.length : Int) < (t659.length : Int) then (dialtonelaw34_RecoveryGrows.j1 k1 a4 a5 true t644 t647 (((rd_T39 t659 (t647.length : Int)).f0) != 99) t639 t642) else (none)) else (dialtonelaw34_RecoveryGrows.j1 k1 a4 a5 true t644 t647 true t639 t642)) = some r := H
            have A40 := Aside0.mk A400
            clear A400
            by_cases c41 : t667 = true
            ·
             subst c41
             have H1 : (if (t647.length : Int) < (t659.length : Int) then (dialtonelaw34_RecoveryGrows.j1 k1 a4 a5 true t644 t647 (((rd_T39 t659 (t647.length : Int)).f0) != 99) t639 t642) else (none)) = some r := by rw [if_pos rfl] at H; exact H
             clear H
             have H := H1
             clear H1
             by_cases c42 : (t647.length : Int) < (t659.length : Int)
             ·
              rw [if_pos c42] at H
              have c42b0 : decide ((t647.length : Int) < (t659.length : Int)) = true := decide_eq_true c42
              have c42b1 : decide (t647.length < t659.length) = true := decide_eq_true (Int.ofNat_lt.mp c42)
              clear c42
              have H' := Aside0.mk H
              clear H
              obtain ⟨Ao43, co43, eo43⟩ := Kd.R_slice HO661.out
              subst eo43
              obtain ⟨Ao44, co44, eo44⟩ := Kd.R_slice HO_16.out
              subst eo44
              have q45 : ((t647.length : Int) : Int) ≤ ((t659.length : Int) : Int) := of_decide_eq_true (by first | (with_reducible assumption) | assumption)
              obtain ⟨i045, hi045, _, hsz45, _⟩ := info_parts info39
              have hroom45 : t659.length ≤ co43 := (Kd.R_reads' HO661.out).2.1
              have hC45 : Kd.C k39 _ Ao43 t659.length t659 := (Kd.R_reads' HO661.out).2.2
              have hcut45 := cut_to (P := Try.prog) 30 39 .i64 Try.underlying30 hi045 Ao43 t659.length co43 (t647.length : Int) (of_decide_eq_true (by first | (with_reducible assumption) | assumption)) q45 hroom45
              have hr45 := Kd.C_take (m := ((t647.length : Int) : Int).toNat) hC45 (by omega)
              have hy45 : y663.length = ((t647.length : Int) : Int).toNat := (by rw [Ny663.out, List.length_take]; omega)
              rw [← Ny663.out] at hr45
              rw [← hy45] at hcut45
              have HR666 := Aside0.mk hr45
              have HC666 := Aside0.mk (show y663.length ≤ co43 from by omega)
              clear hr45 hC45 hroom45 hi045 hsz45
              have KY45 := Aside0.mk hy45
              clear hy45
              have KL45 := Aside0.mk (show ((t647.length : Int) : Int).toNat ≤ t659.length from by omega)
              replace q45 := eq_true q45
              go_wp2_with (first | (go_at_call 19; (with_reducible refine (dialtoneref34_Same.calls k1 _ _ y663 _ _ t647 true _ ?side1 ?side2 ?side3 ?side4 A40.out).mono ?_); (case side1 => repeat (first | exact (by repeat (first | (with_reducible exact HR666.out) | (with_reducible refine Kd.C_alloc ?_ _) | (with_reducible refine Kd.C_drewN ?_ _) | (with_reducible refine Kd.C_drew ?_) | exact HR666.out)) | (with_reducible refine Kd.C_alloc ?_ _) | (with_reducible refine Kd.C_drewN ?_ _) | (with_reducible refine Kd.C_drew ?_))); (case side2 => exact HC666.out); (case side3 => repeat (first | exact (Kd.R_reads' HO_16.out).2.2 | (with_reducible refine Kd.C_alloc ?_ _) | (with_reducible refine Kd.C_drewN ?_ _) | (with_reducible refine Kd.C_drew ?_))); (case side4 => exact (Kd.R_reads' HO_16.out).2.1); rintro e w' ⟨rfl, ⟨nd, rfl⟩⟩; have p668 : 0 ≤ ((t647.length : Int) : Int) := of_decide_eq_true (by first | (with_reducible assumption) | assumption); have q668 : (t647.length : Int) < (t659.length : Int) := of_decide_eq_true (by first | (with_reducible assumption) | assumption); obtain ⟨ad668, e668, hx668_0, hx668_1, hx668_2⟩ := at_T39 (Kd.R_reads' HO661.out).2.2 (t647.length : Int) p668 q668; cases e668; (try simp only [Go.IntWalk.toNatUp] at hx668_0); (try simp only [Go.IntWalk.toNatUp] at hx668_1); (try simp only [Go.IntWalk.toNatUp] at hx668_2); replace p668 := eq_true p668; replace q668 := eq_true q668))
              go_meet
              case rel => exact ⟨_, ((((rd_T39 t659 (t647.length : Int)).f0) != 99)), (by first | rfl | (simp; done) | (simp [*]; done)), H', ⟨by have := HK1.out; first | omega | exact Nat.le_refl _⟩, ⟨by (with_reducible repeat (first | apply Kd.R_alloc | apply Kd.R_drewN | apply Kd.R_drew)); exact Kd.R_mono HO_15.out (fun _ hk => trivial)⟩, ⟨by (with_reducible repeat (first | apply Kd.R_alloc | apply Kd.R_drewN | apply Kd.R_drew)); exact Kd.R_mono HO_16.out (fun _ hk => trivial)⟩, ⟨by (with_reducible repeat (first | apply Kd.R_alloc | apply Kd.R_drewN | apply Kd.R_drew)); exact HO_644000.out⟩, ⟨by (with_reducible repeat (first | refine blk_drewN ?_ _ | refine blk_drew ?_ | refine blk_alloc ?_ _)); exact BK643.out⟩, ⟨by repeat (first | (with_reducible first | exact HB.out | apply below_alloc | apply pw_below_drewN | apply below_drew1 | refine below_set ?_ GE643.out) | exact HB.out)⟩⟩
             ·
              rw [if_neg c42] at H
              exact absurd H (by simp)
            ·
             replace c41 := Bool.eq_false_iff.mpr c41
             subst c41
             have H1 : (dialtonelaw34_RecoveryGrows.j1 k1 a4 a5 true t644 t647 true t639 t642) = some r := by rw [if_neg (show ¬ (false = true) by decide)] at H; exact H
             clear H
             have H := H1
             clear H1
             have H' := Aside0.mk H
             clear H
             obtain ⟨Ao46, co46, eo46⟩ := Kd.R_slice HO661.out
             subst eo46
             obtain ⟨Ao47, co47, eo47⟩ := Kd.R_slice HO_16.out
             subst eo47
             have q48 : ((t647.length : Int) : Int) ≤ ((t659.length : Int) : Int) := of_decide_eq_true (by first | (with_reducible assumption) | assumption)
             obtain ⟨i048, hi048, _, hsz48, _⟩ := info_parts info39
             have hroom48 : t659.length ≤ co46 := (Kd.R_reads' HO661.out).2.1
             have hC48 : Kd.C k39 _ Ao46 t659.length t659 := (Kd.R_reads' HO661.out).2.2
             have hcut48 := cut_to (P := Try.prog) 30 39 .i64 Try.underlying30 hi048 Ao46 t659.length co46 (t647.length : Int) (of_decide_eq_true (by first | (with_reducible assumption) | assumption)) q48 hroom48
             have hr48 := Kd.C_take (m := ((t647.length : Int) : Int).toNat) hC48 (by omega)
             have hy48 : y663.length = ((t647.length : Int) : Int).toNat := (by rw [Ny663.out, List.length_take]; omega)
             rw [← Ny663.out] at hr48
             rw [← hy48] at hcut48
             have HR666 := Aside0.mk hr48
             have HC666 := Aside0.mk (show y663.length ≤ co46 from by omega)
             clear hr48 hC48 hroom48 hi048 hsz48
             have KY48 := Aside0.mk hy48
             clear hy48
             have KL48 := Aside0.mk (show ((t647.length : Int) : Int).toNat ≤ t659.length from by omega)
             replace q48 := eq_true q48
             go_wp2_with (first | (go_at_call 19; (with_reducible refine (dialtoneref34_Same.calls k1 _ _ y663 _ _ t647 false _ ?side1 ?side2 ?side3 ?side4 A40.out).mono ?_); (case side1 => repeat (first | exact (by repeat (first | (with_reducible exact HR666.out) | (with_reducible refine Kd.C_alloc ?_ _) | (with_reducible refine Kd.C_drewN ?_ _) | (with_reducible refine Kd.C_drew ?_) | exact HR666.out)) | (with_reducible refine Kd.C_alloc ?_ _) | (with_reducible refine Kd.C_drewN ?_ _) | (with_reducible refine Kd.C_drew ?_))); (case side2 => exact HC666.out); (case side3 => repeat (first | exact (Kd.R_reads' HO_16.out).2.2 | (with_reducible refine Kd.C_alloc ?_ _) | (with_reducible refine Kd.C_drewN ?_ _) | (with_reducible refine Kd.C_drew ?_))); (case side4 => exact (Kd.R_reads' HO_16.out).2.1); rintro e w' ⟨rfl, ⟨nd, rfl⟩⟩))
             go_meet
             case rel => exact ⟨_, (true), (by first | rfl | (simp; done) | (simp [*]; done)), H', ⟨by have := HK1.out; first | omega | exact Nat.le_refl _⟩, ⟨by (with_reducible repeat (first | apply Kd.R_alloc | apply Kd.R_drewN | apply Kd.R_drew)); exact Kd.R_mono HO_15.out (fun _ hk => trivial)⟩, ⟨by (with_reducible repeat (first | apply Kd.R_alloc | apply Kd.R_drewN | apply Kd.R_drew)); exact Kd.R_mono HO_16.out (fun _ hk => trivial)⟩, ⟨by (with_reducible repeat (first | apply Kd.R_alloc | apply Kd.R_drewN | apply Kd.R_drew)); exact HO_644000.out⟩, ⟨by (with_reducible repeat (first | refine blk_drewN ?_ _ | refine blk_drew ?_ | refine blk_alloc ?_ _)); exact BK643.out⟩, ⟨by repeat (first | (with_reducible first | exact HB.out | apply below_alloc | apply pw_below_drewN | apply below_drew1 | refine below_set ?_ GE643.out) | exact HB.out)⟩⟩
           ·
            rw [if_neg c39] at H
            exact absurd H (by simp)
          ·
           rw [if_neg c38] at H
           exact absurd H (by simp)
         ·
          rw [if_neg c37] at H
          have c37b0 : ((t659.length : Int) == (wrap64 ((t647.length : Int) + 1))) = false := beq_eq_false_iff_ne.mpr c37
          have c37b1 : ((t659.length : Int) != (wrap64 ((t647.length : Int) + 1))) = true := bne_iff_ne.mpr c37
          have H' := Aside0.mk H
          clear H
          obtain ⟨Ao49, co49, eo49⟩ := Kd.R_slice HO661.out
          subst eo49
          obtain ⟨Ao50, co50, eo50⟩ := Kd.R_slice HO_16.out
          subst eo50
          go_wp2
          go_meet
          case rel => exact ⟨_, (true), (by first | rfl | (simp; done) | (simp [*]; done)), H', ⟨by have := HK1.out; first | omega | exact Nat.le_refl _⟩, ⟨by (with_reducible repeat (first | apply Kd.R_alloc | apply Kd.R_drewN | apply Kd.R_drew)); exact Kd.R_mono HO_15.out (fun _ hk => trivial)⟩, ⟨by (with_reducible repeat (first | apply Kd.R_alloc | apply Kd.R_drewN | apply Kd.R_drew)); exact Kd.R_mono HO_16.out (fun _ hk => trivial)⟩, ⟨by (with_reducible repeat (first | apply Kd.R_alloc | apply Kd.R_drewN | apply Kd.R_drew)); exact HO_644000.out⟩, ⟨by (with_reducible repeat (first | refine blk_drewN ?_ _ | refine blk_drew ?_ | refine blk_alloc ?_ _)); exact BK643.out⟩, ⟨by repeat (first | (with_reducible first | exact HB.out | apply below_alloc | apply pw_below_drewN | apply below_drew1 | refine below_set ?_ GE643.out) | exact HB.out)⟩⟩
        ·
         rw [if_neg c36] at H
         have c36b0 : (t662 == 0) = false := beq_eq_false_iff_ne.mpr c36
         have c36b1 : (t662 != 0) = true := bne_iff_ne.mpr c36
         have H' := Aside0.mk H
         clear H
         go_wp2
         go_meet
         case rel => exact ⟨_, (true), (by first | rfl | (simp; done) | (simp [*]; done)), H', ⟨by have := HK1.out; first | omega | exact Nat.le_refl _⟩, ⟨by (with_reducible repeat (first | apply Kd.R_alloc | apply Kd.R_drewN | apply Kd.R_drew)); exact Kd.R_mono HO_15.out (fun _ hk => trivial)⟩, ⟨by (with_reducible repeat (first | apply Kd.R_alloc | apply Kd.R_drewN | apply Kd.R_drew)); exact Kd.R_mono HO_16.out (fun _ hk => trivial)⟩, ⟨by (with_reducible repeat (first | apply Kd.R_alloc | apply Kd.R_drewN | apply Kd.R_drew)); exact HO_644000.out⟩, ⟨by (with_reducible repeat (first | refine blk_drewN ?_ _ | refine blk_drew ?_ | refine blk_alloc ?_ _)); exact BK643.out⟩, ⟨by repeat (first | (with_reducible first | exact HB.out | apply below_alloc | apply pw_below_drewN | apply below_drew1 | refine below_set ?_ GE643.out) | exact HB.out)⟩⟩
       ·
        rw [if_neg c35] at H
        have c35b0 : (t650 == 0) = false := beq_eq_false_iff_ne.mpr c35
        have c35b1 : (t650 != 0) = true := bne_iff_ne.mpr c35
        (first | rw [c35b0] | (simp only [i64_w, i32_w]; rw [c35b0]) | skip)
        have H' := Aside0.mk H
        clear H
        go_wp2
        go_meet
        case rel => exact ⟨_, (true), (by first | rfl | (simp; done) | (simp [*]; done)), H', ⟨by have := HK1.out; first | omega | exact Nat.le_refl _⟩, ⟨by (with_reducible repeat (first | apply Kd.R_alloc | apply Kd.R_drewN | apply Kd.R_drew)); exact Kd.R_mono HO_15.out (fun _ hk => trivial)⟩, ⟨by (with_reducible repeat (first | apply Kd.R_alloc | apply Kd.R_drewN | apply Kd.R_drew)); exact Kd.R_mono HO_16.out (fun _ hk => trivial)⟩, ⟨by (with_reducible repeat (first | apply Kd.R_alloc | apply Kd.R_drewN | apply Kd.R_drew)); exact HO_644000.out⟩, ⟨by (with_reducible repeat (first | refine blk_drewN ?_ _ | refine blk_drew ?_ | refine blk_alloc ?_ _)); exact BK643.out⟩, ⟨by repeat (first | (with_reducible first | exact HB.out | apply below_alloc | apply pw_below_drewN | apply below_drew1 | refine below_set ?_ GE643.out) | exact HB.out)⟩⟩
      case rest =>
       clear HC27
       try clear c1
       try clear c2
       try clear p2
       try clear c3
       try clear c4
       try clear q4
       try clear p6
       try clear q6
       try clear hx6
       try clear c8
       try clear c11
       try clear c13
       try clear c14
       try clear c15
       try clear c16
       try clear c18
       try clear c21
       try clear c21b0
       try clear c22
       try clear c22b0
       try clear c25
       try clear c35
       try clear c35b0
       try clear c35b1
       try clear c36
       try clear c36b0
       try clear c36b1
       try clear c37
       try clear c37b0
       try clear c37b1
       try clear c38
       try clear c38b0
       try clear c38b1
       try clear c39
       try clear c39b0
       try clear c39b1
       try clear c41
       try clear c42
       try clear c42b0
       try clear c42b1
       try clear q45
       try clear q48
       try clear hcz16_0
       try clear hcz16_1
       try clear hcz18_0
       try clear hcz18_1
       try clear hfz16_0
       try clear hfz16_1
       try clear hfz18_0
       try clear hfz18_1
       try clear hx651_0
       try clear hx651_1
       try clear hx651_2
       try clear hx668_0
       try clear hx668_1
       try clear hx668_2
       try clear p2
       try clear p651
       try clear p668
       try clear q45
       try clear q48
       try clear q651
       try clear q668
       obtain ⟨kq, x99_26, rfl, HA, HJ26, HO_15, HO_16, HO_644000, BK643, HB⟩ := hcut
       cases kq with
       | zero => exact absurd HA.out (by simp [dialtonelaw34_RecoveryGrows.j1])
       | succ kj26 =>
        have H := HA.out
        clear HA
        simp only [dialtonelaw34_RecoveryGrows.j1] at H
        by_cases c51 : x99_26 = true
        ·
         subst c51
         have H1 : (none) = some r := by rw [if_pos rfl] at H; exact H
         clear H
         have H := H1
         clear H1
         exact absurd H (by simp)
        ·
         replace c51 := Bool.eq_false_iff.mpr c51
         subst c51
         have H1 : ((some (([] : List (S67)) : List (S67))).bind fun y669 => (if y669.length + t639.length < 8796093022208 then ((some (y669 ++ t639 : List (S67))).bind fun y672 => ((dialtonelaw34_pick.f a4 (y672.length : Int)).bind fun t676 => (dialtonelaw34_RecoveryGrows.l1 kj26 a5 true t644 t647 t676 y672 t642))) else (none))) = some r := by rw [if_neg (show ¬ (false = true) by decide)] at H; exact H
         clear H
         have H := H1
         clear H1
         obtain ⟨y669, hy669⟩ : ∃ y_ : List (S67), y_ = (([] : List (S67))) := ⟨_, rfl⟩
         replace H : (if y669.length + t639.length < 8796093022208 then ((some (y669 ++ t639 : List (S67))).bind fun y672 => ((dialtonelaw34_pick.f a4 (y672.length : Int)).bind fun t676 => (dialtonelaw34_RecoveryGrows.l1 kj26 a5 true t644 t647 t676 y672 t642))) else (none)) = some r := by first | (rw [hy669]; with_reducible exact H) | (have H2_ := (Option.bind_some _ _).symm.trans H; rw [hy669]; with_reducible exact H2_) | (have H2_ := (Option.bind_some _ _).symm.trans H; with_reducible exact H2_) | with_reducible exact H | (rw [hy669]; exact H) | exact H
         have Ny669 := Aside0.mk hy669
         clear hy669
         by_cases c52 : y669.length + t639.length < 8796093022208
         ·
          rw [if_pos c52] at H
          have LMc52 := Aside0.mk c52
          clear c52
          obtain ⟨y672, hy672⟩ : ∃ y_ : List (S67), y_ = (y669 ++ t639) := ⟨_, rfl⟩
          replace H : ((dialtonelaw34_pick.f a4 (y672.length : Int)).bind fun t676 => (dialtonelaw34_RecoveryGrows.l1 kj26 a5 true t644 t647 t676 y672 t642)) = some r := by first | (rw [hy672]; with_reducible exact H) | (have H2_ := (Option.bind_some _ _).symm.trans H; rw [hy672]; with_reducible exact H2_) | (have H2_ := (Option.bind_some _ _).symm.trans H; with_reducible exact H2_) | with_reducible exact H | (rw [hy672]; exact H) | exact H
          have Ny672 := Aside0.mk hy672
          clear hy672
          replace H := Option.bind_eq_some_iff.mp H
          obtain ⟨t676, A530, H⟩ := H
          replace H : (dialtonelaw34_RecoveryGrows.l1 kj26 a5 true t644 t647 t676 y672 t642) = some r := H
          have A53 := Aside0.mk A530
          clear A530
          have H' := Aside0.mk H
          clear H
          try go_wp2
          have n0_ := Aside0.mk (Kd.R_drew HO_15.out)
          have n1_ := Aside0.mk (Kd.R_drew HO_16.out)
          have n2_ := Aside0.mk (Kd.R_drew HO_644000.out)
          have n3_ := Aside0.mk (blk_drew BK643.out)
          have n4_ := Aside0.mk (below_drew1 HB.out)
          clear HO_15
          clear HO_16
          clear HO_644000
          clear BK643
          clear HB
          have HO_15 := n0_
          have HO_16 := n1_
          have HO_644000 := n2_
          have BK643 := n3_
          have HB := n4_
          clear n0_ n1_ n2_ n3_ n4_
          refine start_ (n := 9) (S := fun w' => w'.cell? ⟨gb643, 0, none⟩ = some (.slice Ao15 t639.length co15) ∧ w'.cell? ⟨gb643, 1, none⟩ = some (.int .i64 t642)) (ds := []) #[false, false, false, false, false, false, false, false, false] (by kernel_rfl) rfl rfl ⟨(blk_cell BK643.out 0).trans rfl, (blk_cell BK643.out 1).trans rfl⟩ (fun hHeld => ?_); refine with_tabW dialtonelaw34_RecoveryGrows.tab15 dialtonelaw34_RecoveryGrows.bits15 (fun HT_ HW_ => ?_)
          generalize wc.drew = w54 at HO_15 HO_16 HO_644000 BK643 HB hHeld ⊢
          refine pure_ (i := 1) (N := some 101) (v := ?_) (a' := ?_) #[false, true, false, false, false, false, false, false, false] rfl rfl (any_of HT_.out (by kernel_rfl)) (fun _ _ _ h => h) (Or.inl ⟨by rfl, ?_⟩) ?_ ?_
          rotate_left
          ·
           intro w'
           go_simp
           with_reducible rfl
          rotate_left
          ·
           simp only [Act.put, List.setIfInBounds_toArray, List.set_cons_zero, List.set_cons_succ, i64_w, i32_w]
           rfl
          refine pure_ (i := 4) (N := some 104) (v := ?_) (a' := ?_) #[false, true, false, false, true, false, false, false, false] rfl rfl (any_of HT_.out (by kernel_rfl)) (fun _ _ _ h => h) (Or.inl ⟨by rfl, ?_⟩) ?_ ?_
          rotate_left
          ·
           intro w'
           go_simp
           with_reducible rfl
          rotate_left
          ·
           simp only [Act.put, List.setIfInBounds_toArray, List.set_cons_zero, List.set_cons_succ, i64_w, i32_w]
           rfl
          refine take_ (i := 2) (N := some 102) (v := ?_) (a' := ?_) #[false, true, true, false, true, false, false, false, false] rfl rfl (take_ofW HT_.out HW_.out (by kernel_rfl)) (fun _ _ _ h => h) (Or.inl ⟨by rfl, ?_⟩) hHeld ?_ ?_
          rotate_left
          ·
           rintro w' ⟨s0, s1⟩
           go_simp
           with_reducible rfl
          rotate_left
          ·
           simp only [Act.put, List.setIfInBounds_toArray, List.set_cons_zero, List.set_cons_succ, i64_w, i32_w]
           rfl
          refine take_ (i := 5) (N := some 105) (v := ?_) (a' := ?_) #[false, true, true, false, true, true, false, false, false] rfl rfl (take_ofW HT_.out HW_.out (by kernel_rfl)) (fun _ _ _ h => h) (Or.inl ⟨by rfl, ?_⟩) hHeld ?_ ?_
          rotate_left
          ·
           rintro w' ⟨s0, s1⟩
           go_simp
           with_reducible rfl
          rotate_left
          ·
           simp only [Act.put, List.setIfInBounds_toArray, List.set_cons_zero, List.set_cons_succ, i64_w, i32_w]
           rfl
          refine join_ (σ := Value × Value × Nat) 1 #[true, true, true, true, true, true, true, true, false] (fun s_ => [(100, s_.1), (103, s_.2.1), (22, .pointer (some ⟨s_.2.2, 0, none⟩)), (106, .agg #[s_.2.1, .int .i64 t642])]) (fun s_ w' => (w'.cell? ⟨gb643, 0, none⟩ = some (.slice Ao15 t639.length co15) ∧ w'.cell? ⟨gb643, 1, none⟩ = some (.int .i64 t642)) ∧ (Kd.R k67 67 w' w.heap.size (fun k_ => some k_ ≠ (.slice Ao15 t639.length co15 : Value).ownBlock) s_.2.1 y672) ∧ (Kd.R k60 60 w' w.heap.size (fun _ => True) (.slice Ao19 t644.length co19) t644) ∧ (Kd.R k39 39 w' w.heap.size (fun _ => True) v648 t647) ∧ (Kd.R k67 67 w' w.heap.size (fun k_ => some k_ ≠ (s_.2.1 : Value).ownBlock) (.slice Ao15 t639.length co15) t639) ∧ (w'.heap[gb643]? = some (.cells #[.slice Ao15 t639.length co15, .int .i64 t642] 26 (0, 0))) ∧ (w'.heap[s_.2.2]? = some (.cells #[.slice none 0 0, .int .i64 0] 26 (0, 0))) ∧ (w.heap.size ≤ s_.2.2) ∧ (w.heap.size ≤ s_.2.2) ∧ (gb643 ≠ s_.2.2) ∧ (s_.2.2 ≠ gb643) ∧ (Below w.heap.size w w')) ?_ ?_
          rotate_left
          ·
           intro hCont
           refine two_ (i := 0) (j := 7) (Ni := some 100) (Nj := some 22) #[true, true, true, false, true, true, false, false, false] #[false, true, true, false, true, true, false, true, false] rfl rfl rfl rfl (two_of HT_.out (by kernel_rfl)) (by decide) (by decide) (fun K hK => ?_) (fun K hK => ?_)
           ·
            skip
            refine Kd.R_lit_step k67 _ 67 ?hg (N := 100) ?hd (xs := ([] : List (S67))) (inner := []) (ok := fun _ => True) (okp := fun _ => True) ?hr ?hp (fun _ hk => hk) trivial (Below.refl _ _) (Nat.le_refl _) (by simp) ?_; (case hd => rfl); (case hg => rfl); (case hr => first | (go_simp; done) | (go_simp; rfl)); (case hp => exact (Reps.none _ _))
            intro v670 w55 ho56 hb hg_ hnew_
            clear hg_ hnew_
            (first | rw [← Ny669.out] at ho56 | (simp only [Int.reduceToNat] at ho56; rw [← Ny669.out] at ho56))
            have n0_ := Aside0.mk (Kd.R_below (by (with_reducible repeat (first | apply Kd.R_alloc | apply Kd.R_drewN | apply Kd.R_drew)); exact HO_15.out) hb)
            have n1_ := Aside0.mk (Kd.R_below (by (with_reducible repeat (first | apply Kd.R_alloc | apply Kd.R_drewN | apply Kd.R_drew)); exact HO_16.out) hb)
            have n2_ := Aside0.mk (Kd.R_elder' (by (with_reducible repeat (first | apply Kd.R_alloc | apply Kd.R_drewN | apply Kd.R_drew)); exact HO_644000.out) (Kd.R_base ho56) hb)
            have n3_ := Aside0.mk (Kd.R_lower (Kd.R_new' ho56 (Kd.R_lt (by (with_reducible repeat (first | apply Kd.R_alloc | apply Kd.R_drewN | apply Kd.R_drew)); exact HO_644000.out))) (below_size (by repeat (first | (with_reducible first | exact HB.out | apply below_alloc | apply pw_below_drewN | apply below_drew1 | refine below_set ?_ GE643.out) | exact HB.out))))
            have n4_ := Aside0.mk (blk_below (g := gb643) (o := .cells #[.slice Ao15 t639.length co15, .int .i64 t642] 26 (0, 0)) (by (with_reducible repeat (first | refine blk_drewN ?_ _ | refine blk_drew ?_ | refine blk_alloc ?_ _)); exact BK643.out) hb)
            have n5_ := Aside0.mk (below_step (by repeat (first | (with_reducible first | exact HB.out | apply below_alloc | apply pw_below_drewN | apply below_drew1 | refine below_set ?_ GE643.out) | exact HB.out)) hb)
            clear HO_15
            clear HO_16
            clear HO_644000
            clear BK643
            clear HB
            have HO_15 := n0_
            have HO_16 := n1_
            have HO_644000 := n2_
            have HO671 := n3_
            have BK643 := n4_
            have HB := n5_
            clear n0_ n1_ n2_ n3_ n4_ n5_
            clear hb ho56
            refine hK.out _ _ ⟨(blk_cell BK643.out 0).trans rfl, (blk_cell BK643.out 1).trans rfl⟩ (fun hHeld => ?_)
            clear hK K
            refine norm_ (a' := ?_) ?_ ?_
            rotate_left
            ·
             show Act.put _ (some 100) _ = _
             simp only [Act.put, List.setIfInBounds_toArray, List.set_cons_zero, List.set_cons_succ, i64_w, i32_w]
             rfl
            refine two_ (i := 3) (j := 7) (Ni := some 103) (Nj := some 22) #[true, true, true, true, true, true, false, false, false] #[true, true, true, false, true, true, false, true, false] rfl rfl rfl rfl (two_of HT_.out (by kernel_rfl)) (by decide) (by decide) (fun K hK => ?_) (fun K hK => ?_)
            ·
             skip
             refine Kd.R_append_rows_step k67 (w0 := w) w.heap.size (by rfl) (.tmp 100) (.tmp 102) 24 67 (.agg #[(.int .i64 0), (.int .i64 0)]) 16 rfl Try.underlying24 info67 rfl (by decide) (by omega) v670 y669 t639 _ _ _ (fun k_ => some k_ ≠ (.slice Ao15 t639.length co15 : Value).ownBlock) (fun _ => False) rfl rfl ?aO ?aR (fun _ _ h => h) (fun _ h => h.elim) ?aF ?aB ?aS ?aL ?_
             (case aR => repeat (first | exact (Kd.R_reads' HO_644000.out).2.2 | (with_reducible refine Kd.C_alloc ?_ _) | (with_reducible refine Kd.C_drewN ?_ _) | (with_reducible refine Kd.C_drew ?_)))
             (case aB => exact (by repeat (first | (with_reducible first | exact HB.out | apply below_alloc | apply pw_below_drewN | apply below_drew1 | refine below_set ?_ GE643.out) | exact HB.out)))
             (case aF => exact (fun k_ hk => Kd.fresh' (Kd.R_lt (by (with_reducible repeat (first | apply Kd.R_alloc | apply Kd.R_drewN | apply Kd.R_drew)); exact HO_644000.out)) k_ hk))
             (case aO => exact (by (with_reducible repeat (first | apply Kd.R_alloc | apply Kd.R_drewN | apply Kd.R_drew)); exact Kd.R_mono HO671.out (fun _ hk => hk.2)))
             (case aS => exact (below_size (by repeat (first | (with_reducible first | exact HB.out | apply below_alloc | apply pw_below_drewN | apply below_drew1 | refine below_set ?_ GE643.out) | exact HB.out))))
             (case aL => have := LMc52.out; omega)
             intro v673 w57 ho hb hg hat
             rw [← Ny672.out] at ho
             have n0_ := Aside0.mk (Kd.R_over' (by (with_reducible repeat (first | apply Kd.R_alloc | apply Kd.R_drewN | apply Kd.R_drew)); exact HO_15.out) (Kd.R_typed (by (with_reducible repeat (first | apply Kd.R_alloc | apply Kd.R_drewN | apply Kd.R_drew)); exact HO671.out)) (by decide) hg)
             have n1_ := Aside0.mk (Kd.R_over' (by (with_reducible repeat (first | apply Kd.R_alloc | apply Kd.R_drewN | apply Kd.R_drew)); exact HO_16.out) (Kd.R_typed (by (with_reducible repeat (first | apply Kd.R_alloc | apply Kd.R_drewN | apply Kd.R_drew)); exact HO671.out)) (by decide) hg)
             have n2_ := Aside0.mk (Kd.R_after (ok := (fun _ => True)) (by (with_reducible repeat (first | apply Kd.R_alloc | apply Kd.R_drewN | apply Kd.R_drew)); exact HO_644000.out) hg hat)
             have n3_ := Aside0.mk (blk_grown (g := gb643) (o := .cells #[.slice Ao15 t639.length co15, .int .i64 t642] 26 (0, 0)) (by (with_reducible repeat (first | refine blk_drewN ?_ _ | refine blk_drew ?_ | refine blk_alloc ?_ _)); exact BK643.out) hg (Kd.R_ne HO671.out BK643.out (by decide)))
             have n4_ := Aside0.mk (hb)
             have n5_ := Aside0.mk (ho)
             clear HO_15
             clear HO_16
             clear HO_644000
             clear BK643
             clear HB
             clear HO671
             have HO_15 := n0_
             have HO_16 := n1_
             have HO_644000 := n2_
             have BK643 := n3_
             have HB := n4_
             have HO674 := n5_
             clear n0_ n1_ n2_ n3_ n4_ n5_
             clear ho hb hg hat
             obtain ⟨Ao58, co58, eo58⟩ := Kd.R_slice HO674.out
             (first | subst eo58 | (injection eo58 with f1_ f2_ f3_; have f4_ := f1_.symm; have f5_ := f3_.symm; clear f1_ f2_ f3_; subst f4_; subst f5_))
             refine hK.out _ _ ⟨(blk_cell BK643.out 0).trans rfl, (blk_cell BK643.out 1).trans rfl⟩ (fun hHeld => ?_)
             clear hK K
             refine norm_ (a' := ?_) ?_ ?_
             rotate_left
             ·
              show Act.put _ (some 103) _ = _
              simp only [Act.put, List.setIfInBounds_toArray, List.set_cons_zero, List.set_cons_succ, i64_w, i32_w]
              rfl
             refine pure_ (i := 6) (N := some 106) (v := ?_) (a' := ?_) #[true, true, true, true, true, true, true, false, false] rfl rfl (any_of HT_.out (by kernel_rfl)) (fun _ _ _ h => h) (Or.inl ⟨by rfl, ?_⟩) ?_ ?_
             rotate_left
             ·
              intro w'
              go_simp
              with_reducible rfl
             rotate_left
             ·
              simp only [Act.put, List.setIfInBounds_toArray, List.set_cons_zero, List.set_cons_succ, i64_w, i32_w]
              rfl
             refine one_ (i := 7) (N := some 22) #[true, true, true, true, true, true, true, true, false] rfl rfl (one_of HT_.out (by kernel_rfl)) (by decide) (fun K hK => ?_)
             refine box_step ?hg (N := 22) ?hd (cs := #[.slice none 0 0, .int .i64 0]) (t := 26) ?hr ?_; (case hd => rfl); (case hg => rfl); (case hr => first | (go_simp; done) | (go_simp; rfl))
             intro gb675 hg w59 hbox hb
             have n0_ := Aside0.mk (Kd.R_below (by (with_reducible repeat (first | apply Kd.R_alloc | apply Kd.R_drewN | apply Kd.R_drew)); exact HO_15.out) hb)
             have n1_ := Aside0.mk (Kd.R_below (by (with_reducible repeat (first | apply Kd.R_alloc | apply Kd.R_drewN | apply Kd.R_drew)); exact HO_16.out) hb)
             have n2_ := Aside0.mk (Kd.R_below (by (with_reducible repeat (first | apply Kd.R_alloc | apply Kd.R_drewN | apply Kd.R_drew)); exact HO_644000.out) hb)
             have n3_ := Aside0.mk (Kd.R_below (by (with_reducible repeat (first | apply Kd.R_alloc | apply Kd.R_drewN | apply Kd.R_drew)); exact HO674.out) hb)
             have n4_ := Aside0.mk (blk_below (g := gb643) (o := .cells #[.slice Ao15 t639.length co15, .int .i64 t642] 26 (0, 0)) (by (with_reducible repeat (first | refine blk_drewN ?_ _ | refine blk_drew ?_ | refine blk_alloc ?_ _)); exact BK643.out) hb)
             have n5_ := Aside0.mk (below_step (by repeat (first | (with_reducible first | exact HB.out | apply below_alloc | apply pw_below_drewN | apply below_drew1 | refine below_set ?_ GE643.out) | exact HB.out)) hb)
             have n6_ := Aside0.mk (hbox)
             have n7_ := Aside0.mk ((by rw [hg]; exact (below_size (by repeat (first | (with_reducible first | exact HB.out | apply below_alloc | apply pw_below_drewN | apply below_drew1 | refine below_set ?_ GE643.out) | exact HB.out))) : w.heap.size ≤ gb675))
             have n8_ := Aside0.mk ((by rw [hg]; exact (below_size (by repeat (first | (with_reducible first | exact HB.out | apply below_alloc | apply pw_below_drewN | apply below_drew1 | refine below_set ?_ GE643.out) | exact HB.out))) : w.heap.size ≤ gb675))
             have n9_ := Aside0.mk ((by rw [hg]; exact Nat.ne_of_lt (blk_lt (g := gb643) (o := .cells #[.slice Ao15 t639.length co15, .int .i64 t642] 26 (0, 0)) (by (with_reducible repeat (first | refine blk_drewN ?_ _ | refine blk_drew ?_ | refine blk_alloc ?_ _)); exact BK643.out)) : gb643 ≠ gb675))
             have n10_ := Aside0.mk ((by rw [hg]; exact Nat.ne_of_gt (blk_lt (g := gb643) (o := .cells #[.slice Ao15 t639.length co15, .int .i64 t642] 26 (0, 0)) (by (with_reducible repeat (first | refine blk_drewN ?_ _ | refine blk_drew ?_ | refine blk_alloc ?_ _)); exact BK643.out)) : gb675 ≠ gb643))
             clear HO_15
             clear HO_16
             clear HO_644000
             clear HO674
             clear BK643
             clear HB
             have HO_15 := n0_
             have HO_16 := n1_
             have HO_644000 := n2_
             have HO674 := n3_
             have BK643 := n4_
             have HB := n5_
             have BK675 := n6_
             have GW675 := n7_
             have GE675 := n8_
             have NB643_675 := n9_
             have NB675_643 := n10_
             clear n0_ n1_ n2_ n3_ n4_ n5_ n6_ n7_ n8_ n9_ n10_
             clear hb hbox hg
             refine hK.out _ _ ⟨(blk_cell BK643.out 0).trans rfl, (blk_cell BK643.out 1).trans rfl⟩ (fun hHeld => ?_)
             clear hK K
             refine norm_ (a' := ?_) ?_ ?_
             rotate_left
             ·
              show Act.put _ (some 22) _ = _
              simp only [Act.put, List.setIfInBounds_toArray, List.set_cons_zero, List.set_cons_succ, i64_w, i32_w]
              rfl
             exact norm_ (by simp only [putAll, Act.put, List.setIfInBounds_toArray, List.set_cons_zero, List.set_cons_succ]) (hCont (v670, .slice Ao58 y672.length co58, gb675) _ ⟨hHeld, (by (with_reducible repeat (first | apply Kd.R_alloc | apply Kd.R_drewN | apply Kd.R_drew)); exact HO674.out), (by (with_reducible repeat (first | apply Kd.R_alloc | apply Kd.R_drewN | apply Kd.R_drew)); exact HO_15.out), (by (with_reducible repeat (first | apply Kd.R_alloc | apply Kd.R_drewN | apply Kd.R_drew)); exact HO_16.out), (by (with_reducible repeat (first | apply Kd.R_alloc | apply Kd.R_drewN | apply Kd.R_drew)); exact Kd.R_mono HO_644000.out (fun _ hk => hk.2)), (by (with_reducible repeat (first | refine blk_drewN ?_ _ | refine blk_drew ?_ | refine blk_alloc ?_ _)); exact BK643.out), (by (with_reducible repeat (first | refine blk_drewN ?_ _ | refine blk_drew ?_ | refine blk_alloc ?_ _)); exact BK675.out), GW675.out, GE675.out, NB643_675.out, NB675_643.out, (by repeat (first | (with_reducible first | exact HB.out | apply below_alloc | apply pw_below_drewN | apply below_drew1 | refine below_set ?_ GE643.out | refine below_set ?_ GE675.out) | exact HB.out))⟩)
            ·
             skip
             refine box_step ?hg (N := 22) ?hd (cs := #[.slice none 0 0, .int .i64 0]) (t := 26) ?hr ?_; (case hd => rfl); (case hg => rfl); (case hr => first | (go_simp; done) | (go_simp; rfl))
             intro gb675 hg w57 hbox hb
             have n0_ := Aside0.mk (Kd.R_below (by (with_reducible repeat (first | apply Kd.R_alloc | apply Kd.R_drewN | apply Kd.R_drew)); exact HO_15.out) hb)
             have n1_ := Aside0.mk (Kd.R_below (by (with_reducible repeat (first | apply Kd.R_alloc | apply Kd.R_drewN | apply Kd.R_drew)); exact HO_16.out) hb)
             have n2_ := Aside0.mk (Kd.R_below (by (with_reducible repeat (first | apply Kd.R_alloc | apply Kd.R_drewN | apply Kd.R_drew)); exact HO_644000.out) hb)
             have n3_ := Aside0.mk (Kd.R_below (by (with_reducible repeat (first | apply Kd.R_alloc | apply Kd.R_drewN | apply Kd.R_drew)); exact HO671.out) hb)
             have n4_ := Aside0.mk (blk_below (g := gb643) (o := .cells #[.slice Ao15 t639.length co15, .int .i64 t642] 26 (0, 0)) (by (with_reducible repeat (first | refine blk_drewN ?_ _ | refine blk_drew ?_ | refine blk_alloc ?_ _)); exact BK643.out) hb)
             have n5_ := Aside0.mk (below_step (by repeat (first | (with_reducible first | exact HB.out | apply below_alloc | apply pw_below_drewN | apply below_drew1 | refine below_set ?_ GE643.out) | exact HB.out)) hb)
             have n6_ := Aside0.mk (hbox)
             have n7_ := Aside0.mk ((by rw [hg]; exact (below_size (by repeat (first | (with_reducible first | exact HB.out | apply below_alloc | apply pw_below_drewN | apply below_drew1 | refine below_set ?_ GE643.out) | exact HB.out))) : w.heap.size ≤ gb675))
             have n8_ := Aside0.mk ((by rw [hg]; exact (below_size (by repeat (first | (with_reducible first | exact HB.out | apply below_alloc | apply pw_below_drewN | apply below_drew1 | refine below_set ?_ GE643.out) | exact HB.out))) : w.heap.size ≤ gb675))
             have n9_ := Aside0.mk ((by rw [hg]; exact Nat.ne_of_lt (blk_lt (g := gb643) (o := .cells #[.slice Ao15 t639.length co15, .int .i64 t642] 26 (0, 0)) (by (with_reducible repeat (first | refine blk_drewN ?_ _ | refine blk_drew ?_ | refine blk_alloc ?_ _)); exact BK643.out)) : gb643 ≠ gb675))
             have n10_ := Aside0.mk ((by rw [hg]; exact Nat.ne_of_gt (blk_lt (g := gb643) (o := .cells #[.slice Ao15 t639.length co15, .int .i64 t642] 26 (0, 0)) (by (with_reducible repeat (first | refine blk_drewN ?_ _ | refine blk_drew ?_ | refine blk_alloc ?_ _)); exact BK643.out)) : gb675 ≠ gb643))
             clear HO_15
             clear HO_16
             clear HO_644000
             clear HO671
             clear BK643
             clear HB
             have HO_15 := n0_
             have HO_16 := n1_
             have HO_644000 := n2_
             have HO671 := n3_
             have BK643 := n4_
             have HB := n5_
             have BK675 := n6_
             have GW675 := n7_
             have GE675 := n8_
             have NB643_675 := n9_
             have NB675_643 := n10_
             clear n0_ n1_ n2_ n3_ n4_ n5_ n6_ n7_ n8_ n9_ n10_
             clear hb hbox hg
             refine hK.out _ _ ⟨(blk_cell BK643.out 0).trans rfl, (blk_cell BK643.out 1).trans rfl⟩ (fun hHeld => ?_)
             clear hK K
             refine norm_ (a' := ?_) ?_ ?_
             rotate_left
             ·
              show Act.put _ (some 22) _ = _
              simp only [Act.put, List.setIfInBounds_toArray, List.set_cons_zero, List.set_cons_succ, i64_w, i32_w]
              rfl
             refine one_ (i := 3) (N := some 103) #[true, true, true, true, true, true, false, true, false] rfl rfl (one_of HT_.out (by kernel_rfl)) (by decide) (fun K hK => ?_)
             refine Kd.R_append_rows_step k67 (w0 := w) w.heap.size (by rfl) (.tmp 100) (.tmp 102) 24 67 (.agg #[(.int .i64 0), (.int .i64 0)]) 16 rfl Try.underlying24 info67 rfl (by decide) (by omega) v670 y669 t639 _ _ _ (fun k_ => some k_ ≠ (.slice Ao15 t639.length co15 : Value).ownBlock) (fun _ => False) rfl rfl ?aO ?aR (fun _ _ h => h) (fun _ h => h.elim) ?aF ?aB ?aS ?aL ?_
             (case aR => repeat (first | exact (Kd.R_reads' HO_644000.out).2.2 | (with_reducible refine Kd.C_alloc ?_ _) | (with_reducible refine Kd.C_drewN ?_ _) | (with_reducible refine Kd.C_drew ?_)))
             (case aB => exact (by repeat (first | (with_reducible first | exact HB.out | apply below_alloc | apply pw_below_drewN | apply below_drew1 | refine below_set ?_ GE643.out | refine below_set ?_ GE675.out) | exact HB.out)))
             (case aF => exact (fun k_ hk => Kd.fresh' (Kd.R_lt (by (with_reducible repeat (first | apply Kd.R_alloc | apply Kd.R_drewN | apply Kd.R_drew)); exact HO_644000.out)) k_ hk))
             (case aO => exact (by (with_reducible repeat (first | apply Kd.R_alloc | apply Kd.R_drewN | apply Kd.R_drew)); exact Kd.R_mono HO671.out (fun _ hk => hk.2)))
             (case aS => exact (below_size (by repeat (first | (with_reducible first | exact HB.out | apply below_alloc | apply pw_below_drewN | apply below_drew1 | refine below_set ?_ GE643.out | refine below_set ?_ GE675.out) | exact HB.out))))
             (case aL => have := LMc52.out; omega)
             intro v673 w58 ho hb hg hat
             rw [← Ny672.out] at ho
             have n0_ := Aside0.mk (Kd.R_over' (by (with_reducible repeat (first | apply Kd.R_alloc | apply Kd.R_drewN | apply Kd.R_drew)); exact HO_15.out) (Kd.R_typed (by (with_reducible repeat (first | apply Kd.R_alloc | apply Kd.R_drewN | apply Kd.R_drew)); exact HO671.out)) (by decide) hg)
             have n1_ := Aside0.mk (Kd.R_over' (by (with_reducible repeat (first | apply Kd.R_alloc | apply Kd.R_drewN | apply Kd.R_drew)); exact HO_16.out) (Kd.R_typed (by (with_reducible repeat (first | apply Kd.R_alloc | apply Kd.R_drewN | apply Kd.R_drew)); exact HO671.out)) (by decide) hg)
             have n2_ := Aside0.mk (Kd.R_after (ok := (fun _ => True)) (by (with_reducible repeat (first | apply Kd.R_alloc | apply Kd.R_drewN | apply Kd.R_drew)); exact HO_644000.out) hg hat)
             have n3_ := Aside0.mk (blk_grown (g := gb643) (o := .cells #[.slice Ao15 t639.length co15, .int .i64 t642] 26 (0, 0)) (by (with_reducible repeat (first | refine blk_drewN ?_ _ | refine blk_drew ?_ | refine blk_alloc ?_ _)); exact BK643.out) hg (Kd.R_ne HO671.out BK643.out (by decide)))
             have n4_ := Aside0.mk (blk_grown (g := gb675) (o := .cells #[.slice none 0 0, .int .i64 0] 26 (0, 0)) (by (with_reducible repeat (first | refine blk_drewN ?_ _ | refine blk_drew ?_ | refine blk_alloc ?_ _)); exact BK675.out) hg (Kd.R_ne HO671.out BK675.out (by decide)))
             have n5_ := Aside0.mk (hb)
             have n6_ := Aside0.mk (ho)
             clear HO_15
             clear HO_16
             clear HO_644000
             clear BK643
             clear BK675
             clear HB
             clear HO671
             have HO_15 := n0_
             have HO_16 := n1_
             have HO_644000 := n2_
             have BK643 := n3_
             have BK675 := n4_
             have HB := n5_
             have HO674 := n6_
             clear n0_ n1_ n2_ n3_ n4_ n5_ n6_
             clear ho hb hg hat
             obtain ⟨Ao59, co59, eo59⟩ := Kd.R_slice HO674.out
             (first | subst eo59 | (injection eo59 with f1_ f2_ f3_; have f4_ := f1_.symm; have f5_ := f3_.symm; clear f1_ f2_ f3_; subst f4_; subst f5_))
             refine hK.out _ _ ⟨(blk_cell BK643.out 0).trans rfl, (blk_cell BK643.out 1).trans rfl⟩ (fun hHeld => ?_)
             clear hK K
             refine norm_ (a' := ?_) ?_ ?_
             rotate_left
             ·
              show Act.put _ (some 103) _ = _
              simp only [Act.put, List.setIfInBounds_toArray, List.set_cons_zero, List.set_cons_succ, i64_w, i32_w]
              rfl
             refine pure_ (i := 6) (N := some 106) (v := ?_) (a' := ?_) #[true, true, true, true, true, true, true, true, false] rfl rfl (any_of HT_.out (by kernel_rfl)) (fun _ _ _ h => h) (Or.inl ⟨by rfl, ?_⟩) ?_ ?_
             rotate_left
             ·
              intro w'
              go_simp
              with_reducible rfl
             rotate_left
             ·
              simp only [Act.put, List.setIfInBounds_toArray, List.set_cons_zero, List.set_cons_succ, i64_w, i32_w]
              rfl
             exact norm_ (by simp only [putAll, Act.put, List.setIfInBounds_toArray, List.set_cons_zero, List.set_cons_succ]) (hCont (v670, .slice Ao59 y672.length co59, gb675) _ ⟨hHeld, (by (with_reducible repeat (first | apply Kd.R_alloc | apply Kd.R_drewN | apply Kd.R_drew)); exact HO674.out), (by (with_reducible repeat (first | apply Kd.R_alloc | apply Kd.R_drewN | apply Kd.R_drew)); exact HO_15.out), (by (with_reducible repeat (first | apply Kd.R_alloc | apply Kd.R_drewN | apply Kd.R_drew)); exact HO_16.out), (by (with_reducible repeat (first | apply Kd.R_alloc | apply Kd.R_drewN | apply Kd.R_drew)); exact Kd.R_mono HO_644000.out (fun _ hk => hk.2)), (by (with_reducible repeat (first | refine blk_drewN ?_ _ | refine blk_drew ?_ | refine blk_alloc ?_ _)); exact BK643.out), (by (with_reducible repeat (first | refine blk_drewN ?_ _ | refine blk_drew ?_ | refine blk_alloc ?_ _)); exact BK675.out), GW675.out, GE675.out, NB643_675.out, NB675_643.out, (by repeat (first | (with_reducible first | exact HB.out | apply below_alloc | apply pw_below_drewN | apply below_drew1 | refine below_set ?_ GE643.out | refine below_set ?_ GE675.out) | exact HB.out))⟩)
           ·
            skip
            refine box_step ?hg (N := 22) ?hd (cs := #[.slice none 0 0, .int .i64 0]) (t := 26) ?hr ?_; (case hd => rfl); (case hg => rfl); (case hr => first | (go_simp; done) | (go_simp; rfl))
            intro gb675 hg w55 hbox hb
            have n0_ := Aside0.mk (Kd.R_below (by (with_reducible repeat (first | apply Kd.R_alloc | apply Kd.R_drewN | apply Kd.R_drew)); exact HO_15.out) hb)
            have n1_ := Aside0.mk (Kd.R_below (by (with_reducible repeat (first | apply Kd.R_alloc | apply Kd.R_drewN | apply Kd.R_drew)); exact HO_16.out) hb)
            have n2_ := Aside0.mk (Kd.R_below (by (with_reducible repeat (first | apply Kd.R_alloc | apply Kd.R_drewN | apply Kd.R_drew)); exact HO_644000.out) hb)
            have n3_ := Aside0.mk (blk_below (g := gb643) (o := .cells #[.slice Ao15 t639.length co15, .int .i64 t642] 26 (0, 0)) (by (with_reducible repeat (first | refine blk_drewN ?_ _ | refine blk_drew ?_ | refine blk_alloc ?_ _)); exact BK643.out) hb)
            have n4_ := Aside0.mk (below_step (by repeat (first | (with_reducible first | exact HB.out | apply below_alloc | apply pw_below_drewN | apply below_drew1 | refine below_set ?_ GE643.out) | exact HB.out)) hb)
            have n5_ := Aside0.mk (hbox)
            have n6_ := Aside0.mk ((by rw [hg]; exact (below_size (by repeat (first | (with_reducible first | exact HB.out | apply below_alloc | apply pw_below_drewN | apply below_drew1 | refine below_set ?_ GE643.out) | exact HB.out))) : w.heap.size ≤ gb675))
            have n7_ := Aside0.mk ((by rw [hg]; exact (below_size (by repeat (first | (with_reducible first | exact HB.out | apply below_alloc | apply pw_below_drewN | apply below_drew1 | refine below_set ?_ GE643.out) | exact HB.out))) : w.heap.size ≤ gb675))
            have n8_ := Aside0.mk ((by rw [hg]; exact Nat.ne_of_lt (blk_lt (g := gb643) (o := .cells #[.slice Ao15 t639.length co15, .int .i64 t642] 26 (0, 0)) (by (with_reducible repeat (first | refine blk_drewN ?_ _ | refine blk_drew ?_ | refine blk_alloc ?_ _)); exact BK643.out)) : gb643 ≠ gb675))
            have n9_ := Aside0.mk ((by rw [hg]; exact Nat.ne_of_gt (blk_lt (g := gb643) (o := .cells #[.slice Ao15 t639.length co15, .int .i64 t642] 26 (0, 0)) (by (with_reducible repeat (first | refine blk_drewN ?_ _ | refine blk_drew ?_ | refine blk_alloc ?_ _)); exact BK643.out)) : gb675 ≠ gb643))
            clear HO_15
            clear HO_16
            clear HO_644000
            clear BK643
            clear HB
            have HO_15 := n0_
            have HO_16 := n1_
            have HO_644000 := n2_
            have BK643 := n3_
            have HB := n4_
            have BK675 := n5_
            have GW675 := n6_
            have GE675 := n7_
            have NB643_675 := n8_
            have NB675_643 := n9_
            clear n0_ n1_ n2_ n3_ n4_ n5_ n6_ n7_ n8_ n9_
            clear hb hbox hg
            refine hK.out _ _ ⟨(blk_cell BK643.out 0).trans rfl, (blk_cell BK643.out 1).trans rfl⟩ (fun hHeld => ?_)
            clear hK K
            refine norm_ (a' := ?_) ?_ ?_
            rotate_left
            ·
             show Act.put _ (some 22) _ = _
             simp only [Act.put, List.setIfInBounds_toArray, List.set_cons_zero, List.set_cons_succ, i64_w, i32_w]
             rfl
            refine one_ (i := 0) (N := some 100) #[true, true, true, false, true, true, false, true, false] rfl rfl (one_of HT_.out (by kernel_rfl)) (by decide) (fun K hK => ?_)
            refine Kd.R_lit_step k67 _ 67 ?hg (N := 100) ?hd (xs := ([] : List (S67))) (inner := []) (ok := fun _ => True) (okp := fun _ => True) ?hr ?hp (fun _ hk => hk) trivial (Below.refl _ _) (Nat.le_refl _) (by simp) ?_; (case hd => rfl); (case hg => rfl); (case hr => first | (go_simp; done) | (go_simp; rfl)); (case hp => exact (Reps.none _ _))
            intro v670 w56 ho57 hb hg_ hnew_
            clear hg_ hnew_
            (first | rw [← Ny669.out] at ho57 | (simp only [Int.reduceToNat] at ho57; rw [← Ny669.out] at ho57))
            have n0_ := Aside0.mk (Kd.R_below (by (with_reducible repeat (first | apply Kd.R_alloc | apply Kd.R_drewN | apply Kd.R_drew)); exact HO_15.out) hb)
            have n1_ := Aside0.mk (Kd.R_below (by (with_reducible repeat (first | apply Kd.R_alloc | apply Kd.R_drewN | apply Kd.R_drew)); exact HO_16.out) hb)
            have n2_ := Aside0.mk (Kd.R_elder' (by (with_reducible repeat (first | apply Kd.R_alloc | apply Kd.R_drewN | apply Kd.R_drew)); exact HO_644000.out) (Kd.R_base ho57) hb)
            have n3_ := Aside0.mk (Kd.R_lower (Kd.R_new' ho57 (Kd.R_lt (by (with_reducible repeat (first | apply Kd.R_alloc | apply Kd.R_drewN | apply Kd.R_drew)); exact HO_644000.out))) (below_size (by repeat (first | (with_reducible first | exact HB.out | apply below_alloc | apply pw_below_drewN | apply below_drew1 | refine below_set ?_ GE643.out | refine below_set ?_ GE675.out) | exact HB.out))))
            have n4_ := Aside0.mk (blk_below (g := gb643) (o := .cells #[.slice Ao15 t639.length co15, .int .i64 t642] 26 (0, 0)) (by (with_reducible repeat (first | refine blk_drewN ?_ _ | refine blk_drew ?_ | refine blk_alloc ?_ _)); exact BK643.out) hb)
            have n5_ := Aside0.mk (blk_below (g := gb675) (o := .cells #[.slice none 0 0, .int .i64 0] 26 (0, 0)) (by (with_reducible repeat (first | refine blk_drewN ?_ _ | refine blk_drew ?_ | refine blk_alloc ?_ _)); exact BK675.out) hb)
            have n6_ := Aside0.mk (below_step (by repeat (first | (with_reducible first | exact HB.out | apply below_alloc | apply pw_below_drewN | apply below_drew1 | refine below_set ?_ GE643.out | refine below_set ?_ GE675.out) | exact HB.out)) hb)
            clear HO_15
            clear HO_16
            clear HO_644000
            clear BK643
            clear BK675
            clear HB
            have HO_15 := n0_
            have HO_16 := n1_
            have HO_644000 := n2_
            have HO671 := n3_
            have BK643 := n4_
            have BK675 := n5_
            have HB := n6_
            clear n0_ n1_ n2_ n3_ n4_ n5_ n6_
            clear hb ho57
            refine hK.out _ _ ⟨(blk_cell BK643.out 0).trans rfl, (blk_cell BK643.out 1).trans rfl⟩ (fun hHeld => ?_)
            clear hK K
            refine norm_ (a' := ?_) ?_ ?_
            rotate_left
            ·
             show Act.put _ (some 100) _ = _
             simp only [Act.put, List.setIfInBounds_toArray, List.set_cons_zero, List.set_cons_succ, i64_w, i32_w]
             rfl
            refine one_ (i := 3) (N := some 103) #[true, true, true, true, true, true, false, true, false] rfl rfl (one_of HT_.out (by kernel_rfl)) (by decide) (fun K hK => ?_)
            refine Kd.R_append_rows_step k67 (w0 := w) w.heap.size (by rfl) (.tmp 100) (.tmp 102) 24 67 (.agg #[(.int .i64 0), (.int .i64 0)]) 16 rfl Try.underlying24 info67 rfl (by decide) (by omega) v670 y669 t639 _ _ _ (fun k_ => some k_ ≠ (.slice Ao15 t639.length co15 : Value).ownBlock) (fun _ => False) rfl rfl ?aO ?aR (fun _ _ h => h) (fun _ h => h.elim) ?aF ?aB ?aS ?aL ?_
            (case aR => repeat (first | exact (Kd.R_reads' HO_644000.out).2.2 | (with_reducible refine Kd.C_alloc ?_ _) | (with_reducible refine Kd.C_drewN ?_ _) | (with_reducible refine Kd.C_drew ?_)))
            (case aB => exact (by repeat (first | (with_reducible first | exact HB.out | apply below_alloc | apply pw_below_drewN | apply below_drew1 | refine below_set ?_ GE643.out | refine below_set ?_ GE675.out) | exact HB.out)))
            (case aF => exact (fun k_ hk => Kd.fresh' (Kd.R_lt (by (with_reducible repeat (first | apply Kd.R_alloc | apply Kd.R_drewN | apply Kd.R_drew)); exact HO_644000.out)) k_ hk))
            (case aO => exact (by (with_reducible repeat (first | apply Kd.R_alloc | apply Kd.R_drewN | apply Kd.R_drew)); exact Kd.R_mono HO671.out (fun _ hk => hk.2)))
            (case aS => exact (below_size (by repeat (first | (with_reducible first | exact HB.out | apply below_alloc | apply pw_below_drewN | apply below_drew1 | refine below_set ?_ GE643.out | refine below_set ?_ GE675.out) | exact HB.out))))
            (case aL => have := LMc52.out; omega)
            intro v673 w58 ho hb hg hat
            rw [← Ny672.out] at ho
            have n0_ := Aside0.mk (Kd.R_over' (by (with_reducible repeat (first | apply Kd.R_alloc | apply Kd.R_drewN | apply Kd.R_drew)); exact HO_15.out) (Kd.R_typed (by (with_reducible repeat (first | apply Kd.R_alloc | apply Kd.R_drewN | apply Kd.R_drew)); exact HO671.out)) (by decide) hg)
            have n1_ := Aside0.mk (Kd.R_over' (by (with_reducible repeat (first | apply Kd.R_alloc | apply Kd.R_drewN | apply Kd.R_drew)); exact HO_16.out) (Kd.R_typed (by (with_reducible repeat (first | apply Kd.R_alloc | apply Kd.R_drewN | apply Kd.R_drew)); exact HO671.out)) (by decide) hg)
            have n2_ := Aside0.mk (Kd.R_after (ok := (fun _ => True)) (by (with_reducible repeat (first | apply Kd.R_alloc | apply Kd.R_drewN | apply Kd.R_drew)); exact HO_644000.out) hg hat)
            have n3_ := Aside0.mk (blk_grown (g := gb643) (o := .cells #[.slice Ao15 t639.length co15, .int .i64 t642] 26 (0, 0)) (by (with_reducible repeat (first | refine blk_drewN ?_ _ | refine blk_drew ?_ | refine blk_alloc ?_ _)); exact BK643.out) hg (Kd.R_ne HO671.out BK643.out (by decide)))
            have n4_ := Aside0.mk (blk_grown (g := gb675) (o := .cells #[.slice none 0 0, .int .i64 0] 26 (0, 0)) (by (with_reducible repeat (first | refine blk_drewN ?_ _ | refine blk_drew ?_ | refine blk_alloc ?_ _)); exact BK675.out) hg (Kd.R_ne HO671.out BK675.out (by decide)))
            have n5_ := Aside0.mk (hb)
            have n6_ := Aside0.mk (ho)
            clear HO_15
            clear HO_16
            clear HO_644000
            clear BK643
            clear BK675
            clear HB
            clear HO671
            have HO_15 := n0_
            have HO_16 := n1_
            have HO_644000 := n2_
            have BK643 := n3_
            have BK675 := n4_
            have HB := n5_
            have HO674 := n6_
            clear n0_ n1_ n2_ n3_ n4_ n5_ n6_
            clear ho hb hg hat
            obtain ⟨Ao59, co59, eo59⟩ := Kd.R_slice HO674.out
            (first | subst eo59 | (injection eo59 with f1_ f2_ f3_; have f4_ := f1_.symm; have f5_ := f3_.symm; clear f1_ f2_ f3_; subst f4_; subst f5_))
            refine hK.out _ _ ⟨(blk_cell BK643.out 0).trans rfl, (blk_cell BK643.out 1).trans rfl⟩ (fun hHeld => ?_)
            clear hK K
            refine norm_ (a' := ?_) ?_ ?_
            rotate_left
            ·
             show Act.put _ (some 103) _ = _
             simp only [Act.put, List.setIfInBounds_toArray, List.set_cons_zero, List.set_cons_succ, i64_w, i32_w]
             rfl
            refine pure_ (i := 6) (N := some 106) (v := ?_) (a' := ?_) #[true, true, true, true, true, true, true, true, false] rfl rfl (any_of HT_.out (by kernel_rfl)) (fun _ _ _ h => h) (Or.inl ⟨by rfl, ?_⟩) ?_ ?_
            rotate_left
            ·
             intro w'
             go_simp
             with_reducible rfl
            rotate_left
            ·
             simp only [Act.put, List.setIfInBounds_toArray, List.set_cons_zero, List.set_cons_succ, i64_w, i32_w]
             rfl
            exact norm_ (by simp only [putAll, Act.put, List.setIfInBounds_toArray, List.set_cons_zero, List.set_cons_succ]) (hCont (v670, .slice Ao59 y672.length co59, gb675) _ ⟨hHeld, (by (with_reducible repeat (first | apply Kd.R_alloc | apply Kd.R_drewN | apply Kd.R_drew)); exact HO674.out), (by (with_reducible repeat (first | apply Kd.R_alloc | apply Kd.R_drewN | apply Kd.R_drew)); exact HO_15.out), (by (with_reducible repeat (first | apply Kd.R_alloc | apply Kd.R_drewN | apply Kd.R_drew)); exact HO_16.out), (by (with_reducible repeat (first | apply Kd.R_alloc | apply Kd.R_drewN | apply Kd.R_drew)); exact Kd.R_mono HO_644000.out (fun _ hk => hk.2)), (by (with_reducible repeat (first | refine blk_drewN ?_ _ | refine blk_drew ?_ | refine blk_alloc ?_ _)); exact BK643.out), (by (with_reducible repeat (first | refine blk_drewN ?_ _ | refine blk_drew ?_ | refine blk_alloc ?_ _)); exact BK675.out), GW675.out, GE675.out, NB643_675.out, NB675_643.out, (by repeat (first | (with_reducible first | exact HB.out | apply below_alloc | apply pw_below_drewN | apply below_drew1 | refine below_set ?_ GE643.out | refine below_set ?_ GE675.out) | exact HB.out))⟩)
          rintro ⟨v670, v673, gb675⟩ w60 ⟨hS_, h0_, h1_, h2_, h3_, h4_, h5_, h6_, h7_, h8_, h9_, h10_⟩
          have n0_ : Aside0 (Kd.R k67 67 w60 w.heap.size (fun k_ => some k_ ≠ (.slice Ao15 t639.length co15 : Value).ownBlock) v673 y672) := ⟨h0_⟩
          have n1_ : Aside0 (Kd.R k60 60 w60 w.heap.size (fun _ => True) (.slice Ao19 t644.length co19) t644) := ⟨h1_⟩
          have n2_ : Aside0 (Kd.R k39 39 w60 w.heap.size (fun _ => True) v648 t647) := ⟨h2_⟩
          have n3_ : Aside0 (Kd.R k67 67 w60 w.heap.size (fun k_ => some k_ ≠ (v673 : Value).ownBlock) (.slice Ao15 t639.length co15) t639) := ⟨h3_⟩
          have n4_ : Aside0 (w60.heap[gb643]? = some (.cells #[.slice Ao15 t639.length co15, .int .i64 t642] 26 (0, 0))) := ⟨h4_⟩
          have n5_ : Aside0 (w60.heap[gb675]? = some (.cells #[.slice none 0 0, .int .i64 0] 26 (0, 0))) := ⟨h5_⟩
          have n6_ : Aside0 (w.heap.size ≤ gb675) := ⟨h6_⟩
          have n7_ : Aside0 (w.heap.size ≤ gb675) := ⟨h7_⟩
          have n8_ : Aside0 (gb643 ≠ gb675) := ⟨h8_⟩
          have n9_ : Aside0 (gb675 ≠ gb643) := ⟨h9_⟩
          have n10_ : Aside0 (Below w.heap.size w w60) := ⟨h10_⟩
          clear HO_15
          clear HO_16
          clear HO_644000
          clear BK643
          clear HB
          clear h0_ h1_ h2_ h3_ h4_ h5_ h6_ h7_ h8_ h9_ h10_
          have HO674 := n0_
          have HO_15 := n1_
          have HO_16 := n2_
          have HO_644000 := n3_
          have BK643 := n4_
          have BK675 := n5_
          have GW675 := n6_
          have GE675 := n7_
          have NB643_675 := n8_
          have NB675_643 := n9_
          have HB := n10_
          clear n0_ n1_ n2_ n3_ n4_ n5_ n6_ n7_ n8_ n9_ n10_
          have hHeld : w60.cell? ⟨gb643, 0, none⟩ = some (.slice Ao15 t639.length co15) ∧ w60.cell? ⟨gb643, 1, none⟩ = some (.int .i64 t642) := hS_
          obtain ⟨Ao61, co61, eo61⟩ := Kd.R_slice HO674.out
          (first | subst eo61 | (injection eo61 with f1_ f2_ f3_; have f4_ := f1_.symm; have f5_ := f3_.symm; clear f1_ f2_ f3_; subst f4_; subst f5_))
          refine norm_ (a' := ?_) ?_ ?_
          rotate_left
          ·
           simp only [putAll, Act.put, List.setIfInBounds_toArray, List.set_cons_zero, List.set_cons_succ]
           rfl
          refine one_ (i := 8) (N := none) #[true, true, true, true, true, true, true, true, true] rfl rfl (one_of HT_.out (by kernel_rfl)) (by decide) (fun K hK => ?_)
          have hs62 : w60.cell? ⟨gb675, 0, none⟩ = some (.slice none 0 0) := (blk_cell BK675.out 0).trans rfl
          have hfs62 := blk_frozen BK675.out 0
          have hns62_0 := NB643_675.out
          have hms62_0 := NB675_643.out
          have hs63 : w60.cell? ⟨gb675, 1, none⟩ = some (.int .i64 0) := (blk_cell BK675.out 1).trans rfl
          have hfs63 := blk_frozen BK675.out 1
          have hns63_0 := NB643_675.out
          have hms63_0 := NB675_643.out
          refine skip_ (w1 := ?_) (by rfl) rfl ?_ ?_
          rotate_left
          ·
           go_simp
           rfl
          refine hK.out _ _ ⟨((cell_far (p := ⟨gb675, _, none⟩) NB643_675.out _).trans (((cell_far (p := ⟨gb675, _, none⟩) NB643_675.out _).trans (hHeld.1)))), ((cell_far (p := ⟨gb675, _, none⟩) NB643_675.out _).trans (((cell_far (p := ⟨gb675, _, none⟩) NB643_675.out _).trans (hHeld.2))))⟩ (fun hHeld => ?_)
          clear hK K
          refine done_ (done_of HT_.out (by kernel_rfl)) ?_
          have hnb64 := NB675_643.out
          have hnc64 := NB643_675.out
          have hcz65_0 : w60.cell? ⟨gb675, 0, none⟩ = some (.slice none 0 0) := (blk_cell BK675.out 0).trans rfl
          have hcz65_1 : w60.cell? ⟨gb675, 1, none⟩ = some (.int .i64 0) := (blk_cell BK675.out 1).trans rfl
          have hfz65_0 := blk_frozen BK675.out 0
          have hfz65_1 := blk_frozen BK675.out 1
          try go_wp2_with (first | ((with_reducible refine gate_callee (f := 18) rfl ?_); refine goesL_ (some 111) rfl rfl Try.func18 (by kernel_rfl) rfl #[.int .i64 a4, .int .i64 (y672.length : Int)] rfl (by (try simp only [List.map_toArray, List.map_cons, List.map_nil]); first | done | rfl | (simp only [List.length_drop, List.length_take]; rfl)) ?_; (with_reducible refine (dialtonelaw34_pick.calls a4 (y672.length : Int) t676 _ A53.out).mono ?_); rintro e w66 ⟨rfl, hb⟩; refine ⟨_, rfl, ?_⟩; have n0_ := Aside0.mk (Kd.R_below (by (with_reducible repeat (first | apply Kd.R_alloc | apply Kd.R_drewN | apply Kd.R_drew)); exact (Kd.R_mono (Kd.R_far (p := ⟨gb675, 1, none⟩) (Kd.R_far (p := ⟨gb675, 0, none⟩) (Kd.R_types HO_15.out BK675.out (by decide)) (fun _ hk => hk.2) (.slice Ao61 y672.length co61)) (fun _ hk => hk.2) (.int .i64 t642)) (fun _ h_ => h_.1))) hb); have n1_ := Aside0.mk (Kd.R_below (by (with_reducible repeat (first | apply Kd.R_alloc | apply Kd.R_drewN | apply Kd.R_drew)); exact (Kd.R_mono (Kd.R_far (p := ⟨gb675, 1, none⟩) (Kd.R_far (p := ⟨gb675, 0, none⟩) (Kd.R_types HO_16.out BK675.out (by decide)) (fun _ hk => hk.2) (.slice Ao61 y672.length co61)) (fun _ hk => hk.2) (.int .i64 t642)) (fun _ h_ => h_.1))) hb); have n2_ := Aside0.mk (Kd.R_below (by (with_reducible repeat (first | apply Kd.R_alloc | apply Kd.R_drewN | apply Kd.R_drew)); exact (Kd.R_mono (Kd.R_far (p := ⟨gb675, 1, none⟩) (Kd.R_far (p := ⟨gb675, 0, none⟩) (Kd.R_types HO_644000.out BK675.out (by decide)) (fun _ hk => hk.2) (.slice Ao61 y672.length co61)) (fun _ hk => hk.2) (.int .i64 t642)) (fun _ h_ => h_.1))) hb); have n3_ := Aside0.mk (Kd.R_below (by (with_reducible repeat (first | apply Kd.R_alloc | apply Kd.R_drewN | apply Kd.R_drew)); exact (Kd.R_mono (Kd.R_far (p := ⟨gb675, 1, none⟩) (Kd.R_far (p := ⟨gb675, 0, none⟩) (Kd.R_types HO674.out BK675.out (by decide)) (fun _ hk => hk.2) (.slice Ao61 y672.length co61)) (fun _ hk => hk.2) (.int .i64 t642)) (fun _ h_ => h_.1))) hb); have n4_ := Aside0.mk (blk_below (g := gb643) (o := .cells #[.slice Ao15 t639.length co15, .int .i64 t642] 26 (0, 0)) (by (with_reducible repeat (first | refine blk_drewN ?_ _ | refine blk_drew ?_ | refine blk_alloc ?_ _)); refine blk_far ?_ NB643_675.out _; (with_reducible repeat (first | refine blk_drewN ?_ _ | refine blk_drew ?_ | refine blk_alloc ?_ _)); refine blk_far ?_ NB643_675.out _; (with_reducible repeat (first | refine blk_drewN ?_ _ | refine blk_drew ?_ | refine blk_alloc ?_ _)); exact BK643.out) hb); have n5_ := Aside0.mk (blk_below (g := gb675) (o := .cells #[.slice Ao61 y672.length co61, .int .i64 t642] 26 (0, 0)) (by (with_reducible repeat (first | refine blk_drewN ?_ _ | refine blk_drew ?_ | refine blk_alloc ?_ _)); refine blk_put (cs := #[.slice Ao61 y672.length co61, .int .i64 0]) ?_ 1 _ rfl; (with_reducible repeat (first | refine blk_drewN ?_ _ | refine blk_drew ?_ | refine blk_alloc ?_ _)); refine blk_put (cs := #[.slice none 0 0, .int .i64 0]) ?_ 0 _ rfl; (with_reducible repeat (first | refine blk_drewN ?_ _ | refine blk_drew ?_ | refine blk_alloc ?_ _)); exact BK675.out) hb); have n6_ := Aside0.mk (below_step (by repeat (first | (with_reducible first | exact HB.out | apply below_alloc | apply pw_below_drewN | apply below_drew1 | refine below_set ?_ GE643.out | refine below_set ?_ GE675.out) | exact HB.out)) hb); clear HO_15; clear HO_16; clear HO_644000; clear HO674; clear BK643; clear BK675; clear HB; have HO_15 := n0_; have HO_16 := n1_; have HO_644000 := n2_; have HO674 := n3_; have BK643 := n4_; have BK675 := n5_; have HB := n6_; clear n0_ n1_ n2_ n3_ n4_ n5_ n6_; (try clear hb); (try clear hb2); (try clear hk); (try clear hi)))
          go_loopg [23] kj26 (fun kq v23 w' => ∃ (x23_3 : Int) (x644000_3 : List (S67)) (x676000_3 : List (S67)) (u644000 : Value) (u676000 : Value), v23 = .int .i64 x23_3 ∧ Aside0 (dialtonelaw34_RecoveryGrows.l1 kq a5 true t644 t647 x23_3 x676000_3 t642 = some r) ∧ Aside0 (kq ≤ kj26) ∧ Aside0 (Kd.R k60 60 w' w.heap.size (fun _ => True) (.slice Ao19 t644.length co19) t644) ∧ Aside0 (Kd.R k39 39 w' w.heap.size (fun _ => True) v648 t647) ∧ Aside0 (Kd.R k67 67 w' w.heap.size (fun k_ => some k_ ≠ (u676000 : Value).ownBlock) u644000 x644000_3) ∧ Aside0 (Kd.R k67 67 w' w.heap.size (fun k_ => some k_ ≠ (u644000 : Value).ownBlock) u676000 x676000_3) ∧ Aside0 (w'.heap[gb643]? = some (.cells #[u644000, .int .i64 t642] 26 (0, 0))) ∧ Aside0 (w'.heap[gb675]? = some (.cells #[u676000, .int .i64 t642] 26 (0, 0))) ∧ Aside0 (Below w.heap.size w w'))
          case atStart => exact ⟨(t676), (t639), (y672), (.slice Ao15 t639.length co15), (.slice Ao61 y672.length co61), (by first | rfl | (simp; done) | (simp [*]; done)), H', ⟨Nat.le_refl _⟩, ⟨by (with_reducible repeat (first | apply Kd.R_alloc | apply Kd.R_drewN | apply Kd.R_drew)); exact HO_15.out⟩, ⟨by (with_reducible repeat (first | apply Kd.R_alloc | apply Kd.R_drewN | apply Kd.R_drew)); exact HO_16.out⟩, ⟨by (with_reducible repeat (first | apply Kd.R_alloc | apply Kd.R_drewN | apply Kd.R_drew)); exact HO_644000.out⟩, ⟨by (with_reducible repeat (first | apply Kd.R_alloc | apply Kd.R_drewN | apply Kd.R_drew)); exact HO674.out⟩, ⟨by (with_reducible repeat (first | refine blk_drewN ?_ _ | refine blk_drew ?_ | refine blk_alloc ?_ _)); exact BK643.out⟩, ⟨by (with_reducible repeat (first | refine blk_drewN ?_ _ | refine blk_drew ?_ | refine blk_alloc ?_ _)); exact BK675.out⟩, ⟨by repeat (first | (with_reducible first | exact HB.out | apply below_alloc | apply pw_below_drewN | apply below_drew1 | refine below_set ?_ GE643.out | refine below_set ?_ GE675.out) | exact HB.out)⟩⟩
          case round =>
           clear H'
           try clear c1
           try clear c2
           try clear p2
           try clear c3
           try clear c4
           try clear q4
           try clear c5
           try clear c6
           try clear p6
           try clear q6
           try clear hx6
           try clear c8
           try clear c11
           try clear c13
           try clear c14
           try clear c15
           try clear c16
           try clear c18
           try clear c21
           try clear c21b0
           try clear c22
           try clear c22b0
           try clear c25
           try clear c35
           try clear c35b0
           try clear c35b1
           try clear c36
           try clear c36b0
           try clear c36b1
           try clear c37
           try clear c37b0
           try clear c37b1
           try clear c38
           try clear c38b0
           try clear c38b1
           try clear c39
           try clear c39b0
           try clear c39b1
           try clear c41
           try clear c42
           try clear c42b0
           try clear c42b1
           try clear q45
           try clear q48
           try clear c51
           try clear c52
           try clear c64
           try clear p64
           try clear p65
           try clear q65
           try clear hx65
           try clear p66
           try clear q66
           try clear hx66
           try clear hcz16_0
           try clear hcz16_1
           try clear hcz18_0
           try clear hcz18_1
           try clear hcz65_0
           try clear hcz65_1
           try clear hfz16_0
           try clear hfz16_1
           try clear hfz18_0
           try clear hfz18_1
           try clear hfz65_0
           try clear hfz65_1
           try clear hx651_0
           try clear hx651_1
           try clear hx651_2
           try clear hx668_0
           try clear hx668_1
           try clear hx668_2
           try clear p2
           try clear p6
           try clear p651
           try clear p668
           try clear q4
           try clear q45
           try clear q48
           try clear q6
           try clear q651
           try clear q668
           obtain ⟨x23_3, x644000_3, x676000_3, u644000, u676000, rfl, HA, HK3, HO_15, HO_16, HO_644000, HO_676000, BK643, BK675, HB⟩ := hrel
           cases gk with
           | zero => exact absurd HA.out (by simp [dialtonelaw34_RecoveryGrows.l1])
           | succ k3 =>
            have H := HA.out
            clear HA
            simp only [dialtonelaw34_RecoveryGrows.l1] at H
            by_cases c67 : x23_3 < (x676000_3.length : Int)
            ·
             rw [if_pos c67] at H
             have c67b0 : decide (x23_3 < (x676000_3.length : Int)) = true := decide_eq_true c67
             clear c67
             by_cases c68 : 0 ≤ x23_3
             ·
              rw [if_pos c68] at H
              have c68b0 : decide (0 ≤ x23_3) = true := decide_eq_true c68
              clear c68
              replace H := Option.bind_eq_some_iff.mp H
              obtain ⟨t678, A690, H⟩ := H
              replace H : (dialtonelaw34_RecoveryGrows.l1 k3 a5 true t644 t647 (wrap64 (x23_3 + 1)) (x676000_3.set (x23_3 : Int).toNat (⟨(rd_T67 x676000_3 x23_3).f0, mn (wrap64 (((rd_T67 x676000_3 x23_3).f1) + t678)) 20⟩ : S67)) t642) = some r := H
              have A69 := Aside0.mk A690
              clear A690
              obtain ⟨ji70, hji70⟩ : ∃ j_ : Int, (mn (wrap64 (((rd_T67 x676000_3 x23_3).f1) + t678)) 20) = j_ := ⟨_, rfl⟩
              replace H : (dialtonelaw34_RecoveryGrows.l1 k3 a5 true t644 t647 (wrap64 (x23_3 + 1)) (x676000_3.set (x23_3 : Int).toNat (⟨(rd_T67 x676000_3 x23_3).f0, ji70⟩ : S67)) t642) = some r := by first | (rw [hji70] at H; exact H) | (simp only [hji70] at H ⊢; exact H)
              (try rw [hji70] at A69)
              have hji70_ : (if 20 < (wrap64 (((rd_T67 x676000_3 x23_3).f1) + t678)) then 20 else (wrap64 (((rd_T67 x676000_3 x23_3).f1) + t678))) = ji70 := hji70
              obtain ⟨y679, hy679⟩ : ∃ y_ : List (S67), y_ = (x676000_3.set (x23_3 : Int).toNat (⟨(rd_T67 x676000_3 x23_3).f0, ji70⟩ : S67)) := ⟨_, rfl⟩
              replace H : (dialtonelaw34_RecoveryGrows.l1 k3 a5 true t644 t647 (wrap64 (x23_3 + 1)) y679 t642) = some r := by first | (rw [hy679]; with_reducible exact H) | (have H2_ := (Option.bind_some _ _).symm.trans H; rw [hy679]; with_reducible exact H2_) | (have H2_ := (Option.bind_some _ _).symm.trans H; with_reducible exact H2_) | with_reducible exact H | (rw [hy679]; exact H) | exact H
              have Ny679 := Aside0.mk hy679
              clear hy679
              have H' := Aside0.mk H
              clear H
              have hnb72 := NB675_643.out
              have hnc72 := NB643_675.out
              have hcz73_0 : wr.cell? ⟨gb675, 0, none⟩ = some (u676000) := (blk_cell BK675.out 0).trans rfl
              have hcz73_1 : wr.cell? ⟨gb675, 1, none⟩ = some (.int .i64 t642) := (blk_cell BK675.out 1).trans rfl
              have hfz73_0 := blk_frozen BK675.out 0
              have hfz73_1 := blk_frozen BK675.out 1
              obtain ⟨Ao74, co74, eo74⟩ := Kd.R_slice HO_676000.out
              subst eo74
              try go_wp2
              have n0_ := Aside0.mk (Kd.R_drew HO_15.out)
              have n1_ := Aside0.mk (Kd.R_drew HO_16.out)
              have n2_ := Aside0.mk (Kd.R_drew HO_644000.out)
              have n3_ := Aside0.mk (Kd.R_drew HO_676000.out)
              have n4_ := Aside0.mk (blk_drew BK643.out)
              have n5_ := Aside0.mk (blk_drew BK675.out)
              have n6_ := Aside0.mk (below_drew1 HB.out)
              clear HO_15
              clear HO_16
              clear HO_644000
              clear HO_676000
              clear BK643
              clear BK675
              clear HB
              have HO_15 := n0_
              have HO_16 := n1_
              have HO_644000 := n2_
              have HO_676000 := n3_
              have BK643 := n4_
              have BK675 := n5_
              have HB := n6_
              clear n0_ n1_ n2_ n3_ n4_ n5_ n6_
              have p677 : 0 ≤ (x23_3 : Int) := of_decide_eq_true (by first | (with_reducible assumption) | assumption)
              have q677 : x23_3 < (x676000_3.length : Int) := of_decide_eq_true (by first | (with_reducible assumption) | assumption)
              obtain ⟨ad677, e677, hx677_0, hx677_1⟩ := at_T67 (Kd.R_reads' HO_676000.out).2.2 x23_3 p677 q677
              cases e677
              replace p677 := eq_true p677
              replace q677 := eq_true q677
              refine start_ (n := 16) (S := fun w' => w'.cell? ⟨gb675, 0, none⟩ = some (.slice (some ad677) x676000_3.length co74) ∧ w'.cell? ⟨gb675, 1, none⟩ = some (.int .i64 t642) ∧ w'.cell? (ad677.add ((x23_3).toNat * 2)) = some (.int .i64 ((rd_T67 x676000_3 x23_3).f0)) ∧ w'.cell? ⟨(ad677.add ((x23_3).toNat * 2)).block, (ad677.add ((x23_3).toNat * 2)).off + 1, none⟩ = some (.int .i64 ((rd_T67 x676000_3 x23_3).f1))) (ds := [15]) #[false, false, false, false, false, false, false, false, false, false, false, false, false, false, false, false] (by kernel_rfl) rfl rfl ⟨(blk_cell BK675.out 0).trans rfl, (blk_cell BK675.out 1).trans rfl, hx677_0, hx677_1⟩ (fun hHeld => ?_); refine with_tabW dialtonelaw34_RecoveryGrows.tab19 dialtonelaw34_RecoveryGrows.bits19 (fun HT_ HW_ => ?_)
              generalize wr.drew = w75 at HO_15 HO_16 HO_644000 HO_676000 BK643 BK675 HB hx677_0 hx677_1 hHeld ⊢
              refine pure_ (i := 0) (N := some 119) (v := ?_) (a' := ?_) #[true, false, false, false, false, false, false, false, false, false, false, false, false, false, false, false] rfl rfl (any_of HT_.out (by kernel_rfl)) (fun _ _ _ h => h) (Or.inl ⟨by rfl, ?_⟩) ?_ ?_
              rotate_left
              ·
               intro w'
               go_simp
               with_reducible rfl
              rotate_left
              ·
               simp only [Act.put, List.setIfInBounds_toArray, List.set_cons_zero, List.set_cons_succ, i64_w, i32_w]
               rfl
              refine pure_ (i := 2) (N := some 121) (v := ?_) (a' := ?_) #[true, false, true, false, false, false, false, false, false, false, false, false, false, false, false, false] rfl rfl (any_of HT_.out (by kernel_rfl)) (fun _ _ _ h => h) (Or.inl ⟨by rfl, ?_⟩) ?_ ?_
              rotate_left
              ·
               intro w'
               go_simp
               with_reducible rfl
              rotate_left
              ·
               simp only [Act.put, List.setIfInBounds_toArray, List.set_cons_zero, List.set_cons_succ, i64_w, i32_w]
               rfl
              refine pure_ (i := 3) (N := some 122) (v := ?_) (a' := ?_) #[true, false, true, true, false, false, false, false, false, false, false, false, false, false, false, false] rfl rfl (any_of HT_.out (by kernel_rfl)) (fun _ _ _ h => h) (Or.inl ⟨by rfl, ?_⟩) ?_ ?_
              rotate_left
              ·
               intro w'
               go_simp
               with_reducible rfl
              rotate_left
              ·
               simp only [Act.put, List.setIfInBounds_toArray, List.set_cons_zero, List.set_cons_succ, i64_w, i32_w]
               rfl
              refine pure_ (i := 5) (N := some 124) (v := ?_) (a' := ?_) #[true, false, true, true, false, true, false, false, false, false, false, false, false, false, false, false] rfl rfl (any_of HT_.out (by kernel_rfl)) (fun _ _ _ h => h) (Or.inl ⟨by rfl, ?_⟩) ?_ ?_
              rotate_left
              ·
               intro w'
               go_simp
               with_reducible rfl
              rotate_left
              ·
               simp only [Act.put, List.setIfInBounds_toArray, List.set_cons_zero, List.set_cons_succ, i64_w, i32_w]
               rfl
              refine pure_ (i := 9) (N := some 128) (v := ?_) (a' := ?_) #[true, false, true, true, false, true, false, false, false, true, false, false, false, false, false, false] rfl rfl (any_of HT_.out (by kernel_rfl)) (fun _ _ _ h => h) (Or.inl ⟨by rfl, ?_⟩) ?_ ?_
              rotate_left
              ·
               intro w'
               go_simp
               with_reducible rfl
              rotate_left
              ·
               simp only [Act.put, List.setIfInBounds_toArray, List.set_cons_zero, List.set_cons_succ, i64_w, i32_w]
               rfl
              refine take_ (i := 1) (N := some 120) (v := ?_) (a' := ?_) #[true, true, true, true, false, true, false, false, false, true, false, false, false, false, false, false] rfl rfl (take_ofW HT_.out HW_.out (by kernel_rfl)) (fun _ _ _ h => h) (Or.inl ⟨by rfl, ?_⟩) hHeld ?_ ?_
              rotate_left
              ·
               rintro w' ⟨s0, s1, s2, s3⟩
               go_simp
               with_reducible rfl
              rotate_left
              ·
               simp only [Act.put, List.setIfInBounds_toArray, List.set_cons_zero, List.set_cons_succ, i64_w, i32_w]
               rfl
              refine take_ (i := 4) (N := some 123) (v := ?_) (a' := ?_) #[true, true, true, true, true, true, false, false, false, true, false, false, false, false, false, false] rfl rfl (take_ofW HT_.out HW_.out (by kernel_rfl)) (fun _ _ _ h => h) (Or.inl ⟨by rfl, ?_⟩) hHeld ?_ ?_
              rotate_left
              ·
               rintro w' ⟨s0, s1, s2, s3⟩
               go_simp
               with_reducible rfl
              rotate_left
              ·
               simp only [Act.put, List.setIfInBounds_toArray, List.set_cons_zero, List.set_cons_succ, i64_w, i32_w]
               rfl
              refine pure_ (i := 6) (N := some 125) (v := ?_) (a' := ?_) #[true, true, true, true, true, true, true, false, false, true, false, false, false, false, false, false] rfl rfl (any_of HT_.out (by kernel_rfl)) (fun _ _ _ h => h) (Or.inl ⟨by rfl, ?_⟩) ?_ ?_
              rotate_left
              ·
               intro w'
               go_simp
               with_reducible rfl
              rotate_left
              ·
               simp only [Act.put, List.setIfInBounds_toArray, List.set_cons_zero, List.set_cons_succ, i64_w, i32_w]
               rfl
              refine pure_ (i := 7) (N := some 126) (v := ?_) (a' := ?_) #[true, true, true, true, true, true, true, true, false, true, false, false, false, false, false, false] rfl rfl (any_of HT_.out (by kernel_rfl)) (fun _ _ _ h => h) (Or.inl ⟨by rfl, ?_⟩) ?_ ?_
              rotate_left
              ·
               intro w'
               go_simp
               with_reducible rfl
              rotate_left
              ·
               simp only [Act.put, List.setIfInBounds_toArray, List.set_cons_zero, List.set_cons_succ, i64_w, i32_w]
               rfl
              refine take_ (i := 8) (N := some 127) (v := ?_) (a' := ?_) #[true, true, true, true, true, true, true, true, true, true, false, false, false, false, false, false] rfl rfl (take_ofW HT_.out HW_.out (by kernel_rfl)) (fun _ _ _ h => h) (Or.inl ⟨by rfl, ?_⟩) hHeld ?_ ?_
              rotate_left
              ·
               rintro w' ⟨s0, s1, s2, s3⟩
               go_simp
               with_reducible rfl
              rotate_left
              ·
               simp only [Act.put, List.setIfInBounds_toArray, List.set_cons_zero, List.set_cons_succ, i64_w, i32_w]
               rfl
              refine one_ (i := 10) (N := some 129) #[true, true, true, true, true, true, true, true, true, true, true, false, false, false, false, false] rfl rfl (one_of HT_.out (by kernel_rfl)) (by decide) (fun K hK => ?_)
              refine goes_ Try.func18 (by kernel_rfl) rfl #[.int .i64 a5, .int .i64 4] (by rfl) rfl rfl (by (try simp only [List.map_toArray, List.map_cons, List.map_nil]); first | done | rfl | (simp only [List.length_drop, List.length_take]; rfl)) ?_
              with_reducible refine (dialtonelaw34_pick.calls a5 4 t678 _ A69.out).mono ?_
              rintro e w76 ⟨rfl, hb⟩
              have HS2_ := (hb.cell (World.block_lt_of_cell? _ _ (hHeld.2.2.1))).trans (hHeld.2.2.1)
              have HS3_ := (hb.cell (World.block_lt_of_cell? _ _ (hHeld.2.2.2))).trans (hHeld.2.2.2)
              refine ⟨_, rfl, ?_⟩
              have n0_ := Aside0.mk (Kd.R_below (by (with_reducible repeat (first | apply Kd.R_alloc | apply Kd.R_drewN | apply Kd.R_drew)); exact HO_15.out) hb)
              have n1_ := Aside0.mk (Kd.R_below (by (with_reducible repeat (first | apply Kd.R_alloc | apply Kd.R_drewN | apply Kd.R_drew)); exact HO_16.out) hb)
              have n2_ := Aside0.mk (Kd.R_below (by (with_reducible repeat (first | apply Kd.R_alloc | apply Kd.R_drewN | apply Kd.R_drew)); exact HO_644000.out) hb)
              have n3_ := Aside0.mk (Kd.R_below (by (with_reducible repeat (first | apply Kd.R_alloc | apply Kd.R_drewN | apply Kd.R_drew)); exact HO_676000.out) hb)
              have n4_ := Aside0.mk (blk_below (g := gb643) (o := .cells #[u644000, .int .i64 t642] 26 (0, 0)) (by (with_reducible repeat (first | refine blk_drewN ?_ _ | refine blk_drew ?_ | refine blk_alloc ?_ _)); exact BK643.out) hb)
              have n5_ := Aside0.mk (blk_below (g := gb675) (o := .cells #[.slice (some ad677) x676000_3.length co74, .int .i64 t642] 26 (0, 0)) (by (with_reducible repeat (first | refine blk_drewN ?_ _ | refine blk_drew ?_ | refine blk_alloc ?_ _)); exact BK675.out) hb)
              have n6_ := Aside0.mk (below_step (by repeat (first | (with_reducible first | exact HB.out | apply below_alloc | apply pw_below_drewN | apply below_drew1 | refine below_set ?_ GE643.out | refine below_set ?_ GE675.out) | exact HB.out)) hb)
              clear HO_15
              clear HO_16
              clear HO_644000
              clear HO_676000
              clear BK643
              clear BK675
              clear HB
              have HO_15 := n0_
              have HO_16 := n1_
              have HO_644000 := n2_
              have HO_676000 := n3_
              have BK643 := n4_
              have BK675 := n5_
              have HB := n6_
              clear n0_ n1_ n2_ n3_ n4_ n5_ n6_
              (try clear hb)
              (try clear hb2)
              (try clear hk)
              (try clear hi)
              have p71 : 0 ≤ (x23_3 : Int) := of_decide_eq_true (by first | (with_reducible assumption) | assumption)
              have q71 : (x23_3 : Int) < ((x676000_3.length : Int) : Int) := of_decide_eq_true (by first | (with_reducible assumption) | assumption)
              obtain ⟨go71, co71, eo71, gb71, gl71, cl71, HG71⟩ := Kd.R_form HO_676000.out (by omega)
              (first | cases eo71 | (injection eo71 with ea_ en_ ec_; (first | subst ea_ | (injection ea_ with ea_; subst ea_)); subst ec_; clear en_))
              have GB71 := Aside0.mk gb71
              have GG71 := Aside0.mk HG71
              clear gb71 gl71 HG71
              (first | simp only [add_plain] at hx677_0 | skip)
              (first | simp only [add_plain] at hx677_1 | skip)
              obtain ⟨ce71, hcl71, hM71, hcc71, hfr71⟩ := Kd.R_elem HO_676000.out z67 (x23_3 : Int) p71 q71
              obtain rfl := k67_openM hM71
              have hx71_0 : World.cell? _ ⟨go71, (x23_3 : Int).toNat * 2, none⟩ = some (.int .i64 ((rd_T67 x676000_3 x23_3).f0)) := hcc71 0 _ rfl
              have hx71_1 : World.cell? _ ⟨go71, (x23_3 : Int).toNat * 2 + 1, none⟩ = some (.int .i64 ((rd_T67 x676000_3 x23_3).f1)) := hcc71 1 _ rfl
              have hf71_0 : World.frozen? _ ⟨go71, (x23_3 : Int).toNat * 2, none⟩ = false := hfr71 0
              have hf71_1 : World.frozen? _ ⟨go71, (x23_3 : Int).toNat * 2 + 1, none⟩ = false := hfr71 1
              clear hcl71 hcc71 hfr71 hM71
              replace p71 := eq_true p71
              replace q71 := eq_true q71
              obtain ⟨ce77, hcl77, hM77, hcc77, hfr77⟩ := Kd.R_elem HO_676000.out z67 (x23_3 : Int) (of_decide_eq_true (by first | (with_reducible assumption) | assumption)) (by have h_ : (x23_3 : Int) < ((x676000_3.length : Int) : Int) := of_decide_eq_true (by first | (with_reducible assumption) | assumption); first | exact h_ | (have e_ := (Kd.R_reads' HO_676000.out).1; omega) | simpa using h_)
              obtain rfl := k67_openM hM77
              have HP77 := (Kd.R_seg HO_676000.out (x23_3 : Int) (of_decide_eq_true (by first | (with_reducible assumption) | assumption)) (by have h_ : (x23_3 : Int) < ((x676000_3.length : Int) : Int) := of_decide_eq_true (by first | (with_reducible assumption) | assumption); first | exact h_ | (have e_ := (Kd.R_reads' HO_676000.out).1; omega) | simpa using h_) (seg := [.int .i64 ji70]) (j := 1) hcl77 hcc77 (show 2 ≤ 2 from by decide) (x' := (⟨(rd_T67 x676000_3 x23_3).f0, ji70⟩ : S67)) (k67_mkM _ _ _ (⟨(rd_T67 x676000_3 x23_3).f0, ji70⟩ : S67) ) (fun _ hk => hk)).1
              rw [← Ny679.out] at HP77
              have HQ77 := Aside0.mk HP77
              clear hcl77 hcc77 hfr77 hM77 HP77
              refine hK.out _ _ ⟨(blk_cell BK675.out 0).trans rfl, (blk_cell BK675.out 1).trans rfl, HS2_, HS3_⟩ (fun hHeld => ?_)
              clear hK K
              refine norm_ (a' := ?_) ?_ ?_
              rotate_left
              ·
               show Act.put _ (some 129) _ = _
               simp only [Act.put, List.setIfInBounds_toArray, List.set_cons_zero, List.set_cons_succ, i64_w, i32_w]
               rfl
              refine pure_ (i := 11) (N := some 130) (v := ?_) (a' := ?_) #[true, true, true, true, true, true, true, true, true, true, true, true, false, false, false, false] rfl rfl (any_of HT_.out (by kernel_rfl)) (fun _ _ _ h => h) (Or.inl ⟨by rfl, ?_⟩) ?_ ?_
              rotate_left
              ·
               intro w'
               go_simp
               with_reducible rfl
              rotate_left
              ·
               simp only [Act.put, List.setIfInBounds_toArray, List.set_cons_zero, List.set_cons_succ, i64_w, i32_w]
               rfl
              refine pure_ (i := 12) (N := some 131) (v := ?_) (a' := ?_) #[true, true, true, true, true, true, true, true, true, true, true, true, true, false, false, false] rfl rfl (any_of HT_.out (by kernel_rfl)) (fun _ _ _ h => h) (Or.inl ⟨by rfl, ?_⟩) ?_ ?_
              rotate_left
              ·
               intro w'
               go_simp
               with_reducible rfl
              rotate_left
              ·
               simp only [Act.put, List.setIfInBounds_toArray, List.set_cons_zero, List.set_cons_succ, i64_w, i32_w]
               rfl
              refine pure_ (i := 13) (N := some 132) (v := ?_) (a' := ?_) #[true, true, true, true, true, true, true, true, true, true, true, true, true, true, false, false] rfl rfl (any_of HT_.out (by kernel_rfl)) (fun _ _ _ h => h) (Or.inl ⟨by rfl, ?_⟩) ?_ ?_
              rotate_left
              ·
               intro w'
               go_simp
               with_reducible rfl
              rotate_left
              ·
               simp only [Act.put, List.setIfInBounds_toArray, List.set_cons_zero, List.set_cons_succ, i64_w, i32_w]
               rfl
              refine pure_ (i := 14) (N := some 133) (v := ?_) (a' := ?_) #[true, true, true, true, true, true, true, true, true, true, true, true, true, true, true, false] rfl rfl (any_of HT_.out (by kernel_rfl)) (fun _ _ _ h => h) (Or.inl ⟨by rfl, ?_⟩) ?_ ?_
              rotate_left
              ·
               intro w'
               go_simp
               with_reducible rfl
              rotate_left
              ·
               simp only [Act.put, List.setIfInBounds_toArray, List.set_cons_zero, List.set_cons_succ, i64_w, i32_w]
               rfl
              refine last_ (i := 15) (N := none) #[true, true, true, true, true, true, true, true, true, true, true, true, true, true, true, true] rfl rfl (one_of HT_.out (by kernel_rfl)) (by decide) (fun K hK => ?_)
              refine skip_ (w1 := ?_) (by rfl) rfl ?_ ?_
              rotate_left
              ·
               go_simp
               rfl
              refine hK.out _ _ ?_
              clear hK K
              refine done_ (done_of HT_.out (by kernel_rfl)) ?_
              try go_wp2
              go_roundg k3
              case measure => have := HK1.out; have := HJ26.out; have := HK3.out; omega
              case rel => exact ⟨(wrap64 (x23_3 + 1)), (x644000_3), (y679), (u644000), (.slice (some ⟨go71, 0, none⟩) x676000_3.length co74), (by first | rfl | (simp; done) | (simp [*]; done)), H', ⟨by have := HK1.out; have := HJ26.out; have := HK3.out; omega⟩, ⟨by (with_reducible repeat (first | apply Kd.R_alloc | apply Kd.R_drewN | apply Kd.R_drew)); exact Kd.R_mono (Kd.R_far (p := ⟨go71, (x23_3 : Int).toNat * 2 + 1, none⟩) (Kd.R_types HO_15.out GG71.out (by decide)) (fun _ hk => hk.2) (.int .i64 ji70)) (fun _ hk => trivial)⟩, ⟨by (with_reducible repeat (first | apply Kd.R_alloc | apply Kd.R_drewN | apply Kd.R_drew)); exact Kd.R_mono (Kd.R_far (p := ⟨go71, (x23_3 : Int).toNat * 2 + 1, none⟩) (Kd.R_types HO_16.out GG71.out (by decide)) (fun _ hk => hk.2) (.int .i64 ji70)) (fun _ hk => trivial)⟩, ⟨by (with_reducible repeat (first | apply Kd.R_alloc | apply Kd.R_drewN | apply Kd.R_drew)); exact Kd.R_mono (Kd.R_far (p := ⟨go71, (x23_3 : Int).toNat * 2 + 1, none⟩) (Kd.R_mono HO_644000.out (fun k_ hk => (⟨hk, fun e_ => hk (by rw [e_]; rfl)⟩ : _ ∧ k_ ≠ go71))) (fun _ hk => hk.2) (.int .i64 ji70)) (fun _ hk => hk.1)⟩, ⟨by (with_reducible repeat (first | apply Kd.R_alloc | apply Kd.R_drewN | apply Kd.R_drew)); exact HQ77.out⟩, ⟨by (with_reducible repeat (first | refine blk_drewN ?_ _ | refine blk_drew ?_ | refine blk_alloc ?_ _)); refine blk_far ?_ (by have h_ := Kd.R_ne HO_676000.out BK643.out (by decide); intro e_; exact h_ (by rw [e_]; rfl)) _; (with_reducible repeat (first | refine blk_drewN ?_ _ | refine blk_drew ?_ | refine blk_alloc ?_ _)); exact BK643.out⟩, ⟨by (with_reducible repeat (first | refine blk_drewN ?_ _ | refine blk_drew ?_ | refine blk_alloc ?_ _)); refine blk_far ?_ (by have h_ := Kd.R_ne HO_676000.out BK675.out (by decide); intro e_; exact h_ (by rw [e_]; rfl)) _; (with_reducible repeat (first | refine blk_drewN ?_ _ | refine blk_drew ?_ | refine blk_alloc ?_ _)); exact BK675.out⟩, ⟨by repeat (first | (with_reducible first | exact HB.out | apply below_alloc | apply pw_below_drewN | apply below_drew1 | refine below_set ?_ GB71.out | refine below_set ?_ GE643.out | refine below_set ?_ GE675.out) | exact HB.out)⟩⟩
             ·
              rw [if_neg c68] at H
              exact absurd H (by simp)
            ·
             rw [if_neg c67] at H
             have c67b0 : decide (x23_3 < (x676000_3.length : Int)) = false := decide_eq_false c67
             clear c67
             replace H := Option.bind_eq_some_iff.mp H
             obtain ⟨⟨t680, t683⟩, A780, H⟩ := H
             replace H : (if t683 = 0 then (dialtonelaw34_RecoveryGrows.j3 k3 true t647 t680 ((t680.length : Int) != (t647.length : Int))) else (dialtonelaw34_RecoveryGrows.j3 k3 true t647 t680 true)) = some r := H
             have A78 := Aside0.mk A780
             clear A780
             have HC79 := Aside0.mk H
             clear H
             have hnb80 := NB675_643.out
             have hnc80 := NB643_675.out
             have hcz81_0 : wr.cell? ⟨gb675, 0, none⟩ = some (u676000) := (blk_cell BK675.out 0).trans rfl
             have hcz81_1 : wr.cell? ⟨gb675, 1, none⟩ = some (.int .i64 t642) := (blk_cell BK675.out 1).trans rfl
             have hfz81_0 := blk_frozen BK675.out 0
             have hfz81_1 := blk_frozen BK675.out 1
             obtain ⟨Ao82, co82, eo82⟩ := Kd.R_slice HO_676000.out
             subst eo82
             go_upto_region 21 with (first | ((with_reducible refine gate_callee (f := 16) rfl ?_); refine goesL_ (some 137) rfl rfl Try.func16 (by kernel_rfl) rfl #[.agg #[.slice Ao82 x676000_3.length co82, .int .i64 t642], .slice Ao19 t644.length co19] rfl (by (try simp only [List.map_toArray, List.map_cons, List.map_nil]); first | done | rfl | (simp only [List.length_drop, List.length_take]; rfl)) ?_; (with_reducible refine (recovery_Plan.calls _ _ x676000_3 t642 _ _ t644 t680 t683 _ ?side1 ?side2 ?side3 ?side4 A78.out).mono ?_); (case side1 => repeat (first | exact (Kd.R_reads' HO_676000.out).2.2 | (with_reducible refine Kd.C_alloc ?_ _) | (with_reducible refine Kd.C_drewN ?_ _) | (with_reducible refine Kd.C_drew ?_))); (case side2 => exact (Kd.R_reads' HO_676000.out).2.1); (case side3 => repeat (first | exact (Kd.R_reads' HO_15.out).2.2 | (with_reducible refine Kd.C_alloc ?_ _) | (with_reducible refine Kd.C_drewN ?_ _) | (with_reducible refine Kd.C_drew ?_))); (case side4 => exact (Kd.R_reads' HO_15.out).2.1); rintro e w83 ⟨v681, rfl, ho0, hb⟩; refine ⟨_, rfl, ?_⟩; have n0_ := Aside0.mk (Kd.R_below (by (with_reducible repeat (first | apply Kd.R_alloc | apply Kd.R_drewN | apply Kd.R_drew)); exact HO_15.out) hb); have n1_ := Aside0.mk (Kd.R_elder' (by (with_reducible repeat (first | apply Kd.R_alloc | apply Kd.R_drewN | apply Kd.R_drew)); exact HO_16.out) (Kd.R_base ho0) hb); have n2_ := Aside0.mk (Kd.R_below (by (with_reducible repeat (first | apply Kd.R_alloc | apply Kd.R_drewN | apply Kd.R_drew)); exact HO_644000.out) hb); have n3_ := Aside0.mk (Kd.R_below (by (with_reducible repeat (first | apply Kd.R_alloc | apply Kd.R_drewN | apply Kd.R_drew)); exact HO_676000.out) hb); have n4_ := Aside0.mk (Kd.R_lower (Kd.R_new' ho0 (Kd.R_lt (by (with_reducible repeat (first | apply Kd.R_alloc | apply Kd.R_drewN | apply Kd.R_drew)); exact HO_16.out))) (below_size (by repeat (first | (with_reducible first | exact HB.out | apply below_alloc | apply pw_below_drewN | apply below_drew1 | refine below_set ?_ GE643.out | refine below_set ?_ GE675.out) | exact HB.out)))); have n5_ := Aside0.mk (blk_below (g := gb643) (o := .cells #[u644000, .int .i64 t642] 26 (0, 0)) (by (with_reducible repeat (first | refine blk_drewN ?_ _ | refine blk_drew ?_ | refine blk_alloc ?_ _)); exact BK643.out) hb); have n6_ := Aside0.mk (blk_below (g := gb675) (o := .cells #[.slice Ao82 x676000_3.length co82, .int .i64 t642] 26 (0, 0)) (by (with_reducible repeat (first | refine blk_drewN ?_ _ | refine blk_drew ?_ | refine blk_alloc ?_ _)); exact BK675.out) hb); have n7_ := Aside0.mk (below_step (by repeat (first | (with_reducible first | exact HB.out | apply below_alloc | apply pw_below_drewN | apply below_drew1 | refine below_set ?_ GE643.out | refine below_set ?_ GE675.out) | exact HB.out)) hb); clear HO_15; clear HO_16; clear HO_644000; clear HO_676000; clear BK643; clear BK675; clear HB; have HO_15 := n0_; have HO_16 := n1_; have HO_644000 := n2_; have HO_676000 := n3_; have HO682 := n4_; have BK643 := n5_; have BK675 := n6_; have HB := n7_; clear n0_ n1_ n2_ n3_ n4_ n5_ n6_ n7_; (try clear hb); (try clear hb2); (try clear hk); (try clear hi); (try clear ho0)))
             (try simp only [Act.put, List.setIfInBounds_toArray, List.set_cons_zero, List.set_cons_succ])
             go_cut [148] (fun v148 wc => ∃ (kq : Nat) (x148_78 : Bool), v148 = .bool x148_78 ∧ Aside0 (dialtonelaw34_RecoveryGrows.j3 kq true t647 t680 x148_78 = some r) ∧ Aside0 (kq ≤ k3) ∧ Aside0 (Kd.R k39 39 wc w.heap.size (fun k_ => some k_ ≠ (v681 : Value).ownBlock) v648 t647) ∧ Aside0 (Kd.R k39 39 wc w.heap.size (fun k_ => some k_ ≠ (v648 : Value).ownBlock) v681 t680) ∧ Aside0 (Kd.R k67 67 wc w.heap.size (fun k_ => some k_ ≠ ((.slice Ao82 x676000_3.length co82) : Value).ownBlock) u644000 x644000_3) ∧ Aside0 (Kd.R k67 67 wc w.heap.size (fun k_ => some k_ ≠ (u644000 : Value).ownBlock) (.slice Ao82 x676000_3.length co82) x676000_3) ∧ Aside0 (wc.heap[gb643]? = some (.cells #[u644000, .int .i64 t642] 26 (0, 0))) ∧ Aside0 (wc.heap[gb675]? = some (.cells #[(.slice Ao82 x676000_3.length co82), .int .i64 t642] 26 (0, 0))) ∧ Aside0 (Below w.heap.size w wc))
             case first =>
              have H := HC79.out
              clear HC79
              by_cases c84 : t683 = 0
              ·
               rw [if_pos c84] at H
               have c84b0 : (t683 == 0) = true := beq_iff_eq.mpr c84
               have c84b1 : (t683 != 0) = false := bne_eq_false_iff_eq.mpr c84
               clear c84
               (first | rw [c84b0] | (simp only [i64_w, i32_w]; rw [c84b0]) | skip)
               have H' := Aside0.mk H
               clear H
               obtain ⟨Ao85, co85, eo85⟩ := Kd.R_slice HO682.out
               subst eo85
               obtain ⟨Ao86, co86, eo86⟩ := Kd.R_slice HO_16.out
               subst eo86
               go_wp2
               go_meet
               case rel => exact ⟨_, (((t680.length : Int) != (t647.length : Int))), (by first | rfl | (simp; done) | (simp [*]; done)), H', ⟨by have := HK1.out; have := HJ26.out; have := HK3.out; first | omega | exact Nat.le_refl _⟩, ⟨by (with_reducible repeat (first | apply Kd.R_alloc | apply Kd.R_drewN | apply Kd.R_drew)); exact Kd.R_mono HO_16.out (fun _ hk => hk.2)⟩, ⟨by (with_reducible repeat (first | apply Kd.R_alloc | apply Kd.R_drewN | apply Kd.R_drew)); exact Kd.R_mono HO682.out (fun _ hk => hk.2)⟩, ⟨by (with_reducible repeat (first | apply Kd.R_alloc | apply Kd.R_drewN | apply Kd.R_drew)); exact HO_644000.out⟩, ⟨by (with_reducible repeat (first | apply Kd.R_alloc | apply Kd.R_drewN | apply Kd.R_drew)); exact HO_676000.out⟩, ⟨by (with_reducible repeat (first | refine blk_drewN ?_ _ | refine blk_drew ?_ | refine blk_alloc ?_ _)); exact BK643.out⟩, ⟨by (with_reducible repeat (first | refine blk_drewN ?_ _ | refine blk_drew ?_ | refine blk_alloc ?_ _)); exact BK675.out⟩, ⟨by repeat (first | (with_reducible first | exact HB.out | apply below_alloc | apply pw_below_drewN | apply below_drew1 | refine below_set ?_ GE643.out | refine below_set ?_ GE675.out) | exact HB.out)⟩⟩
              ·
               rw [if_neg c84] at H
               have c84b0 : (t683 == 0) = false := beq_eq_false_iff_ne.mpr c84
               have c84b1 : (t683 != 0) = true := bne_iff_ne.mpr c84
               (first | rw [c84b0] | (simp only [i64_w, i32_w]; rw [c84b0]) | skip)
               have H' := Aside0.mk H
               clear H
               go_wp2
               go_meet
               case rel => exact ⟨_, (true), (by first | rfl | (simp; done) | (simp [*]; done)), H', ⟨by have := HK1.out; have := HJ26.out; have := HK3.out; first | omega | exact Nat.le_refl _⟩, ⟨by (with_reducible repeat (first | apply Kd.R_alloc | apply Kd.R_drewN | apply Kd.R_drew)); exact Kd.R_mono HO_16.out (fun _ hk => hk.2)⟩, ⟨by (with_reducible repeat (first | apply Kd.R_alloc | apply Kd.R_drewN | apply Kd.R_drew)); exact Kd.R_mono HO682.out (fun _ hk => hk.2)⟩, ⟨by (with_reducible repeat (first | apply Kd.R_alloc | apply Kd.R_drewN | apply Kd.R_drew)); exact HO_644000.out⟩, ⟨by (with_reducible repeat (first | apply Kd.R_alloc | apply Kd.R_drewN | apply Kd.R_drew)); exact HO_676000.out⟩, ⟨by (with_reducible repeat (first | refine blk_drewN ?_ _ | refine blk_drew ?_ | refine blk_alloc ?_ _)); exact BK643.out⟩, ⟨by (with_reducible repeat (first | refine blk_drewN ?_ _ | refine blk_drew ?_ | refine blk_alloc ?_ _)); exact BK675.out⟩, ⟨by repeat (first | (with_reducible first | exact HB.out | apply below_alloc | apply pw_below_drewN | apply below_drew1 | refine below_set ?_ GE643.out | refine below_set ?_ GE675.out) | exact HB.out)⟩⟩
             case rest =>
              clear HC79
              try clear c1
              try clear c2
              try clear p2
              try clear c3
              try clear c4
              try clear q4
              try clear c5
              try clear c6
              try clear p6
              try clear q6
              try clear hx6
              try clear c7
              try clear p7
              try clear q7
              try clear hx7
              try clear hf7
              try clear c8
              try clear c11
              try clear c13
              try clear c14
              try clear c15
              try clear c16
              try clear c18
              try clear c21
              try clear c21b0
              try clear c22
              try clear c22b0
              try clear c25
              try clear c35
              try clear c35b0
              try clear c35b1
              try clear c36
              try clear c36b0
              try clear c36b1
              try clear c37
              try clear c37b0
              try clear c37b1
              try clear c38
              try clear c38b0
              try clear c38b1
              try clear c39
              try clear c39b0
              try clear c39b1
              try clear c41
              try clear c42
              try clear c42b0
              try clear c42b1
              try clear q45
              try clear q48
              try clear c51
              try clear c52
              try clear c64
              try clear p64
              try clear p65
              try clear q65
              try clear hx65
              try clear p66
              try clear q66
              try clear hx66
              try clear c67
              try clear c67b0
              try clear p67
              try clear q67
              try clear hx67
              try clear c68
              try clear c68b0
              try clear c71
              try clear p71
              try clear q71
              try clear hx71
              try clear hf71
              try clear c72
              try clear c77
              try clear c80
              try clear c84
              try clear c84b0
              try clear c84b1
              try clear hcz16_0
              try clear hcz16_1
              try clear hcz18_0
              try clear hcz18_1
              try clear hcz65_0
              try clear hcz65_1
              try clear hcz73_0
              try clear hcz73_1
              try clear hcz81_0
              try clear hcz81_1
              try clear hfz16_0
              try clear hfz16_1
              try clear hfz18_0
              try clear hfz18_1
              try clear hfz65_0
              try clear hfz65_1
              try clear hfz73_0
              try clear hfz73_1
              try clear hfz81_0
              try clear hfz81_1
              try clear hx651_0
              try clear hx651_1
              try clear hx651_2
              try clear hx668_0
              try clear hx668_1
              try clear hx668_2
              try clear hx677_0
              try clear hx677_1
              try clear hx71_0
              try clear hx71_1
              try clear p2
              try clear p6
              try clear p64
              try clear p65
              try clear p651
              try clear p66
              try clear p668
              try clear p677
              try clear p71
              try clear q4
              try clear q45
              try clear q48
              try clear q6
              try clear q65
              try clear q651
              try clear q66
              try clear q668
              try clear q677
              try clear q71
              obtain ⟨kq, x148_78, rfl, HA, HJ78, HO_16, HO_24, HO_644000, HO_676000, BK643, BK675, HB⟩ := hcut
              cases kq with
              | zero => exact absurd HA.out (by simp [dialtonelaw34_RecoveryGrows.j3])
              | succ kj78 =>
               have H := HA.out
               clear HA
               simp only [dialtonelaw34_RecoveryGrows.j3] at H
               by_cases c87 : x148_78 = true
               ·
                subst c87
                have H1 : (none) = some r := by rw [if_pos rfl] at H; exact H
                clear H
                have H := H1
                clear H1
                exact absurd H (by simp)
               ·
                replace c87 := Bool.eq_false_iff.mpr c87
                subst c87
                have H1 : (dialtonelaw34_RecoveryGrows.l2 kj78 true t647 t680 0) = some r := by rw [if_neg (show ¬ (false = true) by decide)] at H; exact H
                clear H
                have H := H1
                clear H1
                have H' := Aside0.mk H
                clear H
                go_wp2
                go_loopg [26] kj78 (fun kq v26 w' => ∃ (x26_5 : Int), v26 = .int .i64 x26_5 ∧ Aside0 (dialtonelaw34_RecoveryGrows.l2 kq true t647 t680 x26_5 = some r) ∧ Aside0 (kq ≤ kj78) ∧ Aside0 (Kd.R k39 39 w' w.heap.size (fun k_ => some k_ ≠ (v681 : Value).ownBlock) v648 t647) ∧ Aside0 (Kd.R k39 39 w' w.heap.size (fun k_ => some k_ ≠ (v648 : Value).ownBlock) v681 t680) ∧ Aside0 (Kd.R k67 67 w' w.heap.size (fun k_ => some k_ ≠ ((.slice Ao82 x676000_3.length co82) : Value).ownBlock) u644000 x644000_3) ∧ Aside0 (Kd.R k67 67 w' w.heap.size (fun k_ => some k_ ≠ (u644000 : Value).ownBlock) (.slice Ao82 x676000_3.length co82) x676000_3) ∧ Aside0 (w'.heap[gb643]? = some (.cells #[u644000, .int .i64 t642] 26 (0, 0))) ∧ Aside0 (w'.heap[gb675]? = some (.cells #[(.slice Ao82 x676000_3.length co82), .int .i64 t642] 26 (0, 0))) ∧ Aside0 (Below w.heap.size w w'))
                case atStart => exact ⟨(0), (by first | rfl | (simp; done) | (simp [*]; done)), H', ⟨Nat.le_refl _⟩, ⟨by (with_reducible repeat (first | apply Kd.R_alloc | apply Kd.R_drewN | apply Kd.R_drew)); exact HO_16.out⟩, ⟨by (with_reducible repeat (first | apply Kd.R_alloc | apply Kd.R_drewN | apply Kd.R_drew)); exact HO_24.out⟩, ⟨by (with_reducible repeat (first | apply Kd.R_alloc | apply Kd.R_drewN | apply Kd.R_drew)); exact HO_644000.out⟩, ⟨by (with_reducible repeat (first | apply Kd.R_alloc | apply Kd.R_drewN | apply Kd.R_drew)); exact HO_676000.out⟩, ⟨by (with_reducible repeat (first | refine blk_drewN ?_ _ | refine blk_drew ?_ | refine blk_alloc ?_ _)); exact BK643.out⟩, ⟨by (with_reducible repeat (first | refine blk_drewN ?_ _ | refine blk_drew ?_ | refine blk_alloc ?_ _)); exact BK675.out⟩, ⟨by repeat (first | (with_reducible first | exact HB.out | apply below_alloc | apply pw_below_drewN | apply below_drew1 | refine below_set ?_ GE643.out | refine below_set ?_ GE675.out) | exact HB.out)⟩⟩
                case round =>
                 clear H'
                 try clear c1
                 try clear c2
                 try clear p2
                 try clear c3
                 try clear c4
                 try clear q4
                 try clear c5
                 try clear c6
                 try clear p6
                 try clear q6
                 try clear hx6
                 try clear c7
                 try clear p7
                 try clear q7
                 try clear hx7
                 try clear hf7
                 try clear c8
                 try clear c11
                 try clear c13
                 try clear c14
                 try clear c15
                 try clear c16
                 try clear c18
                 try clear c21
                 try clear c21b0
                 try clear c22
                 try clear c22b0
                 try clear c25
                 try clear c35
                 try clear c35b0
                 try clear c35b1
                 try clear c36
                 try clear c36b0
                 try clear c36b1
                 try clear c37
                 try clear c37b0
                 try clear c37b1
                 try clear c38
                 try clear c38b0
                 try clear c38b1
                 try clear c39
                 try clear c39b0
                 try clear c39b1
                 try clear c41
                 try clear c42
                 try clear c42b0
                 try clear c42b1
                 try clear q45
                 try clear q48
                 try clear c51
                 try clear c52
                 try clear c64
                 try clear p64
                 try clear p65
                 try clear q65
                 try clear hx65
                 try clear p66
                 try clear q66
                 try clear hx66
                 try clear c67
                 try clear c67b0
                 try clear p67
                 try clear q67
                 try clear hx67
                 try clear c68
                 try clear c68b0
                 try clear c71
                 try clear p71
                 try clear q71
                 try clear hx71
                 try clear hf71
                 try clear c72
                 try clear c77
                 try clear c80
                 try clear c84
                 try clear c84b0
                 try clear c84b1
                 try clear c87
                 try clear hcz16_0
                 try clear hcz16_1
                 try clear hcz18_0
                 try clear hcz18_1
                 try clear hcz65_0
                 try clear hcz65_1
                 try clear hcz73_0
                 try clear hcz73_1
                 try clear hcz81_0
                 try clear hcz81_1
                 try clear hfz16_0
                 try clear hfz16_1
                 try clear hfz18_0
                 try clear hfz18_1
                 try clear hfz65_0
                 try clear hfz65_1
                 try clear hfz73_0
                 try clear hfz73_1
                 try clear hfz81_0
                 try clear hfz81_1
                 try clear hx651_0
                 try clear hx651_1
                 try clear hx651_2
                 try clear hx668_0
                 try clear hx668_1
                 try clear hx668_2
                 try clear hx677_0
                 try clear hx677_1
                 try clear hx71_0
                 try clear hx71_1
                 try clear p2
                 try clear p6
                 try clear p64
                 try clear p65
                 try clear p651
                 try clear p66
                 try clear p668
                 try clear p67
                 try clear p677
                 try clear p7
                 try clear p71
                 try clear q4
                 try clear q45
                 try clear q48
                 try clear q6
                 try clear q65
                 try clear q651
                 try clear q66
                 try clear q668
                 try clear q67
                 try clear q677
                 try clear q7
                 try clear q71
                 obtain ⟨x26_5, rfl, HA, HK5, HO_16, HO_24, HO_644000, HO_676000, BK643, BK675, HB⟩ := hrel
                 cases gk with
                 | zero => exact absurd HA.out (by simp [dialtonelaw34_RecoveryGrows.l2])
                 | succ k5 =>
                  have H := HA.out
                  clear HA
                  simp only [dialtonelaw34_RecoveryGrows.l2] at H
                  by_cases c88 : x26_5 < (t647.length : Int)
                  ·
                   rw [if_pos c88] at H
                   have c88b0 : decide (x26_5 < (t647.length : Int)) = true := decide_eq_true c88
                   clear c88
                   have HC89 := Aside0.mk H
                   clear H
                   obtain ⟨Ao90, co90, eo90⟩ := Kd.R_slice HO_16.out
                   subst eo90
                   go_upto_region 26 with (fail)
                   go_cut [178] (fun v178 wc => ∃ (kq : Nat) (x178_88 : Bool), v178 = .bool x178_88 ∧ Aside0 (dialtonelaw34_RecoveryGrows.j5 kq true t647 t680 x26_5 x178_88 = some r) ∧ Aside0 (kq ≤ k5) ∧ Aside0 (Kd.R k39 39 wc w.heap.size (fun k_ => some k_ ≠ (v681 : Value).ownBlock) (.slice Ao90 t647.length co90) t647) ∧ Aside0 (Kd.R k39 39 wc w.heap.size (fun k_ => some k_ ≠ ((.slice Ao90 t647.length co90) : Value).ownBlock) v681 t680) ∧ Aside0 (Kd.R k67 67 wc w.heap.size (fun k_ => some k_ ≠ ((.slice Ao82 x676000_3.length co82) : Value).ownBlock) u644000 x644000_3) ∧ Aside0 (Kd.R k67 67 wc w.heap.size (fun k_ => some k_ ≠ (u644000 : Value).ownBlock) (.slice Ao82 x676000_3.length co82) x676000_3) ∧ Aside0 (wc.heap[gb643]? = some (.cells #[u644000, .int .i64 t642] 26 (0, 0))) ∧ Aside0 (wc.heap[gb675]? = some (.cells #[(.slice Ao82 x676000_3.length co82), .int .i64 t642] 26 (0, 0))) ∧ Aside0 (Below w.heap.size w wc))
                   case first =>
                    have H := HC89.out
                    clear HC89
                    by_cases c91 : 0 ≤ x26_5
                    ·
                     rw [if_pos c91] at H
                     have c91b0 : decide (0 ≤ x26_5) = true := decide_eq_true c91
                     clear c91
                     (first | rw [c91b0] | (simp only [i64_w, i32_w]; rw [c91b0]) | skip)
                     by_cases c92 : x26_5 < (t680.length : Int)
                     ·
                      rw [if_pos c92] at H
                      have c92b0 : decide (x26_5 < (t680.length : Int)) = true := decide_eq_true c92
                      clear c92
                      by_cases c93 : ((rd_T39 t680 x26_5).f0) = ((rd_T39 t647 x26_5).f0)
                      ·
                       rw [if_pos c93] at H
                       have c93b0 : (((rd_T39 t680 x26_5).f0) == ((rd_T39 t647 x26_5).f0)) = true := beq_iff_eq.mpr c93
                       have c93b1 : (((rd_T39 t680 x26_5).f0) != ((rd_T39 t647 x26_5).f0)) = false := bne_eq_false_iff_eq.mpr c93
                       clear c93
                       have H' := Aside0.mk H
                       clear H
                       try go_wp2
                       have n0_ := Aside0.mk (Kd.R_drew HO_16.out)
                       have n1_ := Aside0.mk (Kd.R_drew HO_24.out)
                       have n2_ := Aside0.mk (Kd.R_drew HO_644000.out)
                       have n3_ := Aside0.mk (Kd.R_drew HO_676000.out)
                       have n4_ := Aside0.mk (blk_drew BK643.out)
                       have n5_ := Aside0.mk (blk_drew BK675.out)
                       have n6_ := Aside0.mk (below_drew1 HB.out)
                       clear HO_16
                       clear HO_24
                       clear HO_644000
                       clear HO_676000
                       clear BK643
                       clear BK675
                       clear HB
                       have HO_16 := n0_
                       have HO_24 := n1_
                       have HO_644000 := n2_
                       have HO_676000 := n3_
                       have BK643 := n4_
                       have BK675 := n5_
                       have HB := n6_
                       clear n0_ n1_ n2_ n3_ n4_ n5_ n6_
                       obtain ⟨Ao95, co95, eo95⟩ := Kd.R_slice HO_24.out
                       (first | subst eo95 | (injection eo95 with f1_ f2_ f3_; have f4_ := f1_.symm; have f5_ := f3_.symm; clear f1_ f2_ f3_; subst f4_; subst f5_))
                       have p684 : 0 ≤ (x26_5 : Int) := of_decide_eq_true (by first | (with_reducible assumption) | assumption)
                       have q684 : x26_5 < (t680.length : Int) := of_decide_eq_true (by first | (with_reducible assumption) | assumption)
                       obtain ⟨ad684, e684, hx684_0, hx684_1, hx684_2⟩ := at_T39 (Kd.R_reads' HO_24.out).2.2 x26_5 p684 q684
                       cases e684
                       replace p684 := eq_true p684
                       replace q684 := eq_true q684
                       have p685 : 0 ≤ (x26_5 : Int) := of_decide_eq_true (by first | (with_reducible assumption) | assumption)
                       have q685 : x26_5 < (t647.length : Int) := of_decide_eq_true (by first | (with_reducible assumption) | assumption)
                       obtain ⟨ad685, e685, hx685_0, hx685_1, hx685_2⟩ := at_T39 (Kd.R_reads' HO_16.out).2.2 x26_5 p685 q685
                       cases e685
                       replace p685 := eq_true p685
                       replace q685 := eq_true q685
                       have p686 : 0 ≤ (x26_5 : Int) := of_decide_eq_true (by first | (with_reducible assumption) | assumption)
                       have q686 : x26_5 < (t680.length : Int) := of_decide_eq_true (by first | (with_reducible assumption) | assumption)
                       obtain ⟨ad686, e686, hx686_0, hx686_1, hx686_2⟩ := at_T39 (Kd.R_reads' HO_24.out).2.2 x26_5 p686 q686
                       obtain rfl : ad684 = ad686 := (by injection e686)
                       replace p686 := eq_true p686
                       replace q686 := eq_true q686
                       have p687 : 0 ≤ (x26_5 : Int) := of_decide_eq_true (by first | (with_reducible assumption) | assumption)
                       have q687 : x26_5 < (t647.length : Int) := of_decide_eq_true (by first | (with_reducible assumption) | assumption)
                       obtain ⟨ad687, e687, hx687_0, hx687_1, hx687_2⟩ := at_T39 (Kd.R_reads' HO_16.out).2.2 x26_5 p687 q687
                       obtain rfl : ad685 = ad687 := (by injection e687)
                       replace p687 := eq_true p687
                       replace q687 := eq_true q687
                       refine start_ (n := 24) (S := fun w' => w'.cell? (ad684.add ((x26_5).toNat * 3)) = some (.int .i64 ((rd_T39 t680 x26_5).f0)) ∧ w'.cell? ⟨(ad684.add ((x26_5).toNat * 3)).block, (ad684.add ((x26_5).toNat * 3)).off + 1, none⟩ = some (.int .i64 ((rd_T39 t680 x26_5).f1)) ∧ w'.cell? ⟨(ad684.add ((x26_5).toNat * 3)).block, (ad684.add ((x26_5).toNat * 3)).off + 2, none⟩ = some (.int .i64 ((rd_T39 t680 x26_5).f2)) ∧ w'.cell? (ad685.add ((x26_5).toNat * 3)) = some (.int .i64 ((rd_T39 t647 x26_5).f0)) ∧ w'.cell? ⟨(ad685.add ((x26_5).toNat * 3)).block, (ad685.add ((x26_5).toNat * 3)).off + 1, none⟩ = some (.int .i64 ((rd_T39 t647 x26_5).f1)) ∧ w'.cell? ⟨(ad685.add ((x26_5).toNat * 3)).block, (ad685.add ((x26_5).toNat * 3)).off + 2, none⟩ = some (.int .i64 ((rd_T39 t647 x26_5).f2)) ∧ w'.cell? (ad684.add ((x26_5).toNat * 3)) = some (.int .i64 ((rd_T39 t680 x26_5).f0)) ∧ w'.cell? ⟨(ad684.add ((x26_5).toNat * 3)).block, (ad684.add ((x26_5).toNat * 3)).off + 1, none⟩ = some (.int .i64 ((rd_T39 t680 x26_5).f1)) ∧ w'.cell? ⟨(ad684.add ((x26_5).toNat * 3)).block, (ad684.add ((x26_5).toNat * 3)).off + 2, none⟩ = some (.int .i64 ((rd_T39 t680 x26_5).f2)) ∧ w'.cell? (ad685.add ((x26_5).toNat * 3)) = some (.int .i64 ((rd_T39 t647 x26_5).f0)) ∧ w'.cell? ⟨(ad685.add ((x26_5).toNat * 3)).block, (ad685.add ((x26_5).toNat * 3)).off + 1, none⟩ = some (.int .i64 ((rd_T39 t647 x26_5).f1)) ∧ w'.cell? ⟨(ad685.add ((x26_5).toNat * 3)).block, (ad685.add ((x26_5).toNat * 3)).off + 2, none⟩ = some (.int .i64 ((rd_T39 t647 x26_5).f2))) (ds := []) #[false, false, false, false, false, false, false, false, false, false, false, false, false, false, false, false, false, false, false, false, false, false, false, false] (by kernel_rfl) rfl rfl ⟨hx684_0, hx684_1, hx684_2, hx685_0, hx685_1, hx685_2, hx686_0, hx686_1, hx686_2, hx687_0, hx687_1, hx687_2⟩ (fun hHeld => ?_); refine with_tabW dialtonelaw34_RecoveryGrows.tab26 dialtonelaw34_RecoveryGrows.bits26 (fun HT_ HW_ => ?_)
                       generalize wr.drew = w94 at HO_16 HO_24 HO_644000 HO_676000 BK643 BK675 HB hx684_0 hx684_1 hx684_2 hx685_0 hx685_1 hx685_2 hx686_0 hx686_1 hx686_2 hx687_0 hx687_1 hx687_2 hHeld ⊢
                       refine pure_ (i := 0) (N := some 155) (v := ?_) (a' := ?_) #[true, false, false, false, false, false, false, false, false, false, false, false, false, false, false, false, false, false, false, false, false, false, false, false] rfl rfl (any_of HT_.out (by kernel_rfl)) (fun _ _ _ h => h) (Or.inl ⟨by rfl, ?_⟩) ?_ ?_
                       rotate_left
                       ·
                        intro w'
                        go_simp
                        with_reducible rfl
                       rotate_left
                       ·
                        simp only [Act.put, List.setIfInBounds_toArray, List.set_cons_zero, List.set_cons_succ, i64_w, i32_w]
                        rfl
                       refine pure_ (i := 1) (N := some 156) (v := ?_) (a' := ?_) #[true, true, false, false, false, false, false, false, false, false, false, false, false, false, false, false, false, false, false, false, false, false, false, false] rfl rfl (any_of HT_.out (by kernel_rfl)) (fun _ _ _ h => h) (Or.inl ⟨by rfl, ?_⟩) ?_ ?_
                       rotate_left
                       ·
                        intro w'
                        go_simp
                        with_reducible rfl
                       rotate_left
                       ·
                        simp only [Act.put, List.setIfInBounds_toArray, List.set_cons_zero, List.set_cons_succ, i64_w, i32_w]
                        rfl
                       refine pure_ (i := 2) (N := some 157) (v := ?_) (a' := ?_) #[true, true, true, false, false, false, false, false, false, false, false, false, false, false, false, false, false, false, false, false, false, false, false, false] rfl rfl (any_of HT_.out (by kernel_rfl)) (fun _ _ _ h => h) (Or.inl ⟨by rfl, ?_⟩) ?_ ?_
                       rotate_left
                       ·
                        intro w'
                        go_simp
                        with_reducible rfl
                       rotate_left
                       ·
                        simp only [Act.put, List.setIfInBounds_toArray, List.set_cons_zero, List.set_cons_succ, i64_w, i32_w]
                        rfl
                       refine pure_ (i := 3) (N := some 158) (v := ?_) (a' := ?_) #[true, true, true, true, false, false, false, false, false, false, false, false, false, false, false, false, false, false, false, false, false, false, false, false] rfl rfl (any_of HT_.out (by kernel_rfl)) (fun _ _ _ h => h) (Or.inl ⟨by rfl, ?_⟩) ?_ ?_
                       rotate_left
                       ·
                        intro w'
                        go_simp
                        with_reducible rfl
                       rotate_left
                       ·
                        simp only [Act.put, List.setIfInBounds_toArray, List.set_cons_zero, List.set_cons_succ, i64_w, i32_w]
                        rfl
                       refine pure_ (i := 5) (N := some 160) (v := ?_) (a' := ?_) #[true, true, true, true, false, true, false, false, false, false, false, false, false, false, false, false, false, false, false, false, false, false, false, false] rfl rfl (any_of HT_.out (by kernel_rfl)) (fun _ _ _ h => h) (Or.inl ⟨by rfl, ?_⟩) ?_ ?_
                       rotate_left
                       ·
                        intro w'
                        go_simp
                        with_reducible rfl
                       rotate_left
                       ·
                        simp only [Act.put, List.setIfInBounds_toArray, List.set_cons_zero, List.set_cons_succ, i64_w, i32_w]
                        rfl
                       refine pure_ (i := 6) (N := some 161) (v := ?_) (a' := ?_) #[true, true, true, true, false, true, true, false, false, false, false, false, false, false, false, false, false, false, false, false, false, false, false, false] rfl rfl (any_of HT_.out (by kernel_rfl)) (fun _ _ _ h => h) (Or.inl ⟨by rfl, ?_⟩) ?_ ?_
                       rotate_left
                       ·
                        intro w'
                        go_simp
                        with_reducible rfl
                       rotate_left
                       ·
                        simp only [Act.put, List.setIfInBounds_toArray, List.set_cons_zero, List.set_cons_succ, i64_w, i32_w]
                        rfl
                       refine pure_ (i := 7) (N := some 162) (v := ?_) (a' := ?_) #[true, true, true, true, false, true, true, true, false, false, false, false, false, false, false, false, false, false, false, false, false, false, false, false] rfl rfl (any_of HT_.out (by kernel_rfl)) (fun _ _ _ h => h) (Or.inl ⟨by rfl, ?_⟩) ?_ ?_
                       rotate_left
                       ·
                        intro w'
                        go_simp
                        with_reducible rfl
                       rotate_left
                       ·
                        simp only [Act.put, List.setIfInBounds_toArray, List.set_cons_zero, List.set_cons_succ, i64_w, i32_w]
                        rfl
                       refine pure_ (i := 8) (N := some 163) (v := ?_) (a' := ?_) #[true, true, true, true, false, true, true, true, true, false, false, false, false, false, false, false, false, false, false, false, false, false, false, false] rfl rfl (any_of HT_.out (by kernel_rfl)) (fun _ _ _ h => h) (Or.inl ⟨by rfl, ?_⟩) ?_ ?_
                       rotate_left
                       ·
                        intro w'
                        go_simp
                        with_reducible rfl
                       rotate_left
                       ·
                        simp only [Act.put, List.setIfInBounds_toArray, List.set_cons_zero, List.set_cons_succ, i64_w, i32_w]
                        rfl
                       refine take_ (i := 4) (N := some 159) (v := ?_) (a' := ?_) #[true, true, true, true, true, true, true, true, true, false, false, false, false, false, false, false, false, false, false, false, false, false, false, false] rfl rfl (take_ofW HT_.out HW_.out (by kernel_rfl)) (fun _ _ _ h => h) (Or.inl ⟨by rfl, ?_⟩) hHeld ?_ ?_
                       rotate_left
                       ·
                        rintro w' ⟨s0, s1, s2, s3, s4, s5, s6, s7, s8, s9, s10, s11⟩
                        go_simp
                        with_reducible rfl
                       rotate_left
                       ·
                        simp only [Act.put, List.setIfInBounds_toArray, List.set_cons_zero, List.set_cons_succ, i64_w, i32_w]
                        rfl
                       refine take_ (i := 9) (N := some 164) (v := ?_) (a' := ?_) #[true, true, true, true, true, true, true, true, true, true, false, false, false, false, false, false, false, false, false, false, false, false, false, false] rfl rfl (take_ofW HT_.out HW_.out (by kernel_rfl)) (fun _ _ _ h => h) (Or.inl ⟨by rfl, ?_⟩) hHeld ?_ ?_
                       rotate_left
                       ·
                        rintro w' ⟨s0, s1, s2, s3, s4, s5, s6, s7, s8, s9, s10, s11⟩
                        go_simp
                        with_reducible rfl
                       rotate_left
                       ·
                        simp only [Act.put, List.setIfInBounds_toArray, List.set_cons_zero, List.set_cons_succ, i64_w, i32_w]
                        rfl
                       refine pure_ (i := 10) (N := some 165) (v := ?_) (a' := ?_) #[true, true, true, true, true, true, true, true, true, true, true, false, false, false, false, false, false, false, false, false, false, false, false, false] rfl rfl (any_of HT_.out (by kernel_rfl)) (fun _ _ _ h => h) (Or.inl ⟨by rfl, ?_⟩) ?_ ?_
                       rotate_left
                       ·
                        intro w'
                        go_simp
                        with_reducible rfl
                       rotate_left
                       ·
                        simp only [Act.put, List.setIfInBounds_toArray, List.set_cons_zero, List.set_cons_succ, i64_w, i32_w]
                        rfl
                       refine pure_ (i := 11) (N := some 166) (v := ?_) (a' := ?_) #[true, true, true, true, true, true, true, true, true, true, true, true, false, false, false, false, false, false, false, false, false, false, false, false] rfl rfl (any_of HT_.out (by kernel_rfl)) (fun _ _ _ h => h) (Or.inl ⟨by rfl, ?_⟩) ?_ ?_
                       rotate_left
                       ·
                        intro w'
                        go_simp
                        with_reducible rfl
                       rotate_left
                       ·
                        simp only [Act.put, List.setIfInBounds_toArray, List.set_cons_zero, List.set_cons_succ, i64_w, i32_w]
                        rfl
                       refine pure_ (i := 12) (N := some 167) (v := ?_) (a' := ?_) #[true, true, true, true, true, true, true, true, true, true, true, true, true, false, false, false, false, false, false, false, false, false, false, false] rfl rfl (any_of HT_.out (by kernel_rfl)) (fun _ _ _ h => h) (Or.inl ⟨by rfl, ?_⟩) ?_ ?_
                       rotate_left
                       ·
                        intro w'
                        go_simp
                        with_reducible rfl
                       rotate_left
                       ·
                        simp only [Act.put, List.setIfInBounds_toArray, List.set_cons_zero, List.set_cons_succ, i64_w, i32_w]
                        rfl
                       refine pure_ (i := 13) (N := some 168) (v := ?_) (a' := ?_) #[true, true, true, true, true, true, true, true, true, true, true, true, true, true, false, false, false, false, false, false, false, false, false, false] rfl rfl (any_of HT_.out (by kernel_rfl)) (fun _ _ _ h => h) (Or.inl ⟨by rfl, ?_⟩) ?_ ?_
                       rotate_left
                       ·
                        intro w'
                        go_simp
                        with_reducible rfl
                       rotate_left
                       ·
                        simp only [Act.put, List.setIfInBounds_toArray, List.set_cons_zero, List.set_cons_succ, i64_w, i32_w]
                        rfl
                       refine pure_ (i := 14) (N := some 169) (v := ?_) (a' := ?_) #[true, true, true, true, true, true, true, true, true, true, true, true, true, true, true, false, false, false, false, false, false, false, false, false] rfl rfl (any_of HT_.out (by kernel_rfl)) (fun _ _ _ h => h) (Or.inl ⟨by rfl, ?_⟩) ?_ ?_
                       rotate_left
                       ·
                        intro w'
                        go_simp
                        with_reducible rfl
                       rotate_left
                       ·
                        simp only [Act.put, List.setIfInBounds_toArray, List.set_cons_zero, List.set_cons_succ, i64_w, i32_w]
                        rfl
                       refine pure_ (i := 15) (N := some 170) (v := ?_) (a' := ?_) #[true, true, true, true, true, true, true, true, true, true, true, true, true, true, true, true, false, false, false, false, false, false, false, false] rfl rfl (any_of HT_.out (by kernel_rfl)) (fun _ _ _ h => h) (Or.inl ⟨by rfl, ?_⟩) ?_ ?_
                       rotate_left
                       ·
                        intro w'
                        go_simp
                        with_reducible rfl
                       rotate_left
                       ·
                        simp only [Act.put, List.setIfInBounds_toArray, List.set_cons_zero, List.set_cons_succ, i64_w, i32_w]
                        rfl
                       refine pure_ (i := 17) (N := some 172) (v := ?_) (a' := ?_) #[true, true, true, true, true, true, true, true, true, true, true, true, true, true, true, true, false, true, false, false, false, false, false, false] rfl rfl (any_of HT_.out (by kernel_rfl)) (fun _ _ _ h => h) (Or.inl ⟨by rfl, ?_⟩) ?_ ?_
                       rotate_left
                       ·
                        intro w'
                        go_simp
                        with_reducible rfl
                       rotate_left
                       ·
                        simp only [Act.put, List.setIfInBounds_toArray, List.set_cons_zero, List.set_cons_succ, i64_w, i32_w]
                        rfl
                       refine pure_ (i := 18) (N := some 173) (v := ?_) (a' := ?_) #[true, true, true, true, true, true, true, true, true, true, true, true, true, true, true, true, false, true, true, false, false, false, false, false] rfl rfl (any_of HT_.out (by kernel_rfl)) (fun _ _ _ h => h) (Or.inl ⟨by rfl, ?_⟩) ?_ ?_
                       rotate_left
                       ·
                        intro w'
                        go_simp
                        with_reducible rfl
                       rotate_left
                       ·
                        simp only [Act.put, List.setIfInBounds_toArray, List.set_cons_zero, List.set_cons_succ, i64_w, i32_w]
                        rfl
                       refine pure_ (i := 19) (N := some 174) (v := ?_) (a' := ?_) #[true, true, true, true, true, true, true, true, true, true, true, true, true, true, true, true, false, true, true, true, false, false, false, false] rfl rfl (any_of HT_.out (by kernel_rfl)) (fun _ _ _ h => h) (Or.inl ⟨by rfl, ?_⟩) ?_ ?_
                       rotate_left
                       ·
                        intro w'
                        go_simp
                        with_reducible rfl
                       rotate_left
                       ·
                        simp only [Act.put, List.setIfInBounds_toArray, List.set_cons_zero, List.set_cons_succ, i64_w, i32_w]
                        rfl
                       refine pure_ (i := 20) (N := some 175) (v := ?_) (a' := ?_) #[true, true, true, true, true, true, true, true, true, true, true, true, true, true, true, true, false, true, true, true, true, false, false, false] rfl rfl (any_of HT_.out (by kernel_rfl)) (fun _ _ _ h => h) (Or.inl ⟨by rfl, ?_⟩) ?_ ?_
                       rotate_left
                       ·
                        intro w'
                        go_simp
                        with_reducible rfl
                       rotate_left
                       ·
                        simp only [Act.put, List.setIfInBounds_toArray, List.set_cons_zero, List.set_cons_succ, i64_w, i32_w]
                        rfl
                       refine take_ (i := 16) (N := some 171) (v := ?_) (a' := ?_) #[true, true, true, true, true, true, true, true, true, true, true, true, true, true, true, true, true, true, true, true, true, false, false, false] rfl rfl (take_ofW HT_.out HW_.out (by kernel_rfl)) (fun _ _ _ h => h) (Or.inl ⟨by rfl, ?_⟩) hHeld ?_ ?_
                       rotate_left
                       ·
                        rintro w' ⟨s0, s1, s2, s3, s4, s5, s6, s7, s8, s9, s10, s11⟩
                        go_simp
                        with_reducible rfl
                       rotate_left
                       ·
                        simp only [Act.put, List.setIfInBounds_toArray, List.set_cons_zero, List.set_cons_succ, i64_w, i32_w]
                        rfl
                       refine take_ (i := 21) (N := some 176) (v := ?_) (a' := ?_) #[true, true, true, true, true, true, true, true, true, true, true, true, true, true, true, true, true, true, true, true, true, true, false, false] rfl rfl (take_ofW HT_.out HW_.out (by kernel_rfl)) (fun _ _ _ h => h) (Or.inl ⟨by rfl, ?_⟩) hHeld ?_ ?_
                       rotate_left
                       ·
                        rintro w' ⟨s0, s1, s2, s3, s4, s5, s6, s7, s8, s9, s10, s11⟩
                        go_simp
                        with_reducible rfl
                       rotate_left
                       ·
                        simp only [Act.put, List.setIfInBounds_toArray, List.set_cons_zero, List.set_cons_succ, i64_w, i32_w]
                        rfl
                       refine pure_ (i := 22) (N := some 177) (v := ?_) (a' := ?_) #[true, true, true, true, true, true, true, true, true, true, true, true, true, true, true, true, true, true, true, true, true, true, true, false] rfl rfl (any_of HT_.out (by kernel_rfl)) (fun _ _ _ h => h) (Or.inl ⟨by rfl, ?_⟩) ?_ ?_
                       rotate_left
                       ·
                        intro w'
                        go_simp
                        with_reducible rfl
                       rotate_left
                       ·
                        simp only [Act.put, List.setIfInBounds_toArray, List.set_cons_zero, List.set_cons_succ, i64_w, i32_w]
                        rfl
                       refine pure_ (i := 23) (N := some 178) (v := ?_) (a' := ?_) #[true, true, true, true, true, true, true, true, true, true, true, true, true, true, true, true, true, true, true, true, true, true, true, true] rfl rfl (any_of HT_.out (by kernel_rfl)) (fun _ _ _ h => h) (Or.inl ⟨by rfl, ?_⟩) ?_ ?_
                       rotate_left
                       ·
                        intro w'
                        go_simp
                        with_reducible rfl
                       rotate_left
                       ·
                        simp only [Act.put, List.setIfInBounds_toArray, List.set_cons_zero, List.set_cons_succ, i64_w, i32_w]
                        rfl
                       refine done_ (done_of HT_.out (by kernel_rfl)) ?_
                       try go_wp2
                       go_meet
                       case rel => exact ⟨_, (decide (((rd_T39 t680 x26_5).f2) > ((rd_T39 t647 x26_5).f2))), (by first | rfl | (simp; done) | (simp [*]; done)), H', ⟨by have := HK1.out; have := HJ26.out; have := HK3.out; have := HJ78.out; have := HK5.out; first | omega | exact Nat.le_refl _⟩, ⟨by (with_reducible repeat (first | apply Kd.R_alloc | apply Kd.R_drewN | apply Kd.R_drew)); exact HO_16.out⟩, ⟨by (with_reducible repeat (first | apply Kd.R_alloc | apply Kd.R_drewN | apply Kd.R_drew)); exact HO_24.out⟩, ⟨by (with_reducible repeat (first | apply Kd.R_alloc | apply Kd.R_drewN | apply Kd.R_drew)); exact HO_644000.out⟩, ⟨by (with_reducible repeat (first | apply Kd.R_alloc | apply Kd.R_drewN | apply Kd.R_drew)); exact HO_676000.out⟩, ⟨by (with_reducible repeat (first | refine blk_drewN ?_ _ | refine blk_drew ?_ | refine blk_alloc ?_ _)); exact BK643.out⟩, ⟨by (with_reducible repeat (first | refine blk_drewN ?_ _ | refine blk_drew ?_ | refine blk_alloc ?_ _)); exact BK675.out⟩, ⟨by repeat (first | (with_reducible first | exact HB.out | apply below_alloc | apply pw_below_drewN | apply below_drew1 | refine below_set ?_ GE643.out | refine below_set ?_ GE675.out) | exact HB.out)⟩⟩
                      ·
                       rw [if_neg c93] at H
                       have c93b0 : (((rd_T39 t680 x26_5).f0) == ((rd_T39 t647 x26_5).f0)) = false := beq_eq_false_iff_ne.mpr c93
                       have c93b1 : (((rd_T39 t680 x26_5).f0) != ((rd_T39 t647 x26_5).f0)) = true := bne_iff_ne.mpr c93
                       have H' := Aside0.mk H
                       clear H
                       try go_wp2
                       have n0_ := Aside0.mk (Kd.R_drew HO_16.out)
                       have n1_ := Aside0.mk (Kd.R_drew HO_24.out)
                       have n2_ := Aside0.mk (Kd.R_drew HO_644000.out)
                       have n3_ := Aside0.mk (Kd.R_drew HO_676000.out)
                       have n4_ := Aside0.mk (blk_drew BK643.out)
                       have n5_ := Aside0.mk (blk_drew BK675.out)
                       have n6_ := Aside0.mk (below_drew1 HB.out)
                       clear HO_16
                       clear HO_24
                       clear HO_644000
                       clear HO_676000
                       clear BK643
                       clear BK675
                       clear HB
                       have HO_16 := n0_
                       have HO_24 := n1_
                       have HO_644000 := n2_
                       have HO_676000 := n3_
                       have BK643 := n4_
                       have BK675 := n5_
                       have HB := n6_
                       clear n0_ n1_ n2_ n3_ n4_ n5_ n6_
                       obtain ⟨Ao97, co97, eo97⟩ := Kd.R_slice HO_24.out
                       (first | subst eo97 | (injection eo97 with f1_ f2_ f3_; have f4_ := f1_.symm; have f5_ := f3_.symm; clear f1_ f2_ f3_; subst f4_; subst f5_))
                       have p684 : 0 ≤ (x26_5 : Int) := of_decide_eq_true (by first | (with_reducible assumption) | assumption)
                       have q684 : x26_5 < (t680.length : Int) := of_decide_eq_true (by first | (with_reducible assumption) | assumption)
                       obtain ⟨ad684, e684, hx684_0, hx684_1, hx684_2⟩ := at_T39 (Kd.R_reads' HO_24.out).2.2 x26_5 p684 q684
                       cases e684
                       replace p684 := eq_true p684
                       replace q684 := eq_true q684
                       have p685 : 0 ≤ (x26_5 : Int) := of_decide_eq_true (by first | (with_reducible assumption) | assumption)
                       have q685 : x26_5 < (t647.length : Int) := of_decide_eq_true (by first | (with_reducible assumption) | assumption)
                       obtain ⟨ad685, e685, hx685_0, hx685_1, hx685_2⟩ := at_T39 (Kd.R_reads' HO_16.out).2.2 x26_5 p685 q685
                       cases e685
                       replace p685 := eq_true p685
                       replace q685 := eq_true q685
                       refine start_ (n := 24) (S := fun w' => w'.cell? (ad684.add ((x26_5).toNat * 3)) = some (.int .i64 ((rd_T39 t680 x26_5).f0)) ∧ w'.cell? ⟨(ad684.add ((x26_5).toNat * 3)).block, (ad684.add ((x26_5).toNat * 3)).off + 1, none⟩ = some (.int .i64 ((rd_T39 t680 x26_5).f1)) ∧ w'.cell? ⟨(ad684.add ((x26_5).toNat * 3)).block, (ad684.add ((x26_5).toNat * 3)).off + 2, none⟩ = some (.int .i64 ((rd_T39 t680 x26_5).f2)) ∧ w'.cell? (ad685.add ((x26_5).toNat * 3)) = some (.int .i64 ((rd_T39 t647 x26_5).f0)) ∧ w'.cell? ⟨(ad685.add ((x26_5).toNat * 3)).block, (ad685.add ((x26_5).toNat * 3)).off + 1, none⟩ = some (.int .i64 ((rd_T39 t647 x26_5).f1)) ∧ w'.cell? ⟨(ad685.add ((x26_5).toNat * 3)).block, (ad685.add ((x26_5).toNat * 3)).off + 2, none⟩ = some (.int .i64 ((rd_T39 t647 x26_5).f2))) (ds := []) #[false, false, false, false, false, false, false, false, false, false, false, false, false, false, false, false, false, false, false, false, false, false, false, false] (by kernel_rfl) rfl rfl ⟨hx684_0, hx684_1, hx684_2, hx685_0, hx685_1, hx685_2⟩ (fun hHeld => ?_); refine with_tabW dialtonelaw34_RecoveryGrows.tab26 dialtonelaw34_RecoveryGrows.bits26 (fun HT_ HW_ => ?_)
                       generalize wr.drew = w96 at HO_16 HO_24 HO_644000 HO_676000 BK643 BK675 HB hx684_0 hx684_1 hx684_2 hx685_0 hx685_1 hx685_2 hHeld ⊢
                       refine pure_ (i := 0) (N := some 155) (v := ?_) (a' := ?_) #[true, false, false, false, false, false, false, false, false, false, false, false, false, false, false, false, false, false, false, false, false, false, false, false] rfl rfl (any_of HT_.out (by kernel_rfl)) (fun _ _ _ h => h) (Or.inl ⟨by rfl, ?_⟩) ?_ ?_
                       rotate_left
                       ·
                        intro w'
                        go_simp
                        with_reducible rfl
                       rotate_left
                       ·
                        simp only [Act.put, List.setIfInBounds_toArray, List.set_cons_zero, List.set_cons_succ, i64_w, i32_w]
                        rfl
                       refine pure_ (i := 1) (N := some 156) (v := ?_) (a' := ?_) #[true, true, false, false, false, false, false, false, false, false, false, false, false, false, false, false, false, false, false, false, false, false, false, false] rfl rfl (any_of HT_.out (by kernel_rfl)) (fun _ _ _ h => h) (Or.inl ⟨by rfl, ?_⟩) ?_ ?_
                       rotate_left
                       ·
                        intro w'
                        go_simp
                        with_reducible rfl
                       rotate_left
                       ·
                        simp only [Act.put, List.setIfInBounds_toArray, List.set_cons_zero, List.set_cons_succ, i64_w, i32_w]
                        rfl
                       refine pure_ (i := 2) (N := some 157) (v := ?_) (a' := ?_) #[true, true, true, false, false, false, false, false, false, false, false, false, false, false, false, false, false, false, false, false, false, false, false, false] rfl rfl (any_of HT_.out (by kernel_rfl)) (fun _ _ _ h => h) (Or.inl ⟨by rfl, ?_⟩) ?_ ?_
                       rotate_left
                       ·
                        intro w'
                        go_simp
                        with_reducible rfl
                       rotate_left
                       ·
                        simp only [Act.put, List.setIfInBounds_toArray, List.set_cons_zero, List.set_cons_succ, i64_w, i32_w]
                        rfl
                       refine pure_ (i := 3) (N := some 158) (v := ?_) (a' := ?_) #[true, true, true, true, false, false, false, false, false, false, false, false, false, false, false, false, false, false, false, false, false, false, false, false] rfl rfl (any_of HT_.out (by kernel_rfl)) (fun _ _ _ h => h) (Or.inl ⟨by rfl, ?_⟩) ?_ ?_
                       rotate_left
                       ·
                        intro w'
                        go_simp
                        with_reducible rfl
                       rotate_left
                       ·
                        simp only [Act.put, List.setIfInBounds_toArray, List.set_cons_zero, List.set_cons_succ, i64_w, i32_w]
                        rfl
                       refine pure_ (i := 5) (N := some 160) (v := ?_) (a' := ?_) #[true, true, true, true, false, true, false, false, false, false, false, false, false, false, false, false, false, false, false, false, false, false, false, false] rfl rfl (any_of HT_.out (by kernel_rfl)) (fun _ _ _ h => h) (Or.inl ⟨by rfl, ?_⟩) ?_ ?_
                       rotate_left
                       ·
                        intro w'
                        go_simp
                        with_reducible rfl
                       rotate_left
                       ·
                        simp only [Act.put, List.setIfInBounds_toArray, List.set_cons_zero, List.set_cons_succ, i64_w, i32_w]
                        rfl
                       refine pure_ (i := 6) (N := some 161) (v := ?_) (a' := ?_) #[true, true, true, true, false, true, true, false, false, false, false, false, false, false, false, false, false, false, false, false, false, false, false, false] rfl rfl (any_of HT_.out (by kernel_rfl)) (fun _ _ _ h => h) (Or.inl ⟨by rfl, ?_⟩) ?_ ?_
                       rotate_left
                       ·
                        intro w'
                        go_simp
                        with_reducible rfl
                       rotate_left
                       ·
                        simp only [Act.put, List.setIfInBounds_toArray, List.set_cons_zero, List.set_cons_succ, i64_w, i32_w]
                        rfl
                       refine pure_ (i := 7) (N := some 162) (v := ?_) (a' := ?_) #[true, true, true, true, false, true, true, true, false, false, false, false, false, false, false, false, false, false, false, false, false, false, false, false] rfl rfl (any_of HT_.out (by kernel_rfl)) (fun _ _ _ h => h) (Or.inl ⟨by rfl, ?_⟩) ?_ ?_
                       rotate_left
                       ·
                        intro w'
                        go_simp
                        with_reducible rfl
                       rotate_left
                       ·
                        simp only [Act.put, List.setIfInBounds_toArray, List.set_cons_zero, List.set_cons_succ, i64_w, i32_w]
                        rfl
                       refine pure_ (i := 8) (N := some 163) (v := ?_) (a' := ?_) #[true, true, true, true, false, true, true, true, true, false, false, false, false, false, false, false, false, false, false, false, false, false, false, false] rfl rfl (any_of HT_.out (by kernel_rfl)) (fun _ _ _ h => h) (Or.inl ⟨by rfl, ?_⟩) ?_ ?_
                       rotate_left
                       ·
                        intro w'
                        go_simp
                        with_reducible rfl
                       rotate_left
                       ·
                        simp only [Act.put, List.setIfInBounds_toArray, List.set_cons_zero, List.set_cons_succ, i64_w, i32_w]
                        rfl
                       refine take_ (i := 4) (N := some 159) (v := ?_) (a' := ?_) #[true, true, true, true, true, true, true, true, true, false, false, false, false, false, false, false, false, false, false, false, false, false, false, false] rfl rfl (take_ofW HT_.out HW_.out (by kernel_rfl)) (fun _ _ _ h => h) (Or.inl ⟨by rfl, ?_⟩) hHeld ?_ ?_
                       rotate_left
                       ·
                        rintro w' ⟨s0, s1, s2, s3, s4, s5⟩
                        go_simp
                        with_reducible rfl
                       rotate_left
                       ·
                        simp only [Act.put, List.setIfInBounds_toArray, List.set_cons_zero, List.set_cons_succ, i64_w, i32_w]
                        rfl
                       refine take_ (i := 9) (N := some 164) (v := ?_) (a' := ?_) #[true, true, true, true, true, true, true, true, true, true, false, false, false, false, false, false, false, false, false, false, false, false, false, false] rfl rfl (take_ofW HT_.out HW_.out (by kernel_rfl)) (fun _ _ _ h => h) (Or.inl ⟨by rfl, ?_⟩) hHeld ?_ ?_
                       rotate_left
                       ·
                        rintro w' ⟨s0, s1, s2, s3, s4, s5⟩
                        go_simp
                        with_reducible rfl
                       rotate_left
                       ·
                        simp only [Act.put, List.setIfInBounds_toArray, List.set_cons_zero, List.set_cons_succ, i64_w, i32_w]
                        rfl
                       refine pure_ (i := 10) (N := some 165) (v := ?_) (a' := ?_) #[true, true, true, true, true, true, true, true, true, true, true, false, false, false, false, false, false, false, false, false, false, false, false, false] rfl rfl (any_of HT_.out (by kernel_rfl)) (fun _ _ _ h => h) (Or.inl ⟨by rfl, ?_⟩) ?_ ?_
                       rotate_left
                       ·
                        intro w'
                        go_simp
                        with_reducible rfl
                       rotate_left
                       ·
                        simp only [Act.put, List.setIfInBounds_toArray, List.set_cons_zero, List.set_cons_succ, i64_w, i32_w]
                        rfl
                       refine pure_ (i := 11) (N := some 166) (v := ?_) (a' := ?_) #[true, true, true, true, true, true, true, true, true, true, true, true, false, false, false, false, false, false, false, false, false, false, false, false] rfl rfl (any_of HT_.out (by kernel_rfl)) (fun _ _ _ h => h) (Or.inl ⟨by rfl, ?_⟩) ?_ ?_
                       rotate_left
                       ·
                        intro w'
                        go_simp
                        with_reducible rfl
                       rotate_left
                       ·
                        simp only [Act.put, List.setIfInBounds_toArray, List.set_cons_zero, List.set_cons_succ, i64_w, i32_w]
                        rfl
                       refine pure_ (i := 12) (N := some 167) (v := undef) (a' := ?_) #[true, true, true, true, true, true, true, true, true, true, true, true, true, false, false, false, false, false, false, false, false, false, false, false] rfl rfl (any_of HT_.out (by kernel_rfl)) (fun _ _ _ h => h) (Or.inr ⟨by rfl, rfl⟩) ?_ ?_
                       rotate_left
                       ·
                        simp only [Act.put, List.setIfInBounds_toArray, List.set_cons_zero, List.set_cons_succ, i64_w, i32_w]
                        rfl
                       refine pure_ (i := 13) (N := some 168) (v := undef) (a' := ?_) #[true, true, true, true, true, true, true, true, true, true, true, true, true, true, false, false, false, false, false, false, false, false, false, false] rfl rfl (any_of HT_.out (by kernel_rfl)) (fun _ _ _ h => h) (Or.inr ⟨by rfl, rfl⟩) ?_ ?_
                       rotate_left
                       ·
                        simp only [Act.put, List.setIfInBounds_toArray, List.set_cons_zero, List.set_cons_succ, i64_w, i32_w]
                        rfl
                       refine pure_ (i := 14) (N := some 169) (v := undef) (a' := ?_) #[true, true, true, true, true, true, true, true, true, true, true, true, true, true, true, false, false, false, false, false, false, false, false, false] rfl rfl (any_of HT_.out (by kernel_rfl)) (fun _ _ _ h => h) (Or.inr ⟨by rfl, rfl⟩) ?_ ?_
                       rotate_left
                       ·
                        simp only [Act.put, List.setIfInBounds_toArray, List.set_cons_zero, List.set_cons_succ, i64_w, i32_w]
                        rfl
                       refine pure_ (i := 15) (N := some 170) (v := undef) (a' := ?_) #[true, true, true, true, true, true, true, true, true, true, true, true, true, true, true, true, false, false, false, false, false, false, false, false] rfl rfl (any_of HT_.out (by kernel_rfl)) (fun _ _ _ h => h) (Or.inr ⟨by rfl, rfl⟩) ?_ ?_
                       rotate_left
                       ·
                        simp only [Act.put, List.setIfInBounds_toArray, List.set_cons_zero, List.set_cons_succ, i64_w, i32_w]
                        rfl
                       refine pure_ (i := 16) (N := some 171) (v := undef) (a' := ?_) #[true, true, true, true, true, true, true, true, true, true, true, true, true, true, true, true, true, false, false, false, false, false, false, false] rfl rfl (any_of HT_.out (by kernel_rfl)) (fun _ _ _ h => h) (Or.inr ⟨by rfl, rfl⟩) ?_ ?_
                       rotate_left
                       ·
                        simp only [Act.put, List.setIfInBounds_toArray, List.set_cons_zero, List.set_cons_succ, i64_w, i32_w]
                        rfl
                       refine pure_ (i := 17) (N := some 172) (v := undef) (a' := ?_) #[true, true, true, true, true, true, true, true, true, true, true, true, true, true, true, true, true, true, false, false, false, false, false, false] rfl rfl (any_of HT_.out (by kernel_rfl)) (fun _ _ _ h => h) (Or.inr ⟨by rfl, rfl⟩) ?_ ?_
                       rotate_left
                       ·
                        simp only [Act.put, List.setIfInBounds_toArray, List.set_cons_zero, List.set_cons_succ, i64_w, i32_w]
                        rfl
                       refine pure_ (i := 18) (N := some 173) (v := undef) (a' := ?_) #[true, true, true, true, true, true, true, true, true, true, true, true, true, true, true, true, true, true, true, false, false, false, false, false] rfl rfl (any_of HT_.out (by kernel_rfl)) (fun _ _ _ h => h) (Or.inr ⟨by rfl, rfl⟩) ?_ ?_
                       rotate_left
                       ·
                        simp only [Act.put, List.setIfInBounds_toArray, List.set_cons_zero, List.set_cons_succ, i64_w, i32_w]
                        rfl
                       refine pure_ (i := 19) (N := some 174) (v := undef) (a' := ?_) #[true, true, true, true, true, true, true, true, true, true, true, true, true, true, true, true, true, true, true, true, false, false, false, false] rfl rfl (any_of HT_.out (by kernel_rfl)) (fun _ _ _ h => h) (Or.inr ⟨by rfl, rfl⟩) ?_ ?_
                       rotate_left
                       ·
                        simp only [Act.put, List.setIfInBounds_toArray, List.set_cons_zero, List.set_cons_succ, i64_w, i32_w]
                        rfl
                       refine pure_ (i := 20) (N := some 175) (v := undef) (a' := ?_) #[true, true, true, true, true, true, true, true, true, true, true, true, true, true, true, true, true, true, true, true, true, false, false, false] rfl rfl (any_of HT_.out (by kernel_rfl)) (fun _ _ _ h => h) (Or.inr ⟨by rfl, rfl⟩) ?_ ?_
                       rotate_left
                       ·
                        simp only [Act.put, List.setIfInBounds_toArray, List.set_cons_zero, List.set_cons_succ, i64_w, i32_w]
                        rfl
                       refine pure_ (i := 21) (N := some 176) (v := undef) (a' := ?_) #[true, true, true, true, true, true, true, true, true, true, true, true, true, true, true, true, true, true, true, true, true, true, false, false] rfl rfl (any_of HT_.out (by kernel_rfl)) (fun _ _ _ h => h) (Or.inr ⟨by rfl, rfl⟩) ?_ ?_
                       rotate_left
                       ·
                        simp only [Act.put, List.setIfInBounds_toArray, List.set_cons_zero, List.set_cons_succ, i64_w, i32_w]
                        rfl
                       refine pure_ (i := 22) (N := some 177) (v := undef) (a' := ?_) #[true, true, true, true, true, true, true, true, true, true, true, true, true, true, true, true, true, true, true, true, true, true, true, false] rfl rfl (any_of HT_.out (by kernel_rfl)) (fun _ _ _ h => h) (Or.inr ⟨by rfl, rfl⟩) ?_ ?_
                       rotate_left
                       ·
                        simp only [Act.put, List.setIfInBounds_toArray, List.set_cons_zero, List.set_cons_succ, i64_w, i32_w]
                        rfl
                       refine pure_ (i := 23) (N := some 178) (v := ?_) (a' := ?_) #[true, true, true, true, true, true, true, true, true, true, true, true, true, true, true, true, true, true, true, true, true, true, true, true] rfl rfl (any_of HT_.out (by kernel_rfl)) (fun _ _ _ h => h) (Or.inl ⟨by rfl, ?_⟩) ?_ ?_
                       rotate_left
                       ·
                        intro w'
                        go_simp
                        with_reducible rfl
                       rotate_left
                       ·
                        simp only [Act.put, List.setIfInBounds_toArray, List.set_cons_zero, List.set_cons_succ, i64_w, i32_w]
                        rfl
                       refine done_ (done_of HT_.out (by kernel_rfl)) ?_
                       try go_wp2
                       go_meet
                       case rel => exact ⟨_, (true), (by first | rfl | (simp; done) | (simp [*]; done)), H', ⟨by have := HK1.out; have := HJ26.out; have := HK3.out; have := HJ78.out; have := HK5.out; first | omega | exact Nat.le_refl _⟩, ⟨by (with_reducible repeat (first | apply Kd.R_alloc | apply Kd.R_drewN | apply Kd.R_drew)); exact HO_16.out⟩, ⟨by (with_reducible repeat (first | apply Kd.R_alloc | apply Kd.R_drewN | apply Kd.R_drew)); exact HO_24.out⟩, ⟨by (with_reducible repeat (first | apply Kd.R_alloc | apply Kd.R_drewN | apply Kd.R_drew)); exact HO_644000.out⟩, ⟨by (with_reducible repeat (first | apply Kd.R_alloc | apply Kd.R_drewN | apply Kd.R_drew)); exact HO_676000.out⟩, ⟨by (with_reducible repeat (first | refine blk_drewN ?_ _ | refine blk_drew ?_ | refine blk_alloc ?_ _)); exact BK643.out⟩, ⟨by (with_reducible repeat (first | refine blk_drewN ?_ _ | refine blk_drew ?_ | refine blk_alloc ?_ _)); exact BK675.out⟩, ⟨by repeat (first | (with_reducible first | exact HB.out | apply below_alloc | apply pw_below_drewN | apply below_drew1 | refine below_set ?_ GE643.out | refine below_set ?_ GE675.out) | exact HB.out)⟩⟩
                     ·
                      rw [if_neg c92] at H
                      exact absurd H (by simp)
                    ·
                     rw [if_neg c91] at H
                     exact absurd H (by simp)
                   case rest =>
                    clear HC89
                    try clear c1
                    try clear c2
                    try clear p2
                    try clear c3
                    try clear c4
                    try clear q4
                    try clear c5
                    try clear c6
                    try clear p6
                    try clear q6
                    try clear hx6
                    try clear c7
                    try clear p7
                    try clear q7
                    try clear hx7
                    try clear hf7
                    try clear c8
                    try clear c9
                    try clear c11
                    try clear c13
                    try clear c14
                    try clear c15
                    try clear c16
                    try clear c18
                    try clear c21
                    try clear c21b0
                    try clear c22
                    try clear c22b0
                    try clear c25
                    try clear c35
                    try clear c35b0
                    try clear c35b1
                    try clear c36
                    try clear c36b0
                    try clear c36b1
                    try clear c37
                    try clear c37b0
                    try clear c37b1
                    try clear c38
                    try clear c38b0
                    try clear c38b1
                    try clear c39
                    try clear c39b0
                    try clear c39b1
                    try clear c41
                    try clear c42
                    try clear c42b0
                    try clear c42b1
                    try clear q45
                    try clear q48
                    try clear c51
                    try clear c52
                    try clear c64
                    try clear p64
                    try clear p65
                    try clear q65
                    try clear hx65
                    try clear p66
                    try clear q66
                    try clear hx66
                    try clear c67
                    try clear c67b0
                    try clear p67
                    try clear q67
                    try clear hx67
                    try clear c68
                    try clear c68b0
                    try clear p68
                    try clear q68
                    try clear hx68
                    try clear c71
                    try clear p71
                    try clear q71
                    try clear hx71
                    try clear hf71
                    try clear c72
                    try clear c77
                    try clear c80
                    try clear c84
                    try clear c84b0
                    try clear c84b1
                    try clear c87
                    try clear c88
                    try clear c88b0
                    try clear c91
                    try clear c91b0
                    try clear c92
                    try clear c92b0
                    try clear c93
                    try clear c93b0
                    try clear c93b1
                    try clear hcz16_0
                    try clear hcz16_1
                    try clear hcz18_0
                    try clear hcz18_1
                    try clear hcz65_0
                    try clear hcz65_1
                    try clear hcz73_0
                    try clear hcz73_1
                    try clear hcz81_0
                    try clear hcz81_1
                    try clear hfz16_0
                    try clear hfz16_1
                    try clear hfz18_0
                    try clear hfz18_1
                    try clear hfz65_0
                    try clear hfz65_1
                    try clear hfz73_0
                    try clear hfz73_1
                    try clear hfz81_0
                    try clear hfz81_1
                    try clear hx651_0
                    try clear hx651_1
                    try clear hx651_2
                    try clear hx668_0
                    try clear hx668_1
                    try clear hx668_2
                    try clear hx677_0
                    try clear hx677_1
                    try clear hx684_0
                    try clear hx684_1
                    try clear hx684_2
                    try clear hx685_0
                    try clear hx685_1
                    try clear hx685_2
                    try clear hx686_0
                    try clear hx686_1
                    try clear hx686_2
                    try clear hx687_0
                    try clear hx687_1
                    try clear hx687_2
                    try clear hx71_0
                    try clear hx71_1
                    try clear p2
                    try clear p6
                    try clear p64
                    try clear p65
                    try clear p651
                    try clear p66
                    try clear p668
                    try clear p67
                    try clear p677
                    try clear p684
                    try clear p685
                    try clear p686
                    try clear p687
                    try clear p7
                    try clear p71
                    try clear q4
                    try clear q45
                    try clear q48
                    try clear q6
                    try clear q65
                    try clear q651
                    try clear q66
                    try clear q668
                    try clear q67
                    try clear q677
                    try clear q684
                    try clear q685
                    try clear q686
                    try clear q687
                    try clear q7
                    try clear q71
                    obtain ⟨kq, x178_88, rfl, HA, HJ88, HO_16, HO_24, HO_644000, HO_676000, BK643, BK675, HB⟩ := hcut
                    cases kq with
                    | zero => exact absurd HA.out (by simp [dialtonelaw34_RecoveryGrows.j5])
                    | succ kj88 =>
                     have H := HA.out
                     clear HA
                     simp only [dialtonelaw34_RecoveryGrows.j5] at H
                     by_cases c98 : x178_88 = true
                     ·
                      subst c98
                      have H1 : (none) = some r := by rw [if_pos rfl] at H; exact H
                      clear H
                      have H := H1
                      clear H1
                      exact absurd H (by simp)
                     ·
                      replace c98 := Bool.eq_false_iff.mpr c98
                      subst c98
                      have H1 : (dialtonelaw34_RecoveryGrows.l2 kj88 true t647 t680 (wrap64 (x26_5 + 1))) = some r := by rw [if_neg (show ¬ (false = true) by decide)] at H; exact H
                      clear H
                      have H := H1
                      clear H1
                      have H' := Aside0.mk H
                      clear H
                      go_wp2
                      go_roundg kj88
                      case measure => have := HK1.out; have := HJ26.out; have := HK3.out; have := HJ78.out; have := HK5.out; have := HJ88.out; omega
                      case rel => exact ⟨(wrap64 (x26_5 + 1)), (by first | rfl | (simp; done) | (simp [*]; done)), H', ⟨by have := HK1.out; have := HJ26.out; have := HK3.out; have := HJ78.out; have := HK5.out; have := HJ88.out; omega⟩, ⟨by (with_reducible repeat (first | apply Kd.R_alloc | apply Kd.R_drewN | apply Kd.R_drew)); exact HO_16.out⟩, ⟨by (with_reducible repeat (first | apply Kd.R_alloc | apply Kd.R_drewN | apply Kd.R_drew)); exact HO_24.out⟩, ⟨by (with_reducible repeat (first | apply Kd.R_alloc | apply Kd.R_drewN | apply Kd.R_drew)); exact HO_644000.out⟩, ⟨by (with_reducible repeat (first | apply Kd.R_alloc | apply Kd.R_drewN | apply Kd.R_drew)); exact HO_676000.out⟩, ⟨by (with_reducible repeat (first | refine blk_drewN ?_ _ | refine blk_drew ?_ | refine blk_alloc ?_ _)); exact BK643.out⟩, ⟨by (with_reducible repeat (first | refine blk_drewN ?_ _ | refine blk_drew ?_ | refine blk_alloc ?_ _)); exact BK675.out⟩, ⟨by repeat (first | (with_reducible first | exact HB.out | apply below_alloc | apply pw_below_drewN | apply below_drew1 | refine below_set ?_ GE643.out | refine below_set ?_ GE675.out) | exact HB.out)⟩⟩
                  ·
                   rw [if_neg c88] at H
                   have c88b0 : decide (x26_5 < (t647.length : Int)) = false := decide_eq_false c88
                   clear c88
                   obtain rfl := Option.some.inj H
                   obtain ⟨Ao99, co99, eo99⟩ := Kd.R_slice HO_16.out
                   subst eo99
                   go_wp2
                   go_ret
                   exact ⟨by first | rfl | (simp [errW_none, errW_some] <;> rfl) | (simp [*, errW_none, errW_some] <;> rfl), by repeat (first | (with_reducible first | exact HB.out | apply below_alloc | apply pw_below_drewN | apply below_drew1 | refine below_set ?_ GE643.out | refine below_set ?_ GE675.out) | exact HB.out)⟩
         ·
          rw [if_neg c52] at H
          exact absurd H (by simp)
     ·
      rw [if_neg c25] at H
      exact absurd H (by simp)
 ·
  replace c8 := Bool.eq_false_iff.mpr c8
  subst c8
  have H1 : (none) = some r := by rw [if_neg (show ¬ (false = true) by decide)] at H; exact H
  clear H
  have H := H1
  clear H1
  exact absurd H (by simp)

end Go.Proofs.Ytcldldmedphcfaa.C
