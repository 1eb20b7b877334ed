-- Written for this claim by a program of this session (wip/tools/hprint.py) out of the translation. Lean checks it.
import Derived.Test.YtcldldmedphcfaaCKinds
import Derived.Test.YtcldldmedphcfaaCCapacity
import Derived.Test.YtcldldmedphcfaaCSane
import Derived.Test.YtcldldmedphcfaaCMade
import Derived.Test.YtcldldmedphcfaaCAttempts
import Derived.Test.YtcldldmedphcfaaHLoad
import Derived.Test.YtcldldmedphcfaaHSafe
namespace Go.Proofs.Ytcldldmedphcfaa.C
open Go.RowKit Go.Proofs.YtcldldmedphcfaaW.PrintWords Go.Proofs.YtcldldmedphcfaaW.PrintLast Go.Proofs.YtcldldmedphcfaaW.PrintMore
attribute [local go_sem] max2_int min2_int max_two min_two max_three min_three max_four min_four   -- for this text's walks alone
set_option linter.unusedVariables false
set_option linter.unusedSimpArgs false

/-! ### dialtonelaw34_RecoveryLoads: function 9 -/
mutual
def dialtonelaw34_RecoveryLoads.l0 : Nat → List (S60) → Int → Int → Int → Int → Int → List (S67) → Int → Option (Bool)
 | 0, _, _, _, _, _, _, _, _ => none
 | k + 1, x9, x10, x11, x12, x13, x14, x606000, x606001 => if x14 < (x9.length : Int) then (if 0 ≤ x14 then (if ((rd_T60 x9 x14).f2 = true) then (dialtonelaw34_RecoveryLoads.l0 k x9 x10 x11 x12 x13 (wrap64 (x14 + 1)) x606000 x606001) else (dialtonelaw34_RecoveryLoads.l0 k x9 x10 (wrap64 (x11 + 1)) x12 x13 (wrap64 (x14 + 1)) x606000 x606001)) else (none)) else (dialtonelaw34_RecoveryLoads.l1 k x9 x10 x11 x12 x13 0 x606000 x606001)
def dialtonelaw34_RecoveryLoads.l1 : Nat → List (S60) → Int → Int → Int → Int → Int → List (S67) → Int → Option (Bool)
 | 0, _, _, _, _, _, _, _, _ => none
 | k + 1, x9, x10, x11, x12, x13, x15, x606000, x606001 => if x15 < 80 then ((recovery_Load.f x606000 x606001 x9 x15).bind fun bt610 => ((recovery_Capacity.f k x606000 x606001 x15).bind fun bt612 => (dialtonelaw34_RecoveryLoads.l2 k x9 x10 x11 x12 x13 x15 bt610.1 bt610.2 bt612.1 bt612.2 0 0 x606000 x606001))) else ((recovery_Safe.f x606000 x606001 x9).bind fun bt616 => (if x10 < x11 then (dialtonelaw34_RecoveryLoads.j6 k x12 bt616.2 true x606000 x606001) else (if x10 > (wrap64 (2 * x11)) then (dialtonelaw34_RecoveryLoads.j6 k x12 bt616.2 true x606000 x606001) else (if (bt616.2 != (decide (x13 < 0))) = true then (dialtonelaw34_RecoveryLoads.j6 k x12 bt616.2 true x606000 x606001) else (dialtonelaw34_RecoveryLoads.j6 k x12 bt616.2 (bt616.1 != x13) x606000 x606001)))))
def dialtonelaw34_RecoveryLoads.l2 : Nat → List (S60) → Int → Int → Int → Int → Int → Int → Int → Int → Int → Int → Int → List (S67) → Int → Option (Bool)
 | 0, _, _, _, _, _, _, _, _, _, _, _, _, _, _ => none
 | k + 1, x9, x10, x11, x12, x13, x15, x16, x17, x18, x19, x20, x21, x606000, x606001 => if x21 < (x9.length : Int) then (if 0 ≤ x21 then (if ((rd_T60 x9 x21).f1) = x15 then (dialtonelaw34_RecoveryLoads.j3 k x9 x10 x11 x12 x13 x15 x16 x17 x18 x19 x20 x21 (!((rd_T60 x9 x21).f2)) x606000 x606001) else (dialtonelaw34_RecoveryLoads.j3 k x9 x10 x11 x12 x13 x15 x16 x17 x18 x19 x20 x21 false x606000 x606001)) else (none)) else (if x17 = 0 then (if x19 = 0 then (if x16 < x20 then (dialtonelaw34_RecoveryLoads.j4 k x9 x10 x11 x12 x13 x15 x16 x20 true x606000 x606001) else (dialtonelaw34_RecoveryLoads.j4 k x9 x10 x11 x12 x13 x15 x16 x20 (decide (x16 > (wrap64 (x20 + x18)))) x606000 x606001)) else (dialtonelaw34_RecoveryLoads.j4 k x9 x10 x11 x12 x13 x15 x16 x20 true x606000 x606001)) else (dialtonelaw34_RecoveryLoads.j4 k x9 x10 x11 x12 x13 x15 x16 x20 true x606000 x606001))
def dialtonelaw34_RecoveryLoads.j3 : Nat → List (S60) → Int → Int → Int → Int → Int → Int → Int → Int → Int → Int → Int → Bool → List (S67) → Int → Option (Bool)
 | 0, _, _, _, _, _, _, _, _, _, _, _, _, _, _, _ => none
 | k + 1, x9, x10, x11, x12, x13, x15, x16, x17, x18, x19, x20, x21, x83, x606000, x606001 => if x83 = true then (dialtonelaw34_RecoveryLoads.l2 k x9 x10 x11 x12 x13 x15 x16 x17 x18 x19 (wrap64 (x20 + 1)) (wrap64 (x21 + 1)) x606000 x606001) else (dialtonelaw34_RecoveryLoads.l2 k x9 x10 x11 x12 x13 x15 x16 x17 x18 x19 x20 (wrap64 (x21 + 1)) x606000 x606001)
def dialtonelaw34_RecoveryLoads.j4 : Nat → List (S60) → Int → Int → Int → Int → Int → Int → Int → Bool → List (S67) → Int → Option (Bool)
 | 0, _, _, _, _, _, _, _, _, _, _, _ => none
 | k + 1, x9, x10, x11, x12, x13, x15, x16, x20, x103, x606000, x606001 => if x103 = true then (none) else (if x16 > x606001 then (dialtonelaw34_RecoveryLoads.j5 k x9 (wrap64 (x10 + x16)) x11 (mx x12 x20) x13 x15 (decide (x13 < 0)) x606000 x606001) else (dialtonelaw34_RecoveryLoads.j5 k x9 (wrap64 (x10 + x16)) x11 (mx x12 x20) x13 x15 false x606000 x606001))
def dialtonelaw34_RecoveryLoads.j5 : Nat → List (S60) → Int → Int → Int → Int → Int → Bool → List (S67) → Int → Option (Bool)
 | 0, _, _, _, _, _, _, _, _, _ => none
 | k + 1, x9, x10, x11, x12, x13, x15, x117, x606000, x606001 => if x117 = true then (dialtonelaw34_RecoveryLoads.l1 k x9 x10 x11 x12 x15 (wrap64 (x15 + 1)) x606000 x606001) else (dialtonelaw34_RecoveryLoads.l1 k x9 x10 x11 x12 x13 (wrap64 (x15 + 1)) x606000 x606001)
def dialtonelaw34_RecoveryLoads.j6 : Nat → Int → Bool → Bool → List (S67) → Int → Option (Bool)
 | 0, _, _, _, _, _ => none
 | k + 1, x12, x23, x144, x606000, x606001 => if x144 = true then (none) else (if x23 = true then (some true) else (if 0 ≤ (wrap64 ((x606000.length : Int) - 1)) then (if (wrap64 ((x606000.length : Int) - 1)) < (x606000.length : Int) then (some (decide (x606001 < (wrap64 (x12 + ((rd_T67 x606000 (wrap64 ((x606000.length : Int) - 1))).f1)))))) else (none)) else (none)))
end
def dialtonelaw34_RecoveryLoads.f (k : Nat) (l0 : List (S71)) (a1 : Int) (l2 : List (S71)) : Option (Bool) := (dialtonelaw34_sane.f k).bind fun t600 => (if t600 = true then ((dialtoneref34_Made.f k l0 a1).bind fun bt601 => ((dialtoneref34_Attempts.f k l2).bind fun t606 => (dialtonelaw34_RecoveryLoads.l0 k t606 0 0 0 (-1) 0 bt601.1 bt601.2))) else (none))
theorem dialtonelaw34_RecoveryLoads.mono_l : ∀ k, (∀ y0 y1 y2 y3 y4 y5 y6 y7, LeO (dialtonelaw34_RecoveryLoads.l0 k y0 y1 y2 y3 y4 y5 y6 y7) (dialtonelaw34_RecoveryLoads.l0 (k + 1) y0 y1 y2 y3 y4 y5 y6 y7)) ∧ (∀ y0 y1 y2 y3 y4 y5 y6 y7, LeO (dialtonelaw34_RecoveryLoads.l1 k y0 y1 y2 y3 y4 y5 y6 y7) (dialtonelaw34_RecoveryLoads.l1 (k + 1) y0 y1 y2 y3 y4 y5 y6 y7)) ∧ (∀ y0 y1 y2 y3 y4 y5 y6 y7 y8 y9 y10 y11 y12 y13, LeO (dialtonelaw34_RecoveryLoads.l2 k y0 y1 y2 y3 y4 y5 y6 y7 y8 y9 y10 y11 y12 y13) (dialtonelaw34_RecoveryLoads.l2 (k + 1) y0 y1 y2 y3 y4 y5 y6 y7 y8 y9 y10 y11 y12 y13)) ∧ (∀ y0 y1 y2 y3 y4 y5 y6 y7 y8 y9 y10 y11 y12 y13 y14, LeO (dialtonelaw34_RecoveryLoads.j3 k y0 y1 y2 y3 y4 y5 y6 y7 y8 y9 y10 y11 y12 y13 y14) (dialtonelaw34_RecoveryLoads.j3 (k + 1) y0 y1 y2 y3 y4 y5 y6 y7 y8 y9 y10 y11 y12 y13 y14)) ∧ (∀ y0 y1 y2 y3 y4 y5 y6 y7 y8 y9 y10, LeO (dialtonelaw34_RecoveryLoads.j4 k y0 y1 y2 y3 y4 y5 y6 y7 y8 y9 y10) (dialtonelaw34_RecoveryLoads.j4 (k + 1) y0 y1 y2 y3 y4 y5 y6 y7 y8 y9 y10)) ∧ (∀ y0 y1 y2 y3 y4 y5 y6 y7 y8, LeO (dialtonelaw34_RecoveryLoads.j5 k y0 y1 y2 y3 y4 y5 y6 y7 y8) (dialtonelaw34_RecoveryLoads.j5 (k + 1) y0 y1 y2 y3 y4 y5 y6 y7 y8)) ∧ (∀ y0 y1 y2 y3 y4, LeO (dialtonelaw34_RecoveryLoads.j6 k y0 y1 y2 y3 y4) (dialtonelaw34_RecoveryLoads.j6 (k + 1) y0 y1 y2 y3 y4))
 | 0 => ⟨fun _ _ _ _ _ _ _ _ r h => by simp [dialtonelaw34_RecoveryLoads.l0] at h, fun _ _ _ _ _ _ _ _ r h => by simp [dialtonelaw34_RecoveryLoads.l1] at h, fun _ _ _ _ _ _ _ _ _ _ _ _ _ _ r h => by simp [dialtonelaw34_RecoveryLoads.l2] at h, fun _ _ _ _ _ _ _ _ _ _ _ _ _ _ _ r h => by simp [dialtonelaw34_RecoveryLoads.j3] at h, fun _ _ _ _ _ _ _ _ _ _ _ r h => by simp [dialtonelaw34_RecoveryLoads.j4] at h, fun _ _ _ _ _ _ _ _ _ r h => by simp [dialtonelaw34_RecoveryLoads.j5] at h, fun _ _ _ _ _ r h => by simp [dialtonelaw34_RecoveryLoads.j6] at h⟩
 | k + 1 => by
  obtain ⟨ih0, ih1, ih2, ih3, ih4, ih5, ih6⟩ := dialtonelaw34_RecoveryLoads.mono_l k
  refine ⟨?_, ?_, ?_, ?_, ?_, ?_, ?_⟩
  ·
   intro y0 y1 y2 y3 y4 y5 y6 y7
   unfold dialtonelaw34_RecoveryLoads.l0
   repeat' first
   | (with_reducible exact ih0 _ _ _ _ _ _ _ _)
   | (with_reducible exact ih1 _ _ _ _ _ _ _ _)
   | (with_reducible exact ih2 _ _ _ _ _ _ _ _ _ _ _ _ _ _)
   | (with_reducible exact ih3 _ _ _ _ _ _ _ _ _ _ _ _ _ _ _)
   | (with_reducible exact ih4 _ _ _ _ _ _ _ _ _ _ _)
   | (with_reducible exact ih5 _ _ _ _ _ _ _ _ _)
   | (with_reducible exact ih6 _ _ _ _ _)
   | (with_reducible exact dialtonelaw34_sane.mono _)
   | (with_reducible exact dialtoneref34_Attempts.mono _ _)
   | (with_reducible exact dialtoneref34_Made.mono _ _ _)
   | (with_reducible exact recovery_Capacity.mono _ _ _ _)
   | (with_reducible exact LeO.refl _)
   | (with_reducible exact LeO.none _)
   | (with_reducible refine LeO.ite ?_ ?_)
   | (with_reducible refine LeO.bind ?_ (fun _ => ?_))
   | exact ih0 _ _ _ _ _ _ _ _
   | exact ih1 _ _ _ _ _ _ _ _
   | exact ih2 _ _ _ _ _ _ _ _ _ _ _ _ _ _
   | exact ih3 _ _ _ _ _ _ _ _ _ _ _ _ _ _ _
   | exact ih4 _ _ _ _ _ _ _ _ _ _ _
   | exact ih5 _ _ _ _ _ _ _ _ _
   | exact ih6 _ _ _ _ _
   | exact dialtonelaw34_sane.mono _
   | exact dialtoneref34_Attempts.mono _ _
   | exact dialtoneref34_Made.mono _ _ _
   | exact recovery_Capacity.mono _ _ _ _
   | exact LeO.none _
   | refine LeO.ite ?_ ?_
   | refine LeO.bind ?_ (fun _ => ?_)
  ·
   intro y0 y1 y2 y3 y4 y5 y6 y7
   unfold dialtonelaw34_RecoveryLoads.l1
   repeat' first
   | (with_reducible exact ih0 _ _ _ _ _ _ _ _)
   | (with_reducible exact ih1 _ _ _ _ _ _ _ _)
   | (with_reducible exact ih2 _ _ _ _ _ _ _ _ _ _ _ _ _ _)
   | (with_reducible exact ih3 _ _ _ _ _ _ _ _ _ _ _ _ _ _ _)
   | (with_reducible exact ih4 _ _ _ _ _ _ _ _ _ _ _)
   | (with_reducible exact ih5 _ _ _ _ _ _ _ _ _)
   | (with_reducible exact ih6 _ _ _ _ _)
   | (with_reducible exact dialtonelaw34_sane.mono _)
   | (with_reducible exact dialtoneref34_Attempts.mono _ _)
   | (with_reducible exact dialtoneref34_Made.mono _ _ _)
   | (with_reducible exact recovery_Capacity.mono _ _ _ _)
   | (with_reducible exact LeO.refl _)
   | (with_reducible exact LeO.none _)
   | (with_reducible refine LeO.ite ?_ ?_)
   | (with_reducible refine LeO.bind ?_ (fun _ => ?_))
   | exact ih0 _ _ _ _ _ _ _ _
   | exact ih1 _ _ _ _ _ _ _ _
   | exact ih2 _ _ _ _ _ _ _ _ _ _ _ _ _ _
   | exact ih3 _ _ _ _ _ _ _ _ _ _ _ _ _ _ _
   | exact ih4 _ _ _ _ _ _ _ _ _ _ _
   | exact ih5 _ _ _ _ _ _ _ _ _
   | exact ih6 _ _ _ _ _
   | exact dialtonelaw34_sane.mono _
   | exact dialtoneref34_Attempts.mono _ _
   | exact dialtoneref34_Made.mono _ _ _
   | exact recovery_Capacity.mono _ _ _ _
   | exact LeO.none _
   | refine LeO.ite ?_ ?_
   | refine LeO.bind ?_ (fun _ => ?_)
  ·
   intro y0 y1 y2 y3 y4 y5 y6 y7 y8 y9 y10 y11 y12 y13
   unfold dialtonelaw34_RecoveryLoads.l2
   repeat' first
   | (with_reducible exact ih0 _ _ _ _ _ _ _ _)
   | (with_reducible exact ih1 _ _ _ _ _ _ _ _)
   | (with_reducible exact ih2 _ _ _ _ _ _ _ _ _ _ _ _ _ _)
   | (with_reducible exact ih3 _ _ _ _ _ _ _ _ _ _ _ _ _ _ _)
   | (with_reducible exact ih4 _ _ _ _ _ _ _ _ _ _ _)
   | (with_reducible exact ih5 _ _ _ _ _ _ _ _ _)
   | (with_reducible exact ih6 _ _ _ _ _)
   | (with_reducible exact dialtonelaw34_sane.mono _)
   | (with_reducible exact dialtoneref34_Attempts.mono _ _)
   | (with_reducible exact dialtoneref34_Made.mono _ _ _)
   | (with_reducible exact recovery_Capacity.mono _ _ _ _)
   | (with_reducible exact LeO.refl _)
   | (with_reducible exact LeO.none _)
   | (with_reducible refine LeO.ite ?_ ?_)
   | (with_reducible refine LeO.bind ?_ (fun _ => ?_))
   | exact ih0 _ _ _ _ _ _ _ _
   | exact ih1 _ _ _ _ _ _ _ _
   | exact ih2 _ _ _ _ _ _ _ _ _ _ _ _ _ _
   | exact ih3 _ _ _ _ _ _ _ _ _ _ _ _ _ _ _
   | exact ih4 _ _ _ _ _ _ _ _ _ _ _
   | exact ih5 _ _ _ _ _ _ _ _ _
   | exact ih6 _ _ _ _ _
   | exact dialtonelaw34_sane.mono _
   | exact dialtoneref34_Attempts.mono _ _
   | exact dialtoneref34_Made.mono _ _ _
   | exact recovery_Capacity.mono _ _ _ _
   | exact LeO.none _
   | refine LeO.ite ?_ ?_
   | refine LeO.bind ?_ (fun _ => ?_)
  ·
   intro y0 y1 y2 y3 y4 y5 y6 y7 y8 y9 y10 y11 y12 y13 y14
   unfold dialtonelaw34_RecoveryLoads.j3
   repeat' first
   | (with_reducible exact ih0 _ _ _ _ _ _ _ _)
   | (with_reducible exact ih1 _ _ _ _ _ _ _ _)
   | (with_reducible exact ih2 _ _ _ _ _ _ _ _ _ _ _ _ _ _)
   | (with_reducible exact ih3 _ _ _ _ _ _ _ _ _ _ _ _ _ _ _)
   | (with_reducible exact ih4 _ _ _ _ _ _ _ _ _ _ _)
   | (with_reducible exact ih5 _ _ _ _ _ _ _ _ _)
   | (with_reducible exact ih6 _ _ _ _ _)
   | (with_reducible exact dialtonelaw34_sane.mono _)
   | (with_reducible exact dialtoneref34_Attempts.mono _ _)
   | (with_reducible exact dialtoneref34_Made.mono _ _ _)
   | (with_reducible exact recovery_Capacity.mono _ _ _ _)
   | (with_reducible exact LeO.refl _)
   | (with_reducible exact LeO.none _)
   | (with_reducible refine LeO.ite ?_ ?_)
   | (with_reducible refine LeO.bind ?_ (fun _ => ?_))
   | exact ih0 _ _ _ _ _ _ _ _
   | exact ih1 _ _ _ _ _ _ _ _
   | exact ih2 _ _ _ _ _ _ _ _ _ _ _ _ _ _
   | exact ih3 _ _ _ _ _ _ _ _ _ _ _ _ _ _ _
   | exact ih4 _ _ _ _ _ _ _ _ _ _ _
   | exact ih5 _ _ _ _ _ _ _ _ _
   | exact ih6 _ _ _ _ _
   | exact dialtonelaw34_sane.mono _
   | exact dialtoneref34_Attempts.mono _ _
   | exact dialtoneref34_Made.mono _ _ _
   | exact recovery_Capacity.mono _ _ _ _
   | exact LeO.none _
   | refine LeO.ite ?_ ?_
   | refine LeO.bind ?_ (fun _ => ?_)
  ·
   intro y0 y1 y2 y3 y4 y5 y6 y7 y8 y9 y10
   unfold dialtonelaw34_RecoveryLoads.j4
   repeat' first
   | (with_reducible exact ih0 _ _ _ _ _ _ _ _)
   | (with_reducible exact ih1 _ _ _ _ _ _ _ _)
   | (with_reducible exact ih2 _ _ _ _ _ _ _ _ _ _ _ _ _ _)
   | (with_reducible exact ih3 _ _ _ _ _ _ _ _ _ _ _ _ _ _ _)
   | (with_reducible exact ih4 _ _ _ _ _ _ _ _ _ _ _)
   | (with_reducible exact ih5 _ _ _ _ _ _ _ _ _)
   | (with_reducible exact ih6 _ _ _ _ _)
   | (with_reducible exact dialtonelaw34_sane.mono _)
   | (with_reducible exact dialtoneref34_Attempts.mono _ _)
   | (with_reducible exact dialtoneref34_Made.mono _ _ _)
   | (with_reducible exact recovery_Capacity.mono _ _ _ _)
   | (with_reducible exact LeO.refl _)
   | (with_reducible exact LeO.none _)
   | (with_reducible refine LeO.ite ?_ ?_)
   | (with_reducible refine LeO.bind ?_ (fun _ => ?_))
   | exact ih0 _ _ _ _ _ _ _ _
   | exact ih1 _ _ _ _ _ _ _ _
   | exact ih2 _ _ _ _ _ _ _ _ _ _ _ _ _ _
   | exact ih3 _ _ _ _ _ _ _ _ _ _ _ _ _ _ _
   | exact ih4 _ _ _ _ _ _ _ _ _ _ _
   | exact ih5 _ _ _ _ _ _ _ _ _
   | exact ih6 _ _ _ _ _
   | exact dialtonelaw34_sane.mono _
   | exact dialtoneref34_Attempts.mono _ _
   | exact dialtoneref34_Made.mono _ _ _
   | exact recovery_Capacity.mono _ _ _ _
   | exact LeO.none _
   | refine LeO.ite ?_ ?_
   | refine LeO.bind ?_ (fun _ => ?_)
  ·
   intro y0 y1 y2 y3 y4 y5 y6 y7 y8
   unfold dialtonelaw34_RecoveryLoads.j5
   repeat' first
   | (with_reducible exact ih0 _ _ _ _ _ _ _ _)
   | (with_reducible exact ih1 _ _ _ _ _ _ _ _)
   | (with_reducible exact ih2 _ _ _ _ _ _ _ _ _ _ _ _ _ _)
   | (with_reducible exact ih3 _ _ _ _ _ _ _ _ _ _ _ _ _ _ _)
   | (with_reducible exact ih4 _ _ _ _ _ _ _ _ _ _ _)
   | (with_reducible exact ih5 _ _ _ _ _ _ _ _ _)
   | (with_reducible exact ih6 _ _ _ _ _)
   | (with_reducible exact dialtonelaw34_sane.mono _)
   | (with_reducible exact dialtoneref34_Attempts.mono _ _)
   | (with_reducible exact dialtoneref34_Made.mono _ _ _)
   | (with_reducible exact recovery_Capacity.mono _ _ _ _)
   | (with_reducible exact LeO.refl _)
   | (with_reducible exact LeO.none _)
   | (with_reducible refine LeO.ite ?_ ?_)
   | (with_reducible refine LeO.bind ?_ (fun _ => ?_))
   | exact ih0 _ _ _ _ _ _ _ _
   | exact ih1 _ _ _ _ _ _ _ _
   | exact ih2 _ _ _ _ _ _ _ _ _ _ _ _ _ _
   | exact ih3 _ _ _ _ _ _ _ _ _ _ _ _ _ _ _
   | exact ih4 _ _ _ _ _ _ _ _ _ _ _
   | exact ih5 _ _ _ _ _ _ _ _ _
   | exact ih6 _ _ _ _ _
   | exact dialtonelaw34_sane.mono _
   | exact dialtoneref34_Attempts.mono _ _
   | exact dialtoneref34_Made.mono _ _ _
   | exact recovery_Capacity.mono _ _ _ _
   | exact LeO.none _
   | refine LeO.ite ?_ ?_
   | refine LeO.bind ?_ (fun _ => ?_)
  ·
   intro y0 y1 y2 y3 y4
   unfold dialtonelaw34_RecoveryLoads.j6
   repeat' first
   | (with_reducible exact ih0 _ _ _ _ _ _ _ _)
   | (with_reducible exact ih1 _ _ _ _ _ _ _ _)
   | (with_reducible exact ih2 _ _ _ _ _ _ _ _ _ _ _ _ _ _)
   | (with_reducible exact ih3 _ _ _ _ _ _ _ _ _ _ _ _ _ _ _)
   | (with_reducible exact ih4 _ _ _ _ _ _ _ _ _ _ _)
   | (with_reducible exact ih5 _ _ _ _ _ _ _ _ _)
   | (with_reducible exact ih6 _ _ _ _ _)
   | (with_reducible exact dialtonelaw34_sane.mono _)
   | (with_reducible exact dialtoneref34_Attempts.mono _ _)
   | (with_reducible exact dialtoneref34_Made.mono _ _ _)
   | (with_reducible exact recovery_Capacity.mono _ _ _ _)
   | (with_reducible exact LeO.refl _)
   | (with_reducible exact LeO.none _)
   | (with_reducible refine LeO.ite ?_ ?_)
   | (with_reducible refine LeO.bind ?_ (fun _ => ?_))
   | exact ih0 _ _ _ _ _ _ _ _
   | exact ih1 _ _ _ _ _ _ _ _
   | exact ih2 _ _ _ _ _ _ _ _ _ _ _ _ _ _
   | exact ih3 _ _ _ _ _ _ _ _ _ _ _ _ _ _ _
   | exact ih4 _ _ _ _ _ _ _ _ _ _ _
   | exact ih5 _ _ _ _ _ _ _ _ _
   | exact ih6 _ _ _ _ _
   | exact dialtonelaw34_sane.mono _
   | exact dialtoneref34_Attempts.mono _ _
   | exact dialtoneref34_Made.mono _ _ _
   | exact recovery_Capacity.mono _ _ _ _
   | exact LeO.none _
   | refine LeO.ite ?_ ?_
   | refine LeO.bind ?_ (fun _ => ?_)
theorem dialtonelaw34_RecoveryLoads.mono : ∀ a0 a1 a2 k, LeO (dialtonelaw34_RecoveryLoads.f k a0 a1 a2) (dialtonelaw34_RecoveryLoads.f (k + 1) a0 a1 a2) := by
 intro a0 a1 a2 k
 obtain ⟨ih0, ih1, ih2, ih3, ih4, ih5, ih6⟩ := dialtonelaw34_RecoveryLoads.mono_l k
 unfold dialtonelaw34_RecoveryLoads.f
 repeat' first
   | (with_reducible exact ih0 _ _ _ _ _ _ _ _)
   | (with_reducible exact ih1 _ _ _ _ _ _ _ _)
   | (with_reducible exact ih2 _ _ _ _ _ _ _ _ _ _ _ _ _ _)
   | (with_reducible exact ih3 _ _ _ _ _ _ _ _ _ _ _ _ _ _ _)
   | (with_reducible exact ih4 _ _ _ _ _ _ _ _ _ _ _)
   | (with_reducible exact ih5 _ _ _ _ _ _ _ _ _)
   | (with_reducible exact ih6 _ _ _ _ _)
   | (with_reducible exact dialtonelaw34_sane.mono _)
   | (with_reducible exact dialtoneref34_Attempts.mono _ _)
   | (with_reducible exact dialtoneref34_Made.mono _ _ _)
   | (with_reducible exact recovery_Capacity.mono _ _ _ _)
   | (with_reducible exact LeO.refl _)
   | (with_reducible exact LeO.none _)
   | (with_reducible refine LeO.ite ?_ ?_)
   | (with_reducible refine LeO.bind ?_ (fun _ => ?_))
   | exact ih0 _ _ _ _ _ _ _ _
   | exact ih1 _ _ _ _ _ _ _ _
   | exact ih2 _ _ _ _ _ _ _ _ _ _ _ _ _ _
   | exact ih3 _ _ _ _ _ _ _ _ _ _ _ _ _ _ _
   | exact ih4 _ _ _ _ _ _ _ _ _ _ _
   | exact ih5 _ _ _ _ _ _ _ _ _
   | exact ih6 _ _ _ _ _
   | exact dialtonelaw34_sane.mono _
   | exact dialtoneref34_Attempts.mono _ _
   | exact dialtoneref34_Made.mono _ _ _
   | exact recovery_Capacity.mono _ _ _ _
   | exact LeO.none _
   | refine LeO.ite ?_ ?_
   | refine LeO.bind ?_ (fun _ => ?_)
set_option maxHeartbeats 8000000 in
set_option maxRecDepth 100000 in
theorem dialtonelaw34_RecoveryLoads.calls (k : Nat) (A0 : Option Addr) (c0 : Nat) (l0 : List (S71)) (a1 : Int) (A2 : Option Addr) (c2 : Nat) (l2 : List (S71)) (r : Bool) (w : World) (hr0 : Kd.C k71 w A0 l0.length l0) (hc0 : l0.length ≤ c0) (hr2 : Kd.C k71 w A2 l2.length l2) (hc2 : l2.length ≤ c2) (h : dialtonelaw34_RecoveryLoads.f k l0 a1 l2 = some r) :
  Calls Try.prog 9 #[.slice A0 l0.length c0, .int .i64 a1, .slice A2 l2.length c2] w fun e w' => e = .returned (.bool r) ∧ Below w.heap.size w w' := by
 have hu26 := Try.underlying26
 have HR0 := Aside0.mk hr0
 have HC0 := Aside0.mk hc0
 clear hr0 hc0
 have HR2 := Aside0.mk hr2
 have HC2 := Aside0.mk hc2
 clear hr2 hc2
 have HB := Aside0.mk (Below.refl w.heap.size w)
 have H : ((dialtonelaw34_sane.f k).bind fun t600 => (if t600 = true then ((dialtoneref34_Made.f k l0 a1).bind fun bt601 => ((dialtoneref34_Attempts.f k l2).bind fun t606 => (dialtonelaw34_RecoveryLoads.l0 k t606 0 0 0 (-1) 0 bt601.1 bt601.2))) else (none))) = some r := h
 clear h
 replace H := Option.bind_eq_some_iff.mp H
 obtain ⟨t600, A40, H⟩ := H
 replace H : (if t600 = true then ((dialtoneref34_Made.f k l0 a1).bind fun bt601 => ((dialtoneref34_Attempts.f k l2).bind fun t606 => (dialtonelaw34_RecoveryLoads.l0 k t606 0 0 0 (-1) 0 bt601.1 bt601.2))) else (none)) = some r := H
 have A4 := Aside0.mk A40
 clear A40
 by_cases c5 : t600 = true
 ·
  subst c5
  have H1 : ((dialtoneref34_Made.f k l0 a1).bind fun bt601 => ((dialtoneref34_Attempts.f k l2).bind fun t606 => (dialtonelaw34_RecoveryLoads.l0 k t606 0 0 0 (-1) 0 bt601.1 bt601.2))) = some r := by rw [if_pos rfl] at H; exact H
  clear H
  have H := H1
  clear H1
  replace H := Option.bind_eq_some_iff.mp H
  obtain ⟨⟨t601, t604⟩, A60, H⟩ := H
  replace H : ((dialtoneref34_Attempts.f k l2).bind fun t606 => (dialtonelaw34_RecoveryLoads.l0 k t606 0 0 0 (-1) 0 t601 t604)) = some r := H
  have A6 := Aside0.mk A60
  clear A60
  replace H := Option.bind_eq_some_iff.mp H
  obtain ⟨t606, A70, H⟩ := H
  replace H : (dialtonelaw34_RecoveryLoads.l0 k t606 0 0 0 (-1) 0 t601 t604) = some r := H
  have A7 := Aside0.mk A70
  clear A70
  have H' := Aside0.mk H
  clear H
  go_enter Try.func9, Try.ntmps9
  go_wp2_with (first | (go_at_call 13; (with_reducible refine (dialtonelaw34_sane.calls k  true _ A4.out).mono ?_); rintro e w8 ⟨rfl, hb⟩; have n0_ := Aside0.mk (below_step (by repeat (first | (with_reducible first | exact HB.out | apply below_alloc | apply pw_below_drewN | apply below_drew1) | exact HB.out)) hb); clear HB; have HB := n0_; clear n0_; (try clear hb); (try clear hb2); (try clear hk); (try clear hi)) | (go_at_call 14; (with_reducible refine (dialtoneref34_Made.calls k _ _ l0 a1 t601 t604 _ ?side1 ?side2 A6.out).mono ?_); (case side1 => repeat (first | exact (Kd.C_below HR0.out HB.out) | (with_reducible refine Kd.C_alloc ?_ _) | (with_reducible refine Kd.C_drewN ?_ _) | (with_reducible refine Kd.C_drew ?_))); (case side2 => exact HC0.out); rintro e w9 ⟨v602, rfl, ho0, hb⟩; have n0_ := Aside0.mk (Kd.R_lower ho0 (below_size (by repeat (first | (with_reducible first | exact HB.out | apply below_alloc | apply pw_below_drewN | apply below_drew1) | exact HB.out)))); have n1_ := Aside0.mk (below_step (by repeat (first | (with_reducible first | exact HB.out | apply below_alloc | apply pw_below_drewN | apply below_drew1) | exact HB.out)) hb); clear HB; have HO603 := n0_; have HB := n1_; clear n0_ n1_; (try clear hb); (try clear hb2); (try clear hk); (try clear hi); (try clear ho0)) | ((with_reducible refine gate_dst (N := 8) rfl ?_); (try (refine gate_guard (by rfl) ?_; dsimp only)); refine box_event ?hg (N := 8) ?hd (cs := #[.slice none 0 0, .int .i64 0]) (t := 26) ?hr ?_; (case hd => rfl); (case hg => rfl); (case hr => first | (go_simp; done) | (go_simp; rfl)); intro gb605 hg w10 hbox hb; have n0_ := Aside0.mk (Kd.R_below (by (with_reducible repeat (first | apply Kd.R_alloc | apply Kd.R_drewN | apply Kd.R_drew)); exact HO603.out) hb); have n1_ := Aside0.mk (below_step (by repeat (first | (with_reducible first | exact HB.out | apply below_alloc | apply pw_below_drewN | apply below_drew1) | exact HB.out)) hb); have n2_ := Aside0.mk (hbox); have n3_ := Aside0.mk ((by rw [hg]; exact (below_size (by repeat (first | (with_reducible first | exact HB.out | apply below_alloc | apply pw_below_drewN | apply below_drew1) | exact HB.out))) : w.heap.size ≤ gb605)); have n4_ := Aside0.mk ((by rw [hg]; exact (below_size (by repeat (first | (with_reducible first | exact HB.out | apply below_alloc | apply pw_below_drewN | apply below_drew1) | exact HB.out))) : w.heap.size ≤ gb605)); clear HO603; clear HB; have HO603 := n0_; have HB := n1_; have BK605 := n2_; have GW605 := n3_; have GE605 := n4_; clear n0_ n1_ n2_ n3_ n4_; clear hb hbox hg; obtain ⟨Ao11, co11, eo11⟩ := Kd.R_slice HO603.out; subst eo11; have hcz12_0 : w10.cell? ⟨gb605, 0, none⟩ = some (.slice none 0 0) := (blk_cell BK605.out 0).trans rfl; have hcz12_1 : w10.cell? ⟨gb605, 1, none⟩ = some (.int .i64 0) := (blk_cell BK605.out 1).trans rfl; have hfz12_0 := blk_frozen BK605.out 0; have hfz12_1 := blk_frozen BK605.out 1) | (go_at_call 15; (with_reducible refine (dialtoneref34_Attempts.calls k _ _ l2 t606 _ ?side1 ?side2 A7.out).mono ?_); (case side1 => exact Kd.C_below HR2.out (by repeat (first | (with_reducible first | exact HB.out | apply below_alloc | apply pw_below_drewN | apply below_drew1 | refine below_set ?_ GE605.out) | exact HB.out))); (case side2 => exact HC2.out); rintro e w13 ⟨v607, rfl, ho0, hb⟩; have n0_ := Aside0.mk (Kd.R_below (by (with_reducible repeat (first | apply Kd.R_alloc | apply Kd.R_drewN | apply Kd.R_drew)); exact (Kd.R_mono (Kd.R_far (p := ⟨gb605, 1, none⟩) (Kd.R_far (p := ⟨gb605, 0, none⟩) (Kd.R_types HO603.out BK605.out (by decide)) (fun _ hk => hk.2) (.slice Ao11 t601.length co11)) (fun _ hk => hk.2) (.int .i64 t604)) (fun _ h_ => h_.1))) hb); have n1_ := Aside0.mk (Kd.R_lower ho0 (below_size (by repeat (first | (with_reducible first | exact HB.out | apply below_alloc | apply pw_below_drewN | apply below_drew1 | refine below_set ?_ GE605.out) | exact HB.out)))); have n2_ := Aside0.mk (blk_below (g := gb605) (o := .cells #[.slice Ao11 t601.length co11, .int .i64 t604] 26 (0, 0)) (by (with_reducible repeat (first | refine blk_drewN ?_ _ | refine blk_drew ?_ | refine blk_alloc ?_ _)); refine blk_put (cs := #[.slice Ao11 t601.length co11, .int .i64 0]) ?_ 1 _ rfl; (with_reducible repeat (first | refine blk_drewN ?_ _ | refine blk_drew ?_ | refine blk_alloc ?_ _)); refine blk_put (cs := #[.slice none 0 0, .int .i64 0]) ?_ 0 _ rfl; (with_reducible repeat (first | refine blk_drewN ?_ _ | refine blk_drew ?_ | refine blk_alloc ?_ _)); exact BK605.out) hb); have n3_ := Aside0.mk (below_step (by repeat (first | (with_reducible first | exact HB.out | apply below_alloc | apply pw_below_drewN | apply below_drew1 | refine below_set ?_ GE605.out) | exact HB.out)) hb); clear HO603; clear BK605; clear HB; have HO603 := n0_; have HO608 := n1_; have BK605 := n2_; have HB := n3_; clear n0_ n1_ n2_ n3_; (try clear hb); (try clear hb2); (try clear hk); (try clear hi); (try clear ho0)))
  repeat (go_quiet (first | (go_at_call 13; (with_reducible refine (dialtonelaw34_sane.calls k  true _ A4.out).mono ?_); rintro e w8 ⟨rfl, hb⟩; have n0_ := Aside0.mk (below_step (by repeat (first | (with_reducible first | exact HB.out | apply below_alloc | apply pw_below_drewN | apply below_drew1) | exact HB.out)) hb); clear HB; have HB := n0_; clear n0_; (try clear hb); (try clear hb2); (try clear hk); (try clear hi)) | (go_at_call 14; (with_reducible refine (dialtoneref34_Made.calls k _ _ l0 a1 t601 t604 _ ?side1 ?side2 A6.out).mono ?_); (case side1 => repeat (first | exact (Kd.C_below HR0.out HB.out) | (with_reducible refine Kd.C_alloc ?_ _) | (with_reducible refine Kd.C_drewN ?_ _) | (with_reducible refine Kd.C_drew ?_))); (case side2 => exact HC0.out); rintro e w9 ⟨v602, rfl, ho0, hb⟩; have n0_ := Aside0.mk (Kd.R_lower ho0 (below_size (by repeat (first | (with_reducible first | exact HB.out | apply below_alloc | apply pw_below_drewN | apply below_drew1) | exact HB.out)))); have n1_ := Aside0.mk (below_step (by repeat (first | (with_reducible first | exact HB.out | apply below_alloc | apply pw_below_drewN | apply below_drew1) | exact HB.out)) hb); clear HB; have HO603 := n0_; have HB := n1_; clear n0_ n1_; (try clear hb); (try clear hb2); (try clear hk); (try clear hi); (try clear ho0)) | ((with_reducible refine gate_dst (N := 8) rfl ?_); (try (refine gate_guard (by rfl) ?_; dsimp only)); refine box_event ?hg (N := 8) ?hd (cs := #[.slice none 0 0, .int .i64 0]) (t := 26) ?hr ?_; (case hd => rfl); (case hg => rfl); (case hr => first | (go_simp; done) | (go_simp; rfl)); intro gb605 hg w10 hbox hb; have n0_ := Aside0.mk (Kd.R_below (by (with_reducible repeat (first | apply Kd.R_alloc | apply Kd.R_drewN | apply Kd.R_drew)); exact HO603.out) hb); have n1_ := Aside0.mk (below_step (by repeat (first | (with_reducible first | exact HB.out | apply below_alloc | apply pw_below_drewN | apply below_drew1) | exact HB.out)) hb); have n2_ := Aside0.mk (hbox); have n3_ := Aside0.mk ((by rw [hg]; exact (below_size (by repeat (first | (with_reducible first | exact HB.out | apply below_alloc | apply pw_below_drewN | apply below_drew1) | exact HB.out))) : w.heap.size ≤ gb605)); have n4_ := Aside0.mk ((by rw [hg]; exact (below_size (by repeat (first | (with_reducible first | exact HB.out | apply below_alloc | apply pw_below_drewN | apply below_drew1) | exact HB.out))) : w.heap.size ≤ gb605)); clear HO603; clear HB; have HO603 := n0_; have HB := n1_; have BK605 := n2_; have GW605 := n3_; have GE605 := n4_; clear n0_ n1_ n2_ n3_ n4_; clear hb hbox hg; obtain ⟨Ao11, co11, eo11⟩ := Kd.R_slice HO603.out; subst eo11; have hcz12_0 : w10.cell? ⟨gb605, 0, none⟩ = some (.slice none 0 0) := (blk_cell BK605.out 0).trans rfl; have hcz12_1 : w10.cell? ⟨gb605, 1, none⟩ = some (.int .i64 0) := (blk_cell BK605.out 1).trans rfl; have hfz12_0 := blk_frozen BK605.out 0; have hfz12_1 := blk_frozen BK605.out 1) | (go_at_call 15; (with_reducible refine (dialtoneref34_Attempts.calls k _ _ l2 t606 _ ?side1 ?side2 A7.out).mono ?_); (case side1 => exact Kd.C_below HR2.out (by repeat (first | (with_reducible first | exact HB.out | apply below_alloc | apply pw_below_drewN | apply below_drew1 | refine below_set ?_ GE605.out) | exact HB.out))); (case side2 => exact HC2.out); rintro e w13 ⟨v607, rfl, ho0, hb⟩; have n0_ := Aside0.mk (Kd.R_below (by (with_reducible repeat (first | apply Kd.R_alloc | apply Kd.R_drewN | apply Kd.R_drew)); exact (Kd.R_mono (Kd.R_far (p := ⟨gb605, 1, none⟩) (Kd.R_far (p := ⟨gb605, 0, none⟩) (Kd.R_types HO603.out BK605.out (by decide)) (fun _ hk => hk.2) (.slice Ao11 t601.length co11)) (fun _ hk => hk.2) (.int .i64 t604)) (fun _ h_ => h_.1))) hb); have n1_ := Aside0.mk (Kd.R_lower ho0 (below_size (by repeat (first | (with_reducible first | exact HB.out | apply below_alloc | apply pw_below_drewN | apply below_drew1 | refine below_set ?_ GE605.out) | exact HB.out)))); have n2_ := Aside0.mk (blk_below (g := gb605) (o := .cells #[.slice Ao11 t601.length co11, .int .i64 t604] 26 (0, 0)) (by (with_reducible repeat (first | refine blk_drewN ?_ _ | refine blk_drew ?_ | refine blk_alloc ?_ _)); refine blk_put (cs := #[.slice Ao11 t601.length co11, .int .i64 0]) ?_ 1 _ rfl; (with_reducible repeat (first | refine blk_drewN ?_ _ | refine blk_drew ?_ | refine blk_alloc ?_ _)); refine blk_put (cs := #[.slice none 0 0, .int .i64 0]) ?_ 0 _ rfl; (with_reducible repeat (first | refine blk_drewN ?_ _ | refine blk_drew ?_ | refine blk_alloc ?_ _)); exact BK605.out) hb); have n3_ := Aside0.mk (below_step (by repeat (first | (with_reducible first | exact HB.out | apply below_alloc | apply pw_below_drewN | apply below_drew1 | refine below_set ?_ GE605.out) | exact HB.out)) hb); clear HO603; clear BK605; clear HB; have HO603 := n0_; have HO608 := n1_; have BK605 := n2_; have HB := n3_; clear n0_ n1_ n2_ n3_; (try clear hb); (try clear hb2); (try clear hk); (try clear hi); (try clear ho0))); try go_wp2_with (first | (go_at_call 13; (with_reducible refine (dialtonelaw34_sane.calls k  true _ A4.out).mono ?_); rintro e w8 ⟨rfl, hb⟩; have n0_ := Aside0.mk (below_step (by repeat (first | (with_reducible first | exact HB.out | apply below_alloc | apply pw_below_drewN | apply below_drew1) | exact HB.out)) hb); clear HB; have HB := n0_; clear n0_; (try clear hb); (try clear hb2); (try clear hk); (try clear hi)) | (go_at_call 14; (with_reducible refine (dialtoneref34_Made.calls k _ _ l0 a1 t601 t604 _ ?side1 ?side2 A6.out).mono ?_); (case side1 => repeat (first | exact (Kd.C_below HR0.out HB.out) | (with_reducible refine Kd.C_alloc ?_ _) | (with_reducible refine Kd.C_drewN ?_ _) | (with_reducible refine Kd.C_drew ?_))); (case side2 => exact HC0.out); rintro e w9 ⟨v602, rfl, ho0, hb⟩; have n0_ := Aside0.mk (Kd.R_lower ho0 (below_size (by repeat (first | (with_reducible first | exact HB.out | apply below_alloc | apply pw_below_drewN | apply below_drew1) | exact HB.out)))); have n1_ := Aside0.mk (below_step (by repeat (first | (with_reducible first | exact HB.out | apply below_alloc | apply pw_below_drewN | apply below_drew1) | exact HB.out)) hb); clear HB; have HO603 := n0_; have HB := n1_; clear n0_ n1_; (try clear hb); (try clear hb2); (try clear hk); (try clear hi); (try clear ho0)) | ((with_reducible refine gate_dst (N := 8) rfl ?_); (try (refine gate_guard (by rfl) ?_; dsimp only)); refine box_event ?hg (N := 8) ?hd (cs := #[.slice none 0 0, .int .i64 0]) (t := 26) ?hr ?_; (case hd => rfl); (case hg => rfl); (case hr => first | (go_simp; done) | (go_simp; rfl)); intro gb605 hg w10 hbox hb; have n0_ := Aside0.mk (Kd.R_below (by (with_reducible repeat (first | apply Kd.R_alloc | apply Kd.R_drewN | apply Kd.R_drew)); exact HO603.out) hb); have n1_ := Aside0.mk (below_step (by repeat (first | (with_reducible first | exact HB.out | apply below_alloc | apply pw_below_drewN | apply below_drew1) | exact HB.out)) hb); have n2_ := Aside0.mk (hbox); have n3_ := Aside0.mk ((by rw [hg]; exact (below_size (by repeat (first | (with_reducible first | exact HB.out | apply below_alloc | apply pw_below_drewN | apply below_drew1) | exact HB.out))) : w.heap.size ≤ gb605)); have n4_ := Aside0.mk ((by rw [hg]; exact (below_size (by repeat (first | (with_reducible first | exact HB.out | apply below_alloc | apply pw_below_drewN | apply below_drew1) | exact HB.out))) : w.heap.size ≤ gb605)); clear HO603; clear HB; have HO603 := n0_; have HB := n1_; have BK605 := n2_; have GW605 := n3_; have GE605 := n4_; clear n0_ n1_ n2_ n3_ n4_; clear hb hbox hg; obtain ⟨Ao11, co11, eo11⟩ := Kd.R_slice HO603.out; subst eo11; have hcz12_0 : w10.cell? ⟨gb605, 0, none⟩ = some (.slice none 0 0) := (blk_cell BK605.out 0).trans rfl; have hcz12_1 : w10.cell? ⟨gb605, 1, none⟩ = some (.int .i64 0) := (blk_cell BK605.out 1).trans rfl; have hfz12_0 := blk_frozen BK605.out 0; have hfz12_1 := blk_frozen BK605.out 1) | (go_at_call 15; (with_reducible refine (dialtoneref34_Attempts.calls k _ _ l2 t606 _ ?side1 ?side2 A7.out).mono ?_); (case side1 => exact Kd.C_below HR2.out (by repeat (first | (with_reducible first | exact HB.out | apply below_alloc | apply pw_below_drewN | apply below_drew1 | refine below_set ?_ GE605.out) | exact HB.out))); (case side2 => exact HC2.out); rintro e w13 ⟨v607, rfl, ho0, hb⟩; have n0_ := Aside0.mk (Kd.R_below (by (with_reducible repeat (first | apply Kd.R_alloc | apply Kd.R_drewN | apply Kd.R_drew)); exact (Kd.R_mono (Kd.R_far (p := ⟨gb605, 1, none⟩) (Kd.R_far (p := ⟨gb605, 0, none⟩) (Kd.R_types HO603.out BK605.out (by decide)) (fun _ hk => hk.2) (.slice Ao11 t601.length co11)) (fun _ hk => hk.2) (.int .i64 t604)) (fun _ h_ => h_.1))) hb); have n1_ := Aside0.mk (Kd.R_lower ho0 (below_size (by repeat (first | (with_reducible first | exact HB.out | apply below_alloc | apply pw_below_drewN | apply below_drew1 | refine below_set ?_ GE605.out) | exact HB.out)))); have n2_ := Aside0.mk (blk_below (g := gb605) (o := .cells #[.slice Ao11 t601.length co11, .int .i64 t604] 26 (0, 0)) (by (with_reducible repeat (first | refine blk_drewN ?_ _ | refine blk_drew ?_ | refine blk_alloc ?_ _)); refine blk_put (cs := #[.slice Ao11 t601.length co11, .int .i64 0]) ?_ 1 _ rfl; (with_reducible repeat (first | refine blk_drewN ?_ _ | refine blk_drew ?_ | refine blk_alloc ?_ _)); refine blk_put (cs := #[.slice none 0 0, .int .i64 0]) ?_ 0 _ rfl; (with_reducible repeat (first | refine blk_drewN ?_ _ | refine blk_drew ?_ | refine blk_alloc ?_ _)); exact BK605.out) hb); have n3_ := Aside0.mk (below_step (by repeat (first | (with_reducible first | exact HB.out | apply below_alloc | apply pw_below_drewN | apply below_drew1 | refine below_set ?_ GE605.out) | exact HB.out)) hb); clear HO603; clear BK605; clear HB; have HO603 := n0_; have HO608 := n1_; have BK605 := n2_; have HB := n3_; clear n0_ n1_ n2_ n3_; (try clear hb); (try clear hb2); (try clear hk); (try clear hi); (try clear ho0))))
  go_loopg [11, 14] k (fun kq v11 v14 w' => ∃ (x11_1 : Int) (x14_1 : Int), v11 = .int .i64 x11_1 ∧ v14 = .int .i64 x14_1 ∧ Aside0 (dialtonelaw34_RecoveryLoads.l0 kq t606 0 x11_1 0 (-1) x14_1 t601 t604 = some r) ∧ Aside0 (kq ≤ k) ∧ Aside0 (Kd.R k60 60 w' w.heap.size (fun _ => True) v607 t606) ∧ Aside0 (Kd.R k67 67 w' w.heap.size (fun _ => True) (.slice Ao11 t601.length co11) t601) ∧ Aside0 (w'.heap[gb605]? = some (.cells #[(.slice Ao11 t601.length co11), .int .i64 t604] 26 (0, 0))) ∧ Aside0 (Below w.heap.size w w'))
  case atStart => exact ⟨(0), (0), (by first | rfl | (simp; done) | (simp [*]; done)), (by first | rfl | (simp; done) | (simp [*]; done)), H', ⟨Nat.le_refl _⟩, ⟨by (with_reducible repeat (first | apply Kd.R_alloc | apply Kd.R_drewN | apply Kd.R_drew)); exact HO608.out⟩, ⟨by (with_reducible repeat (first | apply Kd.R_alloc | apply Kd.R_drewN | apply Kd.R_drew)); exact HO603.out⟩, ⟨by (with_reducible repeat (first | refine blk_drewN ?_ _ | refine blk_drew ?_ | refine blk_alloc ?_ _)); exact BK605.out⟩, ⟨by repeat (first | (with_reducible first | exact HB.out | apply below_alloc | apply pw_below_drewN | apply below_drew1 | refine below_set ?_ GE605.out) | exact HB.out)⟩⟩
  case round =>
   clear H'
   try clear c2
   try clear p2
   try clear c5
   try clear c9
   try clear hcz12_0
   try clear hcz12_1
   try clear hfz12_0
   try clear hfz12_1
   obtain ⟨x11_1, x14_1, rfl, rfl, HA, HK1, HO_9, HO_606000, BK605, HB⟩ := hrel
   cases gk with
   | zero => exact absurd HA.out (by simp [dialtonelaw34_RecoveryLoads.l0])
   | succ k1 =>
    have H := HA.out
    clear HA
    simp only [dialtonelaw34_RecoveryLoads.l0] at H
    by_cases c14 : x14_1 < (t606.length : Int)
    ·
     rw [if_pos c14] at H
     have c14b0 : decide (x14_1 < (t606.length : Int)) = true := decide_eq_true c14
     clear c14
     by_cases c15 : 0 ≤ x14_1
     ·
      rw [if_pos c15] at H
      have c15b0 : decide (0 ≤ x14_1) = true := decide_eq_true c15
      clear c15
      obtain ⟨bq16, hbq16⟩ : ∃ b_ : Bool, b_ = ((rd_T60 t606 x14_1).f2) := ⟨_, rfl⟩
      replace H : (if (bq16 = true) then (dialtonelaw34_RecoveryLoads.l0 k1 t606 0 x11_1 0 (-1) (wrap64 (x14_1 + 1)) t601 t604) else (dialtonelaw34_RecoveryLoads.l0 k1 t606 0 (wrap64 (x11_1 + 1)) 0 (-1) (wrap64 (x14_1 + 1)) t601 t604)) = some r := by rw [← hbq16] at H; exact H
      have Nbq16 := Aside0.mk hbq16
      clear hbq16
      by_cases c17 : (bq16 = true)
      ·
       subst c17
       have H1 : (dialtonelaw34_RecoveryLoads.l0 k1 t606 0 x11_1 0 (-1) (wrap64 (x14_1 + 1)) t601 t604) = some r := by rw [if_pos rfl] at H; exact H
       clear H
       have H := H1
       clear H1
       have H' := Aside0.mk H
       clear H
       obtain ⟨Ao18, co18, eo18⟩ := Kd.R_slice HO_9.out
       subst eo18
       have p609 : 0 ≤ (x14_1 : Int) := of_decide_eq_true (by first | (with_reducible assumption) | assumption)
       have q609 : x14_1 < (t606.length : Int) := of_decide_eq_true (by first | (with_reducible assumption) | assumption)
       obtain ⟨ad609, e609, hx609_0, hx609_1, hx609_2⟩ := at_T60 (Kd.R_reads' HO_9.out).2.2 x14_1 p609 q609
       (try rw [← Nbq16.out] at hx609_2)
       cases e609
       replace p609 := eq_true p609
       replace q609 := eq_true q609
       go_wp2
       repeat (go_quiet (fail); try go_wp2)
       go_roundg k1
       case measure => have := HK1.out; omega
       case rel => exact ⟨(x11_1), (wrap64 (x14_1 + 1)), (by first | rfl | (simp; done) | (simp [*]; done)), (by first | rfl | (simp; done) | (simp [*]; done)), H', ⟨by have := HK1.out; omega⟩, ⟨by (with_reducible repeat (first | apply Kd.R_alloc | apply Kd.R_drewN | apply Kd.R_drew)); exact HO_9.out⟩, ⟨by (with_reducible repeat (first | apply Kd.R_alloc | apply Kd.R_drewN | apply Kd.R_drew)); exact HO_606000.out⟩, ⟨by (with_reducible repeat (first | refine blk_drewN ?_ _ | refine blk_drew ?_ | refine blk_alloc ?_ _)); exact BK605.out⟩, ⟨by repeat (first | (with_reducible first | exact HB.out | apply below_alloc | apply pw_below_drewN | apply below_drew1 | refine below_set ?_ GE605.out) | exact HB.out)⟩⟩
      ·
       replace c17 := Bool.eq_false_iff.mpr c17
       subst c17
       have H1 : (dialtonelaw34_RecoveryLoads.l0 k1 t606 0 (wrap64 (x11_1 + 1)) 0 (-1) (wrap64 (x14_1 + 1)) t601 t604) = some r := by rw [if_neg (show ¬ (false = true) by decide)] at H; exact H
       clear H
       have H := H1
       clear H1
       have H' := Aside0.mk H
       clear H
       obtain ⟨Ao19, co19, eo19⟩ := Kd.R_slice HO_9.out
       subst eo19
       have p609 : 0 ≤ (x14_1 : Int) := of_decide_eq_true (by first | (with_reducible assumption) | assumption)
       have q609 : x14_1 < (t606.length : Int) := of_decide_eq_true (by first | (with_reducible assumption) | assumption)
       obtain ⟨ad609, e609, hx609_0, hx609_1, hx609_2⟩ := at_T60 (Kd.R_reads' HO_9.out).2.2 x14_1 p609 q609
       (try rw [← Nbq16.out] at hx609_2)
       cases e609
       replace p609 := eq_true p609
       replace q609 := eq_true q609
       go_wp2
       repeat (go_quiet (fail); try go_wp2)
       go_roundg k1
       case measure => have := HK1.out; omega
       case rel => exact ⟨(wrap64 (x11_1 + 1)), (wrap64 (x14_1 + 1)), (by first | rfl | (simp; done) | (simp [*]; done)), (by first | rfl | (simp; done) | (simp [*]; done)), H', ⟨by have := HK1.out; omega⟩, ⟨by (with_reducible repeat (first | apply Kd.R_alloc | apply Kd.R_drewN | apply Kd.R_drew)); exact HO_9.out⟩, ⟨by (with_reducible repeat (first | apply Kd.R_alloc | apply Kd.R_drewN | apply Kd.R_drew)); exact HO_606000.out⟩, ⟨by (with_reducible repeat (first | refine blk_drewN ?_ _ | refine blk_drew ?_ | refine blk_alloc ?_ _)); exact BK605.out⟩, ⟨by repeat (first | (with_reducible first | exact HB.out | apply below_alloc | apply pw_below_drewN | apply below_drew1 | refine below_set ?_ GE605.out) | exact HB.out)⟩⟩
     ·
      rw [if_neg c15] at H
      exact absurd H (by simp)
    ·
     rw [if_neg c14] at H
     have c14b0 : decide (x14_1 < (t606.length : Int)) = false := decide_eq_false c14
     clear c14
     have H' := Aside0.mk H
     clear H
     obtain ⟨Ao20, co20, eo20⟩ := Kd.R_slice HO_9.out
     subst eo20
     go_wp2
     repeat (go_quiet (fail); try go_wp2)
     go_loopg [10, 12, 13, 15] k1 (fun kq v10 v12 v13 v15 w' => ∃ (x10_2 : Int) (x12_2 : Int) (x13_2 : Int) (x15_2 : Int), v10 = .int .i64 x10_2 ∧ v12 = .int .i64 x12_2 ∧ v13 = .int .i64 x13_2 ∧ v15 = .int .i64 x15_2 ∧ Aside0 (dialtonelaw34_RecoveryLoads.l1 kq t606 x10_2 x11_1 x12_2 x13_2 x15_2 t601 t604 = some r) ∧ Aside0 (kq ≤ k1) ∧ Aside0 (Kd.R k60 60 w' w.heap.size (fun _ => True) (.slice Ao20 t606.length co20) t606) ∧ Aside0 (Kd.R k67 67 w' w.heap.size (fun _ => True) (.slice Ao11 t601.length co11) t601) ∧ Aside0 (w'.heap[gb605]? = some (.cells #[(.slice Ao11 t601.length co11), .int .i64 t604] 26 (0, 0))) ∧ Aside0 (Below w.heap.size w w'))
     case atStart => exact ⟨(0), (0), ((-1)), (0), (by first | rfl | (simp; done) | (simp [*]; done)), (by first | rfl | (simp; done) | (simp [*]; done)), (by first | rfl | (simp; done) | (simp [*]; done)), (by first | rfl | (simp; done) | (simp [*]; done)), H', ⟨Nat.le_refl _⟩, ⟨by (with_reducible repeat (first | apply Kd.R_alloc | apply Kd.R_drewN | apply Kd.R_drew)); exact HO_9.out⟩, ⟨by (with_reducible repeat (first | apply Kd.R_alloc | apply Kd.R_drewN | apply Kd.R_drew)); exact HO_606000.out⟩, ⟨by (with_reducible repeat (first | refine blk_drewN ?_ _ | refine blk_drew ?_ | refine blk_alloc ?_ _)); exact BK605.out⟩, ⟨by repeat (first | (with_reducible first | exact HB.out | apply below_alloc | apply pw_below_drewN | apply below_drew1 | refine below_set ?_ GE605.out) | exact HB.out)⟩⟩
     case round =>
      clear H'
      try clear c1
      try clear q1
      try clear c2
      try clear p2
      try clear c5
      try clear p6
      try clear q6
      try clear hx6
      try clear c9
      try clear c14
      try clear c14b0
      try clear c15
      try clear c15b0
      try clear q16
      try clear c17
      try clear hcz12_0
      try clear hcz12_1
      try clear hfz12_0
      try clear hfz12_1
      try clear hx609_0
      try clear hx609_1
      try clear hx609_2
      try clear p2
      try clear p609
      try clear q609
      obtain ⟨x10_2, x12_2, x13_2, x15_2, rfl, rfl, rfl, rfl, HA, HK2, HO_9, HO_606000, BK605, HB⟩ := hrel
      cases gk with
      | zero => exact absurd HA.out (by simp [dialtonelaw34_RecoveryLoads.l1])
      | succ k2 =>
       have H := HA.out
       clear HA
       simp only [dialtonelaw34_RecoveryLoads.l1] at H
       by_cases c21 : x15_2 < 80
       ·
        rw [if_pos c21] at H
        have c21b0 : decide (x15_2 < 80) = true := decide_eq_true c21
        clear c21
        replace H := Option.bind_eq_some_iff.mp H
        obtain ⟨⟨t610, t611⟩, A220, H⟩ := H
        replace H : ((recovery_Capacity.f k2 t601 t604 x15_2).bind fun bt612 => (dialtonelaw34_RecoveryLoads.l2 k2 t606 x10_2 x11_1 x12_2 x13_2 x15_2 t610 t611 bt612.1 bt612.2 0 0 t601 t604)) = some r := H
        have A22 := Aside0.mk A220
        clear A220
        replace H := Option.bind_eq_some_iff.mp H
        obtain ⟨⟨t612, t613⟩, A230, H⟩ := H
        replace H : (dialtonelaw34_RecoveryLoads.l2 k2 t606 x10_2 x11_1 x12_2 x13_2 x15_2 t610 t611 t612 t613 0 0 t601 t604) = some r := H
        have A23 := Aside0.mk A230
        clear A230
        have H' := Aside0.mk H
        clear H
        have hcz24_0 : wr.cell? ⟨gb605, 0, none⟩ = some (.slice Ao11 t601.length co11) := (blk_cell BK605.out 0).trans rfl
        have hcz24_1 : wr.cell? ⟨gb605, 1, none⟩ = some (.int .i64 t604) := (blk_cell BK605.out 1).trans rfl
        have hfz24_0 := blk_frozen BK605.out 0
        have hfz24_1 := blk_frozen BK605.out 1
        go_wp2_with (first | (go_at_call 32; (with_reducible refine (recovery_Load.calls _ _ t601 t604 _ _ t606 x15_2 t610 t611 _ ?side1 ?side2 ?side3 ?side4 A22.out).mono ?_); (case side1 => repeat (first | exact (Kd.R_reads' HO_606000.out).2.2 | (with_reducible refine Kd.C_alloc ?_ _) | (with_reducible refine Kd.C_drewN ?_ _) | (with_reducible refine Kd.C_drew ?_))); (case side2 => exact (Kd.R_reads' HO_606000.out).2.1); (case side3 => repeat (first | exact (Kd.R_reads' HO_9.out).2.2 | (with_reducible refine Kd.C_alloc ?_ _) | (with_reducible refine Kd.C_drewN ?_ _) | (with_reducible refine Kd.C_drew ?_))); (case side4 => exact (Kd.R_reads' HO_9.out).2.1); rintro e w25 ⟨rfl, hb⟩; have n0_ := Aside0.mk (Kd.R_below (by (with_reducible repeat (first | apply Kd.R_alloc | apply Kd.R_drewN | apply Kd.R_drew)); exact HO_9.out) hb); have n1_ := Aside0.mk (Kd.R_below (by (with_reducible repeat (first | apply Kd.R_alloc | apply Kd.R_drewN | apply Kd.R_drew)); exact HO_606000.out) hb); have n2_ := Aside0.mk (blk_below (g := gb605) (o := .cells #[.slice Ao11 t601.length co11, .int .i64 t604] 26 (0, 0)) (by (with_reducible repeat (first | refine blk_drewN ?_ _ | refine blk_drew ?_ | refine blk_alloc ?_ _)); exact BK605.out) hb); have n3_ := Aside0.mk (below_step (by repeat (first | (with_reducible first | exact HB.out | apply below_alloc | apply pw_below_drewN | apply below_drew1 | refine below_set ?_ GE605.out) | exact HB.out)) hb); clear HO_9; clear HO_606000; clear BK605; clear HB; have HO_9 := n0_; have HO_606000 := n1_; have BK605 := n2_; have HB := n3_; clear n0_ n1_ n2_ n3_; (try clear hb); (try clear hb2); (try clear hk); (try clear hi); have hcz26_0 : w25.cell? ⟨gb605, 0, none⟩ = some (.slice Ao11 t601.length co11) := (blk_cell BK605.out 0).trans rfl; have hcz26_1 : w25.cell? ⟨gb605, 1, none⟩ = some (.int .i64 t604) := (blk_cell BK605.out 1).trans rfl; have hfz26_0 := blk_frozen BK605.out 0; have hfz26_1 := blk_frozen BK605.out 1) | (go_at_call 34; (with_reducible refine (recovery_Capacity.calls k2 _ _ t601 t604 x15_2 t612 t613 _ ?side1 ?side2 A23.out).mono ?_); (case side1 => repeat (first | exact (Kd.R_reads' HO_606000.out).2.2 | (with_reducible refine Kd.C_alloc ?_ _) | (with_reducible refine Kd.C_drewN ?_ _) | (with_reducible refine Kd.C_drew ?_))); (case side2 => exact (Kd.R_reads' HO_606000.out).2.1); rintro e w27 ⟨rfl, hb⟩; have n0_ := Aside0.mk (Kd.R_below (by (with_reducible repeat (first | apply Kd.R_alloc | apply Kd.R_drewN | apply Kd.R_drew)); exact HO_9.out) hb); have n1_ := Aside0.mk (Kd.R_below (by (with_reducible repeat (first | apply Kd.R_alloc | apply Kd.R_drewN | apply Kd.R_drew)); exact HO_606000.out) hb); have n2_ := Aside0.mk (blk_below (g := gb605) (o := .cells #[.slice Ao11 t601.length co11, .int .i64 t604] 26 (0, 0)) (by (with_reducible repeat (first | refine blk_drewN ?_ _ | refine blk_drew ?_ | refine blk_alloc ?_ _)); exact BK605.out) hb); have n3_ := Aside0.mk (below_step (by repeat (first | (with_reducible first | exact HB.out | apply below_alloc | apply pw_below_drewN | apply below_drew1 | refine below_set ?_ GE605.out) | exact HB.out)) hb); clear HO_9; clear HO_606000; clear BK605; clear HB; have HO_9 := n0_; have HO_606000 := n1_; have BK605 := n2_; have HB := n3_; clear n0_ n1_ n2_ n3_; (try clear hb); (try clear hb2); (try clear hk); (try clear hi)))
        repeat (go_quiet (first | (go_at_call 32; (with_reducible refine (recovery_Load.calls _ _ t601 t604 _ _ t606 x15_2 t610 t611 _ ?side1 ?side2 ?side3 ?side4 A22.out).mono ?_); (case side1 => repeat (first | exact (Kd.R_reads' HO_606000.out).2.2 | (with_reducible refine Kd.C_alloc ?_ _) | (with_reducible refine Kd.C_drewN ?_ _) | (with_reducible refine Kd.C_drew ?_))); (case side2 => exact (Kd.R_reads' HO_606000.out).2.1); (case side3 => repeat (first | exact (Kd.R_reads' HO_9.out).2.2 | (with_reducible refine Kd.C_alloc ?_ _) | (with_reducible refine Kd.C_drewN ?_ _) | (with_reducible refine Kd.C_drew ?_))); (case side4 => exact (Kd.R_reads' HO_9.out).2.1); rintro e w25 ⟨rfl, hb⟩; have n0_ := Aside0.mk (Kd.R_below (by (with_reducible repeat (first | apply Kd.R_alloc | apply Kd.R_drewN | apply Kd.R_drew)); exact HO_9.out) hb); have n1_ := Aside0.mk (Kd.R_below (by (with_reducible repeat (first | apply Kd.R_alloc | apply Kd.R_drewN | apply Kd.R_drew)); exact HO_606000.out) hb); have n2_ := Aside0.mk (blk_below (g := gb605) (o := .cells #[.slice Ao11 t601.length co11, .int .i64 t604] 26 (0, 0)) (by (with_reducible repeat (first | refine blk_drewN ?_ _ | refine blk_drew ?_ | refine blk_alloc ?_ _)); exact BK605.out) hb); have n3_ := Aside0.mk (below_step (by repeat (first | (with_reducible first | exact HB.out | apply below_alloc | apply pw_below_drewN | apply below_drew1 | refine below_set ?_ GE605.out) | exact HB.out)) hb); clear HO_9; clear HO_606000; clear BK605; clear HB; have HO_9 := n0_; have HO_606000 := n1_; have BK605 := n2_; have HB := n3_; clear n0_ n1_ n2_ n3_; (try clear hb); (try clear hb2); (try clear hk); (try clear hi); have hcz26_0 : w25.cell? ⟨gb605, 0, none⟩ = some (.slice Ao11 t601.length co11) := (blk_cell BK605.out 0).trans rfl; have hcz26_1 : w25.cell? ⟨gb605, 1, none⟩ = some (.int .i64 t604) := (blk_cell BK605.out 1).trans rfl; have hfz26_0 := blk_frozen BK605.out 0; have hfz26_1 := blk_frozen BK605.out 1) | (go_at_call 34; (with_reducible refine (recovery_Capacity.calls k2 _ _ t601 t604 x15_2 t612 t613 _ ?side1 ?side2 A23.out).mono ?_); (case side1 => repeat (first | exact (Kd.R_reads' HO_606000.out).2.2 | (with_reducible refine Kd.C_alloc ?_ _) | (with_reducible refine Kd.C_drewN ?_ _) | (with_reducible refine Kd.C_drew ?_))); (case side2 => exact (Kd.R_reads' HO_606000.out).2.1); rintro e w27 ⟨rfl, hb⟩; have n0_ := Aside0.mk (Kd.R_below (by (with_reducible repeat (first | apply Kd.R_alloc | apply Kd.R_drewN | apply Kd.R_drew)); exact HO_9.out) hb); have n1_ := Aside0.mk (Kd.R_below (by (with_reducible repeat (first | apply Kd.R_alloc | apply Kd.R_drewN | apply Kd.R_drew)); exact HO_606000.out) hb); have n2_ := Aside0.mk (blk_below (g := gb605) (o := .cells #[.slice Ao11 t601.length co11, .int .i64 t604] 26 (0, 0)) (by (with_reducible repeat (first | refine blk_drewN ?_ _ | refine blk_drew ?_ | refine blk_alloc ?_ _)); exact BK605.out) hb); have n3_ := Aside0.mk (below_step (by repeat (first | (with_reducible first | exact HB.out | apply below_alloc | apply pw_below_drewN | apply below_drew1 | refine below_set ?_ GE605.out) | exact HB.out)) hb); clear HO_9; clear HO_606000; clear BK605; clear HB; have HO_9 := n0_; have HO_606000 := n1_; have BK605 := n2_; have HB := n3_; clear n0_ n1_ n2_ n3_; (try clear hb); (try clear hb2); (try clear hk); (try clear hi))); try go_wp2_with (first | (go_at_call 32; (with_reducible refine (recovery_Load.calls _ _ t601 t604 _ _ t606 x15_2 t610 t611 _ ?side1 ?side2 ?side3 ?side4 A22.out).mono ?_); (case side1 => repeat (first | exact (Kd.R_reads' HO_606000.out).2.2 | (with_reducible refine Kd.C_alloc ?_ _) | (with_reducible refine Kd.C_drewN ?_ _) | (with_reducible refine Kd.C_drew ?_))); (case side2 => exact (Kd.R_reads' HO_606000.out).2.1); (case side3 => repeat (first | exact (Kd.R_reads' HO_9.out).2.2 | (with_reducible refine Kd.C_alloc ?_ _) | (with_reducible refine Kd.C_drewN ?_ _) | (with_reducible refine Kd.C_drew ?_))); (case side4 => exact (Kd.R_reads' HO_9.out).2.1); rintro e w25 ⟨rfl, hb⟩; have n0_ := Aside0.mk (Kd.R_below (by (with_reducible repeat (first | apply Kd.R_alloc | apply Kd.R_drewN | apply Kd.R_drew)); exact HO_9.out) hb); have n1_ := Aside0.mk (Kd.R_below (by (with_reducible repeat (first | apply Kd.R_alloc | apply Kd.R_drewN | apply Kd.R_drew)); exact HO_606000.out) hb); have n2_ := Aside0.mk (blk_below (g := gb605) (o := .cells #[.slice Ao11 t601.length co11, .int .i64 t604] 26 (0, 0)) (by (with_reducible repeat (first | refine blk_drewN ?_ _ | refine blk_drew ?_ | refine blk_alloc ?_ _)); exact BK605.out) hb); have n3_ := Aside0.mk (below_step (by repeat (first | (with_reducible first | exact HB.out | apply below_alloc | apply pw_below_drewN | apply below_drew1 | refine below_set ?_ GE605.out) | exact HB.out)) hb); clear HO_9; clear HO_606000; clear BK605; clear HB; have HO_9 := n0_; have HO_606000 := n1_; have BK605 := n2_; have HB := n3_; clear n0_ n1_ n2_ n3_; (try clear hb); (try clear hb2); (try clear hk); (try clear hi); have hcz26_0 : w25.cell? ⟨gb605, 0, none⟩ = some (.slice Ao11 t601.length co11) := (blk_cell BK605.out 0).trans rfl; have hcz26_1 : w25.cell? ⟨gb605, 1, none⟩ = some (.int .i64 t604) := (blk_cell BK605.out 1).trans rfl; have hfz26_0 := blk_frozen BK605.out 0; have hfz26_1 := blk_frozen BK605.out 1) | (go_at_call 34; (with_reducible refine (recovery_Capacity.calls k2 _ _ t601 t604 x15_2 t612 t613 _ ?side1 ?side2 A23.out).mono ?_); (case side1 => repeat (first | exact (Kd.R_reads' HO_606000.out).2.2 | (with_reducible refine Kd.C_alloc ?_ _) | (with_reducible refine Kd.C_drewN ?_ _) | (with_reducible refine Kd.C_drew ?_))); (case side2 => exact (Kd.R_reads' HO_606000.out).2.1); rintro e w27 ⟨rfl, hb⟩; have n0_ := Aside0.mk (Kd.R_below (by (with_reducible repeat (first | apply Kd.R_alloc | apply Kd.R_drewN | apply Kd.R_drew)); exact HO_9.out) hb); have n1_ := Aside0.mk (Kd.R_below (by (with_reducible repeat (first | apply Kd.R_alloc | apply Kd.R_drewN | apply Kd.R_drew)); exact HO_606000.out) hb); have n2_ := Aside0.mk (blk_below (g := gb605) (o := .cells #[.slice Ao11 t601.length co11, .int .i64 t604] 26 (0, 0)) (by (with_reducible repeat (first | refine blk_drewN ?_ _ | refine blk_drew ?_ | refine blk_alloc ?_ _)); exact BK605.out) hb); have n3_ := Aside0.mk (below_step (by repeat (first | (with_reducible first | exact HB.out | apply below_alloc | apply pw_below_drewN | apply below_drew1 | refine below_set ?_ GE605.out) | exact HB.out)) hb); clear HO_9; clear HO_606000; clear BK605; clear HB; have HO_9 := n0_; have HO_606000 := n1_; have BK605 := n2_; have HB := n3_; clear n0_ n1_ n2_ n3_; (try clear hb); (try clear hb2); (try clear hk); (try clear hi))))
        go_loopg [20, 21] k2 (fun kq v20 v21 w' => ∃ (x20_3 : Int) (x21_3 : Int), v20 = .int .i64 x20_3 ∧ v21 = .int .i64 x21_3 ∧ Aside0 (dialtonelaw34_RecoveryLoads.l2 kq t606 x10_2 x11_1 x12_2 x13_2 x15_2 t610 t611 t612 t613 x20_3 x21_3 t601 t604 = some r) ∧ Aside0 (kq ≤ k2) ∧ Aside0 (Kd.R k60 60 w' w.heap.size (fun _ => True) (.slice Ao20 t606.length co20) t606) ∧ Aside0 (Kd.R k67 67 w' w.heap.size (fun _ => True) (.slice Ao11 t601.length co11) t601) ∧ Aside0 (w'.heap[gb605]? = some (.cells #[(.slice Ao11 t601.length co11), .int .i64 t604] 26 (0, 0))) ∧ Aside0 (Below w.heap.size w w'))
        case atStart => exact ⟨(0), (0), (by first | rfl | (simp; done) | (simp [*]; done)), (by first | rfl | (simp; done) | (simp [*]; done)), H', ⟨Nat.le_refl _⟩, ⟨by (with_reducible repeat (first | apply Kd.R_alloc | apply Kd.R_drewN | apply Kd.R_drew)); exact HO_9.out⟩, ⟨by (with_reducible repeat (first | apply Kd.R_alloc | apply Kd.R_drewN | apply Kd.R_drew)); exact HO_606000.out⟩, ⟨by (with_reducible repeat (first | refine blk_drewN ?_ _ | refine blk_drew ?_ | refine blk_alloc ?_ _)); exact BK605.out⟩, ⟨by repeat (first | (with_reducible first | exact HB.out | apply below_alloc | apply pw_below_drewN | apply below_drew1 | refine below_set ?_ GE605.out) | exact HB.out)⟩⟩
        case round =>
         clear H'
         try clear c1
         try clear q1
         try clear c2
         try clear p2
         try clear c5
         try clear p6
         try clear q6
         try clear hx6
         try clear c9
         try clear c14
         try clear c14b0
         try clear c15
         try clear c15b0
         try clear q16
         try clear c17
         try clear c21
         try clear c21b0
         try clear hcz12_0
         try clear hcz12_1
         try clear hcz24_0
         try clear hcz24_1
         try clear hcz26_0
         try clear hcz26_1
         try clear hfz12_0
         try clear hfz12_1
         try clear hfz24_0
         try clear hfz24_1
         try clear hfz26_0
         try clear hfz26_1
         try clear hx609_0
         try clear hx609_1
         try clear hx609_2
         try clear p2
         try clear p6
         try clear p609
         try clear q1
         try clear q16
         try clear q6
         try clear q609
         obtain ⟨x20_3, x21_3, rfl, rfl, HA, HK3, HO_9, HO_606000, BK605, HB⟩ := hrel
         cases gk with
         | zero => exact absurd HA.out (by simp [dialtonelaw34_RecoveryLoads.l2])
         | succ k3 =>
          have H := HA.out
          clear HA
          simp only [dialtonelaw34_RecoveryLoads.l2] at H
          by_cases c28 : x21_3 < (t606.length : Int)
          ·
           rw [if_pos c28] at H
           have c28b0 : decide (x21_3 < (t606.length : Int)) = true := decide_eq_true c28
           clear c28
           have HC29 := Aside0.mk H
           clear H
           go_upto_region 24 with (fail)
           repeat (go_quiet (fail); go_upto_region 24 with (fail))
           go_cut [83] (fun v83 wc => ∃ (kq : Nat) (x83_28 : Bool), v83 = .bool x83_28 ∧ Aside0 (dialtonelaw34_RecoveryLoads.j3 kq t606 x10_2 x11_1 x12_2 x13_2 x15_2 t610 t611 t612 t613 x20_3 x21_3 x83_28 t601 t604 = some r) ∧ Aside0 (kq ≤ k3) ∧ Aside0 (Kd.R k60 60 wc w.heap.size (fun _ => True) (.slice Ao20 t606.length co20) t606) ∧ Aside0 (Kd.R k67 67 wc w.heap.size (fun _ => True) (.slice Ao11 t601.length co11) t601) ∧ Aside0 (wc.heap[gb605]? = some (.cells #[(.slice Ao11 t601.length co11), .int .i64 t604] 26 (0, 0))) ∧ Aside0 (Below w.heap.size w wc))
           case first =>
            have H := HC29.out
            clear HC29
            by_cases c30 : 0 ≤ x21_3
            ·
             rw [if_pos c30] at H
             have c30b0 : decide (0 ≤ x21_3) = true := decide_eq_true c30
             clear c30
             (first | rw [c30b0] | (simp only [i64_w, i32_w]; rw [c30b0]) | skip)
             by_cases c31 : ((rd_T60 t606 x21_3).f1) = x15_2
             ·
              rw [if_pos c31] at H
              have c31b0 : (((rd_T60 t606 x21_3).f1) == x15_2) = true := beq_iff_eq.mpr c31
              have c31b1 : (((rd_T60 t606 x21_3).f1) != x15_2) = false := bne_eq_false_iff_eq.mpr c31
              clear c31
              have H' := Aside0.mk H
              clear H
              have p614 : 0 ≤ (x21_3 : Int) := of_decide_eq_true (by first | (with_reducible assumption) | assumption)
              have q614 : x21_3 < (t606.length : Int) := of_decide_eq_true (by first | (with_reducible assumption) | assumption)
              obtain ⟨ad614, e614, hx614_0, hx614_1, hx614_2⟩ := at_T60 (Kd.R_reads' HO_9.out).2.2 x21_3 p614 q614
              cases e614
              replace p614 := eq_true p614
              replace q614 := eq_true q614
              have p615 : 0 ≤ (x21_3 : Int) := of_decide_eq_true (by first | (with_reducible assumption) | assumption)
              have q615 : x21_3 < (t606.length : Int) := of_decide_eq_true (by first | (with_reducible assumption) | assumption)
              obtain ⟨ad615, e615, hx615_0, hx615_1, hx615_2⟩ := at_T60 (Kd.R_reads' HO_9.out).2.2 x21_3 p615 q615
              obtain rfl : ad614 = ad615 := (by injection e615)
              replace p615 := eq_true p615
              replace q615 := eq_true q615
              go_wp2
              repeat (go_quiet (fail); try go_wp2)
              go_meet
              case rel => exact ⟨_, (!((rd_T60 t606 x21_3).f2)), (by first | rfl | (simp; done) | (simp [*]; done)), H', ⟨by have := HK1.out; have := HK2.out; have := HK3.out; first | omega | exact Nat.le_refl _⟩, ⟨by (with_reducible repeat (first | apply Kd.R_alloc | apply Kd.R_drewN | apply Kd.R_drew)); exact HO_9.out⟩, ⟨by (with_reducible repeat (first | apply Kd.R_alloc | apply Kd.R_drewN | apply Kd.R_drew)); exact HO_606000.out⟩, ⟨by (with_reducible repeat (first | refine blk_drewN ?_ _ | refine blk_drew ?_ | refine blk_alloc ?_ _)); exact BK605.out⟩, ⟨by repeat (first | (with_reducible first | exact HB.out | apply below_alloc | apply pw_below_drewN | apply below_drew1 | refine below_set ?_ GE605.out) | exact HB.out)⟩⟩
             ·
              rw [if_neg c31] at H
              have c31b0 : (((rd_T60 t606 x21_3).f1) == x15_2) = false := beq_eq_false_iff_ne.mpr c31
              have c31b1 : (((rd_T60 t606 x21_3).f1) != x15_2) = true := bne_iff_ne.mpr c31
              have H' := Aside0.mk H
              clear H
              have p614 : 0 ≤ (x21_3 : Int) := of_decide_eq_true (by first | (with_reducible assumption) | assumption)
              have q614 : x21_3 < (t606.length : Int) := of_decide_eq_true (by first | (with_reducible assumption) | assumption)
              obtain ⟨ad614, e614, hx614_0, hx614_1, hx614_2⟩ := at_T60 (Kd.R_reads' HO_9.out).2.2 x21_3 p614 q614
              cases e614
              replace p614 := eq_true p614
              replace q614 := eq_true q614
              go_wp2
              repeat (go_quiet (fail); try go_wp2)
              go_meet
              case rel => exact ⟨_, (false), (by first | rfl | (simp; done) | (simp [*]; done)), H', ⟨by have := HK1.out; have := HK2.out; have := HK3.out; first | omega | exact Nat.le_refl _⟩, ⟨by (with_reducible repeat (first | apply Kd.R_alloc | apply Kd.R_drewN | apply Kd.R_drew)); exact HO_9.out⟩, ⟨by (with_reducible repeat (first | apply Kd.R_alloc | apply Kd.R_drewN | apply Kd.R_drew)); exact HO_606000.out⟩, ⟨by (with_reducible repeat (first | refine blk_drewN ?_ _ | refine blk_drew ?_ | refine blk_alloc ?_ _)); exact BK605.out⟩, ⟨by repeat (first | (with_reducible first | exact HB.out | apply below_alloc | apply pw_below_drewN | apply below_drew1 | refine below_set ?_ GE605.out) | exact HB.out)⟩⟩
            ·
             rw [if_neg c30] at H
             exact absurd H (by simp)
           case rest =>
            clear HC29
            try clear c1
            try clear q1
            try clear c2
            try clear p2
            try clear c3
            try clear c5
            try clear p6
            try clear q6
            try clear hx6
            try clear c9
            try clear c14
            try clear c14b0
            try clear c15
            try clear c15b0
            try clear q16
            try clear c17
            try clear c21
            try clear c21b0
            try clear c28
            try clear c28b0
            try clear c30
            try clear c30b0
            try clear c31
            try clear c31b0
            try clear c31b1
            try clear hcz12_0
            try clear hcz12_1
            try clear hcz24_0
            try clear hcz24_1
            try clear hcz26_0
            try clear hcz26_1
            try clear hfz12_0
            try clear hfz12_1
            try clear hfz24_0
            try clear hfz24_1
            try clear hfz26_0
            try clear hfz26_1
            try clear hx609_0
            try clear hx609_1
            try clear hx609_2
            try clear hx614_0
            try clear hx614_1
            try clear hx614_2
            try clear hx615_0
            try clear hx615_1
            try clear hx615_2
            try clear p2
            try clear p6
            try clear p609
            try clear p614
            try clear p615
            try clear q1
            try clear q16
            try clear q6
            try clear q609
            try clear q614
            try clear q615
            obtain ⟨kq, x83_28, rfl, HA, HJ28, HO_9, HO_606000, BK605, HB⟩ := hcut
            cases kq with
            | zero => exact absurd HA.out (by simp [dialtonelaw34_RecoveryLoads.j3])
            | succ kj28 =>
             have H := HA.out
             clear HA
             simp only [dialtonelaw34_RecoveryLoads.j3] at H
             by_cases c32 : x83_28 = true
             ·
              subst c32
              have H1 : (dialtonelaw34_RecoveryLoads.l2 kj28 t606 x10_2 x11_1 x12_2 x13_2 x15_2 t610 t611 t612 t613 (wrap64 (x20_3 + 1)) (wrap64 (x21_3 + 1)) t601 t604) = some r := by rw [if_pos rfl] at H; exact H
              clear H
              have H := H1
              clear H1
              have H' := Aside0.mk H
              clear H
              go_wp2
              repeat (go_quiet (fail); try go_wp2)
              go_roundg kj28
              case measure => have := HK1.out; have := HK2.out; have := HK3.out; have := HJ28.out; omega
              case rel => exact ⟨(wrap64 (x20_3 + 1)), (wrap64 (x21_3 + 1)), (by first | rfl | (simp; done) | (simp [*]; done)), (by first | rfl | (simp; done) | (simp [*]; done)), H', ⟨by have := HK1.out; have := HK2.out; have := HK3.out; have := HJ28.out; omega⟩, ⟨by (with_reducible repeat (first | apply Kd.R_alloc | apply Kd.R_drewN | apply Kd.R_drew)); exact HO_9.out⟩, ⟨by (with_reducible repeat (first | apply Kd.R_alloc | apply Kd.R_drewN | apply Kd.R_drew)); exact HO_606000.out⟩, ⟨by (with_reducible repeat (first | refine blk_drewN ?_ _ | refine blk_drew ?_ | refine blk_alloc ?_ _)); exact BK605.out⟩, ⟨by repeat (first | (with_reducible first | exact HB.out | apply below_alloc | apply pw_below_drewN | apply below_drew1 | refine below_set ?_ GE605.out) | exact HB.out)⟩⟩
             ·
              replace c32 := Bool.eq_false_iff.mpr c32
              subst c32
              have H1 : (dialtonelaw34_RecoveryLoads.l2 kj28 t606 x10_2 x11_1 x12_2 x13_2 x15_2 t610 t611 t612 t613 x20_3 (wrap64 (x21_3 + 1)) t601 t604) = some r := by rw [if_neg (show ¬ (false = true) by decide)] at H; exact H
              clear H
              have H := H1
              clear H1
              have H' := Aside0.mk H
              clear H
              go_wp2
              repeat (go_quiet (fail); try go_wp2)
              go_roundg kj28
              case measure => have := HK1.out; have := HK2.out; have := HK3.out; have := HJ28.out; omega
              case rel => exact ⟨(x20_3), (wrap64 (x21_3 + 1)), (by first | rfl | (simp; done) | (simp [*]; done)), (by first | rfl | (simp; done) | (simp [*]; done)), H', ⟨by have := HK1.out; have := HK2.out; have := HK3.out; have := HJ28.out; omega⟩, ⟨by (with_reducible repeat (first | apply Kd.R_alloc | apply Kd.R_drewN | apply Kd.R_drew)); exact HO_9.out⟩, ⟨by (with_reducible repeat (first | apply Kd.R_alloc | apply Kd.R_drewN | apply Kd.R_drew)); exact HO_606000.out⟩, ⟨by (with_reducible repeat (first | refine blk_drewN ?_ _ | refine blk_drew ?_ | refine blk_alloc ?_ _)); exact BK605.out⟩, ⟨by repeat (first | (with_reducible first | exact HB.out | apply below_alloc | apply pw_below_drewN | apply below_drew1 | refine below_set ?_ GE605.out) | exact HB.out)⟩⟩
          ·
           rw [if_neg c28] at H
           have c28b0 : decide (x21_3 < (t606.length : Int)) = false := decide_eq_false c28
           clear c28
           have HC33 := Aside0.mk H
           clear H
           go_upto_region 26 with (fail)
           repeat (go_quiet (fail); go_upto_region 26 with (fail))
           go_cut [103] (fun v103 wc => ∃ (kq : Nat) (x103_32 : Bool), v103 = .bool x103_32 ∧ Aside0 (dialtonelaw34_RecoveryLoads.j4 kq t606 x10_2 x11_1 x12_2 x13_2 x15_2 t610 x20_3 x103_32 t601 t604 = some r) ∧ Aside0 (kq ≤ k3) ∧ Aside0 (Kd.R k60 60 wc w.heap.size (fun _ => True) (.slice Ao20 t606.length co20) t606) ∧ Aside0 (Kd.R k67 67 wc w.heap.size (fun _ => True) (.slice Ao11 t601.length co11) t601) ∧ Aside0 (wc.heap[gb605]? = some (.cells #[(.slice Ao11 t601.length co11), .int .i64 t604] 26 (0, 0))) ∧ Aside0 (Below w.heap.size w wc))
           case first =>
            have H := HC33.out
            clear HC33
            by_cases c34 : t611 = 0
            ·
             rw [if_pos c34] at H
             have c34b0 : (t611 == 0) = true := beq_iff_eq.mpr c34
             have c34b1 : (t611 != 0) = false := bne_eq_false_iff_eq.mpr c34
             clear c34
             (first | rw [c34b0] | (simp only [i64_w, i32_w]; rw [c34b0]) | skip)
             by_cases c35 : t613 = 0
             ·
              rw [if_pos c35] at H
              have c35b0 : (t613 == 0) = true := beq_iff_eq.mpr c35
              have c35b1 : (t613 != 0) = false := bne_eq_false_iff_eq.mpr c35
              clear c35
              by_cases c36 : t610 < x20_3
              ·
               rw [if_pos c36] at H
               have c36b0 : decide (t610 < x20_3) = true := decide_eq_true c36
               clear c36
               have H' := Aside0.mk H
               clear H
               go_wp2
               repeat (go_quiet (fail); try go_wp2)
               go_meet
               case rel => exact ⟨_, (true), (by first | rfl | (simp; done) | (simp [*]; done)), H', ⟨by have := HK1.out; have := HK2.out; have := HK3.out; first | omega | exact Nat.le_refl _⟩, ⟨by (with_reducible repeat (first | apply Kd.R_alloc | apply Kd.R_drewN | apply Kd.R_drew)); exact HO_9.out⟩, ⟨by (with_reducible repeat (first | apply Kd.R_alloc | apply Kd.R_drewN | apply Kd.R_drew)); exact HO_606000.out⟩, ⟨by (with_reducible repeat (first | refine blk_drewN ?_ _ | refine blk_drew ?_ | refine blk_alloc ?_ _)); exact BK605.out⟩, ⟨by repeat (first | (with_reducible first | exact HB.out | apply below_alloc | apply pw_below_drewN | apply below_drew1 | refine below_set ?_ GE605.out) | exact HB.out)⟩⟩
              ·
               rw [if_neg c36] at H
               have c36b0 : decide (t610 < x20_3) = false := decide_eq_false c36
               clear c36
               have H' := Aside0.mk H
               clear H
               go_wp2
               repeat (go_quiet (fail); try go_wp2)
               go_meet
               case rel => exact ⟨_, (decide (t610 > (wrap64 (x20_3 + t612)))), (by first | rfl | (simp; done) | (simp [*]; done)), H', ⟨by have := HK1.out; have := HK2.out; have := HK3.out; first | omega | exact Nat.le_refl _⟩, ⟨by (with_reducible repeat (first | apply Kd.R_alloc | apply Kd.R_drewN | apply Kd.R_drew)); exact HO_9.out⟩, ⟨by (with_reducible repeat (first | apply Kd.R_alloc | apply Kd.R_drewN | apply Kd.R_drew)); exact HO_606000.out⟩, ⟨by (with_reducible repeat (first | refine blk_drewN ?_ _ | refine blk_drew ?_ | refine blk_alloc ?_ _)); exact BK605.out⟩, ⟨by repeat (first | (with_reducible first | exact HB.out | apply below_alloc | apply pw_below_drewN | apply below_drew1 | refine below_set ?_ GE605.out) | exact HB.out)⟩⟩
             ·
              rw [if_neg c35] at H
              have c35b0 : (t613 == 0) = false := beq_eq_false_iff_ne.mpr c35
              have c35b1 : (t613 != 0) = true := bne_iff_ne.mpr c35
              have H' := Aside0.mk H
              clear H
              go_wp2
              repeat (go_quiet (fail); try go_wp2)
              go_meet
              case rel => exact ⟨_, (true), (by first | rfl | (simp; done) | (simp [*]; done)), H', ⟨by have := HK1.out; have := HK2.out; have := HK3.out; first | omega | exact Nat.le_refl _⟩, ⟨by (with_reducible repeat (first | apply Kd.R_alloc | apply Kd.R_drewN | apply Kd.R_drew)); exact HO_9.out⟩, ⟨by (with_reducible repeat (first | apply Kd.R_alloc | apply Kd.R_drewN | apply Kd.R_drew)); exact HO_606000.out⟩, ⟨by (with_reducible repeat (first | refine blk_drewN ?_ _ | refine blk_drew ?_ | refine blk_alloc ?_ _)); exact BK605.out⟩, ⟨by repeat (first | (with_reducible first | exact HB.out | apply below_alloc | apply pw_below_drewN | apply below_drew1 | refine below_set ?_ GE605.out) | exact HB.out)⟩⟩
            ·
             rw [if_neg c34] at H
             have c34b0 : (t611 == 0) = false := beq_eq_false_iff_ne.mpr c34
             have c34b1 : (t611 != 0) = true := bne_iff_ne.mpr c34
             (first | rw [c34b0] | (simp only [i64_w, i32_w]; rw [c34b0]) | skip)
             have H' := Aside0.mk H
             clear H
             go_wp2
             repeat (go_quiet (fail); try go_wp2)
             go_meet
             case rel => exact ⟨_, (true), (by first | rfl | (simp; done) | (simp [*]; done)), H', ⟨by have := HK1.out; have := HK2.out; have := HK3.out; first | omega | exact Nat.le_refl _⟩, ⟨by (with_reducible repeat (first | apply Kd.R_alloc | apply Kd.R_drewN | apply Kd.R_drew)); exact HO_9.out⟩, ⟨by (with_reducible repeat (first | apply Kd.R_alloc | apply Kd.R_drewN | apply Kd.R_drew)); exact HO_606000.out⟩, ⟨by (with_reducible repeat (first | refine blk_drewN ?_ _ | refine blk_drew ?_ | refine blk_alloc ?_ _)); exact BK605.out⟩, ⟨by repeat (first | (with_reducible first | exact HB.out | apply below_alloc | apply pw_below_drewN | apply below_drew1 | refine below_set ?_ GE605.out) | exact HB.out)⟩⟩
           case rest =>
            clear HC33
            try clear c1
            try clear q1
            try clear c2
            try clear p2
            try clear c3
            try clear c5
            try clear p6
            try clear q6
            try clear hx6
            try clear c9
            try clear c14
            try clear c14b0
            try clear c15
            try clear c15b0
            try clear q16
            try clear c17
            try clear c21
            try clear c21b0
            try clear c28
            try clear c28b0
            try clear c30
            try clear c30b0
            try clear c31
            try clear c31b0
            try clear c31b1
            try clear c32
            try clear c34
            try clear c34b0
            try clear c34b1
            try clear c35
            try clear c35b0
            try clear c35b1
            try clear c36
            try clear c36b0
            try clear hcz12_0
            try clear hcz12_1
            try clear hcz24_0
            try clear hcz24_1
            try clear hcz26_0
            try clear hcz26_1
            try clear hfz12_0
            try clear hfz12_1
            try clear hfz24_0
            try clear hfz24_1
            try clear hfz26_0
            try clear hfz26_1
            try clear hx609_0
            try clear hx609_1
            try clear hx609_2
            try clear hx614_0
            try clear hx614_1
            try clear hx614_2
            try clear hx615_0
            try clear hx615_1
            try clear hx615_2
            try clear p2
            try clear p6
            try clear p609
            try clear p614
            try clear p615
            try clear q1
            try clear q16
            try clear q6
            try clear q609
            try clear q614
            try clear q615
            obtain ⟨kq, x103_32, rfl, HA, HJ32, HO_9, HO_606000, BK605, HB⟩ := hcut
            cases kq with
            | zero => exact absurd HA.out (by simp [dialtonelaw34_RecoveryLoads.j4])
            | succ kj32 =>
             have H := HA.out
             clear HA
             simp only [dialtonelaw34_RecoveryLoads.j4] at H
             by_cases c37 : x103_32 = true
             ·
              subst c37
              have H1 : (none) = some r := by rw [if_pos rfl] at H; exact H
              clear H
              have H := H1
              clear H1
              exact absurd H (by simp)
             ·
              replace c37 := Bool.eq_false_iff.mpr c37
              subst c37
              have H1 : (if t610 > t604 then (dialtonelaw34_RecoveryLoads.j5 kj32 t606 (wrap64 (x10_2 + t610)) x11_1 (mx x12_2 x20_3) x13_2 x15_2 (decide (x13_2 < 0)) t601 t604) else (dialtonelaw34_RecoveryLoads.j5 kj32 t606 (wrap64 (x10_2 + t610)) x11_1 (mx x12_2 x20_3) x13_2 x15_2 false t601 t604)) = some r := by rw [if_neg (show ¬ (false = true) by decide)] at H; exact H
              clear H
              have H := H1
              clear H1
              obtain ⟨ji38, hji38⟩ : ∃ j_ : Int, (mx x12_2 x20_3) = j_ := ⟨_, rfl⟩
              replace H : (if t610 > t604 then (dialtonelaw34_RecoveryLoads.j5 kj32 t606 (wrap64 (x10_2 + t610)) x11_1 ji38 x13_2 x15_2 (decide (x13_2 < 0)) t601 t604) else (dialtonelaw34_RecoveryLoads.j5 kj32 t606 (wrap64 (x10_2 + t610)) x11_1 ji38 x13_2 x15_2 false t601 t604)) = some r := by first | (rw [hji38] at H; exact H) | (simp only [hji38] at H ⊢; exact H)
              have hji38_ : (if x12_2 < x20_3 then x20_3 else x12_2) = ji38 := hji38
              have HC39 := Aside0.mk H
              clear H
              go_upto_region 30 with (fail)
              repeat (go_quiet (fail); go_upto_region 30 with (fail))
              go_cut [117] (fun v117 wc => ∃ (kq : Nat) (x117_38 : Bool), v117 = .bool x117_38 ∧ Aside0 (dialtonelaw34_RecoveryLoads.j5 kq t606 (wrap64 (x10_2 + t610)) x11_1 ji38 x13_2 x15_2 x117_38 t601 t604 = some r) ∧ Aside0 (kq ≤ kj32) ∧ Aside0 (Kd.R k60 60 wc w.heap.size (fun _ => True) (.slice Ao20 t606.length co20) t606) ∧ Aside0 (Kd.R k67 67 wc w.heap.size (fun _ => True) (.slice Ao11 t601.length co11) t601) ∧ Aside0 (wc.heap[gb605]? = some (.cells #[(.slice Ao11 t601.length co11), .int .i64 t604] 26 (0, 0))) ∧ Aside0 (Below w.heap.size w wc))
              case first =>
               have H := HC39.out
               clear HC39
               by_cases c40 : t610 > t604
               ·
                rw [if_pos c40] at H
                have c40b0 : decide (t604 < t610) = true := decide_eq_true c40
                clear c40
                (first | rw [c40b0] | (simp only [i64_w, i32_w]; rw [c40b0]) | skip)
                have H' := Aside0.mk H
                clear H
                have hcz41_0 : wc.cell? ⟨gb605, 0, none⟩ = some (.slice Ao11 t601.length co11) := (blk_cell BK605.out 0).trans rfl
                have hcz41_1 : wc.cell? ⟨gb605, 1, none⟩ = some (.int .i64 t604) := (blk_cell BK605.out 1).trans rfl
                have hfz41_0 := blk_frozen BK605.out 0
                have hfz41_1 := blk_frozen BK605.out 1
                go_wp2
                repeat (go_quiet (fail); try go_wp2)
                go_meet
                case rel => exact ⟨_, (decide (x13_2 < 0)), (by first | rfl | (simp; done) | (simp [*]; done)), H', ⟨by have := HK1.out; have := HK2.out; have := HK3.out; have := HJ32.out; first | omega | exact Nat.le_refl _⟩, ⟨by (with_reducible repeat (first | apply Kd.R_alloc | apply Kd.R_drewN | apply Kd.R_drew)); exact HO_9.out⟩, ⟨by (with_reducible repeat (first | apply Kd.R_alloc | apply Kd.R_drewN | apply Kd.R_drew)); exact HO_606000.out⟩, ⟨by (with_reducible repeat (first | refine blk_drewN ?_ _ | refine blk_drew ?_ | refine blk_alloc ?_ _)); exact BK605.out⟩, ⟨by repeat (first | (with_reducible first | exact HB.out | apply below_alloc | apply pw_below_drewN | apply below_drew1 | refine below_set ?_ GE605.out) | exact HB.out)⟩⟩
               ·
                rw [if_neg c40] at H
                have c40b0 : decide (t604 < t610) = false := decide_eq_false c40
                clear c40
                (first | rw [c40b0] | (simp only [i64_w, i32_w]; rw [c40b0]) | skip)
                have H' := Aside0.mk H
                clear H
                have hcz42_0 : wc.cell? ⟨gb605, 0, none⟩ = some (.slice Ao11 t601.length co11) := (blk_cell BK605.out 0).trans rfl
                have hcz42_1 : wc.cell? ⟨gb605, 1, none⟩ = some (.int .i64 t604) := (blk_cell BK605.out 1).trans rfl
                have hfz42_0 := blk_frozen BK605.out 0
                have hfz42_1 := blk_frozen BK605.out 1
                go_wp2
                repeat (go_quiet (fail); try go_wp2)
                go_meet
                case rel => exact ⟨_, (false), (by first | rfl | (simp; done) | (simp [*]; done)), H', ⟨by have := HK1.out; have := HK2.out; have := HK3.out; have := HJ32.out; first | omega | exact Nat.le_refl _⟩, ⟨by (with_reducible repeat (first | apply Kd.R_alloc | apply Kd.R_drewN | apply Kd.R_drew)); exact HO_9.out⟩, ⟨by (with_reducible repeat (first | apply Kd.R_alloc | apply Kd.R_drewN | apply Kd.R_drew)); exact HO_606000.out⟩, ⟨by (with_reducible repeat (first | refine blk_drewN ?_ _ | refine blk_drew ?_ | refine blk_alloc ?_ _)); exact BK605.out⟩, ⟨by repeat (first | (with_reducible first | exact HB.out | apply below_alloc | apply pw_below_drewN | apply below_drew1 | refine below_set ?_ GE605.out) | exact HB.out)⟩⟩
              case rest =>
               clear HC39
               try clear c1
               try clear q1
               try clear c2
               try clear p2
               try clear c3
               try clear c4
               try clear c5
               try clear p6
               try clear q6
               try clear hx6
               try clear c9
               try clear c14
               try clear c14b0
               try clear c15
               try clear c15b0
               try clear q16
               try clear c17
               try clear c21
               try clear c21b0
               try clear c28
               try clear c28b0
               try clear c30
               try clear c30b0
               try clear c31
               try clear c31b0
               try clear c31b1
               try clear c32
               try clear c34
               try clear c34b0
               try clear c34b1
               try clear c35
               try clear c35b0
               try clear c35b1
               try clear c36
               try clear c36b0
               try clear c37
               try clear c40
               try clear c40b0
               try clear hcz12_0
               try clear hcz12_1
               try clear hcz24_0
               try clear hcz24_1
               try clear hcz26_0
               try clear hcz26_1
               try clear hcz41_0
               try clear hcz41_1
               try clear hcz42_0
               try clear hcz42_1
               try clear hfz12_0
               try clear hfz12_1
               try clear hfz24_0
               try clear hfz24_1
               try clear hfz26_0
               try clear hfz26_1
               try clear hfz41_0
               try clear hfz41_1
               try clear hfz42_0
               try clear hfz42_1
               try clear hx609_0
               try clear hx609_1
               try clear hx609_2
               try clear hx614_0
               try clear hx614_1
               try clear hx614_2
               try clear hx615_0
               try clear hx615_1
               try clear hx615_2
               try clear p2
               try clear p6
               try clear p609
               try clear p614
               try clear p615
               try clear q1
               try clear q16
               try clear q6
               try clear q609
               try clear q614
               try clear q615
               obtain ⟨kq, x117_38, rfl, HA, HJ38, HO_9, HO_606000, BK605, HB⟩ := hcut
               cases kq with
               | zero => exact absurd HA.out (by simp [dialtonelaw34_RecoveryLoads.j5])
               | succ kj38 =>
                have H := HA.out
                clear HA
                simp only [dialtonelaw34_RecoveryLoads.j5] at H
                by_cases c43 : x117_38 = true
                ·
                 subst c43
                 have H1 : (dialtonelaw34_RecoveryLoads.l1 kj38 t606 (wrap64 (x10_2 + t610)) x11_1 ji38 x15_2 (wrap64 (x15_2 + 1)) t601 t604) = some r := by rw [if_pos rfl] at H; exact H
                 clear H
                 have H := H1
                 clear H1
                 have H' := Aside0.mk H
                 clear H
                 go_wp2
                 repeat (go_quiet (fail); try go_wp2)
                 go_roundg kj38
                 case measure => have := HK1.out; have := HK2.out; have := HK3.out; have := HJ32.out; have := HJ38.out; omega
                 case rel => exact ⟨((wrap64 (x10_2 + t610))), (ji38), (x15_2), (wrap64 (x15_2 + 1)), (by first | rfl | (simp; done) | (simp [*]; done)), (by first | rfl | (simp; done) | (simp only [← hji38] <;> (first | rfl | simp)) | (simp [*]; done)), (by first | rfl | (simp; done) | (simp [*]; done)), (by first | rfl | (simp; done) | (simp [*]; done)), H', ⟨by have := HK1.out; have := HK2.out; have := HK3.out; have := HJ32.out; have := HJ38.out; omega⟩, ⟨by (with_reducible repeat (first | apply Kd.R_alloc | apply Kd.R_drewN | apply Kd.R_drew)); exact HO_9.out⟩, ⟨by (with_reducible repeat (first | apply Kd.R_alloc | apply Kd.R_drewN | apply Kd.R_drew)); exact HO_606000.out⟩, ⟨by (with_reducible repeat (first | refine blk_drewN ?_ _ | refine blk_drew ?_ | refine blk_alloc ?_ _)); exact BK605.out⟩, ⟨by repeat (first | (with_reducible first | exact HB.out | apply below_alloc | apply pw_below_drewN | apply below_drew1 | refine below_set ?_ GE605.out) | exact HB.out)⟩⟩
                ·
                 replace c43 := Bool.eq_false_iff.mpr c43
                 subst c43
                 have H1 : (dialtonelaw34_RecoveryLoads.l1 kj38 t606 (wrap64 (x10_2 + t610)) x11_1 ji38 x13_2 (wrap64 (x15_2 + 1)) t601 t604) = some r := by rw [if_neg (show ¬ (false = true) by decide)] at H; exact H
                 clear H
                 have H := H1
                 clear H1
                 have H' := Aside0.mk H
                 clear H
                 go_wp2
                 repeat (go_quiet (fail); try go_wp2)
                 go_roundg kj38
                 case measure => have := HK1.out; have := HK2.out; have := HK3.out; have := HJ32.out; have := HJ38.out; omega
                 case rel => exact ⟨((wrap64 (x10_2 + t610))), (ji38), (x13_2), (wrap64 (x15_2 + 1)), (by first | rfl | (simp; done) | (simp [*]; done)), (by first | rfl | (simp; done) | (simp only [← hji38] <;> (first | rfl | simp)) | (simp [*]; done)), (by first | rfl | (simp; done) | (simp [*]; done)), (by first | rfl | (simp; done) | (simp [*]; done)), H', ⟨by have := HK1.out; have := HK2.out; have := HK3.out; have := HJ32.out; have := HJ38.out; omega⟩, ⟨by (with_reducible repeat (first | apply Kd.R_alloc | apply Kd.R_drewN | apply Kd.R_drew)); exact HO_9.out⟩, ⟨by (with_reducible repeat (first | apply Kd.R_alloc | apply Kd.R_drewN | apply Kd.R_drew)); exact HO_606000.out⟩, ⟨by (with_reducible repeat (first | refine blk_drewN ?_ _ | refine blk_drew ?_ | refine blk_alloc ?_ _)); exact BK605.out⟩, ⟨by repeat (first | (with_reducible first | exact HB.out | apply below_alloc | apply pw_below_drewN | apply below_drew1 | refine below_set ?_ GE605.out) | exact HB.out)⟩⟩
       ·
        rw [if_neg c21] at H
        have c21b0 : decide (x15_2 < 80) = false := decide_eq_false c21
        clear c21
        replace H := Option.bind_eq_some_iff.mp H
        obtain ⟨⟨t616, t617⟩, A440, H⟩ := H
        replace H : (if x10_2 < x11_1 then (dialtonelaw34_RecoveryLoads.j6 k2 x12_2 t617 true t601 t604) else (if x10_2 > (wrap64 (2 * x11_1)) then (dialtonelaw34_RecoveryLoads.j6 k2 x12_2 t617 true t601 t604) else (if (t617 != (decide (x13_2 < 0))) = true then (dialtonelaw34_RecoveryLoads.j6 k2 x12_2 t617 true t601 t604) else (dialtonelaw34_RecoveryLoads.j6 k2 x12_2 t617 (t616 != x13_2) t601 t604)))) = some r := H
        have A44 := Aside0.mk A440
        clear A440
        have HC45 := Aside0.mk H
        clear H
        have hcz46_0 : wr.cell? ⟨gb605, 0, none⟩ = some (.slice Ao11 t601.length co11) := (blk_cell BK605.out 0).trans rfl
        have hcz46_1 : wr.cell? ⟨gb605, 1, none⟩ = some (.int .i64 t604) := (blk_cell BK605.out 1).trans rfl
        have hfz46_0 := blk_frozen BK605.out 0
        have hfz46_1 := blk_frozen BK605.out 1
        go_upto_region 33 with (first | (go_at_call 24; (with_reducible refine (recovery_Safe.calls _ _ t601 t604 _ _ t606 t616 t617 _ ?side1 ?side2 ?side3 ?side4 A44.out).mono ?_); (case side1 => repeat (first | exact (Kd.R_reads' HO_606000.out).2.2 | (with_reducible refine Kd.C_alloc ?_ _) | (with_reducible refine Kd.C_drewN ?_ _) | (with_reducible refine Kd.C_drew ?_))); (case side2 => exact (Kd.R_reads' HO_606000.out).2.1); (case side3 => repeat (first | exact (Kd.R_reads' HO_9.out).2.2 | (with_reducible refine Kd.C_alloc ?_ _) | (with_reducible refine Kd.C_drewN ?_ _) | (with_reducible refine Kd.C_drew ?_))); (case side4 => exact (Kd.R_reads' HO_9.out).2.1); rintro e w47 ⟨rfl, hb⟩; have n0_ := Aside0.mk (Kd.R_below (by (with_reducible repeat (first | apply Kd.R_alloc | apply Kd.R_drewN | apply Kd.R_drew)); exact HO_9.out) hb); have n1_ := Aside0.mk (Kd.R_below (by (with_reducible repeat (first | apply Kd.R_alloc | apply Kd.R_drewN | apply Kd.R_drew)); exact HO_606000.out) hb); have n2_ := Aside0.mk (blk_below (g := gb605) (o := .cells #[.slice Ao11 t601.length co11, .int .i64 t604] 26 (0, 0)) (by (with_reducible repeat (first | refine blk_drewN ?_ _ | refine blk_drew ?_ | refine blk_alloc ?_ _)); exact BK605.out) hb); have n3_ := Aside0.mk (below_step (by repeat (first | (with_reducible first | exact HB.out | apply below_alloc | apply pw_below_drewN | apply below_drew1 | refine below_set ?_ GE605.out) | exact HB.out)) hb); clear HO_9; clear HO_606000; clear BK605; clear HB; have HO_9 := n0_; have HO_606000 := n1_; have BK605 := n2_; have HB := n3_; clear n0_ n1_ n2_ n3_; (try clear hb); (try clear hb2); (try clear hk); (try clear hi)))
        repeat (go_quiet (first | (go_at_call 24; (with_reducible refine (recovery_Safe.calls _ _ t601 t604 _ _ t606 t616 t617 _ ?side1 ?side2 ?side3 ?side4 A44.out).mono ?_); (case side1 => repeat (first | exact (Kd.R_reads' HO_606000.out).2.2 | (with_reducible refine Kd.C_alloc ?_ _) | (with_reducible refine Kd.C_drewN ?_ _) | (with_reducible refine Kd.C_drew ?_))); (case side2 => exact (Kd.R_reads' HO_606000.out).2.1); (case side3 => repeat (first | exact (Kd.R_reads' HO_9.out).2.2 | (with_reducible refine Kd.C_alloc ?_ _) | (with_reducible refine Kd.C_drewN ?_ _) | (with_reducible refine Kd.C_drew ?_))); (case side4 => exact (Kd.R_reads' HO_9.out).2.1); rintro e w47 ⟨rfl, hb⟩; have n0_ := Aside0.mk (Kd.R_below (by (with_reducible repeat (first | apply Kd.R_alloc | apply Kd.R_drewN | apply Kd.R_drew)); exact HO_9.out) hb); have n1_ := Aside0.mk (Kd.R_below (by (with_reducible repeat (first | apply Kd.R_alloc | apply Kd.R_drewN | apply Kd.R_drew)); exact HO_606000.out) hb); have n2_ := Aside0.mk (blk_below (g := gb605) (o := .cells #[.slice Ao11 t601.length co11, .int .i64 t604] 26 (0, 0)) (by (with_reducible repeat (first | refine blk_drewN ?_ _ | refine blk_drew ?_ | refine blk_alloc ?_ _)); exact BK605.out) hb); have n3_ := Aside0.mk (below_step (by repeat (first | (with_reducible first | exact HB.out | apply below_alloc | apply pw_below_drewN | apply below_drew1 | refine below_set ?_ GE605.out) | exact HB.out)) hb); clear HO_9; clear HO_606000; clear BK605; clear HB; have HO_9 := n0_; have HO_606000 := n1_; have BK605 := n2_; have HB := n3_; clear n0_ n1_ n2_ n3_; (try clear hb); (try clear hb2); (try clear hk); (try clear hi))); go_upto_region 33 with (first | (go_at_call 24; (with_reducible refine (recovery_Safe.calls _ _ t601 t604 _ _ t606 t616 t617 _ ?side1 ?side2 ?side3 ?side4 A44.out).mono ?_); (case side1 => repeat (first | exact (Kd.R_reads' HO_606000.out).2.2 | (with_reducible refine Kd.C_alloc ?_ _) | (with_reducible refine Kd.C_drewN ?_ _) | (with_reducible refine Kd.C_drew ?_))); (case side2 => exact (Kd.R_reads' HO_606000.out).2.1); (case side3 => repeat (first | exact (Kd.R_reads' HO_9.out).2.2 | (with_reducible refine Kd.C_alloc ?_ _) | (with_reducible refine Kd.C_drewN ?_ _) | (with_reducible refine Kd.C_drew ?_))); (case side4 => exact (Kd.R_reads' HO_9.out).2.1); rintro e w47 ⟨rfl, hb⟩; have n0_ := Aside0.mk (Kd.R_below (by (with_reducible repeat (first | apply Kd.R_alloc | apply Kd.R_drewN | apply Kd.R_drew)); exact HO_9.out) hb); have n1_ := Aside0.mk (Kd.R_below (by (with_reducible repeat (first | apply Kd.R_alloc | apply Kd.R_drewN | apply Kd.R_drew)); exact HO_606000.out) hb); have n2_ := Aside0.mk (blk_below (g := gb605) (o := .cells #[.slice Ao11 t601.length co11, .int .i64 t604] 26 (0, 0)) (by (with_reducible repeat (first | refine blk_drewN ?_ _ | refine blk_drew ?_ | refine blk_alloc ?_ _)); exact BK605.out) hb); have n3_ := Aside0.mk (below_step (by repeat (first | (with_reducible first | exact HB.out | apply below_alloc | apply pw_below_drewN | apply below_drew1 | refine below_set ?_ GE605.out) | exact HB.out)) hb); clear HO_9; clear HO_606000; clear BK605; clear HB; have HO_9 := n0_; have HO_606000 := n1_; have BK605 := n2_; have HB := n3_; clear n0_ n1_ n2_ n3_; (try clear hb); (try clear hb2); (try clear hk); (try clear hi))))
        (try simp only [Act.put, List.setIfInBounds_toArray, List.set_cons_zero, List.set_cons_succ])
        go_cut [144] (fun v144 wc => ∃ (kq : Nat) (x144_44 : Bool), v144 = .bool x144_44 ∧ Aside0 (dialtonelaw34_RecoveryLoads.j6 kq x12_2 t617 x144_44 t601 t604 = some r) ∧ Aside0 (kq ≤ k2) ∧ Aside0 (Kd.R k67 67 wc w.heap.size (fun _ => True) (.slice Ao11 t601.length co11) t601) ∧ Aside0 (wc.heap[gb605]? = some (.cells #[(.slice Ao11 t601.length co11), .int .i64 t604] 26 (0, 0))) ∧ Aside0 (Below w.heap.size w wc))
        case first =>
         have H := HC45.out
         clear HC45
         by_cases c48 : x10_2 < x11_1
         ·
          rw [if_pos c48] at H
          have c48b0 : decide (x10_2 < x11_1) = true := decide_eq_true c48
          clear c48
          (first | rw [c48b0] | (simp only [i64_w, i32_w]; rw [c48b0]) | skip)
          have H' := Aside0.mk H
          clear H
          go_wp2
          repeat (go_quiet (fail); try go_wp2)
          go_meet
          case rel => exact ⟨_, (true), (by first | rfl | (simp; done) | (simp [*]; done)), H', ⟨by have := HK1.out; have := HK2.out; first | omega | exact Nat.le_refl _⟩, ⟨by (with_reducible repeat (first | apply Kd.R_alloc | apply Kd.R_drewN | apply Kd.R_drew)); exact HO_606000.out⟩, ⟨by (with_reducible repeat (first | refine blk_drewN ?_ _ | refine blk_drew ?_ | refine blk_alloc ?_ _)); exact BK605.out⟩, ⟨by repeat (first | (with_reducible first | exact HB.out | apply below_alloc | apply pw_below_drewN | apply below_drew1 | refine below_set ?_ GE605.out) | exact HB.out)⟩⟩
         ·
          rw [if_neg c48] at H
          have c48b0 : decide (x10_2 < x11_1) = false := decide_eq_false c48
          clear c48
          (first | rw [c48b0] | (simp only [i64_w, i32_w]; rw [c48b0]) | skip)
          by_cases c49 : x10_2 > (wrap64 (2 * x11_1))
          ·
           rw [if_pos c49] at H
           have c49b0 : decide ((wrap64 (2 * x11_1)) < x10_2) = true := decide_eq_true c49
           clear c49
           have H' := Aside0.mk H
           clear H
           go_wp2
           repeat (go_quiet (fail); try go_wp2)
           go_meet
           case rel => exact ⟨_, (true), (by first | rfl | (simp; done) | (simp [*]; done)), H', ⟨by have := HK1.out; have := HK2.out; first | omega | exact Nat.le_refl _⟩, ⟨by (with_reducible repeat (first | apply Kd.R_alloc | apply Kd.R_drewN | apply Kd.R_drew)); exact HO_606000.out⟩, ⟨by (with_reducible repeat (first | refine blk_drewN ?_ _ | refine blk_drew ?_ | refine blk_alloc ?_ _)); exact BK605.out⟩, ⟨by repeat (first | (with_reducible first | exact HB.out | apply below_alloc | apply pw_below_drewN | apply below_drew1 | refine below_set ?_ GE605.out) | exact HB.out)⟩⟩
          ·
           rw [if_neg c49] at H
           have c49b0 : decide ((wrap64 (2 * x11_1)) < x10_2) = false := decide_eq_false c49
           clear c49
           by_cases c50 : (t617 != (decide (x13_2 < 0))) = true
           ·
            rw [if_pos c50] at H
            have c50b0 : (t617 != (decide (x13_2 < 0))) = true := c50
            (try (have c50b1 : decide (t617 = (decide (x13_2 < 0))) = false := by simpa using c50))
            (try (have c50b2 : (t617 == (decide (x13_2 < 0))) = false := by simpa using c50))
            (try (have c50b3 : ¬ (t617 = (decide (x13_2 < 0))) := by simpa using c50))
            clear c50
            have H' := Aside0.mk H
            clear H
            go_wp2
            repeat (go_quiet (fail); try go_wp2)
            go_meet
            case rel => exact ⟨_, (true), (by first | rfl | (simp; done) | (simp [*]; done)), H', ⟨by have := HK1.out; have := HK2.out; first | omega | exact Nat.le_refl _⟩, ⟨by (with_reducible repeat (first | apply Kd.R_alloc | apply Kd.R_drewN | apply Kd.R_drew)); exact HO_606000.out⟩, ⟨by (with_reducible repeat (first | refine blk_drewN ?_ _ | refine blk_drew ?_ | refine blk_alloc ?_ _)); exact BK605.out⟩, ⟨by repeat (first | (with_reducible first | exact HB.out | apply below_alloc | apply pw_below_drewN | apply below_drew1 | refine below_set ?_ GE605.out) | exact HB.out)⟩⟩
           ·
            rw [if_neg c50] at H
            have c50b0 : (t617 != (decide (x13_2 < 0))) = false := by simpa using c50
            (try (have c50b1 : decide (t617 = (decide (x13_2 < 0))) = true := by simpa using c50))
            (try (have c50b2 : (t617 == (decide (x13_2 < 0))) = true := by simpa using c50))
            clear c50
            have H' := Aside0.mk H
            clear H
            go_wp2
            repeat (go_quiet (fail); try go_wp2)
            go_meet
            case rel => exact ⟨_, ((t616 != x13_2)), (by first | rfl | (simp; done) | (simp [*]; done)), H', ⟨by have := HK1.out; have := HK2.out; first | omega | exact Nat.le_refl _⟩, ⟨by (with_reducible repeat (first | apply Kd.R_alloc | apply Kd.R_drewN | apply Kd.R_drew)); exact HO_606000.out⟩, ⟨by (with_reducible repeat (first | refine blk_drewN ?_ _ | refine blk_drew ?_ | refine blk_alloc ?_ _)); exact BK605.out⟩, ⟨by repeat (first | (with_reducible first | exact HB.out | apply below_alloc | apply pw_below_drewN | apply below_drew1 | refine below_set ?_ GE605.out) | exact HB.out)⟩⟩
        case rest =>
         clear HC45
         try clear c1
         try clear q1
         try clear c2
         try clear p2
         try clear c3
         try clear c4
         try clear c5
         try clear p6
         try clear q6
         try clear hx6
         try clear c9
         try clear c14
         try clear c14b0
         try clear c15
         try clear c15b0
         try clear q16
         try clear c17
         try clear c21
         try clear c21b0
         try clear c28
         try clear c28b0
         try clear c30
         try clear c30b0
         try clear c31
         try clear c31b0
         try clear c31b1
         try clear c32
         try clear c34
         try clear c34b0
         try clear c34b1
         try clear c35
         try clear c35b0
         try clear c35b1
         try clear c36
         try clear c36b0
         try clear c37
         try clear c40
         try clear c40b0
         try clear c43
         try clear c48
         try clear c48b0
         try clear c49
         try clear c49b0
         try clear c50
         try clear c50b0
         try clear c50b1
         try clear c50b2
         try clear hcz12_0
         try clear hcz12_1
         try clear hcz24_0
         try clear hcz24_1
         try clear hcz26_0
         try clear hcz26_1
         try clear hcz41_0
         try clear hcz41_1
         try clear hcz42_0
         try clear hcz42_1
         try clear hcz46_0
         try clear hcz46_1
         try clear hfz12_0
         try clear hfz12_1
         try clear hfz24_0
         try clear hfz24_1
         try clear hfz26_0
         try clear hfz26_1
         try clear hfz41_0
         try clear hfz41_1
         try clear hfz42_0
         try clear hfz42_1
         try clear hfz46_0
         try clear hfz46_1
         try clear hx609_0
         try clear hx609_1
         try clear hx609_2
         try clear hx614_0
         try clear hx614_1
         try clear hx614_2
         try clear hx615_0
         try clear hx615_1
         try clear hx615_2
         try clear p2
         try clear p6
         try clear p609
         try clear p614
         try clear p615
         try clear q1
         try clear q16
         try clear q6
         try clear q609
         try clear q614
         try clear q615
         obtain ⟨kq, x144_44, rfl, HA, HJ44, HO_606000, BK605, HB⟩ := hcut
         cases kq with
         | zero => exact absurd HA.out (by simp [dialtonelaw34_RecoveryLoads.j6])
         | succ kj44 =>
          have H := HA.out
          clear HA
          simp only [dialtonelaw34_RecoveryLoads.j6] at H
          by_cases c51 : x144_44 = true
          ·
           subst c51
           have H1 : (none) = some r := by rw [if_pos rfl] at H; exact H
           clear H
           have H := H1
           clear H1
           exact absurd H (by simp)
          ·
           replace c51 := Bool.eq_false_iff.mpr c51
           subst c51
           have H1 : (if t617 = true then (some true) else (if 0 ≤ (wrap64 ((t601.length : Int) - 1)) then (if (wrap64 ((t601.length : Int) - 1)) < (t601.length : Int) then (some (decide (t604 < (wrap64 (x12_2 + ((rd_T67 t601 (wrap64 ((t601.length : Int) - 1))).f1)))))) else (none)) else (none))) = some r := by rw [if_neg (show ¬ (false = true) by decide)] at H; exact H
           clear H
           have H := H1
           clear H1
           by_cases c52 : t617 = true
           ·
            subst c52
            have H1 : (some true) = some r := by rw [if_pos rfl] at H; exact H
            clear H
            have H := H1
            clear H1
            obtain rfl := Option.some.inj H
            go_wp2
            repeat (go_quiet (fail); try go_wp2)
            go_ret
            exact ⟨by first | rfl | (simp [errW_none, errW_some] <;> rfl) | (simp [*, errW_none, errW_some] <;> rfl), by repeat (first | (with_reducible first | exact HB.out | apply below_alloc | apply pw_below_drewN | apply below_drew1 | refine below_set ?_ GE605.out) | exact HB.out)⟩
           ·
            replace c52 := Bool.eq_false_iff.mpr c52
            subst c52
            have H1 : (if 0 ≤ (wrap64 ((t601.length : Int) - 1)) then (if (wrap64 ((t601.length : Int) - 1)) < (t601.length : Int) then (some (decide (t604 < (wrap64 (x12_2 + ((rd_T67 t601 (wrap64 ((t601.length : Int) - 1))).f1)))))) else (none)) else (none)) = some r := by rw [if_neg (show ¬ (false = true) by decide)] at H; exact H
            clear H
            have H := H1
            clear H1
            obtain ⟨ji53, hji53⟩ : ∃ j_ : Int, (wrap64 ((t601.length : Int) - 1)) = j_ := ⟨_, rfl⟩
            replace H : (if 0 ≤ (ji53) then (if (ji53) < (t601.length : Int) then (some (decide (t604 < (wrap64 (x12_2 + ((rd_T67 t601 (ji53)).f1)))))) else (none)) else (none)) = some r := by first | (rw [hji53] at H; exact H) | (simp only [hji53] at H ⊢; exact H)
            have hji53w : (IntKind.i64.wrap ((t601.length : Int) - 1)) = ji53 := (i64_w _).trans hji53
            by_cases c54 : 0 ≤ (ji53)
            ·
             rw [if_pos c54] at H
             have c54b0 : decide (0 ≤ (ji53)) = true := decide_eq_true c54
             clear c54
             by_cases c55 : (ji53) < (t601.length : Int)
             ·
              rw [if_pos c55] at H
              have c55b0 : decide ((ji53) < (t601.length : Int)) = true := decide_eq_true c55
              clear c55
              obtain rfl := Option.some.inj H
              have hcz56_0 : wc.cell? ⟨gb605, 0, none⟩ = some (.slice Ao11 t601.length co11) := (blk_cell BK605.out 0).trans rfl
              have hcz56_1 : wc.cell? ⟨gb605, 1, none⟩ = some (.int .i64 t604) := (blk_cell BK605.out 1).trans rfl
              have hfz56_0 := blk_frozen BK605.out 0
              have hfz56_1 := blk_frozen BK605.out 1
              have p618 : 0 ≤ ((ji53) : Int) := of_decide_eq_true (by first | (with_reducible assumption) | assumption)
              have q618 : (ji53) < (t601.length : Int) := of_decide_eq_true (by first | (with_reducible assumption) | assumption)
              obtain ⟨ad618, e618, hx618_0, hx618_1⟩ := at_T67 (Kd.R_reads' HO_606000.out).2.2 (ji53) p618 q618
              cases e618
              replace p618 := eq_true p618
              replace q618 := eq_true q618
              go_wp2
              repeat (go_quiet (fail); try go_wp2)
              go_ret
              exact ⟨by first | rfl | (simp [errW_none, errW_some] <;> rfl) | (simp only [← hji53]; first | rfl | (simp [errW_none, errW_some] <;> rfl)) | (simp [*, errW_none, errW_some] <;> rfl), by repeat (first | (with_reducible first | exact HB.out | apply below_alloc | apply pw_below_drewN | apply below_drew1 | refine below_set ?_ GE605.out) | exact HB.out)⟩
             ·
              rw [if_neg c55] at H
              exact absurd H (by simp)
            ·
             rw [if_neg c54] at H
             exact absurd H (by simp)
 ·
  replace c5 := Bool.eq_false_iff.mpr c5
  subst c5
  have H1 : (none) = some r := by rw [if_neg (show ¬ (false = true) by decide)] at H; exact H
  clear H
  have H := H1
  clear H1
  exact absurd H (by simp)

end Go.Proofs.Ytcldldmedphcfaa.C
