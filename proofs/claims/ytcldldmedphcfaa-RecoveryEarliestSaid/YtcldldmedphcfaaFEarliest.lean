-- Written for this claim by a program of this session (wip/tools/hprint.py) out of the translation. Lean checks it.
import Derived.Test.YtcldldmedphcfaaCKinds
import Derived.Test.YtcldldmedphcfaaCCapacity
import Derived.Test.YtcldldmedphcfaaCSane
import Derived.Test.YtcldldmedphcfaaCMade
import Derived.Test.YtcldldmedphcfaaCAttempts
import Derived.Test.YtcldldmedphcfaaHPick
import Derived.Test.YtcldldmedphcfaaHPlan
namespace Go.Proofs.Ytcldldmedphcfaa.C
open Go.RowKit Go.Proofs.YtcldldmedphcfaaW.PrintWords Go.Proofs.YtcldldmedphcfaaW.PrintLast Go.Proofs.YtcldldmedphcfaaW.PrintMore
attribute [local go_sem] max2_int min2_int max_two min_two max_three min_three max_four min_four   -- for this text's walks alone
set_option linter.unusedVariables false
set_option linter.unusedSimpArgs false

/-! ### dialtonelaw34_RecoveryEarliest: function 7 -/
mutual
def dialtonelaw34_RecoveryEarliest.j0 : Nat → List Int → List Int → Int → List (S60) → List (S39) → Bool → List (S67) → Int → Option (Bool)
 | 0, _, _, _, _, _, _, _, _ => none
 | k + 1, x3, x4, x5, x15, x16, x52, x549000, x549001 => if x52 = true then (none) else ((dialtonelaw34_pick.f x5 60).bind fun t556 => (if 200 ≤ 35184372088832 then (if 0 ≤ (x15.length : Int) then (if ((x15.length : Int) : Int).toNat ≤ 281474976710656 then (dialtonelaw34_RecoveryEarliest.l0 k x3 x4 x15 x16 t556 (List.replicate 200 0) (List.replicate ((x15.length : Int) : Int).toNat false) 0 0 0 x549000 x549001) else (none)) else (none)) else (none)))
def dialtonelaw34_RecoveryEarliest.l0 : Nat → List Int → List Int → List (S60) → List (S39) → Int → List Int → List Bool → Int → Int → Int → List (S67) → Int → Option (Bool)
 | 0, _, _, _, _, _, _, _, _, _, _, _, _ => none
 | k + 1, x3, x4, x15, x16, x18, x19, x20, x21, x22, x23, x549000, x549001 => if x23 < (x15.length : Int) then (if x23 < (x3.length : Int) then (if 0 ≤ x23 then ((dialtonelaw34_pick.f (rd x3 x23) (x15.length : Int)).bind fun t564 => (dialtonelaw34_RecoveryEarliest.j2 k x3 x4 x15 x16 x18 x19 x20 x21 x22 x23 t564 x549000 x549001)) else (none)) else (dialtonelaw34_RecoveryEarliest.j2 k x3 x4 x15 x16 x18 x19 x20 x21 x22 x23 0 x549000 x549001)) else (dialtonelaw34_RecoveryEarliest.l3 k x16 x18 x21 x22 0 0)
def dialtonelaw34_RecoveryEarliest.j2 : Nat → List Int → List Int → List (S60) → List (S39) → Int → List Int → List Bool → Int → Int → Int → Int → List (S67) → Int → Option (Bool)
 | 0, _, _, _, _, _, _, _, _, _, _, _, _, _ => none
 | k + 1, x3, x4, x15, x16, x18, x19, x20, x21, x22, x23, x24, x549000, x549001 => dialtonelaw34_RecoveryEarliest.l1 k x3 x4 x15 x16 x18 x19 x20 x21 x22 x23 x24 x549000 x549001
def dialtonelaw34_RecoveryEarliest.l1 : Nat → List Int → List Int → List (S60) → List (S39) → Int → List Int → List Bool → Int → Int → Int → Int → List (S67) → Int → Option (Bool)
 | 0, _, _, _, _, _, _, _, _, _, _, _, _, _ => none
 | k + 1, x3, x4, x15, x16, x18, x19, x20, x21, x22, x23, x24, x549000, x549001 => if 0 ≤ x24 then (if x24 < (x20.length : Int) then (if rdOf false x20 x24 = true then (if (x15.length : Int) = 0 then (none) else (dialtonelaw34_RecoveryEarliest.l1 k x3 x4 x15 x16 x18 x19 x20 x21 x22 x23 (Int.tmod (wrap64 (x24 + 1)) (x15.length : Int)) x549000 x549001)) else ((some (x20.set (x24 : Int).toNat true : List Bool)).bind fun y566 => (if x24 < (x15.length : Int) then (if (rd_T60 x15 x24).f2 = true then (if ((rd_T60 x15 x24).f1) ≤ x18 then (dialtonelaw34_RecoveryEarliest.l0 k x3 x4 x15 x16 x18 x19 y566 x21 (wrap64 (x22 + 1)) (wrap64 (x23 + 1)) x549000 x549001) else (dialtonelaw34_RecoveryEarliest.l0 k x3 x4 x15 x16 x18 x19 y566 x21 x22 (wrap64 (x23 + 1)) x549000 x549001)) else (if x23 < (x4.length : Int) then (if 0 ≤ x23 then ((dialtonelaw34_pick.f (rd x4 x23) 5).bind fun t571 => (dialtonelaw34_RecoveryEarliest.j4 k x3 x4 x15 x16 x18 x19 y566 x21 x22 x23 (wrap64 (((rd_T60 x15 x24).f1) + t571)) x549000 x549001)) else (none)) else (dialtonelaw34_RecoveryEarliest.j4 k x3 x4 x15 x16 x18 x19 y566 x21 x22 x23 ((rd_T60 x15 x24).f1) x549000 x549001))) else (none)))) else (none)) else (none)
def dialtonelaw34_RecoveryEarliest.j4 : Nat → List Int → List Int → List (S60) → List (S39) → Int → List Int → List Bool → Int → Int → Int → Int → List (S67) → Int → Option (Bool)
 | 0, _, _, _, _, _, _, _, _, _, _, _, _, _ => none
 | k + 1, x3, x4, x15, x16, x18, x19, x20, x21, x22, x23, x25, x549000, x549001 => dialtonelaw34_RecoveryEarliest.l2 k x3 x4 x15 x16 x18 x19 x20 x21 x22 x23 x25 x549000 x549001
def dialtonelaw34_RecoveryEarliest.j6 : Nat → List Int → List Int → List (S60) → List (S39) → Int → List Int → List Bool → Int → Int → Int → Int → List (S67) → Int → Option (Bool)
 | 0, _, _, _, _, _, _, _, _, _, _, _, _, _ => none
 | k + 1, x3, x4, x15, x16, x18, x19, x20, x21, x22, x23, x25, x549000, x549001 => if 0 ≤ x25 then (if x25 < (x19.length : Int) then ((some (x19.set (x25 : Int).toNat (wrap64 ((rd x19 x25) + 1)) : List Int)).bind fun y576 => (if x25 ≤ x18 then (dialtonelaw34_RecoveryEarliest.l0 k x3 x4 x15 x16 x18 y576 x20 (wrap64 (x21 + 1)) x22 (wrap64 (x23 + 1)) x549000 x549001) else (dialtonelaw34_RecoveryEarliest.l0 k x3 x4 x15 x16 x18 y576 x20 x21 x22 (wrap64 (x23 + 1)) x549000 x549001))) else (none)) else (none)
def dialtonelaw34_RecoveryEarliest.l2 : Nat → List Int → List Int → List (S60) → List (S39) → Int → List Int → List Bool → Int → Int → Int → Int → List (S67) → Int → Option (Bool)
 | 0, _, _, _, _, _, _, _, _, _, _, _, _, _ => none
 | k + 1, x3, x4, x15, x16, x18, x19, x20, x21, x22, x23, x25, x549000, x549001 => if x25 < 199 then ((recovery_Capacity.f k x549000 x549001 x25).bind fun bt572 => (if bt572.2 = 0 then (if 0 ≤ x25 then (if x25 < (x19.length : Int) then (if (rd x19 x25) < bt572.1 then (dialtonelaw34_RecoveryEarliest.j6 k x3 x4 x15 x16 x18 x19 x20 x21 x22 x23 x25 x549000 x549001) else (dialtonelaw34_RecoveryEarliest.l2 k x3 x4 x15 x16 x18 x19 x20 x21 x22 x23 (wrap64 (x25 + 1)) x549000 x549001)) else (none)) else (none)) else (none))) else (dialtonelaw34_RecoveryEarliest.j6 k x3 x4 x15 x16 x18 x19 x20 x21 x22 x23 x25 x549000 x549001)
def dialtonelaw34_RecoveryEarliest.l3 : Nat → List (S39) → Int → Int → Int → Int → Int → Option (Bool)
 | 0, _, _, _, _, _, _ => none
 | k + 1, x16, x18, x21, x22, x28, x29 => if x29 < (x16.length : Int) then (if 0 ≤ x29 then (if ((rd_T39 x16 x29).f2) ≤ x18 then (dialtonelaw34_RecoveryEarliest.l3 k x16 x18 x21 x22 (wrap64 (x28 + 1)) (wrap64 (x29 + 1))) else (dialtonelaw34_RecoveryEarliest.l3 k x16 x18 x21 x22 x28 (wrap64 (x29 + 1)))) else (none)) else (some (decide (x28 ≥ (wrap64 (x21 + x22)))))
end
def dialtonelaw34_RecoveryEarliest.f (k : Nat) (l0 : List (S71)) (a1 : Int) (l2 : List (S71)) (l3 : List Int) (l4 : List Int) (a5 : Int) : Option (Bool) := (dialtonelaw34_sane.f k).bind fun t543 => (if t543 = true then ((dialtoneref34_Made.f k l0 a1).bind fun bt544 => ((dialtoneref34_Attempts.f k l2).bind fun t549 => ((recovery_Plan.f bt544.1 bt544.2 t549).bind fun bt552 => (if bt552.2 = 0 then (dialtonelaw34_RecoveryEarliest.j0 k l3 l4 a5 t549 bt552.1 ((bt552.1.length : Int) != (t549.length : Int)) bt544.1 bt544.2) else (dialtonelaw34_RecoveryEarliest.j0 k l3 l4 a5 t549 bt552.1 true bt544.1 bt544.2))))) else (none))
theorem dialtonelaw34_RecoveryEarliest.mono_l : ∀ k, (∀ y0 y1 y2 y3 y4 y5 y6 y7, LeO (dialtonelaw34_RecoveryEarliest.j0 k y0 y1 y2 y3 y4 y5 y6 y7) (dialtonelaw34_RecoveryEarliest.j0 (k + 1) y0 y1 y2 y3 y4 y5 y6 y7)) ∧ (∀ y0 y1 y2 y3 y4 y5 y6 y7 y8 y9 y10 y11, LeO (dialtonelaw34_RecoveryEarliest.l0 k y0 y1 y2 y3 y4 y5 y6 y7 y8 y9 y10 y11) (dialtonelaw34_RecoveryEarliest.l0 (k + 1) y0 y1 y2 y3 y4 y5 y6 y7 y8 y9 y10 y11)) ∧ (∀ y0 y1 y2 y3 y4 y5 y6 y7 y8 y9 y10 y11 y12, LeO (dialtonelaw34_RecoveryEarliest.j2 k y0 y1 y2 y3 y4 y5 y6 y7 y8 y9 y10 y11 y12) (dialtonelaw34_RecoveryEarliest.j2 (k + 1) y0 y1 y2 y3 y4 y5 y6 y7 y8 y9 y10 y11 y12)) ∧ (∀ y0 y1 y2 y3 y4 y5 y6 y7 y8 y9 y10 y11 y12, LeO (dialtonelaw34_RecoveryEarliest.l1 k y0 y1 y2 y3 y4 y5 y6 y7 y8 y9 y10 y11 y12) (dialtonelaw34_RecoveryEarliest.l1 (k + 1) y0 y1 y2 y3 y4 y5 y6 y7 y8 y9 y10 y11 y12)) ∧ (∀ y0 y1 y2 y3 y4 y5 y6 y7 y8 y9 y10 y11 y12, LeO (dialtonelaw34_RecoveryEarliest.j4 k y0 y1 y2 y3 y4 y5 y6 y7 y8 y9 y10 y11 y12) (dialtonelaw34_RecoveryEarliest.j4 (k + 1) y0 y1 y2 y3 y4 y5 y6 y7 y8 y9 y10 y11 y12)) ∧ (∀ y0 y1 y2 y3 y4 y5 y6 y7 y8 y9 y10 y11 y12, LeO (dialtonelaw34_RecoveryEarliest.j6 k y0 y1 y2 y3 y4 y5 y6 y7 y8 y9 y10 y11 y12) (dialtonelaw34_RecoveryEarliest.j6 (k + 1) y0 y1 y2 y3 y4 y5 y6 y7 y8 y9 y10 y11 y12)) ∧ (∀ y0 y1 y2 y3 y4 y5 y6 y7 y8 y9 y10 y11 y12, LeO (dialtonelaw34_RecoveryEarliest.l2 k y0 y1 y2 y3 y4 y5 y6 y7 y8 y9 y10 y11 y12) (dialtonelaw34_RecoveryEarliest.l2 (k + 1) y0 y1 y2 y3 y4 y5 y6 y7 y8 y9 y10 y11 y12)) ∧ (∀ y0 y1 y2 y3 y4 y5, LeO (dialtonelaw34_RecoveryEarliest.l3 k y0 y1 y2 y3 y4 y5) (dialtonelaw34_RecoveryEarliest.l3 (k + 1) y0 y1 y2 y3 y4 y5))
 | 0 => ⟨fun _ _ _ _ _ _ _ _ r h => by simp [dialtonelaw34_RecoveryEarliest.j0] at h, fun _ _ _ _ _ _ _ _ _ _ _ _ r h => by simp [dialtonelaw34_RecoveryEarliest.l0] at h, fun _ _ _ _ _ _ _ _ _ _ _ _ _ r h => by simp [dialtonelaw34_RecoveryEarliest.j2] at h, fun _ _ _ _ _ _ _ _ _ _ _ _ _ r h => by simp [dialtonelaw34_RecoveryEarliest.l1] at h, fun _ _ _ _ _ _ _ _ _ _ _ _ _ r h => by simp [dialtonelaw34_RecoveryEarliest.j4] at h, fun _ _ _ _ _ _ _ _ _ _ _ _ _ r h => by simp [dialtonelaw34_RecoveryEarliest.j6] at h, fun _ _ _ _ _ _ _ _ _ _ _ _ _ r h => by simp [dialtonelaw34_RecoveryEarliest.l2] at h, fun _ _ _ _ _ _ r h => by simp [dialtonelaw34_RecoveryEarliest.l3] at h⟩
 | k + 1 => by
  obtain ⟨ih0, ih1, ih2, ih3, ih4, ih5, ih6, ih7⟩ := dialtonelaw34_RecoveryEarliest.mono_l k
  refine ⟨?_, ?_, ?_, ?_, ?_, ?_, ?_, ?_⟩
  ·
   intro y0 y1 y2 y3 y4 y5 y6 y7
   unfold dialtonelaw34_RecoveryEarliest.j0
   repeat' first
   | (with_reducible exact ih0 _ _ _ _ _ _ _ _)
   | (with_reducible exact ih1 _ _ _ _ _ _ _ _ _ _ _ _)
   | (with_reducible exact ih2 _ _ _ _ _ _ _ _ _ _ _ _ _)
   | (with_reducible exact ih3 _ _ _ _ _ _ _ _ _ _ _ _ _)
   | (with_reducible exact ih4 _ _ _ _ _ _ _ _ _ _ _ _ _)
   | (with_reducible exact ih5 _ _ _ _ _ _ _ _ _ _ _ _ _)
   | (with_reducible exact ih6 _ _ _ _ _ _ _ _ _ _ _ _ _)
   | (with_reducible exact ih7 _ _ _ _ _ _)
   | (with_reducible exact dialtonelaw34_sane.mono _)
   | (with_reducible exact dialtoneref34_Attempts.mono _ _)
   | (with_reducible exact dialtoneref34_Made.mono _ _ _)
   | (with_reducible exact recovery_Capacity.mono _ _ _ _)
   | (with_reducible exact LeO.refl _)
   | (with_reducible exact LeO.none _)
   | (with_reducible refine LeO.ite ?_ ?_)
   | (with_reducible refine LeO.bind ?_ (fun _ => ?_))
   | exact ih0 _ _ _ _ _ _ _ _
   | exact ih1 _ _ _ _ _ _ _ _ _ _ _ _
   | exact ih2 _ _ _ _ _ _ _ _ _ _ _ _ _
   | exact ih3 _ _ _ _ _ _ _ _ _ _ _ _ _
   | exact ih4 _ _ _ _ _ _ _ _ _ _ _ _ _
   | exact ih5 _ _ _ _ _ _ _ _ _ _ _ _ _
   | exact ih6 _ _ _ _ _ _ _ _ _ _ _ _ _
   | exact ih7 _ _ _ _ _ _
   | exact dialtonelaw34_sane.mono _
   | exact dialtoneref34_Attempts.mono _ _
   | exact dialtoneref34_Made.mono _ _ _
   | exact recovery_Capacity.mono _ _ _ _
   | exact LeO.none _
   | refine LeO.ite ?_ ?_
   | refine LeO.bind ?_ (fun _ => ?_)
  ·
   intro y0 y1 y2 y3 y4 y5 y6 y7 y8 y9 y10 y11
   unfold dialtonelaw34_RecoveryEarliest.l0
   repeat' first
   | (with_reducible exact ih0 _ _ _ _ _ _ _ _)
   | (with_reducible exact ih1 _ _ _ _ _ _ _ _ _ _ _ _)
   | (with_reducible exact ih2 _ _ _ _ _ _ _ _ _ _ _ _ _)
   | (with_reducible exact ih3 _ _ _ _ _ _ _ _ _ _ _ _ _)
   | (with_reducible exact ih4 _ _ _ _ _ _ _ _ _ _ _ _ _)
   | (with_reducible exact ih5 _ _ _ _ _ _ _ _ _ _ _ _ _)
   | (with_reducible exact ih6 _ _ _ _ _ _ _ _ _ _ _ _ _)
   | (with_reducible exact ih7 _ _ _ _ _ _)
   | (with_reducible exact dialtonelaw34_sane.mono _)
   | (with_reducible exact dialtoneref34_Attempts.mono _ _)
   | (with_reducible exact dialtoneref34_Made.mono _ _ _)
   | (with_reducible exact recovery_Capacity.mono _ _ _ _)
   | (with_reducible exact LeO.refl _)
   | (with_reducible exact LeO.none _)
   | (with_reducible refine LeO.ite ?_ ?_)
   | (with_reducible refine LeO.bind ?_ (fun _ => ?_))
   | exact ih0 _ _ _ _ _ _ _ _
   | exact ih1 _ _ _ _ _ _ _ _ _ _ _ _
   | exact ih2 _ _ _ _ _ _ _ _ _ _ _ _ _
   | exact ih3 _ _ _ _ _ _ _ _ _ _ _ _ _
   | exact ih4 _ _ _ _ _ _ _ _ _ _ _ _ _
   | exact ih5 _ _ _ _ _ _ _ _ _ _ _ _ _
   | exact ih6 _ _ _ _ _ _ _ _ _ _ _ _ _
   | exact ih7 _ _ _ _ _ _
   | exact dialtonelaw34_sane.mono _
   | exact dialtoneref34_Attempts.mono _ _
   | exact dialtoneref34_Made.mono _ _ _
   | exact recovery_Capacity.mono _ _ _ _
   | exact LeO.none _
   | refine LeO.ite ?_ ?_
   | refine LeO.bind ?_ (fun _ => ?_)
  ·
   intro y0 y1 y2 y3 y4 y5 y6 y7 y8 y9 y10 y11 y12
   unfold dialtonelaw34_RecoveryEarliest.j2
   repeat' first
   | (with_reducible exact ih0 _ _ _ _ _ _ _ _)
   | (with_reducible exact ih1 _ _ _ _ _ _ _ _ _ _ _ _)
   | (with_reducible exact ih2 _ _ _ _ _ _ _ _ _ _ _ _ _)
   | (with_reducible exact ih3 _ _ _ _ _ _ _ _ _ _ _ _ _)
   | (with_reducible exact ih4 _ _ _ _ _ _ _ _ _ _ _ _ _)
   | (with_reducible exact ih5 _ _ _ _ _ _ _ _ _ _ _ _ _)
   | (with_reducible exact ih6 _ _ _ _ _ _ _ _ _ _ _ _ _)
   | (with_reducible exact ih7 _ _ _ _ _ _)
   | (with_reducible exact dialtonelaw34_sane.mono _)
   | (with_reducible exact dialtoneref34_Attempts.mono _ _)
   | (with_reducible exact dialtoneref34_Made.mono _ _ _)
   | (with_reducible exact recovery_Capacity.mono _ _ _ _)
   | (with_reducible exact LeO.refl _)
   | (with_reducible exact LeO.none _)
   | (with_reducible refine LeO.ite ?_ ?_)
   | (with_reducible refine LeO.bind ?_ (fun _ => ?_))
   | exact ih0 _ _ _ _ _ _ _ _
   | exact ih1 _ _ _ _ _ _ _ _ _ _ _ _
   | exact ih2 _ _ _ _ _ _ _ _ _ _ _ _ _
   | exact ih3 _ _ _ _ _ _ _ _ _ _ _ _ _
   | exact ih4 _ _ _ _ _ _ _ _ _ _ _ _ _
   | exact ih5 _ _ _ _ _ _ _ _ _ _ _ _ _
   | exact ih6 _ _ _ _ _ _ _ _ _ _ _ _ _
   | exact ih7 _ _ _ _ _ _
   | exact dialtonelaw34_sane.mono _
   | exact dialtoneref34_Attempts.mono _ _
   | exact dialtoneref34_Made.mono _ _ _
   | exact recovery_Capacity.mono _ _ _ _
   | exact LeO.none _
   | refine LeO.ite ?_ ?_
   | refine LeO.bind ?_ (fun _ => ?_)
  ·
   intro y0 y1 y2 y3 y4 y5 y6 y7 y8 y9 y10 y11 y12
   unfold dialtonelaw34_RecoveryEarliest.l1
   repeat' first
   | (with_reducible exact ih0 _ _ _ _ _ _ _ _)
   | (with_reducible exact ih1 _ _ _ _ _ _ _ _ _ _ _ _)
   | (with_reducible exact ih2 _ _ _ _ _ _ _ _ _ _ _ _ _)
   | (with_reducible exact ih3 _ _ _ _ _ _ _ _ _ _ _ _ _)
   | (with_reducible exact ih4 _ _ _ _ _ _ _ _ _ _ _ _ _)
   | (with_reducible exact ih5 _ _ _ _ _ _ _ _ _ _ _ _ _)
   | (with_reducible exact ih6 _ _ _ _ _ _ _ _ _ _ _ _ _)
   | (with_reducible exact ih7 _ _ _ _ _ _)
   | (with_reducible exact dialtonelaw34_sane.mono _)
   | (with_reducible exact dialtoneref34_Attempts.mono _ _)
   | (with_reducible exact dialtoneref34_Made.mono _ _ _)
   | (with_reducible exact recovery_Capacity.mono _ _ _ _)
   | (with_reducible exact LeO.refl _)
   | (with_reducible exact LeO.none _)
   | (with_reducible refine LeO.ite ?_ ?_)
   | (with_reducible refine LeO.bind ?_ (fun _ => ?_))
   | exact ih0 _ _ _ _ _ _ _ _
   | exact ih1 _ _ _ _ _ _ _ _ _ _ _ _
   | exact ih2 _ _ _ _ _ _ _ _ _ _ _ _ _
   | exact ih3 _ _ _ _ _ _ _ _ _ _ _ _ _
   | exact ih4 _ _ _ _ _ _ _ _ _ _ _ _ _
   | exact ih5 _ _ _ _ _ _ _ _ _ _ _ _ _
   | exact ih6 _ _ _ _ _ _ _ _ _ _ _ _ _
   | exact ih7 _ _ _ _ _ _
   | exact dialtonelaw34_sane.mono _
   | exact dialtoneref34_Attempts.mono _ _
   | exact dialtoneref34_Made.mono _ _ _
   | exact recovery_Capacity.mono _ _ _ _
   | exact LeO.none _
   | refine LeO.ite ?_ ?_
   | refine LeO.bind ?_ (fun _ => ?_)
  ·
   intro y0 y1 y2 y3 y4 y5 y6 y7 y8 y9 y10 y11 y12
   unfold dialtonelaw34_RecoveryEarliest.j4
   repeat' first
   | (with_reducible exact ih0 _ _ _ _ _ _ _ _)
   | (with_reducible exact ih1 _ _ _ _ _ _ _ _ _ _ _ _)
   | (with_reducible exact ih2 _ _ _ _ _ _ _ _ _ _ _ _ _)
   | (with_reducible exact ih3 _ _ _ _ _ _ _ _ _ _ _ _ _)
   | (with_reducible exact ih4 _ _ _ _ _ _ _ _ _ _ _ _ _)
   | (with_reducible exact ih5 _ _ _ _ _ _ _ _ _ _ _ _ _)
   | (with_reducible exact ih6 _ _ _ _ _ _ _ _ _ _ _ _ _)
   | (with_reducible exact ih7 _ _ _ _ _ _)
   | (with_reducible exact dialtonelaw34_sane.mono _)
   | (with_reducible exact dialtoneref34_Attempts.mono _ _)
   | (with_reducible exact dialtoneref34_Made.mono _ _ _)
   | (with_reducible exact recovery_Capacity.mono _ _ _ _)
   | (with_reducible exact LeO.refl _)
   | (with_reducible exact LeO.none _)
   | (with_reducible refine LeO.ite ?_ ?_)
   | (with_reducible refine LeO.bind ?_ (fun _ => ?_))
   | exact ih0 _ _ _ _ _ _ _ _
   | exact ih1 _ _ _ _ _ _ _ _ _ _ _ _
   | exact ih2 _ _ _ _ _ _ _ _ _ _ _ _ _
   | exact ih3 _ _ _ _ _ _ _ _ _ _ _ _ _
   | exact ih4 _ _ _ _ _ _ _ _ _ _ _ _ _
   | exact ih5 _ _ _ _ _ _ _ _ _ _ _ _ _
   | exact ih6 _ _ _ _ _ _ _ _ _ _ _ _ _
   | exact ih7 _ _ _ _ _ _
   | exact dialtonelaw34_sane.mono _
   | exact dialtoneref34_Attempts.mono _ _
   | exact dialtoneref34_Made.mono _ _ _
   | exact recovery_Capacity.mono _ _ _ _
   | exact LeO.none _
   | refine LeO.ite ?_ ?_
   | refine LeO.bind ?_ (fun _ => ?_)
  ·
   intro y0 y1 y2 y3 y4 y5 y6 y7 y8 y9 y10 y11 y12
   unfold dialtonelaw34_RecoveryEarliest.j6
   repeat' first
   | (with_reducible exact ih0 _ _ _ _ _ _ _ _)
   | (with_reducible exact ih1 _ _ _ _ _ _ _ _ _ _ _ _)
   | (with_reducible exact ih2 _ _ _ _ _ _ _ _ _ _ _ _ _)
   | (with_reducible exact ih3 _ _ _ _ _ _ _ _ _ _ _ _ _)
   | (with_reducible exact ih4 _ _ _ _ _ _ _ _ _ _ _ _ _)
   | (with_reducible exact ih5 _ _ _ _ _ _ _ _ _ _ _ _ _)
   | (with_reducible exact ih6 _ _ _ _ _ _ _ _ _ _ _ _ _)
   | (with_reducible exact ih7 _ _ _ _ _ _)
   | (with_reducible exact dialtonelaw34_sane.mono _)
   | (with_reducible exact dialtoneref34_Attempts.mono _ _)
   | (with_reducible exact dialtoneref34_Made.mono _ _ _)
   | (with_reducible exact recovery_Capacity.mono _ _ _ _)
   | (with_reducible exact LeO.refl _)
   | (with_reducible exact LeO.none _)
   | (with_reducible refine LeO.ite ?_ ?_)
   | (with_reducible refine LeO.bind ?_ (fun _ => ?_))
   | exact ih0 _ _ _ _ _ _ _ _
   | exact ih1 _ _ _ _ _ _ _ _ _ _ _ _
   | exact ih2 _ _ _ _ _ _ _ _ _ _ _ _ _
   | exact ih3 _ _ _ _ _ _ _ _ _ _ _ _ _
   | exact ih4 _ _ _ _ _ _ _ _ _ _ _ _ _
   | exact ih5 _ _ _ _ _ _ _ _ _ _ _ _ _
   | exact ih6 _ _ _ _ _ _ _ _ _ _ _ _ _
   | exact ih7 _ _ _ _ _ _
   | exact dialtonelaw34_sane.mono _
   | exact dialtoneref34_Attempts.mono _ _
   | exact dialtoneref34_Made.mono _ _ _
   | exact recovery_Capacity.mono _ _ _ _
   | exact LeO.none _
   | refine LeO.ite ?_ ?_
   | refine LeO.bind ?_ (fun _ => ?_)
  ·
   intro y0 y1 y2 y3 y4 y5 y6 y7 y8 y9 y10 y11 y12
   unfold dialtonelaw34_RecoveryEarliest.l2
   repeat' first
   | (with_reducible exact ih0 _ _ _ _ _ _ _ _)
   | (with_reducible exact ih1 _ _ _ _ _ _ _ _ _ _ _ _)
   | (with_reducible exact ih2 _ _ _ _ _ _ _ _ _ _ _ _ _)
   | (with_reducible exact ih3 _ _ _ _ _ _ _ _ _ _ _ _ _)
   | (with_reducible exact ih4 _ _ _ _ _ _ _ _ _ _ _ _ _)
   | (with_reducible exact ih5 _ _ _ _ _ _ _ _ _ _ _ _ _)
   | (with_reducible exact ih6 _ _ _ _ _ _ _ _ _ _ _ _ _)
   | (with_reducible exact ih7 _ _ _ _ _ _)
   | (with_reducible exact dialtonelaw34_sane.mono _)
   | (with_reducible exact dialtoneref34_Attempts.mono _ _)
   | (with_reducible exact dialtoneref34_Made.mono _ _ _)
   | (with_reducible exact recovery_Capacity.mono _ _ _ _)
   | (with_reducible exact LeO.refl _)
   | (with_reducible exact LeO.none _)
   | (with_reducible refine LeO.ite ?_ ?_)
   | (with_reducible refine LeO.bind ?_ (fun _ => ?_))
   | exact ih0 _ _ _ _ _ _ _ _
   | exact ih1 _ _ _ _ _ _ _ _ _ _ _ _
   | exact ih2 _ _ _ _ _ _ _ _ _ _ _ _ _
   | exact ih3 _ _ _ _ _ _ _ _ _ _ _ _ _
   | exact ih4 _ _ _ _ _ _ _ _ _ _ _ _ _
   | exact ih5 _ _ _ _ _ _ _ _ _ _ _ _ _
   | exact ih6 _ _ _ _ _ _ _ _ _ _ _ _ _
   | exact ih7 _ _ _ _ _ _
   | exact dialtonelaw34_sane.mono _
   | exact dialtoneref34_Attempts.mono _ _
   | exact dialtoneref34_Made.mono _ _ _
   | exact recovery_Capacity.mono _ _ _ _
   | exact LeO.none _
   | refine LeO.ite ?_ ?_
   | refine LeO.bind ?_ (fun _ => ?_)
  ·
   intro y0 y1 y2 y3 y4 y5
   unfold dialtonelaw34_RecoveryEarliest.l3
   repeat' first
   | (with_reducible exact ih0 _ _ _ _ _ _ _ _)
   | (with_reducible exact ih1 _ _ _ _ _ _ _ _ _ _ _ _)
   | (with_reducible exact ih2 _ _ _ _ _ _ _ _ _ _ _ _ _)
   | (with_reducible exact ih3 _ _ _ _ _ _ _ _ _ _ _ _ _)
   | (with_reducible exact ih4 _ _ _ _ _ _ _ _ _ _ _ _ _)
   | (with_reducible exact ih5 _ _ _ _ _ _ _ _ _ _ _ _ _)
   | (with_reducible exact ih6 _ _ _ _ _ _ _ _ _ _ _ _ _)
   | (with_reducible exact ih7 _ _ _ _ _ _)
   | (with_reducible exact dialtonelaw34_sane.mono _)
   | (with_reducible exact dialtoneref34_Attempts.mono _ _)
   | (with_reducible exact dialtoneref34_Made.mono _ _ _)
   | (with_reducible exact recovery_Capacity.mono _ _ _ _)
   | (with_reducible exact LeO.refl _)
   | (with_reducible exact LeO.none _)
   | (with_reducible refine LeO.ite ?_ ?_)
   | (with_reducible refine LeO.bind ?_ (fun _ => ?_))
   | exact ih0 _ _ _ _ _ _ _ _
   | exact ih1 _ _ _ _ _ _ _ _ _ _ _ _
   | exact ih2 _ _ _ _ _ _ _ _ _ _ _ _ _
   | exact ih3 _ _ _ _ _ _ _ _ _ _ _ _ _
   | exact ih4 _ _ _ _ _ _ _ _ _ _ _ _ _
   | exact ih5 _ _ _ _ _ _ _ _ _ _ _ _ _
   | exact ih6 _ _ _ _ _ _ _ _ _ _ _ _ _
   | exact ih7 _ _ _ _ _ _
   | exact dialtonelaw34_sane.mono _
   | exact dialtoneref34_Attempts.mono _ _
   | exact dialtoneref34_Made.mono _ _ _
   | exact recovery_Capacity.mono _ _ _ _
   | exact LeO.none _
   | refine LeO.ite ?_ ?_
   | refine LeO.bind ?_ (fun _ => ?_)
theorem dialtonelaw34_RecoveryEarliest.mono : ∀ a0 a1 a2 a3 a4 a5 k, LeO (dialtonelaw34_RecoveryEarliest.f k a0 a1 a2 a3 a4 a5) (dialtonelaw34_RecoveryEarliest.f (k + 1) a0 a1 a2 a3 a4 a5) := by
 intro a0 a1 a2 a3 a4 a5 k
 obtain ⟨ih0, ih1, ih2, ih3, ih4, ih5, ih6, ih7⟩ := dialtonelaw34_RecoveryEarliest.mono_l k
 unfold dialtonelaw34_RecoveryEarliest.f
 repeat' first
   | (with_reducible exact ih0 _ _ _ _ _ _ _ _)
   | (with_reducible exact ih1 _ _ _ _ _ _ _ _ _ _ _ _)
   | (with_reducible exact ih2 _ _ _ _ _ _ _ _ _ _ _ _ _)
   | (with_reducible exact ih3 _ _ _ _ _ _ _ _ _ _ _ _ _)
   | (with_reducible exact ih4 _ _ _ _ _ _ _ _ _ _ _ _ _)
   | (with_reducible exact ih5 _ _ _ _ _ _ _ _ _ _ _ _ _)
   | (with_reducible exact ih6 _ _ _ _ _ _ _ _ _ _ _ _ _)
   | (with_reducible exact ih7 _ _ _ _ _ _)
   | (with_reducible exact dialtonelaw34_sane.mono _)
   | (with_reducible exact dialtoneref34_Attempts.mono _ _)
   | (with_reducible exact dialtoneref34_Made.mono _ _ _)
   | (with_reducible exact recovery_Capacity.mono _ _ _ _)
   | (with_reducible exact LeO.refl _)
   | (with_reducible exact LeO.none _)
   | (with_reducible refine LeO.ite ?_ ?_)
   | (with_reducible refine LeO.bind ?_ (fun _ => ?_))
   | exact ih0 _ _ _ _ _ _ _ _
   | exact ih1 _ _ _ _ _ _ _ _ _ _ _ _
   | exact ih2 _ _ _ _ _ _ _ _ _ _ _ _ _
   | exact ih3 _ _ _ _ _ _ _ _ _ _ _ _ _
   | exact ih4 _ _ _ _ _ _ _ _ _ _ _ _ _
   | exact ih5 _ _ _ _ _ _ _ _ _ _ _ _ _
   | exact ih6 _ _ _ _ _ _ _ _ _ _ _ _ _
   | exact ih7 _ _ _ _ _ _
   | exact dialtonelaw34_sane.mono _
   | exact dialtoneref34_Attempts.mono _ _
   | exact dialtoneref34_Made.mono _ _ _
   | exact recovery_Capacity.mono _ _ _ _
   | exact LeO.none _
   | refine LeO.ite ?_ ?_
   | refine LeO.bind ?_ (fun _ => ?_)
set_option maxHeartbeats 8000000 in
set_option maxRecDepth 100000 in
theorem dialtonelaw34_RecoveryEarliest.calls (k : Nat) (A0 : Option Addr) (c0 : Nat) (l0 : List (S71)) (a1 : Int) (A2 : Option Addr) (c2 : Nat) (l2 : List (S71)) (A3 : Option Addr) (c3 : Nat) (l3 : List Int) (A4 : Option Addr) (c4 : Nat) (l4 : List Int) (a5 : Int) (r : Bool) (w : World) (hr0 : Kd.C k71 w A0 l0.length l0) (hc0 : l0.length ≤ c0) (hr2 : Kd.C k71 w A2 l2.length l2) (hc2 : l2.length ≤ c2) (hr3 : Kd.C (Kd.int .i64) w A3 l3.length l3) (hc3 : l3.length ≤ c3) (hr4 : Kd.C (Kd.int .i64) w A4 l4.length l4) (hc4 : l4.length ≤ c4) (h : dialtonelaw34_RecoveryEarliest.f k l0 a1 l2 l3 l4 a5 = some r) :
  Calls Try.prog 7 #[.slice A0 l0.length c0, .int .i64 a1, .slice A2 l2.length c2, .slice A3 l3.length c3, .slice A4 l4.length c4, .int .i64 a5] w fun e w' => e = .returned (.bool r) ∧ Below w.heap.size w w' := by
 have hu26 := Try.underlying26
 have HR0 := Aside0.mk hr0
 have HC0 := Aside0.mk hc0
 clear hr0 hc0
 have HR2 := Aside0.mk hr2
 have HC2 := Aside0.mk hc2
 clear hr2 hc2
 have HR3 := Aside0.mk hr3
 have HC3 := Aside0.mk hc3
 clear hr3 hc3
 have HR4 := Aside0.mk hr4
 have HC4 := Aside0.mk hc4
 clear hr4 hc4
 have HB := Aside0.mk (Below.refl w.heap.size w)
 have H : ((dialtonelaw34_sane.f k).bind fun t543 => (if t543 = true then ((dialtoneref34_Made.f k l0 a1).bind fun bt544 => ((dialtoneref34_Attempts.f k l2).bind fun t549 => ((recovery_Plan.f bt544.1 bt544.2 t549).bind fun bt552 => (if bt552.2 = 0 then (dialtonelaw34_RecoveryEarliest.j0 k l3 l4 a5 t549 bt552.1 ((bt552.1.length : Int) != (t549.length : Int)) bt544.1 bt544.2) else (dialtonelaw34_RecoveryEarliest.j0 k l3 l4 a5 t549 bt552.1 true bt544.1 bt544.2))))) else (none))) = some r := h
 clear h
 replace H := Option.bind_eq_some_iff.mp H
 obtain ⟨t543, A70, H⟩ := H
 replace H : (if t543 = true then ((dialtoneref34_Made.f k l0 a1).bind fun bt544 => ((dialtoneref34_Attempts.f k l2).bind fun t549 => ((recovery_Plan.f bt544.1 bt544.2 t549).bind fun bt552 => (if bt552.2 = 0 then (dialtonelaw34_RecoveryEarliest.j0 k l3 l4 a5 t549 bt552.1 ((bt552.1.length : Int) != (t549.length : Int)) bt544.1 bt544.2) else (dialtonelaw34_RecoveryEarliest.j0 k l3 l4 a5 t549 bt552.1 true bt544.1 bt544.2))))) else (none)) = some r := H
 have A7 := Aside0.mk A70
 clear A70
 by_cases c8 : t543 = true
 ·
  subst c8
  have H1 : ((dialtoneref34_Made.f k l0 a1).bind fun bt544 => ((dialtoneref34_Attempts.f k l2).bind fun t549 => ((recovery_Plan.f bt544.1 bt544.2 t549).bind fun bt552 => (if bt552.2 = 0 then (dialtonelaw34_RecoveryEarliest.j0 k l3 l4 a5 t549 bt552.1 ((bt552.1.length : Int) != (t549.length : Int)) bt544.1 bt544.2) else (dialtonelaw34_RecoveryEarliest.j0 k l3 l4 a5 t549 bt552.1 true bt544.1 bt544.2))))) = some r := by rw [if_pos rfl] at H; exact H
  clear H
  have H := H1
  clear H1
  replace H := Option.bind_eq_some_iff.mp H
  obtain ⟨⟨t544, t547⟩, A90, H⟩ := H
  replace H : ((dialtoneref34_Attempts.f k l2).bind fun t549 => ((recovery_Plan.f t544 t547 t549).bind fun bt552 => (if bt552.2 = 0 then (dialtonelaw34_RecoveryEarliest.j0 k l3 l4 a5 t549 bt552.1 ((bt552.1.length : Int) != (t549.length : Int)) t544 t547) else (dialtonelaw34_RecoveryEarliest.j0 k l3 l4 a5 t549 bt552.1 true t544 t547)))) = some r := H
  have A9 := Aside0.mk A90
  clear A90
  replace H := Option.bind_eq_some_iff.mp H
  obtain ⟨t549, A100, H⟩ := H
  replace H : ((recovery_Plan.f t544 t547 t549).bind fun bt552 => (if bt552.2 = 0 then (dialtonelaw34_RecoveryEarliest.j0 k l3 l4 a5 t549 bt552.1 ((bt552.1.length : Int) != (t549.length : Int)) t544 t547) else (dialtonelaw34_RecoveryEarliest.j0 k l3 l4 a5 t549 bt552.1 true t544 t547))) = some r := H
  have A10 := Aside0.mk A100
  clear A100
  replace H := Option.bind_eq_some_iff.mp H
  obtain ⟨⟨t552, t555⟩, A110, H⟩ := H
  replace H : (if t555 = 0 then (dialtonelaw34_RecoveryEarliest.j0 k l3 l4 a5 t549 t552 ((t552.length : Int) != (t549.length : Int)) t544 t547) else (dialtonelaw34_RecoveryEarliest.j0 k l3 l4 a5 t549 t552 true t544 t547)) = some r := H
  have A11 := Aside0.mk A110
  clear A110
  have HC12 := Aside0.mk H
  clear H
  go_enter Try.func7, Try.ntmps7
  go_upto_region 7 with (first | ((with_reducible refine gate_callee (f := 13) rfl ?_); refine goesL_ (some 30) rfl rfl Try.func13 (by kernel_rfl) rfl #[] rfl (by (try simp only [List.map_toArray, List.map_cons, List.map_nil]); first | done | rfl | (simp only [List.length_drop, List.length_take]; rfl)) ?_; (with_reducible refine (dialtonelaw34_sane.calls k  true _ A7.out).mono ?_); rintro e w13 ⟨rfl, hb⟩; refine ⟨_, rfl, ?_⟩; have n0_ := Aside0.mk (below_step (by repeat (first | (with_reducible first | exact HB.out | apply below_alloc | apply pw_below_drewN | apply below_drew1) | exact HB.out)) hb); clear HB; have HB := n0_; clear n0_; (try clear hb); (try clear hb2); (try clear hk); (try clear hi)) | ((with_reducible refine gate_callee (f := 14) rfl ?_); refine goesL_ (some 35) rfl rfl Try.func14 (by kernel_rfl) rfl #[.slice A0 l0.length c0, .int .i64 a1] rfl (by (try simp only [List.map_toArray, List.map_cons, List.map_nil]); first | done | rfl | (simp only [List.length_drop, List.length_take]; rfl)) ?_; (with_reducible refine (dialtoneref34_Made.calls k _ _ l0 a1 t544 t547 _ ?side1 ?side2 A9.out).mono ?_); (case side1 => repeat (first | exact (Kd.C_below HR0.out HB.out) | (with_reducible refine Kd.C_alloc ?_ _) | (with_reducible refine Kd.C_drewN ?_ _) | (with_reducible refine Kd.C_drew ?_))); (case side2 => exact HC0.out); rintro e w14 ⟨v545, rfl, ho0, hb⟩; refine ⟨_, rfl, ?_⟩; have n0_ := Aside0.mk (Kd.R_lower ho0 (below_size (by repeat (first | (with_reducible first | exact HB.out | apply below_alloc | apply pw_below_drewN | apply below_drew1) | exact HB.out)))); have n1_ := Aside0.mk (below_step (by repeat (first | (with_reducible first | exact HB.out | apply below_alloc | apply pw_below_drewN | apply below_drew1) | exact HB.out)) hb); clear HB; have HO546 := n0_; have HB := n1_; clear n0_ n1_; (try clear hb); (try clear hb2); (try clear hk); (try clear hi); (try clear ho0)) | ((with_reducible refine gate_dst (N := 14) rfl ?_); (try (refine gate_guard (by rfl) ?_; dsimp only)); refine box_event ?hg (N := 14) ?hd (cs := #[.slice none 0 0, .int .i64 0]) (t := 26) ?hr ?_; (case hd => rfl); (case hg => rfl); (case hr => first | (go_simp; done) | (go_simp; rfl)); intro gb548 hg w15 hbox hb; have n0_ := Aside0.mk (Kd.R_below (by (with_reducible repeat (first | apply Kd.R_alloc | apply Kd.R_drewN | apply Kd.R_drew)); exact HO546.out) hb); have n1_ := Aside0.mk (below_step (by repeat (first | (with_reducible first | exact HB.out | apply below_alloc | apply pw_below_drewN | apply below_drew1) | exact HB.out)) hb); have n2_ := Aside0.mk (hbox); have n3_ := Aside0.mk ((by rw [hg]; exact (below_size (by repeat (first | (with_reducible first | exact HB.out | apply below_alloc | apply pw_below_drewN | apply below_drew1) | exact HB.out))) : w.heap.size ≤ gb548)); have n4_ := Aside0.mk ((by rw [hg]; exact (below_size (by repeat (first | (with_reducible first | exact HB.out | apply below_alloc | apply pw_below_drewN | apply below_drew1) | exact HB.out))) : w.heap.size ≤ gb548)); clear HO546; clear HB; have HO546 := n0_; have HB := n1_; have BK548 := n2_; have GW548 := n3_; have GE548 := n4_; clear n0_ n1_ n2_ n3_ n4_; clear hb hbox hg; obtain ⟨Ao16, co16, eo16⟩ := Kd.R_slice HO546.out; subst eo16; have hcz17_0 : w15.cell? ⟨gb548, 0, none⟩ = some (.slice none 0 0) := (blk_cell BK548.out 0).trans rfl; have hcz17_1 : w15.cell? ⟨gb548, 1, none⟩ = some (.int .i64 0) := (blk_cell BK548.out 1).trans rfl; have hfz17_0 := blk_frozen BK548.out 0; have hfz17_1 := blk_frozen BK548.out 1) | ((with_reducible refine gate_callee (f := 15) rfl ?_); refine goesL_ (some 37) rfl rfl Try.func15 (by kernel_rfl) rfl #[.slice A2 l2.length c2] rfl (by (try simp only [List.map_toArray, List.map_cons, List.map_nil]); first | done | rfl | (simp only [List.length_drop, List.length_take]; rfl)) ?_; (with_reducible refine (dialtoneref34_Attempts.calls k _ _ l2 t549 _ ?side1 ?side2 A10.out).mono ?_); (case side1 => exact Kd.C_below HR2.out (by repeat (first | (with_reducible first | exact HB.out | apply below_alloc | apply pw_below_drewN | apply below_drew1 | refine below_set ?_ GE548.out) | exact HB.out))); (case side2 => exact HC2.out); rintro e w18 ⟨v550, rfl, ho0, hb⟩; refine ⟨_, rfl, ?_⟩; have n0_ := Aside0.mk (Kd.R_below (by (with_reducible repeat (first | apply Kd.R_alloc | apply Kd.R_drewN | apply Kd.R_drew)); exact (Kd.R_mono (Kd.R_far (p := ⟨gb548, 1, none⟩) (Kd.R_far (p := ⟨gb548, 0, none⟩) (Kd.R_types HO546.out BK548.out (by decide)) (fun _ hk => hk.2) (.slice Ao16 t544.length co16)) (fun _ hk => hk.2) (.int .i64 t547)) (fun _ h_ => h_.1))) hb); have n1_ := Aside0.mk (Kd.R_lower ho0 (below_size (by repeat (first | (with_reducible first | exact HB.out | apply below_alloc | apply pw_below_drewN | apply below_drew1 | refine below_set ?_ GE548.out) | exact HB.out)))); have n2_ := Aside0.mk (blk_below (g := gb548) (o := .cells #[.slice Ao16 t544.length co16, .int .i64 t547] 26 (0, 0)) (by (with_reducible repeat (first | refine blk_drewN ?_ _ | refine blk_drew ?_ | refine blk_alloc ?_ _)); refine blk_put (cs := #[.slice Ao16 t544.length co16, .int .i64 0]) ?_ 1 _ rfl; (with_reducible repeat (first | refine blk_drewN ?_ _ | refine blk_drew ?_ | refine blk_alloc ?_ _)); refine blk_put (cs := #[.slice none 0 0, .int .i64 0]) ?_ 0 _ rfl; (with_reducible repeat (first | refine blk_drewN ?_ _ | refine blk_drew ?_ | refine blk_alloc ?_ _)); exact BK548.out) hb); have n3_ := Aside0.mk (below_step (by repeat (first | (with_reducible first | exact HB.out | apply below_alloc | apply pw_below_drewN | apply below_drew1 | refine below_set ?_ GE548.out) | exact HB.out)) hb); clear HO546; clear BK548; clear HB; have HO546 := n0_; have HO551 := n1_; have BK548 := n2_; have HB := n3_; clear n0_ n1_ n2_ n3_; (try clear hb); (try clear hb2); (try clear hk); (try clear hi); (try clear ho0); have hcz19_0 : w18.cell? ⟨gb548, 0, none⟩ = some (.slice Ao16 t544.length co16) := (blk_cell BK548.out 0).trans rfl; have hcz19_1 : w18.cell? ⟨gb548, 1, none⟩ = some (.int .i64 t547) := (blk_cell BK548.out 1).trans rfl; have hfz19_0 := blk_frozen BK548.out 0; have hfz19_1 := blk_frozen BK548.out 1; obtain ⟨Ao20, co20, eo20⟩ := Kd.R_slice HO551.out; subst eo20) | ((with_reducible refine gate_callee (f := 16) rfl ?_); refine goesL_ (some 41) rfl rfl Try.func16 (by kernel_rfl) rfl #[.agg #[.slice Ao16 t544.length co16, .int .i64 t547], .slice Ao20 t549.length co20] rfl (by (try simp only [List.map_toArray, List.map_cons, List.map_nil]); first | done | rfl | (simp only [List.length_drop, List.length_take]; rfl)) ?_; (with_reducible refine (recovery_Plan.calls _ _ t544 t547 _ _ t549 t552 t555 _ ?side1 ?side2 ?side3 ?side4 A11.out).mono ?_); (case side1 => repeat (first | exact (Kd.R_reads' HO546.out).2.2 | (with_reducible refine Kd.C_alloc ?_ _) | (with_reducible refine Kd.C_drewN ?_ _) | (with_reducible refine Kd.C_drew ?_))); (case side2 => exact (Kd.R_reads' HO546.out).2.1); (case side3 => repeat (first | exact (Kd.R_reads' HO551.out).2.2 | (with_reducible refine Kd.C_alloc ?_ _) | (with_reducible refine Kd.C_drewN ?_ _) | (with_reducible refine Kd.C_drew ?_))); (case side4 => exact (Kd.R_reads' HO551.out).2.1); rintro e w21 ⟨v553, rfl, ho0, hb⟩; refine ⟨_, rfl, ?_⟩; have n0_ := Aside0.mk (Kd.R_below (by (with_reducible repeat (first | apply Kd.R_alloc | apply Kd.R_drewN | apply Kd.R_drew)); exact HO546.out) hb); have n1_ := Aside0.mk (Kd.R_below (by (with_reducible repeat (first | apply Kd.R_alloc | apply Kd.R_drewN | apply Kd.R_drew)); exact HO551.out) hb); have n2_ := Aside0.mk (Kd.R_lower ho0 (below_size (by repeat (first | (with_reducible first | exact HB.out | apply below_alloc | apply pw_below_drewN | apply below_drew1 | refine below_set ?_ GE548.out) | exact HB.out)))); have n3_ := Aside0.mk (blk_below (g := gb548) (o := .cells #[.slice Ao16 t544.length co16, .int .i64 t547] 26 (0, 0)) (by (with_reducible repeat (first | refine blk_drewN ?_ _ | refine blk_drew ?_ | refine blk_alloc ?_ _)); exact BK548.out) hb); have n4_ := Aside0.mk (below_step (by repeat (first | (with_reducible first | exact HB.out | apply below_alloc | apply pw_below_drewN | apply below_drew1 | refine below_set ?_ GE548.out) | exact HB.out)) hb); clear HO546; clear HO551; clear BK548; clear HB; have HO546 := n0_; have HO551 := n1_; have HO554 := n2_; have BK548 := n3_; have HB := n4_; clear n0_ n1_ n2_ n3_ n4_; (try clear hb); (try clear hb2); (try clear hk); (try clear hi); (try clear ho0)))
  (try simp only [Act.put, List.setIfInBounds_toArray, List.set_cons_zero, List.set_cons_succ])
  go_cut [52] (fun v52 wc => ∃ (kq : Nat) (x52_11 : Bool), v52 = .bool x52_11 ∧ Aside0 (dialtonelaw34_RecoveryEarliest.j0 kq l3 l4 a5 t549 t552 x52_11 t544 t547 = some r) ∧ Aside0 (kq ≤ k) ∧ Aside0 (Kd.R k60 60 wc w.heap.size (fun _ => True) (.slice Ao20 t549.length co20) t549) ∧ Aside0 (Kd.R k39 39 wc w.heap.size (fun _ => True) v553 t552) ∧ Aside0 (Kd.R k67 67 wc w.heap.size (fun _ => True) (.slice Ao16 t544.length co16) t544) ∧ Aside0 (wc.heap[gb548]? = some (.cells #[(.slice Ao16 t544.length co16), .int .i64 t547] 26 (0, 0))) ∧ Aside0 (Below w.heap.size w wc))
  case first =>
   have H := HC12.out
   clear HC12
   by_cases c22 : t555 = 0
   ·
    rw [if_pos c22] at H
    have c22b0 : (t555 == 0) = true := beq_iff_eq.mpr c22
    have c22b1 : (t555 != 0) = false := bne_eq_false_iff_eq.mpr c22
    clear c22
    (first | rw [c22b0] | (simp only [i64_w, i32_w]; rw [c22b0]) | skip)
    have H' := Aside0.mk H
    clear H
    obtain ⟨Ao23, co23, eo23⟩ := Kd.R_slice HO554.out
    subst eo23
    go_wp2
    go_meet
    case rel => exact ⟨_, (((t552.length : Int) != (t549.length : Int))), (by first | rfl | (simp; done) | (simp [*]; done)), H', ⟨by first | omega | exact Nat.le_refl _⟩, ⟨by (with_reducible repeat (first | apply Kd.R_alloc | apply Kd.R_drewN | apply Kd.R_drew)); exact HO551.out⟩, ⟨by (with_reducible repeat (first | apply Kd.R_alloc | apply Kd.R_drewN | apply Kd.R_drew)); exact HO554.out⟩, ⟨by (with_reducible repeat (first | apply Kd.R_alloc | apply Kd.R_drewN | apply Kd.R_drew)); exact HO546.out⟩, ⟨by (with_reducible repeat (first | refine blk_drewN ?_ _ | refine blk_drew ?_ | refine blk_alloc ?_ _)); exact BK548.out⟩, ⟨by repeat (first | (with_reducible first | exact HB.out | apply below_alloc | apply pw_below_drewN | apply below_drew1 | refine below_set ?_ GE548.out) | exact HB.out)⟩⟩
   ·
    rw [if_neg c22] at H
    have c22b0 : (t555 == 0) = false := beq_eq_false_iff_ne.mpr c22
    have c22b1 : (t555 != 0) = true := bne_iff_ne.mpr c22
    (first | rw [c22b0] | (simp only [i64_w, i32_w]; rw [c22b0]) | skip)
    have H' := Aside0.mk H
    clear H
    go_wp2
    go_meet
    case rel => exact ⟨_, (true), (by first | rfl | (simp; done) | (simp [*]; done)), H', ⟨by first | omega | exact Nat.le_refl _⟩, ⟨by (with_reducible repeat (first | apply Kd.R_alloc | apply Kd.R_drewN | apply Kd.R_drew)); exact HO551.out⟩, ⟨by (with_reducible repeat (first | apply Kd.R_alloc | apply Kd.R_drewN | apply Kd.R_drew)); exact HO554.out⟩, ⟨by (with_reducible repeat (first | apply Kd.R_alloc | apply Kd.R_drewN | apply Kd.R_drew)); exact HO546.out⟩, ⟨by (with_reducible repeat (first | refine blk_drewN ?_ _ | refine blk_drew ?_ | refine blk_alloc ?_ _)); exact BK548.out⟩, ⟨by repeat (first | (with_reducible first | exact HB.out | apply below_alloc | apply pw_below_drewN | apply below_drew1 | refine below_set ?_ GE548.out) | exact HB.out)⟩⟩
  case rest =>
   clear HC12
   try clear c1
   try clear c2
   try clear p2
   try clear c3
   try clear c4
   try clear c7
   try clear c8
   try clear c13
   try clear c14
   try clear c15
   try clear c16
   try clear c22
   try clear c22b0
   try clear c22b1
   try clear hcz17_0
   try clear hcz17_1
   try clear hcz19_0
   try clear hcz19_1
   try clear hfz17_0
   try clear hfz17_1
   try clear hfz19_0
   try clear hfz19_1
   obtain ⟨kq, x52_11, rfl, HA, HJ11, HO_15, HO_16, HO_549000, BK548, HB⟩ := hcut
   cases kq with
   | zero => exact absurd HA.out (by simp [dialtonelaw34_RecoveryEarliest.j0])
   | succ kj11 =>
    have H := HA.out
    clear HA
    simp only [dialtonelaw34_RecoveryEarliest.j0] at H
    by_cases c24 : x52_11 = true
    ·
     subst c24
     have H1 : (none) = some r := by rw [if_pos rfl] at H; exact H
     clear H
     have H := H1
     clear H1
     exact absurd H (by simp)
    ·
     replace c24 := Bool.eq_false_iff.mpr c24
     subst c24
     have H1 : ((dialtonelaw34_pick.f a5 60).bind fun t556 => (if 200 ≤ 35184372088832 then (if 0 ≤ (t549.length : Int) then (if ((t549.length : Int) : Int).toNat ≤ 281474976710656 then (dialtonelaw34_RecoveryEarliest.l0 kj11 l3 l4 t549 t552 t556 (List.replicate 200 0) (List.replicate ((t549.length : Int) : Int).toNat false) 0 0 0 t544 t547) else (none)) else (none)) else (none))) = some r := by rw [if_neg (show ¬ (false = true) by decide)] at H; exact H
     clear H
     have H := H1
     clear H1
     replace H := Option.bind_eq_some_iff.mp H
     obtain ⟨t556, A250, H⟩ := H
     replace H : (if 200 ≤ 35184372088832 then (if 0 ≤ (t549.length : Int) then (if ((t549.length : Int) : Int).toNat ≤ 281474976710656 then (dialtonelaw34_RecoveryEarliest.l0 kj11 l3 l4 t549 t552 t556 (List.replicate 200 0) (List.replicate ((t549.length : Int) : Int).toNat false) 0 0 0 t544 t547) else (none)) else (none)) else (none)) = some r := H
     have A25 := Aside0.mk A250
     clear A250
     by_cases c26 : 200 ≤ 35184372088832
     ·
      rw [if_pos c26] at H
      have c26b0 := eq_true c26
      have c26b1 : decide (200 ≤ 35184372088832) = true := decide_eq_true c26
      clear c26
      obtain ⟨y557, hy557⟩ : ∃ y_ : List Int, y_ = (List.replicate 200 0) := ⟨_, rfl⟩
      replace H : (if 0 ≤ (t549.length : Int) then (if ((t549.length : Int) : Int).toNat ≤ 281474976710656 then (dialtonelaw34_RecoveryEarliest.l0 kj11 l3 l4 t549 t552 t556 y557 (List.replicate ((t549.length : Int) : Int).toNat false) 0 0 0 t544 t547) else (none)) else (none)) = some r := by first | (rw [hy557]; with_reducible exact H) | (have H2_ := (Option.bind_some _ _).symm.trans H; rw [hy557]; with_reducible exact H2_) | (have H2_ := (Option.bind_some _ _).symm.trans H; with_reducible exact H2_) | with_reducible exact H | (rw [hy557]; exact H) | exact H
      have Ny557 := Aside0.mk hy557
      clear hy557
      by_cases c27 : 0 ≤ (t549.length : Int)
      ·
       rw [if_pos c27] at H
       have c27b0 := eq_true c27
       have c27b1 : decide (0 ≤ (t549.length : Int)) = true := decide_eq_true c27
       clear c27
       by_cases c28 : ((t549.length : Int) : Int).toNat ≤ 281474976710656
       ·
        rw [if_pos c28] at H
        have c28b0 := eq_true c28
        have c28b1 : decide (((t549.length : Int) : Int).toNat ≤ 281474976710656) = true := decide_eq_true c28
        clear c28
        obtain ⟨y560, hy560⟩ : ∃ y_ : List Bool, y_ = (List.replicate ((t549.length : Int) : Int).toNat false) := ⟨_, rfl⟩
        replace H : (dialtonelaw34_RecoveryEarliest.l0 kj11 l3 l4 t549 t552 t556 y557 y560 0 0 0 t544 t547) = some r := by first | (rw [hy560]; with_reducible exact H) | (have H2_ := (Option.bind_some _ _).symm.trans H; rw [hy560]; with_reducible exact H2_) | (have H2_ := (Option.bind_some _ _).symm.trans H; with_reducible exact H2_) | with_reducible exact H | (rw [hy560]; exact H) | exact H
        have Ny560 := Aside0.mk hy560
        clear hy560
        have H' := Aside0.mk H
        clear H
        go_wp2_with (first | ((with_reducible refine gate_callee (f := 18) rfl ?_); refine goesL_ (some 54) rfl rfl Try.func18 (by kernel_rfl) rfl #[.int .i64 a5, .int .i64 60] rfl (by (try simp only [List.map_toArray, List.map_cons, List.map_nil]); first | done | rfl | (simp only [List.length_drop, List.length_take]; rfl)) ?_; (with_reducible refine (dialtonelaw34_pick.calls a5 60 t556 _ A25.out).mono ?_); rintro e w29 ⟨rfl, hb⟩; refine ⟨_, rfl, ?_⟩; have n0_ := Aside0.mk (Kd.R_below (by (with_reducible repeat (first | apply Kd.R_alloc | apply Kd.R_drewN | apply Kd.R_drew)); exact HO_15.out) hb); have n1_ := Aside0.mk (Kd.R_below (by (with_reducible repeat (first | apply Kd.R_alloc | apply Kd.R_drewN | apply Kd.R_drew)); exact HO_16.out) hb); have n2_ := Aside0.mk (Kd.R_below (by (with_reducible repeat (first | apply Kd.R_alloc | apply Kd.R_drewN | apply Kd.R_drew)); exact HO_549000.out) hb); have n3_ := Aside0.mk (blk_below (g := gb548) (o := .cells #[.slice Ao16 t544.length co16, .int .i64 t547] 26 (0, 0)) (by (with_reducible repeat (first | refine blk_drewN ?_ _ | refine blk_drew ?_ | refine blk_alloc ?_ _)); exact BK548.out) hb); have n4_ := Aside0.mk (below_step (by repeat (first | (with_reducible first | exact HB.out | apply below_alloc | apply pw_below_drewN | apply below_drew1 | refine below_set ?_ GE548.out) | exact HB.out)) hb); clear HO_15; clear HO_16; clear HO_549000; clear BK548; clear HB; have HO_15 := n0_; have HO_16 := n1_; have HO_549000 := n2_; have BK548 := n3_; have HB := n4_; clear n0_ n1_ n2_ n3_ n4_; (try clear hb); (try clear hb2); (try clear hk); (try clear hi)) | ((with_reducible refine gate_dst (N := 55) rfl ?_); (try (refine gate_guard (by rfl) ?_; dsimp only)); refine Kd.R_make (Kd.int .i64) _ 3 rfl (N := 55) rfl 54 _ _ rfl 200 rfl rfl Try.underlying54 (.int .i64 0) 8 info3 rfl (by decide) (by omega) 0 (ok := fun _ => True) (okp := fun _ => True) rfl (fun _ hk => hk) trivial (by omega) (by omega) (Below.refl _ _) (Nat.le_refl _) ?_; intro v558 w30 ho31 hb hg_ hnew_; clear hg_ hnew_; (first | rw [← Ny557.out] at ho31 | (simp only [Int.reduceToNat] at ho31; rw [← Ny557.out] at ho31)); have n0_ := Aside0.mk (Kd.R_below (by (with_reducible repeat (first | apply Kd.R_alloc | apply Kd.R_drewN | apply Kd.R_drew)); exact HO_15.out) hb); have n1_ := Aside0.mk (Kd.R_below (by (with_reducible repeat (first | apply Kd.R_alloc | apply Kd.R_drewN | apply Kd.R_drew)); exact HO_16.out) hb); have n2_ := Aside0.mk (Kd.R_below (by (with_reducible repeat (first | apply Kd.R_alloc | apply Kd.R_drewN | apply Kd.R_drew)); exact HO_549000.out) hb); have n3_ := Aside0.mk (Kd.R_lower ho31 (below_size (by repeat (first | (with_reducible first | exact HB.out | apply below_alloc | apply pw_below_drewN | apply below_drew1 | refine below_set ?_ GE548.out) | exact HB.out)))); have n4_ := Aside0.mk (blk_below (g := gb548) (o := .cells #[.slice Ao16 t544.length co16, .int .i64 t547] 26 (0, 0)) (by (with_reducible repeat (first | refine blk_drewN ?_ _ | refine blk_drew ?_ | refine blk_alloc ?_ _)); exact BK548.out) hb); have n5_ := Aside0.mk (below_step (by repeat (first | (with_reducible first | exact HB.out | apply below_alloc | apply pw_below_drewN | apply below_drew1 | refine below_set ?_ GE548.out) | exact HB.out)) hb); clear HO_15; clear HO_16; clear HO_549000; clear BK548; clear HB; have HO_15 := n0_; have HO_16 := n1_; have HO_549000 := n2_; have HO559 := n3_; have BK548 := n4_; have HB := n5_; clear n0_ n1_ n2_ n3_ n4_ n5_; clear hb ho31) | ((with_reducible refine gate_dst (N := 58) rfl ?_); (try (refine gate_guard (by rfl) ?_; dsimp only)); refine Kd.R_make Kd.bool _ 4 rfl (N := 58) rfl 62 _ _ rfl (t549.length : Int) rfl rfl Try.underlying62 (.bool false) 1 info4 rfl (by decide) (by omega) false (ok := fun _ => True) (okp := fun _ => True) rfl (fun _ hk => hk) trivial (of_decide_eq_true (by first | (with_reducible assumption) | assumption)) (Nat.le_trans (Nat.mul_le_mul_right _ (of_decide_eq_true (by first | (with_reducible assumption) | assumption) : (t549.length : Int).toNat ≤ 281474976710656)) (by omega)) (Below.refl _ _) (Nat.le_refl _) ?_; intro v561 w32 ho33 hb hg_ hnew_; clear hg_ hnew_; (first | rw [← Ny560.out] at ho33 | (simp only [Int.reduceToNat] at ho33; rw [← Ny560.out] at ho33)); have n0_ := Aside0.mk (Kd.R_below (by (with_reducible repeat (first | apply Kd.R_alloc | apply Kd.R_drewN | apply Kd.R_drew)); exact HO_15.out) hb); have n1_ := Aside0.mk (Kd.R_below (by (with_reducible repeat (first | apply Kd.R_alloc | apply Kd.R_drewN | apply Kd.R_drew)); exact HO_16.out) hb); have n2_ := Aside0.mk (Kd.R_below (by (with_reducible repeat (first | apply Kd.R_alloc | apply Kd.R_drewN | apply Kd.R_drew)); exact HO_549000.out) hb); have n3_ := Aside0.mk (Kd.R_below (by (with_reducible repeat (first | apply Kd.R_alloc | apply Kd.R_drewN | apply Kd.R_drew)); exact HO559.out) hb); have n4_ := Aside0.mk (Kd.R_lower ho33 (below_size (by repeat (first | (with_reducible first | exact HB.out | apply below_alloc | apply pw_below_drewN | apply below_drew1 | refine below_set ?_ GE548.out) | exact HB.out)))); have n5_ := Aside0.mk (blk_below (g := gb548) (o := .cells #[.slice Ao16 t544.length co16, .int .i64 t547] 26 (0, 0)) (by (with_reducible repeat (first | refine blk_drewN ?_ _ | refine blk_drew ?_ | refine blk_alloc ?_ _)); exact BK548.out) hb); have n6_ := Aside0.mk (below_step (by repeat (first | (with_reducible first | exact HB.out | apply below_alloc | apply pw_below_drewN | apply below_drew1 | refine below_set ?_ GE548.out) | exact HB.out)) hb); clear HO_15; clear HO_16; clear HO_549000; clear HO559; clear BK548; clear HB; have HO_15 := n0_; have HO_16 := n1_; have HO_549000 := n2_; have HO559 := n3_; have HO562 := n4_; have BK548 := n5_; have HB := n6_; clear n0_ n1_ n2_ n3_ n4_ n5_ n6_; clear hb ho33))
        go_loopg [21, 22, 23] kj11 (fun kq v21 v22 v23 w' => ∃ (x19_2 : List Int) (x20_2 : List Bool) (x21_2 : Int) (x22_2 : Int) (x23_2 : Int), v21 = .int .i64 x21_2 ∧ v22 = .int .i64 x22_2 ∧ v23 = .int .i64 x23_2 ∧ Aside0 (dialtonelaw34_RecoveryEarliest.l0 kq l3 l4 t549 t552 t556 x19_2 x20_2 x21_2 x22_2 x23_2 t544 t547 = some r) ∧ Aside0 (kq ≤ kj11) ∧ Aside0 (Kd.R k60 60 w' w.heap.size (fun _ => True) (.slice Ao20 t549.length co20) t549) ∧ Aside0 (Kd.R k39 39 w' w.heap.size (fun _ => True) v553 t552) ∧ Aside0 (Kd.R (Kd.int .i64) 3 w' w.heap.size (fun _ => True) v558 x19_2) ∧ Aside0 (Kd.R Kd.bool 4 w' w.heap.size (fun _ => True) v561 x20_2) ∧ Aside0 (Kd.R k67 67 w' w.heap.size (fun _ => True) (.slice Ao16 t544.length co16) t544) ∧ Aside0 (w'.heap[gb548]? = some (.cells #[(.slice Ao16 t544.length co16), .int .i64 t547] 26 (0, 0))) ∧ Aside0 (Below w.heap.size w w'))
        case atStart => exact ⟨(y557), (y560), (0), (0), (0), (by first | rfl | (simp; done) | (simp [*]; done)), (by first | rfl | (simp; done) | (simp [*]; done)), (by first | rfl | (simp; done) | (simp [*]; done)), H', ⟨Nat.le_refl _⟩, ⟨by (with_reducible repeat (first | apply Kd.R_alloc | apply Kd.R_drewN | apply Kd.R_drew)); exact HO_15.out⟩, ⟨by (with_reducible repeat (first | apply Kd.R_alloc | apply Kd.R_drewN | apply Kd.R_drew)); exact HO_16.out⟩, ⟨by (with_reducible repeat (first | apply Kd.R_alloc | apply Kd.R_drewN | apply Kd.R_drew)); exact HO559.out⟩, ⟨by (with_reducible repeat (first | apply Kd.R_alloc | apply Kd.R_drewN | apply Kd.R_drew)); exact HO562.out⟩, ⟨by (with_reducible repeat (first | apply Kd.R_alloc | apply Kd.R_drewN | apply Kd.R_drew)); exact HO_549000.out⟩, ⟨by (with_reducible repeat (first | refine blk_drewN ?_ _ | refine blk_drew ?_ | refine blk_alloc ?_ _)); exact BK548.out⟩, ⟨by repeat (first | (with_reducible first | exact HB.out | apply below_alloc | apply pw_below_drewN | apply below_drew1 | refine below_set ?_ GE548.out) | exact HB.out)⟩⟩
        case round =>
         clear H'
         try clear c1
         try clear c2
         try clear p2
         try clear c3
         try clear c4
         try clear c7
         try clear c8
         try clear c13
         try clear c14
         try clear c15
         try clear c16
         try clear c18
         try clear c22
         try clear c22b0
         try clear c22b1
         try clear c24
         try clear c26
         try clear c26b0
         try clear c26b1
         try clear c27
         try clear c27b0
         try clear c27b1
         try clear c28
         try clear c28b0
         try clear c28b1
         try clear hcz17_0
         try clear hcz17_1
         try clear hcz19_0
         try clear hcz19_1
         try clear hfz17_0
         try clear hfz17_1
         try clear hfz19_0
         try clear hfz19_1
         try clear p2
         obtain ⟨x19_2, x20_2, x21_2, x22_2, x23_2, rfl, rfl, rfl, HA, HK2, HO_15, HO_16, HO_19, HO_20, HO_549000, BK548, HB⟩ := hrel
         cases gk with
         | zero => exact absurd HA.out (by simp [dialtonelaw34_RecoveryEarliest.l0])
         | succ k2 =>
          have H := HA.out
          clear HA
          simp only [dialtonelaw34_RecoveryEarliest.l0] at H
          by_cases c34 : x23_2 < (t549.length : Int)
          ·
           rw [if_pos c34] at H
           have c34b0 : decide (x23_2 < (t549.length : Int)) = true := decide_eq_true c34
           clear c34
           have HC35 := Aside0.mk H
           clear H
           go_upto_if 68 with (fail)
           go_cut [24] (fun v24 wc => ∃ (kq : Nat) (x24_34 : Int), v24 = .int .i64 x24_34 ∧ Aside0 (dialtonelaw34_RecoveryEarliest.j2 kq l3 l4 t549 t552 t556 x19_2 x20_2 x21_2 x22_2 x23_2 x24_34 t544 t547 = some r) ∧ Aside0 (kq ≤ k2) ∧ Aside0 (Kd.R k60 60 wc w.heap.size (fun _ => True) (.slice Ao20 t549.length co20) t549) ∧ Aside0 (Kd.R k39 39 wc w.heap.size (fun _ => True) v553 t552) ∧ Aside0 (Kd.R (Kd.int .i64) 3 wc w.heap.size (fun _ => True) v558 x19_2) ∧ Aside0 (Kd.R Kd.bool 4 wc w.heap.size (fun _ => True) v561 x20_2) ∧ Aside0 (Kd.R k67 67 wc w.heap.size (fun _ => True) (.slice Ao16 t544.length co16) t544) ∧ Aside0 (wc.heap[gb548]? = some (.cells #[(.slice Ao16 t544.length co16), .int .i64 t547] 26 (0, 0))) ∧ Aside0 (Below w.heap.size w wc))
           case first =>
            have H := HC35.out
            clear HC35
            by_cases c36 : x23_2 < (l3.length : Int)
            ·
             rw [if_pos c36] at H
             have c36b0 : decide (x23_2 < (l3.length : Int)) = true := decide_eq_true c36
             clear c36
             (first | rw [c36b0] | (simp only [i64_w, i32_w]; rw [c36b0]) | skip)
             by_cases c37 : 0 ≤ x23_2
             ·
              rw [if_pos c37] at H
              have c37b0 : decide (0 ≤ x23_2) = true := decide_eq_true c37
              clear c37
              replace H := Option.bind_eq_some_iff.mp H
              obtain ⟨t564, A380, H⟩ := H
              replace H : (dialtonelaw34_RecoveryEarliest.j2 k2 l3 l4 t549 t552 t556 x19_2 x20_2 x21_2 x22_2 x23_2 t564 t544 t547) = some r := H
              have A38 := Aside0.mk A380
              clear A380
              have H' := Aside0.mk H
              clear H
              have p563 : 0 ≤ (x23_2 : Int) := of_decide_eq_true (by first | (with_reducible assumption) | assumption)
              have q563 : x23_2 < (l3.length : Int) := of_decide_eq_true (by first | (with_reducible assumption) | assumption)
              obtain ⟨ad563, e563, hx563_0⟩ := Kd.at_int HR3.out x23_2 p563 q563
              cases e563
              replace hx563_0 := (HB.out.cell (World.block_lt_of_cell? w _ hx563_0)).trans hx563_0
              replace p563 := eq_true p563
              replace q563 := eq_true q563
              go_wp2_with (first | ((with_reducible refine gate_callee (f := 18) rfl ?_); refine goesL_ (some 75) rfl rfl Try.func18 (by kernel_rfl) rfl #[.int .i64 (rd l3 x23_2), .int .i64 (t549.length : Int)] rfl (by (try simp only [List.map_toArray, List.map_cons, List.map_nil]); first | done | rfl | (simp only [List.length_drop, List.length_take]; rfl)) ?_; (with_reducible refine (dialtonelaw34_pick.calls (rd l3 x23_2) (t549.length : Int) t564 _ A38.out).mono ?_); rintro e w39 ⟨rfl, hb⟩; refine ⟨_, rfl, ?_⟩; have n0_ := Aside0.mk (Kd.R_below (by (with_reducible repeat (first | apply Kd.R_alloc | apply Kd.R_drewN | apply Kd.R_drew)); exact HO_15.out) hb); have n1_ := Aside0.mk (Kd.R_below (by (with_reducible repeat (first | apply Kd.R_alloc | apply Kd.R_drewN | apply Kd.R_drew)); exact HO_16.out) hb); have n2_ := Aside0.mk (Kd.R_below (by (with_reducible repeat (first | apply Kd.R_alloc | apply Kd.R_drewN | apply Kd.R_drew)); exact HO_19.out) hb); have n3_ := Aside0.mk (Kd.R_below (by (with_reducible repeat (first | apply Kd.R_alloc | apply Kd.R_drewN | apply Kd.R_drew)); exact HO_20.out) hb); have n4_ := Aside0.mk (Kd.R_below (by (with_reducible repeat (first | apply Kd.R_alloc | apply Kd.R_drewN | apply Kd.R_drew)); exact HO_549000.out) hb); have n5_ := Aside0.mk (blk_below (g := gb548) (o := .cells #[.slice Ao16 t544.length co16, .int .i64 t547] 26 (0, 0)) (by (with_reducible repeat (first | refine blk_drewN ?_ _ | refine blk_drew ?_ | refine blk_alloc ?_ _)); exact BK548.out) hb); have n6_ := Aside0.mk (below_step (by repeat (first | (with_reducible first | exact HB.out | apply below_alloc | apply pw_below_drewN | apply below_drew1 | refine below_set ?_ GE548.out) | exact HB.out)) hb); clear HO_15; clear HO_16; clear HO_19; clear HO_20; clear HO_549000; clear BK548; clear HB; have HO_15 := n0_; have HO_16 := n1_; have HO_19 := n2_; have HO_20 := n3_; have HO_549000 := n4_; have BK548 := n5_; have HB := n6_; clear n0_ n1_ n2_ n3_ n4_ n5_ n6_; (try clear hb); (try clear hb2); (try clear hk); (try clear hi)))
              go_meet
              case rel => exact ⟨_, (t564), (by first | rfl | (simp; done) | (simp [*]; done)), H', ⟨by have := HJ11.out; have := HK2.out; first | omega | exact Nat.le_refl _⟩, ⟨by (with_reducible repeat (first | apply Kd.R_alloc | apply Kd.R_drewN | apply Kd.R_drew)); exact HO_15.out⟩, ⟨by (with_reducible repeat (first | apply Kd.R_alloc | apply Kd.R_drewN | apply Kd.R_drew)); exact HO_16.out⟩, ⟨by (with_reducible repeat (first | apply Kd.R_alloc | apply Kd.R_drewN | apply Kd.R_drew)); exact HO_19.out⟩, ⟨by (with_reducible repeat (first | apply Kd.R_alloc | apply Kd.R_drewN | apply Kd.R_drew)); exact HO_20.out⟩, ⟨by (with_reducible repeat (first | apply Kd.R_alloc | apply Kd.R_drewN | apply Kd.R_drew)); exact HO_549000.out⟩, ⟨by (with_reducible repeat (first | refine blk_drewN ?_ _ | refine blk_drew ?_ | refine blk_alloc ?_ _)); exact BK548.out⟩, ⟨by repeat (first | (with_reducible first | exact HB.out | apply below_alloc | apply pw_below_drewN | apply below_drew1 | refine below_set ?_ GE548.out) | exact HB.out)⟩⟩
             ·
              rw [if_neg c37] at H
              exact absurd H (by simp)
            ·
             rw [if_neg c36] at H
             have c36b0 : decide (x23_2 < (l3.length : Int)) = false := decide_eq_false c36
             clear c36
             (first | rw [c36b0] | (simp only [i64_w, i32_w]; rw [c36b0]) | skip)
             have H' := Aside0.mk H
             clear H
             go_wp2
             go_meet
             case rel => exact ⟨_, (0), (by first | rfl | (simp; done) | (simp [*]; done)), H', ⟨by have := HJ11.out; have := HK2.out; first | omega | exact Nat.le_refl _⟩, ⟨by (with_reducible repeat (first | apply Kd.R_alloc | apply Kd.R_drewN | apply Kd.R_drew)); exact HO_15.out⟩, ⟨by (with_reducible repeat (first | apply Kd.R_alloc | apply Kd.R_drewN | apply Kd.R_drew)); exact HO_16.out⟩, ⟨by (with_reducible repeat (first | apply Kd.R_alloc | apply Kd.R_drewN | apply Kd.R_drew)); exact HO_19.out⟩, ⟨by (with_reducible repeat (first | apply Kd.R_alloc | apply Kd.R_drewN | apply Kd.R_drew)); exact HO_20.out⟩, ⟨by (with_reducible repeat (first | apply Kd.R_alloc | apply Kd.R_drewN | apply Kd.R_drew)); exact HO_549000.out⟩, ⟨by (with_reducible repeat (first | refine blk_drewN ?_ _ | refine blk_drew ?_ | refine blk_alloc ?_ _)); exact BK548.out⟩, ⟨by repeat (first | (with_reducible first | exact HB.out | apply below_alloc | apply pw_below_drewN | apply below_drew1 | refine below_set ?_ GE548.out) | exact HB.out)⟩⟩
           case rest =>
            clear HC35
            try clear c1
            try clear c2
            try clear p2
            try clear c3
            try clear c4
            try clear p5
            try clear q5
            try clear hx5
            try clear c7
            try clear c8
            try clear c13
            try clear c14
            try clear c15
            try clear c16
            try clear c18
            try clear c22
            try clear c22b0
            try clear c22b1
            try clear c24
            try clear c26
            try clear c26b0
            try clear c26b1
            try clear c27
            try clear c27b0
            try clear c27b1
            try clear c28
            try clear c28b0
            try clear c28b1
            try clear c34
            try clear c34b0
            try clear c36
            try clear c36b0
            try clear c37
            try clear c37b0
            try clear hcz17_0
            try clear hcz17_1
            try clear hcz19_0
            try clear hcz19_1
            try clear hfz17_0
            try clear hfz17_1
            try clear hfz19_0
            try clear hfz19_1
            try clear hx563_0
            try clear p2
            try clear p563
            try clear q563
            obtain ⟨kq, x24_34, rfl, HA, HJ34, HO_15, HO_16, HO_19, HO_20, HO_549000, BK548, HB⟩ := hcut
            cases kq with
            | zero => exact absurd HA.out (by simp [dialtonelaw34_RecoveryEarliest.j2])
            | succ kj34 =>
             have H := HA.out
             clear HA
             simp only [dialtonelaw34_RecoveryEarliest.j2] at H
             have H' := Aside0.mk H
             clear H
             go_wp2
             go_loopg [24] kj34 (fun kq v24 w' => ∃ (x24_4 : Int), v24 = .int .i64 x24_4 ∧ Aside0 (dialtonelaw34_RecoveryEarliest.l1 kq l3 l4 t549 t552 t556 x19_2 x20_2 x21_2 x22_2 x23_2 x24_4 t544 t547 = some r) ∧ Aside0 (kq ≤ kj34) ∧ Aside0 (Kd.R k60 60 w' w.heap.size (fun _ => True) (.slice Ao20 t549.length co20) t549) ∧ Aside0 (Kd.R k39 39 w' w.heap.size (fun _ => True) v553 t552) ∧ Aside0 (Kd.R (Kd.int .i64) 3 w' w.heap.size (fun _ => True) v558 x19_2) ∧ Aside0 (Kd.R Kd.bool 4 w' w.heap.size (fun _ => True) v561 x20_2) ∧ Aside0 (Kd.R k67 67 w' w.heap.size (fun _ => True) (.slice Ao16 t544.length co16) t544) ∧ Aside0 (w'.heap[gb548]? = some (.cells #[(.slice Ao16 t544.length co16), .int .i64 t547] 26 (0, 0))) ∧ Aside0 (Below w.heap.size w w'))
             case atStart => exact ⟨(x24_34), (by first | rfl | (simp; done) | (simp [*]; done)), H', ⟨Nat.le_refl _⟩, ⟨by (with_reducible repeat (first | apply Kd.R_alloc | apply Kd.R_drewN | apply Kd.R_drew)); exact HO_15.out⟩, ⟨by (with_reducible repeat (first | apply Kd.R_alloc | apply Kd.R_drewN | apply Kd.R_drew)); exact HO_16.out⟩, ⟨by (with_reducible repeat (first | apply Kd.R_alloc | apply Kd.R_drewN | apply Kd.R_drew)); exact HO_19.out⟩, ⟨by (with_reducible repeat (first | apply Kd.R_alloc | apply Kd.R_drewN | apply Kd.R_drew)); exact HO_20.out⟩, ⟨by (with_reducible repeat (first | apply Kd.R_alloc | apply Kd.R_drewN | apply Kd.R_drew)); exact HO_549000.out⟩, ⟨by (with_reducible repeat (first | refine blk_drewN ?_ _ | refine blk_drew ?_ | refine blk_alloc ?_ _)); exact BK548.out⟩, ⟨by repeat (first | (with_reducible first | exact HB.out | apply below_alloc | apply pw_below_drewN | apply below_drew1 | refine below_set ?_ GE548.out) | exact HB.out)⟩⟩
             case round =>
              clear H'
              try clear c1
              try clear c2
              try clear p2
              try clear c3
              try clear c4
              try clear p5
              try clear q5
              try clear hx5
              try clear c7
              try clear c8
              try clear c13
              try clear c14
              try clear c15
              try clear c16
              try clear c18
              try clear c22
              try clear c22b0
              try clear c22b1
              try clear c24
              try clear c26
              try clear c26b0
              try clear c26b1
              try clear c27
              try clear c27b0
              try clear c27b1
              try clear c28
              try clear c28b0
              try clear c28b1
              try clear c34
              try clear c34b0
              try clear c36
              try clear c36b0
              try clear c37
              try clear c37b0
              try clear hcz17_0
              try clear hcz17_1
              try clear hcz19_0
              try clear hcz19_1
              try clear hfz17_0
              try clear hfz17_1
              try clear hfz19_0
              try clear hfz19_1
              try clear hx563_0
              try clear p2
              try clear p5
              try clear p563
              try clear q5
              try clear q563
              obtain ⟨x24_4, rfl, HA, HK4, HO_15, HO_16, HO_19, HO_20, HO_549000, BK548, HB⟩ := hrel
              cases gk with
              | zero => exact absurd HA.out (by simp [dialtonelaw34_RecoveryEarliest.l1])
              | succ k4 =>
               have H := HA.out
               clear HA
               simp only [dialtonelaw34_RecoveryEarliest.l1] at H
               by_cases c40 : 0 ≤ x24_4
               ·
                rw [if_pos c40] at H
                have c40b0 : decide (0 ≤ x24_4) = true := decide_eq_true c40
                clear c40
                by_cases c41 : x24_4 < (x20_2.length : Int)
                ·
                 rw [if_pos c41] at H
                 have c41b0 : decide (x24_4 < (x20_2.length : Int)) = true := decide_eq_true c41
                 clear c41
                 obtain ⟨bq42, hbq42⟩ : ∃ b_ : Bool, b_ = (rdOf false x20_2 x24_4) := ⟨_, rfl⟩
                 replace H : (if bq42 = true then (if (t549.length : Int) = 0 then (none) else (dialtonelaw34_RecoveryEarliest.l1 k4 l3 l4 t549 t552 t556 x19_2 x20_2 x21_2 x22_2 x23_2 (Int.tmod (wrap64 (x24_4 + 1)) (t549.length : Int)) t544 t547)) else ((some (x20_2.set (x24_4 : Int).toNat true : List Bool)).bind fun y566 => (if x24_4 < (t549.length : Int) then (if (rd_T60 t549 x24_4).f2 = true then (if ((rd_T60 t549 x24_4).f1) ≤ t556 then (dialtonelaw34_RecoveryEarliest.l0 k4 l3 l4 t549 t552 t556 x19_2 y566 x21_2 (wrap64 (x22_2 + 1)) (wrap64 (x23_2 + 1)) t544 t547) else (dialtonelaw34_RecoveryEarliest.l0 k4 l3 l4 t549 t552 t556 x19_2 y566 x21_2 x22_2 (wrap64 (x23_2 + 1)) t544 t547)) else (if x23_2 < (l4.length : Int) then (if 0 ≤ x23_2 then ((dialtonelaw34_pick.f (rd l4 x23_2) 5).bind fun t571 => (dialtonelaw34_RecoveryEarliest.j4 k4 l3 l4 t549 t552 t556 x19_2 y566 x21_2 x22_2 x23_2 (wrap64 (((rd_T60 t549 x24_4).f1) + t571)) t544 t547)) else (none)) else (dialtonelaw34_RecoveryEarliest.j4 k4 l3 l4 t549 t552 t556 x19_2 y566 x21_2 x22_2 x23_2 ((rd_T60 t549 x24_4).f1) t544 t547))) else (none)))) = some r := by rw [← hbq42] at H; exact H
                 have Nbq42 := Aside0.mk hbq42
                 clear hbq42
                 by_cases c43 : bq42 = true
                 ·
                  subst c43
                  have H1 : (if (t549.length : Int) = 0 then (none) else (dialtonelaw34_RecoveryEarliest.l1 k4 l3 l4 t549 t552 t556 x19_2 x20_2 x21_2 x22_2 x23_2 (Int.tmod (wrap64 (x24_4 + 1)) (t549.length : Int)) t544 t547)) = some r := by rw [if_pos rfl] at H; exact H
                  clear H
                  have H := H1
                  clear H1
                  by_cases c44 : (t549.length : Int) = 0
                  ·
                   rw [if_pos c44] at H
                   exact absurd H (by simp)
                  ·
                   rw [if_neg c44] at H
                   have c44b0 : ((t549.length : Int) == 0) = false := beq_eq_false_iff_ne.mpr c44
                   have c44b1 : ((t549.length : Int) != 0) = true := bne_iff_ne.mpr c44
                   have c44b2 : ¬ (t549 = []) := fun h_ => c44 (by rw [h_]; rfl)
                   have H' := Aside0.mk H
                   clear H
                   obtain ⟨Ao45, co45, eo45⟩ := Kd.R_slice HO_20.out
                   subst eo45
                   have p565 : 0 ≤ (x24_4 : Int) := of_decide_eq_true (by first | (with_reducible assumption) | assumption)
                   have q565 : x24_4 < (x20_2.length : Int) := of_decide_eq_true (by first | (with_reducible assumption) | assumption)
                   obtain ⟨ad565, e565, hx565_0⟩ := Kd.at_bool (Kd.R_reads' HO_20.out).2.2 x24_4 p565 q565
                   (try rw [← Nbq42.out] at hx565_0)
                   cases e565
                   replace p565 := eq_true p565
                   replace q565 := eq_true q565
                   go_wp2
                   go_roundg k4
                   case measure => have := HJ11.out; have := HK2.out; have := HJ34.out; have := HK4.out; omega
                   case rel => exact ⟨(Int.tmod (wrap64 (x24_4 + 1)) (t549.length : Int)), (by first | rfl | (simp; done) | (simp [*]; done)), H', ⟨by have := HJ11.out; have := HK2.out; have := HJ34.out; have := HK4.out; omega⟩, ⟨by (with_reducible repeat (first | apply Kd.R_alloc | apply Kd.R_drewN | apply Kd.R_drew)); exact HO_15.out⟩, ⟨by (with_reducible repeat (first | apply Kd.R_alloc | apply Kd.R_drewN | apply Kd.R_drew)); exact HO_16.out⟩, ⟨by (with_reducible repeat (first | apply Kd.R_alloc | apply Kd.R_drewN | apply Kd.R_drew)); exact HO_19.out⟩, ⟨by (with_reducible repeat (first | apply Kd.R_alloc | apply Kd.R_drewN | apply Kd.R_drew)); exact HO_20.out⟩, ⟨by (with_reducible repeat (first | apply Kd.R_alloc | apply Kd.R_drewN | apply Kd.R_drew)); exact HO_549000.out⟩, ⟨by (with_reducible repeat (first | refine blk_drewN ?_ _ | refine blk_drew ?_ | refine blk_alloc ?_ _)); exact BK548.out⟩, ⟨by repeat (first | (with_reducible first | exact HB.out | apply below_alloc | apply pw_below_drewN | apply below_drew1 | refine below_set ?_ GE548.out) | exact HB.out)⟩⟩
                 ·
                  replace c43 := Bool.eq_false_iff.mpr c43
                  subst c43
                  have H1 : ((some (x20_2.set (x24_4 : Int).toNat true : List Bool)).bind fun y566 => (if x24_4 < (t549.length : Int) then (if (rd_T60 t549 x24_4).f2 = true then (if ((rd_T60 t549 x24_4).f1) ≤ t556 then (dialtonelaw34_RecoveryEarliest.l0 k4 l3 l4 t549 t552 t556 x19_2 y566 x21_2 (wrap64 (x22_2 + 1)) (wrap64 (x23_2 + 1)) t544 t547) else (dialtonelaw34_RecoveryEarliest.l0 k4 l3 l4 t549 t552 t556 x19_2 y566 x21_2 x22_2 (wrap64 (x23_2 + 1)) t544 t547)) else (if x23_2 < (l4.length : Int) then (if 0 ≤ x23_2 then ((dialtonelaw34_pick.f (rd l4 x23_2) 5).bind fun t571 => (dialtonelaw34_RecoveryEarliest.j4 k4 l3 l4 t549 t552 t556 x19_2 y566 x21_2 x22_2 x23_2 (wrap64 (((rd_T60 t549 x24_4).f1) + t571)) t544 t547)) else (none)) else (dialtonelaw34_RecoveryEarliest.j4 k4 l3 l4 t549 t552 t556 x19_2 y566 x21_2 x22_2 x23_2 ((rd_T60 t549 x24_4).f1) t544 t547))) else (none))) = some r := by rw [if_neg (show ¬ (false = true) by decide)] at H; exact H
                  clear H
                  have H := H1
                  clear H1
                  obtain ⟨y566, hy566⟩ : ∃ y_ : List Bool, y_ = (x20_2.set (x24_4 : Int).toNat true) := ⟨_, rfl⟩
                  replace H : (if x24_4 < (t549.length : Int) then (if (rd_T60 t549 x24_4).f2 = true then (if ((rd_T60 t549 x24_4).f1) ≤ t556 then (dialtonelaw34_RecoveryEarliest.l0 k4 l3 l4 t549 t552 t556 x19_2 y566 x21_2 (wrap64 (x22_2 + 1)) (wrap64 (x23_2 + 1)) t544 t547) else (dialtonelaw34_RecoveryEarliest.l0 k4 l3 l4 t549 t552 t556 x19_2 y566 x21_2 x22_2 (wrap64 (x23_2 + 1)) t544 t547)) else (if x23_2 < (l4.length : Int) then (if 0 ≤ x23_2 then ((dialtonelaw34_pick.f (rd l4 x23_2) 5).bind fun t571 => (dialtonelaw34_RecoveryEarliest.j4 k4 l3 l4 t549 t552 t556 x19_2 y566 x21_2 x22_2 x23_2 (wrap64 (((rd_T60 t549 x24_4).f1) + t571)) t544 t547)) else (none)) else (dialtonelaw34_RecoveryEarliest.j4 k4 l3 l4 t549 t552 t556 x19_2 y566 x21_2 x22_2 x23_2 ((rd_T60 t549 x24_4).f1) t544 t547))) else (none)) = some r := by first | (rw [hy566]; with_reducible exact H) | (have H2_ := (Option.bind_some _ _).symm.trans H; rw [hy566]; with_reducible exact H2_) | (have H2_ := (Option.bind_some _ _).symm.trans H; with_reducible exact H2_) | with_reducible exact H | (rw [hy566]; exact H) | exact H
                  have Ny566 := Aside0.mk hy566
                  clear hy566
                  by_cases c47 : x24_4 < (t549.length : Int)
                  ·
                   rw [if_pos c47] at H
                   have c47b0 : decide (x24_4 < (t549.length : Int)) = true := decide_eq_true c47
                   clear c47
                   obtain ⟨bq48, hbq48⟩ : ∃ b_ : Bool, b_ = ((rd_T60 t549 x24_4).f2) := ⟨_, rfl⟩
                   replace H : (if bq48 = true then (if ((rd_T60 t549 x24_4).f1) ≤ t556 then (dialtonelaw34_RecoveryEarliest.l0 k4 l3 l4 t549 t552 t556 x19_2 y566 x21_2 (wrap64 (x22_2 + 1)) (wrap64 (x23_2 + 1)) t544 t547) else (dialtonelaw34_RecoveryEarliest.l0 k4 l3 l4 t549 t552 t556 x19_2 y566 x21_2 x22_2 (wrap64 (x23_2 + 1)) t544 t547)) else (if x23_2 < (l4.length : Int) then (if 0 ≤ x23_2 then ((dialtonelaw34_pick.f (rd l4 x23_2) 5).bind fun t571 => (dialtonelaw34_RecoveryEarliest.j4 k4 l3 l4 t549 t552 t556 x19_2 y566 x21_2 x22_2 x23_2 (wrap64 (((rd_T60 t549 x24_4).f1) + t571)) t544 t547)) else (none)) else (dialtonelaw34_RecoveryEarliest.j4 k4 l3 l4 t549 t552 t556 x19_2 y566 x21_2 x22_2 x23_2 ((rd_T60 t549 x24_4).f1) t544 t547))) = some r := by rw [← hbq48] at H; exact H
                   have Nbq48 := Aside0.mk hbq48
                   clear hbq48
                   by_cases c49 : bq48 = true
                   ·
                    subst c49
                    have H1 : (if ((rd_T60 t549 x24_4).f1) ≤ t556 then (dialtonelaw34_RecoveryEarliest.l0 k4 l3 l4 t549 t552 t556 x19_2 y566 x21_2 (wrap64 (x22_2 + 1)) (wrap64 (x23_2 + 1)) t544 t547) else (dialtonelaw34_RecoveryEarliest.l0 k4 l3 l4 t549 t552 t556 x19_2 y566 x21_2 x22_2 (wrap64 (x23_2 + 1)) t544 t547)) = some r := by rw [if_pos rfl] at H; exact H
                    clear H
                    have H := H1
                    clear H1
                    by_cases c50 : ((rd_T60 t549 x24_4).f1) ≤ t556
                    ·
                     rw [if_pos c50] at H
                     have c50b0 : decide (((rd_T60 t549 x24_4).f1) ≤ t556) = true := decide_eq_true c50
                     clear c50
                     have H' := Aside0.mk H
                     clear H
                     obtain ⟨Ao51, co51, eo51⟩ := Kd.R_slice HO_20.out
                     subst eo51
                     have p565 : 0 ≤ (x24_4 : Int) := of_decide_eq_true (by first | (with_reducible assumption) | assumption)
                     have q565 : x24_4 < (x20_2.length : Int) := of_decide_eq_true (by first | (with_reducible assumption) | assumption)
                     obtain ⟨ad565, e565, hx565_0⟩ := Kd.at_bool (Kd.R_reads' HO_20.out).2.2 x24_4 p565 q565
                     (try rw [← Nbq42.out] at hx565_0)
                     (try rw [← Nbq48.out] at hx565_0)
                     cases e565
                     replace p565 := eq_true p565
                     replace q565 := eq_true q565
                     have p46 : 0 ≤ (x24_4 : Int) := of_decide_eq_true (by first | (with_reducible assumption) | assumption)
                     have q46 : (x24_4 : Int) < ((x20_2.length : Int) : Int) := of_decide_eq_true (by first | (with_reducible assumption) | assumption)
                     obtain ⟨go46, co46, eo46, gb46, gl46, cl46, HG46⟩ := Kd.R_form HO_20.out (by omega)
                     (first | cases eo46 | (injection eo46 with ea_ en_ ec_; (first | subst ea_ | (injection ea_ with ea_; subst ea_)); subst ec_; clear en_))
                     have GB46 := Aside0.mk gb46
                     have GG46 := Aside0.mk HG46
                     clear gb46 gl46 HG46
                     (first | simp only [add_plain] at hx565_0 | skip)
                     obtain ⟨hx46_0, hf46_0⟩ := Kd.R_celln false HO_20.out (x24_4 : Int) p46 q46
                     replace p46 := eq_true p46
                     replace q46 := eq_true q46
                     have HP52 := Kd.R_putg HO_20.out (x24_4 : Int) true
                     go_wp2_with (first | ((with_reducible refine gate_store (t := 4) (p := 87) rfl ?_); refine store_event (t := 4) (p := 87) (v := ?vo_w53) (w1 := (wr.setCell ⟨go46, (x24_4 : Int).toNat, none⟩ (.bool true))) ?hg ?ho ?hn ?hr ?_; (case ho => rfl); (case hg => rfl); (case hn => rfl); (case hr => first | (go_simp; done) | (go_simp; rfl)); intro w53 hw; have hg : wr.grownBy w53 (some go46) := (by rw [hw]; exact HP52.2); have hp_ : Kd.R Kd.bool 4 w53 w.heap.size (fun _ => True) (.slice (some ⟨go46, 0, none⟩) x20_2.length co51) y566 := (by rw [hw, Ny566.out]; exact HP52.1); clear HP52; have n0_ := Aside0.mk (Kd.R_over' (v := (.slice (some ⟨go46, 0, none⟩) x20_2.length co51)) (by (with_reducible repeat (first | apply Kd.R_alloc | apply Kd.R_drewN | apply Kd.R_drew)); exact HO_15.out) (Kd.R_typed HO_20.out) (by decide) hg); have n1_ := Aside0.mk (Kd.R_over' (v := (.slice (some ⟨go46, 0, none⟩) x20_2.length co51)) (by (with_reducible repeat (first | apply Kd.R_alloc | apply Kd.R_drewN | apply Kd.R_drew)); exact HO_16.out) (Kd.R_typed HO_20.out) (by decide) hg); have n2_ := Aside0.mk (Kd.R_over' (v := (.slice (some ⟨go46, 0, none⟩) x20_2.length co51)) (by (with_reducible repeat (first | apply Kd.R_alloc | apply Kd.R_drewN | apply Kd.R_drew)); exact HO_19.out) (Kd.R_typed HO_20.out) (by decide) hg); have n3_ := Aside0.mk (hp_); have n4_ := Aside0.mk (Kd.R_over' (v := (.slice (some ⟨go46, 0, none⟩) x20_2.length co51)) (by (with_reducible repeat (first | apply Kd.R_alloc | apply Kd.R_drewN | apply Kd.R_drew)); exact HO_549000.out) (Kd.R_typed HO_20.out) (by decide) hg); have n5_ := Aside0.mk (blk_grown (g := gb548) (o := .cells #[.slice Ao16 t544.length co16, .int .i64 t547] 26 (0, 0)) (by (with_reducible repeat (first | refine blk_drewN ?_ _ | refine blk_drew ?_ | refine blk_alloc ?_ _)); exact BK548.out) hg (Kd.R_ne HO_20.out BK548.out (by decide))); have n6_ := Aside0.mk ((by rw [hw]; exact below_set (HB.out) GB46.out : Below w.heap.size w w53)); clear HO_15; clear HO_16; clear HO_19; clear HO_20; clear HO_549000; clear BK548; clear HB; have HO_15 := n0_; have HO_16 := n1_; have HO_19 := n2_; have HO_20 := n3_; have HO_549000 := n4_; have BK548 := n5_; have HB := n6_; clear n0_ n1_ n2_ n3_ n4_ n5_ n6_; clear hg hw hp_; have p567 : 0 ≤ (x24_4 : Int) := of_decide_eq_true (by first | (with_reducible assumption) | assumption); have q567 : x24_4 < (t549.length : Int) := of_decide_eq_true (by first | (with_reducible assumption) | assumption); obtain ⟨ad567, e567, hx567_0, hx567_1, hx567_2⟩ := at_T60 (Kd.R_reads' HO_15.out).2.2 x24_4 p567 q567; (try rw [← Nbq42.out] at hx567_2); (try rw [← Nbq48.out] at hx567_2); cases e567; replace p567 := eq_true p567; replace q567 := eq_true q567; have p568 : 0 ≤ (x24_4 : Int) := of_decide_eq_true (by first | (with_reducible assumption) | assumption); have q568 : x24_4 < (t549.length : Int) := of_decide_eq_true (by first | (with_reducible assumption) | assumption); obtain ⟨ad568, e568, hx568_0, hx568_1, hx568_2⟩ := at_T60 (Kd.R_reads' HO_15.out).2.2 x24_4 p568 q568; (try rw [← Nbq42.out] at hx568_2); (try rw [← Nbq48.out] at hx568_2); obtain rfl : ad567 = ad568 := (by injection e568); replace p568 := eq_true p568; replace q568 := eq_true q568))
                     go_roundg k4
                     case measure => have := HJ11.out; have := HK2.out; have := HJ34.out; have := HK4.out; omega
                     case rel => exact ⟨(x19_2), (y566), (x21_2), (wrap64 (x22_2 + 1)), (wrap64 (x23_2 + 1)), (by first | rfl | (simp; done) | (simp [*]; done)), (by first | rfl | (simp; done) | (simp [*]; done)), (by first | rfl | (simp; done) | (simp [*]; done)), H', ⟨by have := HJ11.out; have := HK2.out; have := HJ34.out; have := HK4.out; omega⟩, ⟨by (with_reducible repeat (first | apply Kd.R_alloc | apply Kd.R_drewN | apply Kd.R_drew)); exact HO_15.out⟩, ⟨by (with_reducible repeat (first | apply Kd.R_alloc | apply Kd.R_drewN | apply Kd.R_drew)); exact HO_16.out⟩, ⟨by (with_reducible repeat (first | apply Kd.R_alloc | apply Kd.R_drewN | apply Kd.R_drew)); exact HO_19.out⟩, ⟨by (with_reducible repeat (first | apply Kd.R_alloc | apply Kd.R_drewN | apply Kd.R_drew)); exact HO_20.out⟩, ⟨by (with_reducible repeat (first | apply Kd.R_alloc | apply Kd.R_drewN | apply Kd.R_drew)); exact HO_549000.out⟩, ⟨by (with_reducible repeat (first | refine blk_drewN ?_ _ | refine blk_drew ?_ | refine blk_alloc ?_ _)); exact BK548.out⟩, ⟨by repeat (first | (with_reducible first | exact HB.out | apply below_alloc | apply pw_below_drewN | apply below_drew1 | refine below_set ?_ GE548.out) | exact HB.out)⟩⟩
                    ·
                     rw [if_neg c50] at H
                     have c50b0 : decide (((rd_T60 t549 x24_4).f1) ≤ t556) = false := decide_eq_false c50
                     clear c50
                     have H' := Aside0.mk H
                     clear H
                     obtain ⟨Ao54, co54, eo54⟩ := Kd.R_slice HO_20.out
                     subst eo54
                     have p565 : 0 ≤ (x24_4 : Int) := of_decide_eq_true (by first | (with_reducible assumption) | assumption)
                     have q565 : x24_4 < (x20_2.length : Int) := of_decide_eq_true (by first | (with_reducible assumption) | assumption)
                     obtain ⟨ad565, e565, hx565_0⟩ := Kd.at_bool (Kd.R_reads' HO_20.out).2.2 x24_4 p565 q565
                     (try rw [← Nbq42.out] at hx565_0)
                     (try rw [← Nbq48.out] at hx565_0)
                     cases e565
                     replace p565 := eq_true p565
                     replace q565 := eq_true q565
                     have p46 : 0 ≤ (x24_4 : Int) := of_decide_eq_true (by first | (with_reducible assumption) | assumption)
                     have q46 : (x24_4 : Int) < ((x20_2.length : Int) : Int) := of_decide_eq_true (by first | (with_reducible assumption) | assumption)
                     obtain ⟨go46, co46, eo46, gb46, gl46, cl46, HG46⟩ := Kd.R_form HO_20.out (by omega)
                     (first | cases eo46 | (injection eo46 with ea_ en_ ec_; (first | subst ea_ | (injection ea_ with ea_; subst ea_)); subst ec_; clear en_))
                     have GB46 := Aside0.mk gb46
                     have GG46 := Aside0.mk HG46
                     clear gb46 gl46 HG46
                     (first | simp only [add_plain] at hx565_0 | skip)
                     obtain ⟨hx46_0, hf46_0⟩ := Kd.R_celln false HO_20.out (x24_4 : Int) p46 q46
                     replace p46 := eq_true p46
                     replace q46 := eq_true q46
                     have HP55 := Kd.R_putg HO_20.out (x24_4 : Int) true
                     go_wp2_with (first | ((with_reducible refine gate_store (t := 4) (p := 87) rfl ?_); refine store_event (t := 4) (p := 87) (v := ?vo_w56) (w1 := (wr.setCell ⟨go46, (x24_4 : Int).toNat, none⟩ (.bool true))) ?hg ?ho ?hn ?hr ?_; (case ho => rfl); (case hg => rfl); (case hn => rfl); (case hr => first | (go_simp; done) | (go_simp; rfl)); intro w56 hw; have hg : wr.grownBy w56 (some go46) := (by rw [hw]; exact HP55.2); have hp_ : Kd.R Kd.bool 4 w56 w.heap.size (fun _ => True) (.slice (some ⟨go46, 0, none⟩) x20_2.length co54) y566 := (by rw [hw, Ny566.out]; exact HP55.1); clear HP55; have n0_ := Aside0.mk (Kd.R_over' (v := (.slice (some ⟨go46, 0, none⟩) x20_2.length co54)) (by (with_reducible repeat (first | apply Kd.R_alloc | apply Kd.R_drewN | apply Kd.R_drew)); exact HO_15.out) (Kd.R_typed HO_20.out) (by decide) hg); have n1_ := Aside0.mk (Kd.R_over' (v := (.slice (some ⟨go46, 0, none⟩) x20_2.length co54)) (by (with_reducible repeat (first | apply Kd.R_alloc | apply Kd.R_drewN | apply Kd.R_drew)); exact HO_16.out) (Kd.R_typed HO_20.out) (by decide) hg); have n2_ := Aside0.mk (Kd.R_over' (v := (.slice (some ⟨go46, 0, none⟩) x20_2.length co54)) (by (with_reducible repeat (first | apply Kd.R_alloc | apply Kd.R_drewN | apply Kd.R_drew)); exact HO_19.out) (Kd.R_typed HO_20.out) (by decide) hg); have n3_ := Aside0.mk (hp_); have n4_ := Aside0.mk (Kd.R_over' (v := (.slice (some ⟨go46, 0, none⟩) x20_2.length co54)) (by (with_reducible repeat (first | apply Kd.R_alloc | apply Kd.R_drewN | apply Kd.R_drew)); exact HO_549000.out) (Kd.R_typed HO_20.out) (by decide) hg); have n5_ := Aside0.mk (blk_grown (g := gb548) (o := .cells #[.slice Ao16 t544.length co16, .int .i64 t547] 26 (0, 0)) (by (with_reducible repeat (first | refine blk_drewN ?_ _ | refine blk_drew ?_ | refine blk_alloc ?_ _)); exact BK548.out) hg (Kd.R_ne HO_20.out BK548.out (by decide))); have n6_ := Aside0.mk ((by rw [hw]; exact below_set (HB.out) GB46.out : Below w.heap.size w w56)); clear HO_15; clear HO_16; clear HO_19; clear HO_20; clear HO_549000; clear BK548; clear HB; have HO_15 := n0_; have HO_16 := n1_; have HO_19 := n2_; have HO_20 := n3_; have HO_549000 := n4_; have BK548 := n5_; have HB := n6_; clear n0_ n1_ n2_ n3_ n4_ n5_ n6_; clear hg hw hp_; have p567 : 0 ≤ (x24_4 : Int) := of_decide_eq_true (by first | (with_reducible assumption) | assumption); have q567 : x24_4 < (t549.length : Int) := of_decide_eq_true (by first | (with_reducible assumption) | assumption); obtain ⟨ad567, e567, hx567_0, hx567_1, hx567_2⟩ := at_T60 (Kd.R_reads' HO_15.out).2.2 x24_4 p567 q567; (try rw [← Nbq42.out] at hx567_2); (try rw [← Nbq48.out] at hx567_2); cases e567; replace p567 := eq_true p567; replace q567 := eq_true q567; have p568 : 0 ≤ (x24_4 : Int) := of_decide_eq_true (by first | (with_reducible assumption) | assumption); have q568 : x24_4 < (t549.length : Int) := of_decide_eq_true (by first | (with_reducible assumption) | assumption); obtain ⟨ad568, e568, hx568_0, hx568_1, hx568_2⟩ := at_T60 (Kd.R_reads' HO_15.out).2.2 x24_4 p568 q568; (try rw [← Nbq42.out] at hx568_2); (try rw [← Nbq48.out] at hx568_2); obtain rfl : ad567 = ad568 := (by injection e568); replace p568 := eq_true p568; replace q568 := eq_true q568))
                     go_roundg k4
                     case measure => have := HJ11.out; have := HK2.out; have := HJ34.out; have := HK4.out; omega
                     case rel => exact ⟨(x19_2), (y566), (x21_2), (x22_2), (wrap64 (x23_2 + 1)), (by first | rfl | (simp; done) | (simp [*]; done)), (by first | rfl | (simp; done) | (simp [*]; done)), (by first | rfl | (simp; done) | (simp [*]; done)), H', ⟨by have := HJ11.out; have := HK2.out; have := HJ34.out; have := HK4.out; omega⟩, ⟨by (with_reducible repeat (first | apply Kd.R_alloc | apply Kd.R_drewN | apply Kd.R_drew)); exact HO_15.out⟩, ⟨by (with_reducible repeat (first | apply Kd.R_alloc | apply Kd.R_drewN | apply Kd.R_drew)); exact HO_16.out⟩, ⟨by (with_reducible repeat (first | apply Kd.R_alloc | apply Kd.R_drewN | apply Kd.R_drew)); exact HO_19.out⟩, ⟨by (with_reducible repeat (first | apply Kd.R_alloc | apply Kd.R_drewN | apply Kd.R_drew)); exact HO_20.out⟩, ⟨by (with_reducible repeat (first | apply Kd.R_alloc | apply Kd.R_drewN | apply Kd.R_drew)); exact HO_549000.out⟩, ⟨by (with_reducible repeat (first | refine blk_drewN ?_ _ | refine blk_drew ?_ | refine blk_alloc ?_ _)); exact BK548.out⟩, ⟨by repeat (first | (with_reducible first | exact HB.out | apply below_alloc | apply pw_below_drewN | apply below_drew1 | refine below_set ?_ GE548.out) | exact HB.out)⟩⟩
                   ·
                    replace c49 := Bool.eq_false_iff.mpr c49
                    subst c49
                    have H1 : (if x23_2 < (l4.length : Int) then (if 0 ≤ x23_2 then ((dialtonelaw34_pick.f (rd l4 x23_2) 5).bind fun t571 => (dialtonelaw34_RecoveryEarliest.j4 k4 l3 l4 t549 t552 t556 x19_2 y566 x21_2 x22_2 x23_2 (wrap64 (((rd_T60 t549 x24_4).f1) + t571)) t544 t547)) else (none)) else (dialtonelaw34_RecoveryEarliest.j4 k4 l3 l4 t549 t552 t556 x19_2 y566 x21_2 x22_2 x23_2 ((rd_T60 t549 x24_4).f1) t544 t547)) = some r := by rw [if_neg (show ¬ (false = true) by decide)] at H; exact H
                    clear H
                    have H := H1
                    clear H1
                    have HC57 := Aside0.mk H
                    clear H
                    obtain ⟨Ao58, co58, eo58⟩ := Kd.R_slice HO_20.out
                    subst eo58
                    have p565 : 0 ≤ (x24_4 : Int) := of_decide_eq_true (by first | (with_reducible assumption) | assumption)
                    have q565 : x24_4 < (x20_2.length : Int) := of_decide_eq_true (by first | (with_reducible assumption) | assumption)
                    obtain ⟨ad565, e565, hx565_0⟩ := Kd.at_bool (Kd.R_reads' HO_20.out).2.2 x24_4 p565 q565
                    (try rw [← Nbq42.out] at hx565_0)
                    (try rw [← Nbq48.out] at hx565_0)
                    cases e565
                    replace p565 := eq_true p565
                    replace q565 := eq_true q565
                    have p46 : 0 ≤ (x24_4 : Int) := of_decide_eq_true (by first | (with_reducible assumption) | assumption)
                    have q46 : (x24_4 : Int) < ((x20_2.length : Int) : Int) := of_decide_eq_true (by first | (with_reducible assumption) | assumption)
                    obtain ⟨go46, co46, eo46, gb46, gl46, cl46, HG46⟩ := Kd.R_form HO_20.out (by omega)
                    (first | cases eo46 | (injection eo46 with ea_ en_ ec_; (first | subst ea_ | (injection ea_ with ea_; subst ea_)); subst ec_; clear en_))
                    have GB46 := Aside0.mk gb46
                    have GG46 := Aside0.mk HG46
                    clear gb46 gl46 HG46
                    (first | simp only [add_plain] at hx565_0 | skip)
                    obtain ⟨hx46_0, hf46_0⟩ := Kd.R_celln false HO_20.out (x24_4 : Int) p46 q46
                    replace p46 := eq_true p46
                    replace q46 := eq_true q46
                    have HP59 := Kd.R_putg HO_20.out (x24_4 : Int) true
                    go_upto_if 110 with (first | ((with_reducible refine gate_store (t := 4) (p := 87) rfl ?_); refine store_event (t := 4) (p := 87) (v := ?vo_w60) (w1 := (wr.setCell ⟨go46, (x24_4 : Int).toNat, none⟩ (.bool true))) ?hg ?ho ?hn ?hr ?_; (case ho => rfl); (case hg => rfl); (case hn => rfl); (case hr => first | (go_simp; done) | (go_simp; rfl)); intro w60 hw; have hg : wr.grownBy w60 (some go46) := (by rw [hw]; exact HP59.2); have hp_ : Kd.R Kd.bool 4 w60 w.heap.size (fun _ => True) (.slice (some ⟨go46, 0, none⟩) x20_2.length co58) y566 := (by rw [hw, Ny566.out]; exact HP59.1); clear HP59; have n0_ := Aside0.mk (Kd.R_over' (v := (.slice (some ⟨go46, 0, none⟩) x20_2.length co58)) (by (with_reducible repeat (first | apply Kd.R_alloc | apply Kd.R_drewN | apply Kd.R_drew)); exact HO_15.out) (Kd.R_typed HO_20.out) (by decide) hg); have n1_ := Aside0.mk (Kd.R_over' (v := (.slice (some ⟨go46, 0, none⟩) x20_2.length co58)) (by (with_reducible repeat (first | apply Kd.R_alloc | apply Kd.R_drewN | apply Kd.R_drew)); exact HO_16.out) (Kd.R_typed HO_20.out) (by decide) hg); have n2_ := Aside0.mk (Kd.R_over' (v := (.slice (some ⟨go46, 0, none⟩) x20_2.length co58)) (by (with_reducible repeat (first | apply Kd.R_alloc | apply Kd.R_drewN | apply Kd.R_drew)); exact HO_19.out) (Kd.R_typed HO_20.out) (by decide) hg); have n3_ := Aside0.mk (hp_); have n4_ := Aside0.mk (Kd.R_over' (v := (.slice (some ⟨go46, 0, none⟩) x20_2.length co58)) (by (with_reducible repeat (first | apply Kd.R_alloc | apply Kd.R_drewN | apply Kd.R_drew)); exact HO_549000.out) (Kd.R_typed HO_20.out) (by decide) hg); have n5_ := Aside0.mk (blk_grown (g := gb548) (o := .cells #[.slice Ao16 t544.length co16, .int .i64 t547] 26 (0, 0)) (by (with_reducible repeat (first | refine blk_drewN ?_ _ | refine blk_drew ?_ | refine blk_alloc ?_ _)); exact BK548.out) hg (Kd.R_ne HO_20.out BK548.out (by decide))); have n6_ := Aside0.mk ((by rw [hw]; exact below_set (HB.out) GB46.out : Below w.heap.size w w60)); clear HO_15; clear HO_16; clear HO_19; clear HO_20; clear HO_549000; clear BK548; clear HB; have HO_15 := n0_; have HO_16 := n1_; have HO_19 := n2_; have HO_20 := n3_; have HO_549000 := n4_; have BK548 := n5_; have HB := n6_; clear n0_ n1_ n2_ n3_ n4_ n5_ n6_; clear hg hw hp_; have p567 : 0 ≤ (x24_4 : Int) := of_decide_eq_true (by first | (with_reducible assumption) | assumption); have q567 : x24_4 < (t549.length : Int) := of_decide_eq_true (by first | (with_reducible assumption) | assumption); obtain ⟨ad567, e567, hx567_0, hx567_1, hx567_2⟩ := at_T60 (Kd.R_reads' HO_15.out).2.2 x24_4 p567 q567; (try rw [← Nbq42.out] at hx567_2); (try rw [← Nbq48.out] at hx567_2); cases e567; replace p567 := eq_true p567; replace q567 := eq_true q567; have p569 : 0 ≤ (x24_4 : Int) := of_decide_eq_true (by first | (with_reducible assumption) | assumption); have q569 : x24_4 < (t549.length : Int) := of_decide_eq_true (by first | (with_reducible assumption) | assumption); obtain ⟨ad569, e569, hx569_0, hx569_1, hx569_2⟩ := at_T60 (Kd.R_reads' HO_15.out).2.2 x24_4 p569 q569; (try rw [← Nbq42.out] at hx569_2); (try rw [← Nbq48.out] at hx569_2); obtain rfl : ad567 = ad569 := (by injection e569); replace p569 := eq_true p569; replace q569 := eq_true q569))
                    (try simp only [Act.put, List.setIfInBounds_toArray, List.set_cons_zero, List.set_cons_succ])
                    go_cut [25] (fun v25 wc => ∃ (kq : Nat) (x25_56 : Int), v25 = .int .i64 x25_56 ∧ Aside0 (dialtonelaw34_RecoveryEarliest.j4 kq l3 l4 t549 t552 t556 x19_2 y566 x21_2 x22_2 x23_2 x25_56 t544 t547 = some r) ∧ Aside0 (kq ≤ k4) ∧ Aside0 (Kd.R k60 60 wc w.heap.size (fun _ => True) (.slice (some ad567) t549.length co20) t549) ∧ Aside0 (Kd.R k39 39 wc w.heap.size (fun _ => True) v553 t552) ∧ Aside0 (Kd.R (Kd.int .i64) 3 wc w.heap.size (fun _ => True) v558 x19_2) ∧ Aside0 (Kd.R Kd.bool 4 wc w.heap.size (fun _ => True) (.slice (some ⟨go46, 0, none⟩) x20_2.length co58) y566) ∧ Aside0 (Kd.R k67 67 wc w.heap.size (fun _ => True) (.slice Ao16 t544.length co16) t544) ∧ Aside0 (wc.heap[gb548]? = some (.cells #[(.slice Ao16 t544.length co16), .int .i64 t547] 26 (0, 0))) ∧ Aside0 (Below w.heap.size w wc))
                    case first =>
                     have H := HC57.out
                     clear HC57
                     by_cases c61 : x23_2 < (l4.length : Int)
                     ·
                      rw [if_pos c61] at H
                      have c61b0 : decide (x23_2 < (l4.length : Int)) = true := decide_eq_true c61
                      clear c61
                      (first | rw [c61b0] | (simp only [i64_w, i32_w]; rw [c61b0]) | skip)
                      by_cases c62 : 0 ≤ x23_2
                      ·
                       rw [if_pos c62] at H
                       have c62b0 : decide (0 ≤ x23_2) = true := decide_eq_true c62
                       clear c62
                       replace H := Option.bind_eq_some_iff.mp H
                       obtain ⟨t571, A630, H⟩ := H
                       replace H : (dialtonelaw34_RecoveryEarliest.j4 k4 l3 l4 t549 t552 t556 x19_2 y566 x21_2 x22_2 x23_2 (wrap64 (((rd_T60 t549 x24_4).f1) + t571)) t544 t547) = some r := H
                       have A63 := Aside0.mk A630
                       clear A630
                       have H' := Aside0.mk H
                       clear H
                       have p570 : 0 ≤ (x23_2 : Int) := of_decide_eq_true (by first | (with_reducible assumption) | assumption)
                       have q570 : x23_2 < (l4.length : Int) := of_decide_eq_true (by first | (with_reducible assumption) | assumption)
                       obtain ⟨ad570, e570, hx570_0⟩ := Kd.at_int HR4.out x23_2 p570 q570
                       cases e570
                       replace hx570_0 := (HB.out.cell (World.block_lt_of_cell? w _ hx570_0)).trans hx570_0
                       replace p570 := eq_true p570
                       replace q570 := eq_true q570
                       go_wp2_with (first | ((with_reducible refine gate_callee (f := 18) rfl ?_); refine goesL_ (some 116) rfl rfl Try.func18 (by kernel_rfl) rfl #[.int .i64 (rd l4 x23_2), .int .i64 5] rfl (by (try simp only [List.map_toArray, List.map_cons, List.map_nil]); first | done | rfl | (simp only [List.length_drop, List.length_take]; rfl)) ?_; (with_reducible refine (dialtonelaw34_pick.calls (rd l4 x23_2) 5 t571 _ A63.out).mono ?_); rintro e w64 ⟨rfl, hb⟩; refine ⟨_, rfl, ?_⟩; have n0_ := Aside0.mk (Kd.R_below (by (with_reducible repeat (first | apply Kd.R_alloc | apply Kd.R_drewN | apply Kd.R_drew)); exact HO_15.out) hb); have n1_ := Aside0.mk (Kd.R_below (by (with_reducible repeat (first | apply Kd.R_alloc | apply Kd.R_drewN | apply Kd.R_drew)); exact HO_16.out) hb); have n2_ := Aside0.mk (Kd.R_below (by (with_reducible repeat (first | apply Kd.R_alloc | apply Kd.R_drewN | apply Kd.R_drew)); exact HO_19.out) hb); have n3_ := Aside0.mk (Kd.R_below (by (with_reducible repeat (first | apply Kd.R_alloc | apply Kd.R_drewN | apply Kd.R_drew)); exact HO_20.out) hb); have n4_ := Aside0.mk (Kd.R_below (by (with_reducible repeat (first | apply Kd.R_alloc | apply Kd.R_drewN | apply Kd.R_drew)); exact HO_549000.out) hb); have n5_ := Aside0.mk (blk_below (g := gb548) (o := .cells #[.slice Ao16 t544.length co16, .int .i64 t547] 26 (0, 0)) (by (with_reducible repeat (first | refine blk_drewN ?_ _ | refine blk_drew ?_ | refine blk_alloc ?_ _)); exact BK548.out) hb); have n6_ := Aside0.mk (below_step (by repeat (first | (with_reducible first | exact HB.out | apply below_alloc | apply pw_below_drewN | apply below_drew1 | refine below_set ?_ GE548.out) | exact HB.out)) hb); clear HO_15; clear HO_16; clear HO_19; clear HO_20; clear HO_549000; clear BK548; clear HB; have HO_15 := n0_; have HO_16 := n1_; have HO_19 := n2_; have HO_20 := n3_; have HO_549000 := n4_; have BK548 := n5_; have HB := n6_; clear n0_ n1_ n2_ n3_ n4_ n5_ n6_; (try clear hb); (try clear hb2); (try clear hk); (try clear hi)))
                       go_meet
                       case rel => exact ⟨_, (wrap64 (((rd_T60 t549 x24_4).f1) + t571)), (by first | rfl | (simp; done) | (simp [*]; done)), H', ⟨by have := HJ11.out; have := HK2.out; have := HJ34.out; have := HK4.out; first | omega | exact Nat.le_refl _⟩, ⟨by (with_reducible repeat (first | apply Kd.R_alloc | apply Kd.R_drewN | apply Kd.R_drew)); exact HO_15.out⟩, ⟨by (with_reducible repeat (first | apply Kd.R_alloc | apply Kd.R_drewN | apply Kd.R_drew)); exact HO_16.out⟩, ⟨by (with_reducible repeat (first | apply Kd.R_alloc | apply Kd.R_drewN | apply Kd.R_drew)); exact HO_19.out⟩, ⟨by (with_reducible repeat (first | apply Kd.R_alloc | apply Kd.R_drewN | apply Kd.R_drew)); exact HO_20.out⟩, ⟨by (with_reducible repeat (first | apply Kd.R_alloc | apply Kd.R_drewN | apply Kd.R_drew)); exact HO_549000.out⟩, ⟨by (with_reducible repeat (first | refine blk_drewN ?_ _ | refine blk_drew ?_ | refine blk_alloc ?_ _)); exact BK548.out⟩, ⟨by repeat (first | (with_reducible first | exact HB.out | apply below_alloc | apply pw_below_drewN | apply below_drew1 | refine below_set ?_ GE548.out) | exact HB.out)⟩⟩
                      ·
                       rw [if_neg c62] at H
                       exact absurd H (by simp)
                     ·
                      rw [if_neg c61] at H
                      have c61b0 : decide (x23_2 < (l4.length : Int)) = false := decide_eq_false c61
                      clear c61
                      (first | rw [c61b0] | (simp only [i64_w, i32_w]; rw [c61b0]) | skip)
                      have H' := Aside0.mk H
                      clear H
                      go_wp2
                      go_meet
                      case rel => exact ⟨_, ((rd_T60 t549 x24_4).f1), (by first | rfl | (simp; done) | (simp [*]; done)), H', ⟨by have := HJ11.out; have := HK2.out; have := HJ34.out; have := HK4.out; first | omega | exact Nat.le_refl _⟩, ⟨by (with_reducible repeat (first | apply Kd.R_alloc | apply Kd.R_drewN | apply Kd.R_drew)); exact HO_15.out⟩, ⟨by (with_reducible repeat (first | apply Kd.R_alloc | apply Kd.R_drewN | apply Kd.R_drew)); exact HO_16.out⟩, ⟨by (with_reducible repeat (first | apply Kd.R_alloc | apply Kd.R_drewN | apply Kd.R_drew)); exact HO_19.out⟩, ⟨by (with_reducible repeat (first | apply Kd.R_alloc | apply Kd.R_drewN | apply Kd.R_drew)); exact HO_20.out⟩, ⟨by (with_reducible repeat (first | apply Kd.R_alloc | apply Kd.R_drewN | apply Kd.R_drew)); exact HO_549000.out⟩, ⟨by (with_reducible repeat (first | refine blk_drewN ?_ _ | refine blk_drew ?_ | refine blk_alloc ?_ _)); exact BK548.out⟩, ⟨by repeat (first | (with_reducible first | exact HB.out | apply below_alloc | apply pw_below_drewN | apply below_drew1 | refine below_set ?_ GE548.out) | exact HB.out)⟩⟩
                    case rest =>
                     clear HC57
                     try clear c1
                     try clear c2
                     try clear p2
                     try clear c3
                     try clear c4
                     try clear p4
                     try clear q4
                     try clear hx4
                     try clear c5
                     try clear p5
                     try clear q5
                     try clear hx5
                     try clear c6
                     try clear p6
                     try clear c7
                     try clear c8
                     try clear c13
                     try clear c14
                     try clear c15
                     try clear c16
                     try clear c18
                     try clear c22
                     try clear c22b0
                     try clear c22b1
                     try clear c24
                     try clear c26
                     try clear c26b0
                     try clear c26b1
                     try clear c27
                     try clear c27b0
                     try clear c27b1
                     try clear c28
                     try clear c28b0
                     try clear c28b1
                     try clear c34
                     try clear c34b0
                     try clear c36
                     try clear c36b0
                     try clear c37
                     try clear c37b0
                     try clear c40
                     try clear c40b0
                     try clear c41
                     try clear c41b0
                     try clear q42
                     try clear c43
                     try clear c44
                     try clear c44b0
                     try clear c44b1
                     try clear c44b2
                     try clear p46
                     try clear q46
                     try clear hx46
                     try clear hf46
                     try clear c47
                     try clear c47b0
                     try clear q48
                     try clear c49
                     try clear c50
                     try clear c50b0
                     try clear p56
                     try clear q56
                     try clear hx56
                     try clear p57
                     try clear q57
                     try clear hx57
                     try clear c61
                     try clear c61b0
                     try clear c62
                     try clear c62b0
                     try clear p64
                     try clear hcz17_0
                     try clear hcz17_1
                     try clear hcz19_0
                     try clear hcz19_1
                     try clear hfz17_0
                     try clear hfz17_1
                     try clear hfz19_0
                     try clear hfz19_1
                     try clear hx46_0
                     try clear hx563_0
                     try clear hx565_0
                     try clear hx567_0
                     try clear hx567_1
                     try clear hx567_2
                     try clear hx568_0
                     try clear hx568_1
                     try clear hx568_2
                     try clear hx569_0
                     try clear hx569_1
                     try clear hx569_2
                     try clear hx570_0
                     try clear p2
                     try clear p46
                     try clear p5
                     try clear p563
                     try clear p565
                     try clear p567
                     try clear p568
                     try clear p569
                     try clear p570
                     try clear q46
                     try clear q5
                     try clear q563
                     try clear q565
                     try clear q567
                     try clear q568
                     try clear q569
                     try clear q570
                     obtain ⟨kq, x25_56, rfl, HA, HJ56, HO_15, HO_16, HO_19, HO_20, HO_549000, BK548, HB⟩ := hcut
                     have hl20_56 := (Kd.R_reads' HO_20.out).1
                     rw [hl20_56] at HO_20
                     (try simp only [hl20_56])
                     (try simp only [hl20_56] at BK548)
                     (try simp only [hl20_56] at HO_15)
                     (try simp only [hl20_56] at HO_16)
                     (try simp only [hl20_56] at HO_19)
                     (try simp only [hl20_56] at HO_549000)
                     cases kq with
                     | zero => exact absurd HA.out (by simp [dialtonelaw34_RecoveryEarliest.j4])
                     | succ kj56 =>
                      have H := HA.out
                      clear HA
                      simp only [dialtonelaw34_RecoveryEarliest.j4] at H
                      have HC65 := Aside0.mk H
                      clear H
                      go_upto_block 4 with (fail)
                      go_cut [25] (fun v25 wc => ∃ (kq : Nat) (x25_64 : Int), v25 = .int .i64 x25_64 ∧ Aside0 (dialtonelaw34_RecoveryEarliest.j6 kq l3 l4 t549 t552 t556 x19_2 y566 x21_2 x22_2 x23_2 x25_64 t544 t547 = some r) ∧ Aside0 (kq ≤ kj56) ∧ Aside0 (Kd.R k60 60 wc w.heap.size (fun _ => True) (.slice (some ad567) t549.length co20) t549) ∧ Aside0 (Kd.R k39 39 wc w.heap.size (fun _ => True) v553 t552) ∧ Aside0 (Kd.R (Kd.int .i64) 3 wc w.heap.size (fun _ => True) v558 x19_2) ∧ Aside0 (Kd.R Kd.bool 4 wc w.heap.size (fun _ => True) (.slice (some ⟨go46, 0, none⟩) y566.length co58) y566) ∧ Aside0 (Kd.R k67 67 wc w.heap.size (fun _ => True) (.slice Ao16 t544.length co16) t544) ∧ Aside0 (wc.heap[gb548]? = some (.cells #[(.slice Ao16 t544.length co16), .int .i64 t547] 26 (0, 0))) ∧ Aside0 (Below w.heap.size w wc))
                      case first =>
                       have H := HC65.out
                       clear HC65
                       have H' := Aside0.mk H
                       clear H
                       go_wp2
                       go_loopg [25] kj56 (fun kq v25 w' => ∃ (x25_6 : Int), v25 = .int .i64 x25_6 ∧ Aside0 (dialtonelaw34_RecoveryEarliest.l2 kq l3 l4 t549 t552 t556 x19_2 y566 x21_2 x22_2 x23_2 x25_6 t544 t547 = some r) ∧ Aside0 (kq ≤ kj56) ∧ Aside0 (Kd.R k60 60 w' w.heap.size (fun _ => True) (.slice (some ad567) t549.length co20) t549) ∧ Aside0 (Kd.R k39 39 w' w.heap.size (fun _ => True) v553 t552) ∧ Aside0 (Kd.R (Kd.int .i64) 3 w' w.heap.size (fun _ => True) v558 x19_2) ∧ Aside0 (Kd.R Kd.bool 4 w' w.heap.size (fun _ => True) (.slice (some ⟨go46, 0, none⟩) y566.length co58) y566) ∧ Aside0 (Kd.R k67 67 w' w.heap.size (fun _ => True) (.slice Ao16 t544.length co16) t544) ∧ Aside0 (w'.heap[gb548]? = some (.cells #[(.slice Ao16 t544.length co16), .int .i64 t547] 26 (0, 0))) ∧ Aside0 (Below w.heap.size w w'))
                       case atStart => exact ⟨(x25_56), (by first | rfl | (simp; done) | (simp [*]; done)), H', ⟨Nat.le_refl _⟩, ⟨by (try simp only [hl20_56]); (with_reducible repeat (first | apply Kd.R_alloc | apply Kd.R_drewN | apply Kd.R_drew)); exact HO_15.out⟩, ⟨by (try simp only [hl20_56]); (with_reducible repeat (first | apply Kd.R_alloc | apply Kd.R_drewN | apply Kd.R_drew)); exact HO_16.out⟩, ⟨by (try simp only [hl20_56]); (with_reducible repeat (first | apply Kd.R_alloc | apply Kd.R_drewN | apply Kd.R_drew)); exact HO_19.out⟩, ⟨by (try simp only [hl20_56]); (with_reducible repeat (first | apply Kd.R_alloc | apply Kd.R_drewN | apply Kd.R_drew)); exact HO_20.out⟩, ⟨by (try simp only [hl20_56]); (with_reducible repeat (first | apply Kd.R_alloc | apply Kd.R_drewN | apply Kd.R_drew)); exact HO_549000.out⟩, ⟨by (try simp only [hl20_56]); (with_reducible repeat (first | refine blk_drewN ?_ _ | refine blk_drew ?_ | refine blk_alloc ?_ _)); exact BK548.out⟩, ⟨by repeat (first | (with_reducible first | exact HB.out | apply below_alloc | apply pw_below_drewN | apply below_drew1 | refine below_set ?_ GE548.out) | exact HB.out)⟩⟩
                       case round =>
                        clear H'
                        try clear c1
                        try clear c2
                        try clear p2
                        try clear c3
                        try clear c4
                        try clear p4
                        try clear q4
                        try clear hx4
                        try clear c5
                        try clear p5
                        try clear q5
                        try clear hx5
                        try clear c6
                        try clear p6
                        try clear c7
                        try clear c8
                        try clear c13
                        try clear c14
                        try clear c15
                        try clear c16
                        try clear c18
                        try clear c22
                        try clear c22b0
                        try clear c22b1
                        try clear c24
                        try clear c26
                        try clear c26b0
                        try clear c26b1
                        try clear c27
                        try clear c27b0
                        try clear c27b1
                        try clear c28
                        try clear c28b0
                        try clear c28b1
                        try clear c34
                        try clear c34b0
                        try clear c36
                        try clear c36b0
                        try clear c37
                        try clear c37b0
                        try clear c40
                        try clear c40b0
                        try clear c41
                        try clear c41b0
                        try clear q42
                        try clear c43
                        try clear c44
                        try clear c44b0
                        try clear c44b1
                        try clear c44b2
                        try clear p46
                        try clear q46
                        try clear hx46
                        try clear hf46
                        try clear c47
                        try clear c47b0
                        try clear q48
                        try clear c49
                        try clear c50
                        try clear c50b0
                        try clear p56
                        try clear q56
                        try clear hx56
                        try clear p57
                        try clear q57
                        try clear hx57
                        try clear c61
                        try clear c61b0
                        try clear c62
                        try clear c62b0
                        try clear p64
                        try clear hcz17_0
                        try clear hcz17_1
                        try clear hcz19_0
                        try clear hcz19_1
                        try clear hfz17_0
                        try clear hfz17_1
                        try clear hfz19_0
                        try clear hfz19_1
                        try clear hx46_0
                        try clear hx563_0
                        try clear hx565_0
                        try clear hx567_0
                        try clear hx567_1
                        try clear hx567_2
                        try clear hx568_0
                        try clear hx568_1
                        try clear hx568_2
                        try clear hx569_0
                        try clear hx569_1
                        try clear hx569_2
                        try clear hx570_0
                        try clear p2
                        try clear p4
                        try clear p46
                        try clear p5
                        try clear p56
                        try clear p563
                        try clear p565
                        try clear p567
                        try clear p568
                        try clear p569
                        try clear p57
                        try clear p570
                        try clear p6
                        try clear p64
                        try clear q4
                        try clear q42
                        try clear q46
                        try clear q48
                        try clear q5
                        try clear q56
                        try clear q563
                        try clear q565
                        try clear q567
                        try clear q568
                        try clear q569
                        try clear q57
                        try clear q570
                        obtain ⟨x25_6, rfl, HA, HK6, HO_15, HO_16, HO_19, HO_20, HO_549000, BK548, HB⟩ := hrel
                        cases gk with
                        | zero => exact absurd HA.out (by simp [dialtonelaw34_RecoveryEarliest.l2])
                        | succ k6 =>
                         have H := HA.out
                         clear HA
                         simp only [dialtonelaw34_RecoveryEarliest.l2] at H
                         by_cases c66 : x25_6 < 199
                         ·
                          rw [if_pos c66] at H
                          have c66b0 : decide (x25_6 < 199) = true := decide_eq_true c66
                          clear c66
                          (first | rw [c66b0] | (simp only [i64_w, i32_w]; rw [c66b0]) | skip)
                          replace H := Option.bind_eq_some_iff.mp H
                          obtain ⟨⟨t572, t573⟩, A670, H⟩ := H
                          replace H : (if t573 = 0 then (if 0 ≤ x25_6 then (if x25_6 < (x19_2.length : Int) then (if (rd x19_2 x25_6) < t572 then (dialtonelaw34_RecoveryEarliest.j6 k6 l3 l4 t549 t552 t556 x19_2 y566 x21_2 x22_2 x23_2 x25_6 t544 t547) else (dialtonelaw34_RecoveryEarliest.l2 k6 l3 l4 t549 t552 t556 x19_2 y566 x21_2 x22_2 x23_2 (wrap64 (x25_6 + 1)) t544 t547)) else (none)) else (none)) else (none)) = some r := H
                          have A67 := Aside0.mk A670
                          clear A670
                          by_cases c68 : t573 = 0
                          ·
                           rw [if_pos c68] at H
                           have c68b0 : (t573 == 0) = true := beq_iff_eq.mpr c68
                           have c68b1 : (t573 != 0) = false := bne_eq_false_iff_eq.mpr c68
                           clear c68
                           by_cases c69 : 0 ≤ x25_6
                           ·
                            rw [if_pos c69] at H
                            have c69b0 : decide (0 ≤ x25_6) = true := decide_eq_true c69
                            clear c69
                            by_cases c70 : x25_6 < (x19_2.length : Int)
                            ·
                             rw [if_pos c70] at H
                             have c70b0 : decide (x25_6 < (x19_2.length : Int)) = true := decide_eq_true c70
                             clear c70
                             by_cases c71 : (rd x19_2 x25_6) < t572
                             ·
                              rw [if_pos c71] at H
                              have c71b0 : decide ((rd x19_2 x25_6) < t572) = true := decide_eq_true c71
                              clear c71
                              have H' := Aside0.mk H
                              clear H
                              have hcz72_0 : wr.cell? ⟨gb548, 0, none⟩ = some (.slice Ao16 t544.length co16) := (blk_cell BK548.out 0).trans rfl
                              have hcz72_1 : wr.cell? ⟨gb548, 1, none⟩ = some (.int .i64 t547) := (blk_cell BK548.out 1).trans rfl
                              have hfz72_0 := blk_frozen BK548.out 0
                              have hfz72_1 := blk_frozen BK548.out 1
                              go_wp2_with (first | ((with_reducible refine gate_callee (f := 34) rfl ?_); refine goesL_ (some 123) rfl rfl Try.func34 (by kernel_rfl) rfl #[.agg #[.slice Ao16 t544.length co16, .int .i64 t547], .int .i64 x25_6] rfl (by (try simp only [List.map_toArray, List.map_cons, List.map_nil]); first | done | rfl | (simp only [List.length_drop, List.length_take]; rfl)) ?_; (with_reducible refine (recovery_Capacity.calls k6 _ _ t544 t547 x25_6 t572 t573 _ ?side1 ?side2 A67.out).mono ?_); (case side1 => repeat (first | exact (Kd.R_reads' HO_549000.out).2.2 | (with_reducible refine Kd.C_alloc ?_ _) | (with_reducible refine Kd.C_drewN ?_ _) | (with_reducible refine Kd.C_drew ?_))); (case side2 => exact (Kd.R_reads' HO_549000.out).2.1); rintro e w73 ⟨rfl, hb⟩; refine ⟨_, rfl, ?_⟩; have n0_ := Aside0.mk (Kd.R_below (by (with_reducible repeat (first | apply Kd.R_alloc | apply Kd.R_drewN | apply Kd.R_drew)); exact HO_15.out) hb); have n1_ := Aside0.mk (Kd.R_below (by (with_reducible repeat (first | apply Kd.R_alloc | apply Kd.R_drewN | apply Kd.R_drew)); exact HO_16.out) hb); have n2_ := Aside0.mk (Kd.R_below (by (with_reducible repeat (first | apply Kd.R_alloc | apply Kd.R_drewN | apply Kd.R_drew)); exact HO_19.out) hb); have n3_ := Aside0.mk (Kd.R_below (by (with_reducible repeat (first | apply Kd.R_alloc | apply Kd.R_drewN | apply Kd.R_drew)); exact HO_20.out) hb); have n4_ := Aside0.mk (Kd.R_below (by (with_reducible repeat (first | apply Kd.R_alloc | apply Kd.R_drewN | apply Kd.R_drew)); exact HO_549000.out) hb); have n5_ := Aside0.mk (blk_below (g := gb548) (o := .cells #[.slice Ao16 t544.length co16, .int .i64 t547] 26 (0, 0)) (by (with_reducible repeat (first | refine blk_drewN ?_ _ | refine blk_drew ?_ | refine blk_alloc ?_ _)); exact BK548.out) hb); have n6_ := Aside0.mk (below_step (by repeat (first | (with_reducible first | exact HB.out | apply below_alloc | apply pw_below_drewN | apply below_drew1 | refine below_set ?_ GE548.out) | exact HB.out)) hb); clear HO_15; clear HO_16; clear HO_19; clear HO_20; clear HO_549000; clear BK548; clear HB; have HO_15 := n0_; have HO_16 := n1_; have HO_19 := n2_; have HO_20 := n3_; have HO_549000 := n4_; have BK548 := n5_; have HB := n6_; clear n0_ n1_ n2_ n3_ n4_ n5_ n6_; (try clear hb); (try clear hb2); (try clear hk); (try clear hi); obtain ⟨Ao74, co74, eo74⟩ := Kd.R_slice HO_19.out; subst eo74; have p574 : 0 ≤ (x25_6 : Int) := of_decide_eq_true (by first | (with_reducible assumption) | assumption); have q574 : x25_6 < (x19_2.length : Int) := of_decide_eq_true (by first | (with_reducible assumption) | assumption); obtain ⟨ad574, e574, hx574_0⟩ := Kd.at_int (Kd.R_reads' HO_19.out).2.2 x25_6 p574 q574; cases e574; replace p574 := eq_true p574; replace q574 := eq_true q574))
                              go_meet
                              case rel => exact ⟨_, (x25_6), (by first | rfl | (simp; done) | (simp [*]; done)), H', ⟨by have := HJ11.out; have := HK2.out; have := HJ34.out; have := HK4.out; have := HJ56.out; have := HK6.out; first | omega | exact Nat.le_refl _⟩, ⟨by (try simp only [hl20_56]); (with_reducible repeat (first | apply Kd.R_alloc | apply Kd.R_drewN | apply Kd.R_drew)); exact HO_15.out⟩, ⟨by (try simp only [hl20_56]); (with_reducible repeat (first | apply Kd.R_alloc | apply Kd.R_drewN | apply Kd.R_drew)); exact HO_16.out⟩, ⟨by (try simp only [hl20_56]); (with_reducible repeat (first | apply Kd.R_alloc | apply Kd.R_drewN | apply Kd.R_drew)); exact HO_19.out⟩, ⟨by (try simp only [hl20_56]); (with_reducible repeat (first | apply Kd.R_alloc | apply Kd.R_drewN | apply Kd.R_drew)); exact HO_20.out⟩, ⟨by (try simp only [hl20_56]); (with_reducible repeat (first | apply Kd.R_alloc | apply Kd.R_drewN | apply Kd.R_drew)); exact HO_549000.out⟩, ⟨by (try simp only [hl20_56]); (with_reducible repeat (first | refine blk_drewN ?_ _ | refine blk_drew ?_ | refine blk_alloc ?_ _)); exact BK548.out⟩, ⟨by repeat (first | (with_reducible first | exact HB.out | apply below_alloc | apply pw_below_drewN | apply below_drew1 | refine below_set ?_ GE548.out) | exact HB.out)⟩⟩
                             ·
                              rw [if_neg c71] at H
                              have c71b0 : decide ((rd x19_2 x25_6) < t572) = false := decide_eq_false c71
                              clear c71
                              have H' := Aside0.mk H
                              clear H
                              have hcz75_0 : wr.cell? ⟨gb548, 0, none⟩ = some (.slice Ao16 t544.length co16) := (blk_cell BK548.out 0).trans rfl
                              have hcz75_1 : wr.cell? ⟨gb548, 1, none⟩ = some (.int .i64 t547) := (blk_cell BK548.out 1).trans rfl
                              have hfz75_0 := blk_frozen BK548.out 0
                              have hfz75_1 := blk_frozen BK548.out 1
                              go_wp2_with (first | ((with_reducible refine gate_callee (f := 34) rfl ?_); refine goesL_ (some 123) rfl rfl Try.func34 (by kernel_rfl) rfl #[.agg #[.slice Ao16 t544.length co16, .int .i64 t547], .int .i64 x25_6] rfl (by (try simp only [List.map_toArray, List.map_cons, List.map_nil]); first | done | rfl | (simp only [List.length_drop, List.length_take]; rfl)) ?_; (with_reducible refine (recovery_Capacity.calls k6 _ _ t544 t547 x25_6 t572 t573 _ ?side1 ?side2 A67.out).mono ?_); (case side1 => repeat (first | exact (Kd.R_reads' HO_549000.out).2.2 | (with_reducible refine Kd.C_alloc ?_ _) | (with_reducible refine Kd.C_drewN ?_ _) | (with_reducible refine Kd.C_drew ?_))); (case side2 => exact (Kd.R_reads' HO_549000.out).2.1); rintro e w76 ⟨rfl, hb⟩; refine ⟨_, rfl, ?_⟩; have n0_ := Aside0.mk (Kd.R_below (by (with_reducible repeat (first | apply Kd.R_alloc | apply Kd.R_drewN | apply Kd.R_drew)); exact HO_15.out) hb); have n1_ := Aside0.mk (Kd.R_below (by (with_reducible repeat (first | apply Kd.R_alloc | apply Kd.R_drewN | apply Kd.R_drew)); exact HO_16.out) hb); have n2_ := Aside0.mk (Kd.R_below (by (with_reducible repeat (first | apply Kd.R_alloc | apply Kd.R_drewN | apply Kd.R_drew)); exact HO_19.out) hb); have n3_ := Aside0.mk (Kd.R_below (by (with_reducible repeat (first | apply Kd.R_alloc | apply Kd.R_drewN | apply Kd.R_drew)); exact HO_20.out) hb); have n4_ := Aside0.mk (Kd.R_below (by (with_reducible repeat (first | apply Kd.R_alloc | apply Kd.R_drewN | apply Kd.R_drew)); exact HO_549000.out) hb); have n5_ := Aside0.mk (blk_below (g := gb548) (o := .cells #[.slice Ao16 t544.length co16, .int .i64 t547] 26 (0, 0)) (by (with_reducible repeat (first | refine blk_drewN ?_ _ | refine blk_drew ?_ | refine blk_alloc ?_ _)); exact BK548.out) hb); have n6_ := Aside0.mk (below_step (by repeat (first | (with_reducible first | exact HB.out | apply below_alloc | apply pw_below_drewN | apply below_drew1 | refine below_set ?_ GE548.out) | exact HB.out)) hb); clear HO_15; clear HO_16; clear HO_19; clear HO_20; clear HO_549000; clear BK548; clear HB; have HO_15 := n0_; have HO_16 := n1_; have HO_19 := n2_; have HO_20 := n3_; have HO_549000 := n4_; have BK548 := n5_; have HB := n6_; clear n0_ n1_ n2_ n3_ n4_ n5_ n6_; (try clear hb); (try clear hb2); (try clear hk); (try clear hi); obtain ⟨Ao77, co77, eo77⟩ := Kd.R_slice HO_19.out; subst eo77; have p574 : 0 ≤ (x25_6 : Int) := of_decide_eq_true (by first | (with_reducible assumption) | assumption); have q574 : x25_6 < (x19_2.length : Int) := of_decide_eq_true (by first | (with_reducible assumption) | assumption); obtain ⟨ad574, e574, hx574_0⟩ := Kd.at_int (Kd.R_reads' HO_19.out).2.2 x25_6 p574 q574; cases e574; replace p574 := eq_true p574; replace q574 := eq_true q574))
                              go_roundg k6
                              case measure => have := HJ11.out; have := HK2.out; have := HJ34.out; have := HK4.out; have := HJ56.out; have := HK6.out; omega
                              case rel => exact ⟨(wrap64 (x25_6 + 1)), (by first | rfl | (simp; done) | (simp [*]; done)), H', ⟨by have := HJ11.out; have := HK2.out; have := HJ34.out; have := HK4.out; have := HJ56.out; have := HK6.out; omega⟩, ⟨by (try simp only [hl20_56]); (with_reducible repeat (first | apply Kd.R_alloc | apply Kd.R_drewN | apply Kd.R_drew)); exact HO_15.out⟩, ⟨by (try simp only [hl20_56]); (with_reducible repeat (first | apply Kd.R_alloc | apply Kd.R_drewN | apply Kd.R_drew)); exact HO_16.out⟩, ⟨by (try simp only [hl20_56]); (with_reducible repeat (first | apply Kd.R_alloc | apply Kd.R_drewN | apply Kd.R_drew)); exact HO_19.out⟩, ⟨by (try simp only [hl20_56]); (with_reducible repeat (first | apply Kd.R_alloc | apply Kd.R_drewN | apply Kd.R_drew)); exact HO_20.out⟩, ⟨by (try simp only [hl20_56]); (with_reducible repeat (first | apply Kd.R_alloc | apply Kd.R_drewN | apply Kd.R_drew)); exact HO_549000.out⟩, ⟨by (try simp only [hl20_56]); (with_reducible repeat (first | refine blk_drewN ?_ _ | refine blk_drew ?_ | refine blk_alloc ?_ _)); exact BK548.out⟩, ⟨by repeat (first | (with_reducible first | exact HB.out | apply below_alloc | apply pw_below_drewN | apply below_drew1 | refine below_set ?_ GE548.out) | exact HB.out)⟩⟩
                            ·
                             rw [if_neg c70] at H
                             exact absurd H (by simp)
                           ·
                            rw [if_neg c69] at H
                            exact absurd H (by simp)
                          ·
                           rw [if_neg c68] at H
                           exact absurd H (by simp)
                         ·
                          rw [if_neg c66] at H
                          have c66b0 : decide (x25_6 < 199) = false := decide_eq_false c66
                          clear c66
                          (first | rw [c66b0] | (simp only [i64_w, i32_w]; rw [c66b0]) | skip)
                          have H' := Aside0.mk H
                          clear H
                          go_wp2
                          go_meet
                          case rel => exact ⟨_, (x25_6), (by first | rfl | (simp; done) | (simp [*]; done)), H', ⟨by have := HJ11.out; have := HK2.out; have := HJ34.out; have := HK4.out; have := HJ56.out; have := HK6.out; first | omega | exact Nat.le_refl _⟩, ⟨by (try simp only [hl20_56]); (with_reducible repeat (first | apply Kd.R_alloc | apply Kd.R_drewN | apply Kd.R_drew)); exact HO_15.out⟩, ⟨by (try simp only [hl20_56]); (with_reducible repeat (first | apply Kd.R_alloc | apply Kd.R_drewN | apply Kd.R_drew)); exact HO_16.out⟩, ⟨by (try simp only [hl20_56]); (with_reducible repeat (first | apply Kd.R_alloc | apply Kd.R_drewN | apply Kd.R_drew)); exact HO_19.out⟩, ⟨by (try simp only [hl20_56]); (with_reducible repeat (first | apply Kd.R_alloc | apply Kd.R_drewN | apply Kd.R_drew)); exact HO_20.out⟩, ⟨by (try simp only [hl20_56]); (with_reducible repeat (first | apply Kd.R_alloc | apply Kd.R_drewN | apply Kd.R_drew)); exact HO_549000.out⟩, ⟨by (try simp only [hl20_56]); (with_reducible repeat (first | refine blk_drewN ?_ _ | refine blk_drew ?_ | refine blk_alloc ?_ _)); exact BK548.out⟩, ⟨by repeat (first | (with_reducible first | exact HB.out | apply below_alloc | apply pw_below_drewN | apply below_drew1 | refine below_set ?_ GE548.out) | exact HB.out)⟩⟩
                      case rest =>
                       clear HC65
                       try clear c1
                       try clear c2
                       try clear p2
                       try clear c3
                       try clear c4
                       try clear p4
                       try clear q4
                       try clear hx4
                       try clear c5
                       try clear p5
                       try clear q5
                       try clear hx5
                       try clear c6
                       try clear p6
                       try clear c7
                       try clear c8
                       try clear c13
                       try clear c14
                       try clear c15
                       try clear c16
                       try clear c18
                       try clear c22
                       try clear c22b0
                       try clear c22b1
                       try clear c24
                       try clear c26
                       try clear c26b0
                       try clear c26b1
                       try clear c27
                       try clear c27b0
                       try clear c27b1
                       try clear c28
                       try clear c28b0
                       try clear c28b1
                       try clear c34
                       try clear c34b0
                       try clear c36
                       try clear c36b0
                       try clear c37
                       try clear c37b0
                       try clear c40
                       try clear c40b0
                       try clear c41
                       try clear c41b0
                       try clear q42
                       try clear c43
                       try clear c44
                       try clear c44b0
                       try clear c44b1
                       try clear c44b2
                       try clear p46
                       try clear q46
                       try clear hx46
                       try clear hf46
                       try clear c47
                       try clear c47b0
                       try clear q48
                       try clear c49
                       try clear c50
                       try clear c50b0
                       try clear p56
                       try clear q56
                       try clear hx56
                       try clear p57
                       try clear q57
                       try clear hx57
                       try clear c61
                       try clear c61b0
                       try clear c62
                       try clear c62b0
                       try clear p64
                       try clear c66
                       try clear c66b0
                       try clear c68
                       try clear c68b0
                       try clear c68b1
                       try clear c69
                       try clear c69b0
                       try clear c70
                       try clear c70b0
                       try clear c71
                       try clear c71b0
                       try clear hcz17_0
                       try clear hcz17_1
                       try clear hcz19_0
                       try clear hcz19_1
                       try clear hcz72_0
                       try clear hcz72_1
                       try clear hcz75_0
                       try clear hcz75_1
                       try clear hfz17_0
                       try clear hfz17_1
                       try clear hfz19_0
                       try clear hfz19_1
                       try clear hfz72_0
                       try clear hfz72_1
                       try clear hfz75_0
                       try clear hfz75_1
                       try clear hx46_0
                       try clear hx563_0
                       try clear hx565_0
                       try clear hx567_0
                       try clear hx567_1
                       try clear hx567_2
                       try clear hx568_0
                       try clear hx568_1
                       try clear hx568_2
                       try clear hx569_0
                       try clear hx569_1
                       try clear hx569_2
                       try clear hx570_0
                       try clear hx574_0
                       try clear p2
                       try clear p4
                       try clear p46
                       try clear p5
                       try clear p56
                       try clear p563
                       try clear p565
                       try clear p567
                       try clear p568
                       try clear p569
                       try clear p57
                       try clear p570
                       try clear p574
                       try clear p6
                       try clear p64
                       try clear q4
                       try clear q42
                       try clear q46
                       try clear q48
                       try clear q5
                       try clear q56
                       try clear q563
                       try clear q565
                       try clear q567
                       try clear q568
                       try clear q569
                       try clear q57
                       try clear q570
                       try clear q574
                       obtain ⟨kq, x25_64, rfl, HA, HJ64, HO_15, HO_16, HO_19, HO_20, HO_549000, BK548, HB⟩ := hcut
                       cases kq with
                       | zero => exact absurd HA.out (by simp [dialtonelaw34_RecoveryEarliest.j6])
                       | succ kj64 =>
                        have H := HA.out
                        clear HA
                        simp only [dialtonelaw34_RecoveryEarliest.j6] at H
                        by_cases c78 : 0 ≤ x25_64
                        ·
                         rw [if_pos c78] at H
                         have c78b0 : decide (0 ≤ x25_64) = true := decide_eq_true c78
                         clear c78
                         by_cases c79 : x25_64 < (x19_2.length : Int)
                         ·
                          rw [if_pos c79] at H
                          have c79b0 : decide (x25_64 < (x19_2.length : Int)) = true := decide_eq_true c79
                          clear c79
                          obtain ⟨y576, hy576⟩ : ∃ y_ : List Int, y_ = (x19_2.set (x25_64 : Int).toNat (wrap64 ((rd x19_2 x25_64) + 1))) := ⟨_, rfl⟩
                          replace H : (if x25_64 ≤ t556 then (dialtonelaw34_RecoveryEarliest.l0 kj64 l3 l4 t549 t552 t556 y576 y566 (wrap64 (x21_2 + 1)) x22_2 (wrap64 (x23_2 + 1)) t544 t547) else (dialtonelaw34_RecoveryEarliest.l0 kj64 l3 l4 t549 t552 t556 y576 y566 x21_2 x22_2 (wrap64 (x23_2 + 1)) t544 t547)) = some r := by first | (rw [hy576]; with_reducible exact H) | (have H2_ := (Option.bind_some _ _).symm.trans H; rw [hy576]; with_reducible exact H2_) | (have H2_ := (Option.bind_some _ _).symm.trans H; with_reducible exact H2_) | with_reducible exact H | (rw [hy576]; exact H) | exact H
                          have Ny576 := Aside0.mk hy576
                          clear hy576
                          by_cases c81 : x25_64 ≤ t556
                          ·
                           rw [if_pos c81] at H
                           have c81b0 : decide (x25_64 ≤ t556) = true := decide_eq_true c81
                           clear c81
                           have H' := Aside0.mk H
                           clear H
                           obtain ⟨Ao82, co82, eo82⟩ := Kd.R_slice HO_19.out
                           subst eo82
                           have p575 : 0 ≤ (x25_64 : Int) := of_decide_eq_true (by first | (with_reducible assumption) | assumption)
                           have q575 : x25_64 < (x19_2.length : Int) := of_decide_eq_true (by first | (with_reducible assumption) | assumption)
                           obtain ⟨ad575, e575, hx575_0⟩ := Kd.at_int (Kd.R_reads' HO_19.out).2.2 x25_64 p575 q575
                           cases e575
                           replace p575 := eq_true p575
                           replace q575 := eq_true q575
                           have p80 : 0 ≤ (x25_64 : Int) := of_decide_eq_true (by first | (with_reducible assumption) | assumption)
                           have q80 : (x25_64 : Int) < ((x19_2.length : Int) : Int) := of_decide_eq_true (by first | (with_reducible assumption) | assumption)
                           obtain ⟨go80, co80, eo80, gb80, gl80, cl80, HG80⟩ := Kd.R_form HO_19.out (by omega)
                           (first | cases eo80 | (injection eo80 with ea_ en_ ec_; (first | subst ea_ | (injection ea_ with ea_; subst ea_)); subst ec_; clear en_))
                           have GB80 := Aside0.mk gb80
                           have GG80 := Aside0.mk HG80
                           clear gb80 gl80 HG80
                           (first | simp only [add_plain] at hx575_0 | skip)
                           obtain ⟨hx80_0, hf80_0⟩ := Kd.R_celln 0 HO_19.out (x25_64 : Int) p80 q80
                           replace p80 := eq_true p80
                           replace q80 := eq_true q80
                           have HP83 := Kd.R_putg HO_19.out (x25_64 : Int) (wrap64 ((rd x19_2 x25_64) + 1))
                           go_wp2_with (first | ((with_reducible refine gate_store (t := 3) (p := 141) rfl ?_); refine store_event (t := 3) (p := 141) (v := ?vo_w84) (w1 := (wc.setCell ⟨go80, (x25_64 : Int).toNat, none⟩ (.int .i64 (wrap64 ((rd x19_2 x25_64) + 1))))) ?hg ?ho ?hn ?hr ?_; (case ho => rfl); (case hg => rfl); (case hn => rfl); (case hr => first | (go_simp; done) | (go_simp; rfl)); intro w84 hw; have hg : wc.grownBy w84 (some go80) := (by rw [hw]; exact HP83.2); have hp_ : Kd.R (Kd.int .i64) 3 w84 w.heap.size (fun _ => True) (.slice (some ⟨go80, 0, none⟩) x19_2.length co82) y576 := (by rw [hw, Ny576.out]; exact HP83.1); clear HP83; have n0_ := Aside0.mk (Kd.R_over' (v := (.slice (some ⟨go80, 0, none⟩) x19_2.length co82)) (by (with_reducible repeat (first | apply Kd.R_alloc | apply Kd.R_drewN | apply Kd.R_drew)); exact HO_15.out) (Kd.R_typed HO_19.out) (by decide) hg); have n1_ := Aside0.mk (Kd.R_over' (v := (.slice (some ⟨go80, 0, none⟩) x19_2.length co82)) (by (with_reducible repeat (first | apply Kd.R_alloc | apply Kd.R_drewN | apply Kd.R_drew)); exact HO_16.out) (Kd.R_typed HO_19.out) (by decide) hg); have n2_ := Aside0.mk (hp_); have n3_ := Aside0.mk (Kd.R_over' (v := (.slice (some ⟨go80, 0, none⟩) x19_2.length co82)) (by (with_reducible repeat (first | apply Kd.R_alloc | apply Kd.R_drewN | apply Kd.R_drew)); exact HO_20.out) (Kd.R_typed HO_19.out) (by decide) hg); have n4_ := Aside0.mk (Kd.R_over' (v := (.slice (some ⟨go80, 0, none⟩) x19_2.length co82)) (by (with_reducible repeat (first | apply Kd.R_alloc | apply Kd.R_drewN | apply Kd.R_drew)); exact HO_549000.out) (Kd.R_typed HO_19.out) (by decide) hg); have n5_ := Aside0.mk (blk_grown (g := gb548) (o := .cells #[.slice Ao16 t544.length co16, .int .i64 t547] 26 (0, 0)) (by (with_reducible repeat (first | refine blk_drewN ?_ _ | refine blk_drew ?_ | refine blk_alloc ?_ _)); exact BK548.out) hg (Kd.R_ne HO_19.out BK548.out (by decide))); have n6_ := Aside0.mk ((by rw [hw]; exact below_set (HB.out) GB80.out : Below w.heap.size w w84)); clear HO_15; clear HO_16; clear HO_19; clear HO_20; clear HO_549000; clear BK548; clear HB; have HO_15 := n0_; have HO_16 := n1_; have HO_19 := n2_; have HO_20 := n3_; have HO_549000 := n4_; have BK548 := n5_; have HB := n6_; clear n0_ n1_ n2_ n3_ n4_ n5_ n6_; clear hg hw hp_))
                           (try simp only [← hl20_56])
                           go_roundg kj64
                           case measure => have := HJ11.out; have := HK2.out; have := HJ34.out; have := HK4.out; have := HJ56.out; have := HJ64.out; omega
                           case rel => exact ⟨(y576), (y566), (wrap64 (x21_2 + 1)), (x22_2), (wrap64 (x23_2 + 1)), (by first | rfl | (simp; done) | (simp [*]; done)), (by first | rfl | (simp; done) | (simp [*]; done)), (by first | rfl | (simp; done) | (simp [*]; done)), H', ⟨by have := HJ11.out; have := HK2.out; have := HJ34.out; have := HK4.out; have := HJ56.out; have := HJ64.out; omega⟩, ⟨by (try simp only [hl20_56]); (with_reducible repeat (first | apply Kd.R_alloc | apply Kd.R_drewN | apply Kd.R_drew)); exact HO_15.out⟩, ⟨by (try simp only [hl20_56]); (with_reducible repeat (first | apply Kd.R_alloc | apply Kd.R_drewN | apply Kd.R_drew)); exact HO_16.out⟩, ⟨by (try simp only [hl20_56]); (with_reducible repeat (first | apply Kd.R_alloc | apply Kd.R_drewN | apply Kd.R_drew)); exact HO_19.out⟩, ⟨by (try simp only [hl20_56]); (with_reducible repeat (first | apply Kd.R_alloc | apply Kd.R_drewN | apply Kd.R_drew)); exact HO_20.out⟩, ⟨by (try simp only [hl20_56]); (with_reducible repeat (first | apply Kd.R_alloc | apply Kd.R_drewN | apply Kd.R_drew)); exact HO_549000.out⟩, ⟨by (try simp only [hl20_56]); (with_reducible repeat (first | refine blk_drewN ?_ _ | refine blk_drew ?_ | refine blk_alloc ?_ _)); exact BK548.out⟩, ⟨by repeat (first | (with_reducible first | exact HB.out | apply below_alloc | apply pw_below_drewN | apply below_drew1 | refine below_set ?_ GE548.out) | exact HB.out)⟩⟩
                          ·
                           rw [if_neg c81] at H
                           have c81b0 : decide (x25_64 ≤ t556) = false := decide_eq_false c81
                           clear c81
                           have H' := Aside0.mk H
                           clear H
                           obtain ⟨Ao85, co85, eo85⟩ := Kd.R_slice HO_19.out
                           subst eo85
                           have p575 : 0 ≤ (x25_64 : Int) := of_decide_eq_true (by first | (with_reducible assumption) | assumption)
                           have q575 : x25_64 < (x19_2.length : Int) := of_decide_eq_true (by first | (with_reducible assumption) | assumption)
                           obtain ⟨ad575, e575, hx575_0⟩ := Kd.at_int (Kd.R_reads' HO_19.out).2.2 x25_64 p575 q575
                           cases e575
                           replace p575 := eq_true p575
                           replace q575 := eq_true q575
                           have p80 : 0 ≤ (x25_64 : Int) := of_decide_eq_true (by first | (with_reducible assumption) | assumption)
                           have q80 : (x25_64 : Int) < ((x19_2.length : Int) : Int) := of_decide_eq_true (by first | (with_reducible assumption) | assumption)
                           obtain ⟨go80, co80, eo80, gb80, gl80, cl80, HG80⟩ := Kd.R_form HO_19.out (by omega)
                           (first | cases eo80 | (injection eo80 with ea_ en_ ec_; (first | subst ea_ | (injection ea_ with ea_; subst ea_)); subst ec_; clear en_))
                           have GB80 := Aside0.mk gb80
                           have GG80 := Aside0.mk HG80
                           clear gb80 gl80 HG80
                           (first | simp only [add_plain] at hx575_0 | skip)
                           obtain ⟨hx80_0, hf80_0⟩ := Kd.R_celln 0 HO_19.out (x25_64 : Int) p80 q80
                           replace p80 := eq_true p80
                           replace q80 := eq_true q80
                           have HP86 := Kd.R_putg HO_19.out (x25_64 : Int) (wrap64 ((rd x19_2 x25_64) + 1))
                           go_wp2_with (first | ((with_reducible refine gate_store (t := 3) (p := 141) rfl ?_); refine store_event (t := 3) (p := 141) (v := ?vo_w87) (w1 := (wc.setCell ⟨go80, (x25_64 : Int).toNat, none⟩ (.int .i64 (wrap64 ((rd x19_2 x25_64) + 1))))) ?hg ?ho ?hn ?hr ?_; (case ho => rfl); (case hg => rfl); (case hn => rfl); (case hr => first | (go_simp; done) | (go_simp; rfl)); intro w87 hw; have hg : wc.grownBy w87 (some go80) := (by rw [hw]; exact HP86.2); have hp_ : Kd.R (Kd.int .i64) 3 w87 w.heap.size (fun _ => True) (.slice (some ⟨go80, 0, none⟩) x19_2.length co85) y576 := (by rw [hw, Ny576.out]; exact HP86.1); clear HP86; have n0_ := Aside0.mk (Kd.R_over' (v := (.slice (some ⟨go80, 0, none⟩) x19_2.length co85)) (by (with_reducible repeat (first | apply Kd.R_alloc | apply Kd.R_drewN | apply Kd.R_drew)); exact HO_15.out) (Kd.R_typed HO_19.out) (by decide) hg); have n1_ := Aside0.mk (Kd.R_over' (v := (.slice (some ⟨go80, 0, none⟩) x19_2.length co85)) (by (with_reducible repeat (first | apply Kd.R_alloc | apply Kd.R_drewN | apply Kd.R_drew)); exact HO_16.out) (Kd.R_typed HO_19.out) (by decide) hg); have n2_ := Aside0.mk (hp_); have n3_ := Aside0.mk (Kd.R_over' (v := (.slice (some ⟨go80, 0, none⟩) x19_2.length co85)) (by (with_reducible repeat (first | apply Kd.R_alloc | apply Kd.R_drewN | apply Kd.R_drew)); exact HO_20.out) (Kd.R_typed HO_19.out) (by decide) hg); have n4_ := Aside0.mk (Kd.R_over' (v := (.slice (some ⟨go80, 0, none⟩) x19_2.length co85)) (by (with_reducible repeat (first | apply Kd.R_alloc | apply Kd.R_drewN | apply Kd.R_drew)); exact HO_549000.out) (Kd.R_typed HO_19.out) (by decide) hg); have n5_ := Aside0.mk (blk_grown (g := gb548) (o := .cells #[.slice Ao16 t544.length co16, .int .i64 t547] 26 (0, 0)) (by (with_reducible repeat (first | refine blk_drewN ?_ _ | refine blk_drew ?_ | refine blk_alloc ?_ _)); exact BK548.out) hg (Kd.R_ne HO_19.out BK548.out (by decide))); have n6_ := Aside0.mk ((by rw [hw]; exact below_set (HB.out) GB80.out : Below w.heap.size w w87)); clear HO_15; clear HO_16; clear HO_19; clear HO_20; clear HO_549000; clear BK548; clear HB; have HO_15 := n0_; have HO_16 := n1_; have HO_19 := n2_; have HO_20 := n3_; have HO_549000 := n4_; have BK548 := n5_; have HB := n6_; clear n0_ n1_ n2_ n3_ n4_ n5_ n6_; clear hg hw hp_))
                           (try simp only [← hl20_56])
                           go_roundg kj64
                           case measure => have := HJ11.out; have := HK2.out; have := HJ34.out; have := HK4.out; have := HJ56.out; have := HJ64.out; omega
                           case rel => exact ⟨(y576), (y566), (x21_2), (x22_2), (wrap64 (x23_2 + 1)), (by first | rfl | (simp; done) | (simp [*]; done)), (by first | rfl | (simp; done) | (simp [*]; done)), (by first | rfl | (simp; done) | (simp [*]; done)), H', ⟨by have := HJ11.out; have := HK2.out; have := HJ34.out; have := HK4.out; have := HJ56.out; have := HJ64.out; omega⟩, ⟨by (try simp only [hl20_56]); (with_reducible repeat (first | apply Kd.R_alloc | apply Kd.R_drewN | apply Kd.R_drew)); exact HO_15.out⟩, ⟨by (try simp only [hl20_56]); (with_reducible repeat (first | apply Kd.R_alloc | apply Kd.R_drewN | apply Kd.R_drew)); exact HO_16.out⟩, ⟨by (try simp only [hl20_56]); (with_reducible repeat (first | apply Kd.R_alloc | apply Kd.R_drewN | apply Kd.R_drew)); exact HO_19.out⟩, ⟨by (try simp only [hl20_56]); (with_reducible repeat (first | apply Kd.R_alloc | apply Kd.R_drewN | apply Kd.R_drew)); exact HO_20.out⟩, ⟨by (try simp only [hl20_56]); (with_reducible repeat (first | apply Kd.R_alloc | apply Kd.R_drewN | apply Kd.R_drew)); exact HO_549000.out⟩, ⟨by (try simp only [hl20_56]); (with_reducible repeat (first | refine blk_drewN ?_ _ | refine blk_drew ?_ | refine blk_alloc ?_ _)); exact BK548.out⟩, ⟨by repeat (first | (with_reducible first | exact HB.out | apply below_alloc | apply pw_below_drewN | apply below_drew1 | refine below_set ?_ GE548.out) | exact HB.out)⟩⟩
                         ·
                          rw [if_neg c79] at H
                          exact absurd H (by simp)
                        ·
                         rw [if_neg c78] at H
                         exact absurd H (by simp)
                  ·
                   rw [if_neg c47] at H
                   exact absurd H (by simp)
                ·
                 rw [if_neg c41] at H
                 exact absurd H (by simp)
               ·
                rw [if_neg c40] at H
                exact absurd H (by simp)
          ·
           rw [if_neg c34] at H
           have c34b0 : decide (x23_2 < (t549.length : Int)) = false := decide_eq_false c34
           clear c34
           have H' := Aside0.mk H
           clear H
           go_wp2
           go_loopg [28, 29] k2 (fun kq v28 v29 w' => ∃ (x28_3 : Int) (x29_3 : Int), v28 = .int .i64 x28_3 ∧ v29 = .int .i64 x29_3 ∧ Aside0 (dialtonelaw34_RecoveryEarliest.l3 kq t552 t556 x21_2 x22_2 x28_3 x29_3 = some r) ∧ Aside0 (kq ≤ k2) ∧ Aside0 (Kd.R k39 39 w' w.heap.size (fun _ => True) v553 t552) ∧ Aside0 (Kd.R k67 67 w' w.heap.size (fun _ => True) (.slice Ao16 t544.length co16) t544) ∧ Aside0 (w'.heap[gb548]? = some (.cells #[(.slice Ao16 t544.length co16), .int .i64 t547] 26 (0, 0))) ∧ Aside0 (Below w.heap.size w w'))
           case atStart => exact ⟨(0), (0), (by first | rfl | (simp; done) | (simp [*]; done)), (by first | rfl | (simp; done) | (simp [*]; done)), H', ⟨Nat.le_refl _⟩, ⟨by (with_reducible repeat (first | apply Kd.R_alloc | apply Kd.R_drewN | apply Kd.R_drew)); exact HO_16.out⟩, ⟨by (with_reducible repeat (first | apply Kd.R_alloc | apply Kd.R_drewN | apply Kd.R_drew)); exact HO_549000.out⟩, ⟨by (with_reducible repeat (first | refine blk_drewN ?_ _ | refine blk_drew ?_ | refine blk_alloc ?_ _)); exact BK548.out⟩, ⟨by repeat (first | (with_reducible first | exact HB.out | apply below_alloc | apply pw_below_drewN | apply below_drew1 | refine below_set ?_ GE548.out) | exact HB.out)⟩⟩
           case round =>
            clear H'
            try clear c1
            try clear c2
            try clear p2
            try clear c3
            try clear c4
            try clear p4
            try clear q4
            try clear hx4
            try clear c5
            try clear p5
            try clear q5
            try clear hx5
            try clear c6
            try clear p6
            try clear c7
            try clear c8
            try clear p8
            try clear q8
            try clear hx8
            try clear hf8
            try clear c13
            try clear c14
            try clear c15
            try clear c16
            try clear c18
            try clear c22
            try clear c22b0
            try clear c22b1
            try clear c24
            try clear c26
            try clear c26b0
            try clear c26b1
            try clear c27
            try clear c27b0
            try clear c27b1
            try clear c28
            try clear c28b0
            try clear c28b1
            try clear c34
            try clear c34b0
            try clear c36
            try clear c36b0
            try clear c37
            try clear c37b0
            try clear c40
            try clear c40b0
            try clear c41
            try clear c41b0
            try clear q42
            try clear c43
            try clear c44
            try clear c44b0
            try clear c44b1
            try clear c44b2
            try clear p46
            try clear q46
            try clear hx46
            try clear hf46
            try clear c47
            try clear c47b0
            try clear q48
            try clear c49
            try clear c50
            try clear c50b0
            try clear p56
            try clear q56
            try clear hx56
            try clear p57
            try clear q57
            try clear hx57
            try clear c61
            try clear c61b0
            try clear c62
            try clear c62b0
            try clear p64
            try clear c66
            try clear c66b0
            try clear c68
            try clear c68b0
            try clear c68b1
            try clear c69
            try clear c69b0
            try clear c70
            try clear c70b0
            try clear c71
            try clear c71b0
            try clear c78
            try clear c78b0
            try clear c79
            try clear c79b0
            try clear p80
            try clear q80
            try clear hx80
            try clear hf80
            try clear c81
            try clear c81b0
            try clear hcz17_0
            try clear hcz17_1
            try clear hcz19_0
            try clear hcz19_1
            try clear hcz72_0
            try clear hcz72_1
            try clear hcz75_0
            try clear hcz75_1
            try clear hfz17_0
            try clear hfz17_1
            try clear hfz19_0
            try clear hfz19_1
            try clear hfz72_0
            try clear hfz72_1
            try clear hfz75_0
            try clear hfz75_1
            try clear hx46_0
            try clear hx563_0
            try clear hx565_0
            try clear hx567_0
            try clear hx567_1
            try clear hx567_2
            try clear hx568_0
            try clear hx568_1
            try clear hx568_2
            try clear hx569_0
            try clear hx569_1
            try clear hx569_2
            try clear hx570_0
            try clear hx574_0
            try clear hx575_0
            try clear hx80_0
            try clear p2
            try clear p4
            try clear p46
            try clear p5
            try clear p56
            try clear p563
            try clear p565
            try clear p567
            try clear p568
            try clear p569
            try clear p57
            try clear p570
            try clear p574
            try clear p575
            try clear p6
            try clear p64
            try clear p80
            try clear q4
            try clear q42
            try clear q46
            try clear q48
            try clear q5
            try clear q56
            try clear q563
            try clear q565
            try clear q567
            try clear q568
            try clear q569
            try clear q57
            try clear q570
            try clear q574
            try clear q575
            try clear q80
            obtain ⟨x28_3, x29_3, rfl, rfl, HA, HK3, HO_16, HO_549000, BK548, HB⟩ := hrel
            cases gk with
            | zero => exact absurd HA.out (by simp [dialtonelaw34_RecoveryEarliest.l3])
            | succ k3 =>
             have H := HA.out
             clear HA
             simp only [dialtonelaw34_RecoveryEarliest.l3] at H
             by_cases c88 : x29_3 < (t552.length : Int)
             ·
              rw [if_pos c88] at H
              have c88b0 : decide (x29_3 < (t552.length : Int)) = true := decide_eq_true c88
              clear c88
              by_cases c89 : 0 ≤ x29_3
              ·
               rw [if_pos c89] at H
               have c89b0 : decide (0 ≤ x29_3) = true := decide_eq_true c89
               clear c89
               by_cases c90 : ((rd_T39 t552 x29_3).f2) ≤ t556
               ·
                rw [if_pos c90] at H
                have c90b0 : decide (((rd_T39 t552 x29_3).f2) ≤ t556) = true := decide_eq_true c90
                clear c90
                have H' := Aside0.mk H
                clear H
                obtain ⟨Ao91, co91, eo91⟩ := Kd.R_slice HO_16.out
                subst eo91
                have p577 : 0 ≤ (x29_3 : Int) := of_decide_eq_true (by first | (with_reducible assumption) | assumption)
                have q577 : x29_3 < (t552.length : Int) := of_decide_eq_true (by first | (with_reducible assumption) | assumption)
                obtain ⟨ad577, e577, hx577_0, hx577_1, hx577_2⟩ := at_T39 (Kd.R_reads' HO_16.out).2.2 x29_3 p577 q577
                cases e577
                replace p577 := eq_true p577
                replace q577 := eq_true q577
                go_wp2
                go_roundg k3
                case measure => have := HJ11.out; have := HK2.out; have := HK3.out; omega
                case rel => exact ⟨(wrap64 (x28_3 + 1)), (wrap64 (x29_3 + 1)), (by first | rfl | (simp; done) | (simp [*]; done)), (by first | rfl | (simp; done) | (simp [*]; done)), H', ⟨by have := HJ11.out; have := HK2.out; have := HK3.out; omega⟩, ⟨by (with_reducible repeat (first | apply Kd.R_alloc | apply Kd.R_drewN | apply Kd.R_drew)); exact HO_16.out⟩, ⟨by (with_reducible repeat (first | apply Kd.R_alloc | apply Kd.R_drewN | apply Kd.R_drew)); exact HO_549000.out⟩, ⟨by (with_reducible repeat (first | refine blk_drewN ?_ _ | refine blk_drew ?_ | refine blk_alloc ?_ _)); exact BK548.out⟩, ⟨by repeat (first | (with_reducible first | exact HB.out | apply below_alloc | apply pw_below_drewN | apply below_drew1 | refine below_set ?_ GE548.out) | exact HB.out)⟩⟩
               ·
                rw [if_neg c90] at H
                have c90b0 : decide (((rd_T39 t552 x29_3).f2) ≤ t556) = false := decide_eq_false c90
                clear c90
                have H' := Aside0.mk H
                clear H
                obtain ⟨Ao92, co92, eo92⟩ := Kd.R_slice HO_16.out
                subst eo92
                have p577 : 0 ≤ (x29_3 : Int) := of_decide_eq_true (by first | (with_reducible assumption) | assumption)
                have q577 : x29_3 < (t552.length : Int) := of_decide_eq_true (by first | (with_reducible assumption) | assumption)
                obtain ⟨ad577, e577, hx577_0, hx577_1, hx577_2⟩ := at_T39 (Kd.R_reads' HO_16.out).2.2 x29_3 p577 q577
                cases e577
                replace p577 := eq_true p577
                replace q577 := eq_true q577
                go_wp2
                go_roundg k3
                case measure => have := HJ11.out; have := HK2.out; have := HK3.out; omega
                case rel => exact ⟨(x28_3), (wrap64 (x29_3 + 1)), (by first | rfl | (simp; done) | (simp [*]; done)), (by first | rfl | (simp; done) | (simp [*]; done)), H', ⟨by have := HJ11.out; have := HK2.out; have := HK3.out; omega⟩, ⟨by (with_reducible repeat (first | apply Kd.R_alloc | apply Kd.R_drewN | apply Kd.R_drew)); exact HO_16.out⟩, ⟨by (with_reducible repeat (first | apply Kd.R_alloc | apply Kd.R_drewN | apply Kd.R_drew)); exact HO_549000.out⟩, ⟨by (with_reducible repeat (first | refine blk_drewN ?_ _ | refine blk_drew ?_ | refine blk_alloc ?_ _)); exact BK548.out⟩, ⟨by repeat (first | (with_reducible first | exact HB.out | apply below_alloc | apply pw_below_drewN | apply below_drew1 | refine below_set ?_ GE548.out) | exact HB.out)⟩⟩
              ·
               rw [if_neg c89] at H
               exact absurd H (by simp)
             ·
              rw [if_neg c88] at H
              have c88b0 : decide (x29_3 < (t552.length : Int)) = false := decide_eq_false c88
              clear c88
              obtain rfl := Option.some.inj H
              obtain ⟨Ao93, co93, eo93⟩ := Kd.R_slice HO_16.out
              subst eo93
              go_wp2
              go_ret
              exact ⟨by first | rfl | (simp [errW_none, errW_some] <;> rfl) | (simp [*, errW_none, errW_some] <;> rfl), by repeat (first | (with_reducible first | exact HB.out | apply below_alloc | apply pw_below_drewN | apply below_drew1 | refine below_set ?_ GE548.out) | exact HB.out)⟩
       ·
        rw [if_neg c28] at H
        exact absurd H (by simp)
      ·
       rw [if_neg c27] at H
       exact absurd H (by simp)
     ·
      rw [if_neg c26] at H
      exact absurd H (by simp)
 ·
  replace c8 := Bool.eq_false_iff.mpr c8
  subst c8
  have H1 : (none) = some r := by rw [if_neg (show ¬ (false = true) by decide)] at H; exact H
  clear H
  have H := H1
  clear H1
  exact absurd H (by simp)

end Go.Proofs.Ytcldldmedphcfaa.C
