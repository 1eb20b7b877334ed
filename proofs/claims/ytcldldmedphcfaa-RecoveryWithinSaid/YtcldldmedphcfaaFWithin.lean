-- Written for this claim by a program of this session (wip/tools/hprint.py) out of the translation. Lean checks it.
import Derived.Test.YtcldldmedphcfaaCKinds
import Derived.Test.YtcldldmedphcfaaCCapacity
import Derived.Test.YtcldldmedphcfaaCSane
import Derived.Test.YtcldldmedphcfaaCMade
import Derived.Test.YtcldldmedphcfaaCAttempts
import Derived.Test.YtcldldmedphcfaaHPick
import Derived.Test.YtcldldmedphcfaaHPlan
namespace Go.Proofs.Ytcldldmedphcfaa.C
open Go.RowKit Go.Proofs.YtcldldmedphcfaaW.PrintWords Go.Proofs.YtcldldmedphcfaaW.PrintLast Go.Proofs.YtcldldmedphcfaaW.PrintMore
attribute [local go_sem] max2_int min2_int max_two min_two max_three min_three max_four min_four   -- for this text's walks alone
set_option linter.unusedVariables false
set_option linter.unusedSimpArgs false

/-! ### dialtonelaw34_RecoveryWithin: function 6 -/
mutual
def dialtonelaw34_RecoveryWithin.j0 : Nat → List (S60) → List (S39) → Int → Int → Bool → Option (Bool)
 | 0, _, _, _, _, _ => none
 | k + 1, x11, x12, x14, x15, x55 => if x55 = true then (none) else (dialtonelaw34_RecoveryWithin.l0 k x11 x12 x14 x15 0 0)
def dialtonelaw34_RecoveryWithin.l0 : Nat → List (S60) → List (S39) → Int → Int → Int → Int → Option (Bool)
 | 0, _, _, _, _, _, _ => none
 | k + 1, x11, x12, x14, x15, x17, x18 => if x18 < (x11.length : Int) then (dialtonelaw34_RecoveryWithin.l1 k x11 x12 x14 x15 x17 x18 0 0) else (some (decide (x17 ≤ x15)))
def dialtonelaw34_RecoveryWithin.l1 : Nat → List (S60) → List (S39) → Int → Int → Int → Int → Int → Int → Option (Bool)
 | 0, _, _, _, _, _, _, _, _ => none
 | k + 1, x11, x12, x14, x15, x17, x18, x19, x20 => if x20 < (x12.length : Int) then (if 0 ≤ x20 then (if 0 ≤ x18 then (if x18 < (x11.length : Int) then (if ((rd_T39 x12 x20).f0) = ((rd_T60 x11 x18).f0) then (if ((rd_T39 x12 x20).f1) = ((rd_T60 x11 x18).f1) then (dialtonelaw34_RecoveryWithin.j3 k x11 x12 x14 x15 x17 x18 (wrap64 (x19 + 1)) x20 (decide (((rd_T39 x12 x20).f2) < ((rd_T60 x11 x18).f1)))) else (dialtonelaw34_RecoveryWithin.j3 k x11 x12 x14 x15 x17 x18 (wrap64 (x19 + 1)) x20 true)) else (dialtonelaw34_RecoveryWithin.l1 k x11 x12 x14 x15 x17 x18 x19 (wrap64 (x20 + 1)))) else (none)) else (none)) else (none)) else (if x19 = 1 then (dialtonelaw34_RecoveryWithin.l0 k x11 x12 x14 x15 x17 (wrap64 (x18 + 1))) else (none))
def dialtonelaw34_RecoveryWithin.j3 : Nat → List (S60) → List (S39) → Int → Int → Int → Int → Int → Int → Bool → Option (Bool)
 | 0, _, _, _, _, _, _, _, _, _ => none
 | k + 1, x11, x12, x14, x15, x17, x18, x19, x20, x104 => if x104 = true then (none) else (if 0 ≤ x20 then (if x20 < (x12.length : Int) then (if ((rd_T39 x12 x20).f2) = x14 then (if 0 ≤ x18 then (if x18 < (x11.length : Int) then (dialtonelaw34_RecoveryWithin.j4 k x11 x12 x14 x15 x17 x18 x19 x20 (!((rd_T60 x11 x18).f2))) else (none)) else (none)) else (dialtonelaw34_RecoveryWithin.j4 k x11 x12 x14 x15 x17 x18 x19 x20 false)) else (none)) else (none))
def dialtonelaw34_RecoveryWithin.j4 : Nat → List (S60) → List (S39) → Int → Int → Int → Int → Int → Int → Bool → Option (Bool)
 | 0, _, _, _, _, _, _, _, _, _ => none
 | k + 1, x11, x12, x14, x15, x17, x18, x19, x20, x119 => if x119 = true then (dialtonelaw34_RecoveryWithin.l1 k x11 x12 x14 x15 (wrap64 (x17 + 1)) x18 x19 (wrap64 (x20 + 1))) else (dialtonelaw34_RecoveryWithin.l1 k x11 x12 x14 x15 x17 x18 x19 (wrap64 (x20 + 1)))
end
def dialtonelaw34_RecoveryWithin.f (k : Nat) (l0 : List (S71)) (a1 : Int) (l2 : List (S71)) (a3 : Int) : Option (Bool) := (dialtonelaw34_sane.f k).bind fun t519 => (if t519 = true then ((dialtoneref34_Made.f k l0 a1).bind fun bt520 => ((dialtoneref34_Attempts.f k l2).bind fun t525 => ((recovery_Plan.f bt520.1 bt520.2 t525).bind fun bt528 => ((dialtonelaw34_pick.f a3 60).bind fun t532 => ((recovery_Capacity.f k bt520.1 bt520.2 t532).bind fun bt533 => (if bt528.2 = 0 then (if bt533.2 = 0 then (dialtonelaw34_RecoveryWithin.j0 k t525 bt528.1 t532 bt533.1 ((bt528.1.length : Int) != (t525.length : Int))) else (dialtonelaw34_RecoveryWithin.j0 k t525 bt528.1 t532 bt533.1 true)) else (dialtonelaw34_RecoveryWithin.j0 k t525 bt528.1 t532 bt533.1 true))))))) else (none))
theorem dialtonelaw34_RecoveryWithin.mono_l : ∀ k, (∀ y0 y1 y2 y3 y4, LeO (dialtonelaw34_RecoveryWithin.j0 k y0 y1 y2 y3 y4) (dialtonelaw34_RecoveryWithin.j0 (k + 1) y0 y1 y2 y3 y4)) ∧ (∀ y0 y1 y2 y3 y4 y5, LeO (dialtonelaw34_RecoveryWithin.l0 k y0 y1 y2 y3 y4 y5) (dialtonelaw34_RecoveryWithin.l0 (k + 1) y0 y1 y2 y3 y4 y5)) ∧ (∀ y0 y1 y2 y3 y4 y5 y6 y7, LeO (dialtonelaw34_RecoveryWithin.l1 k y0 y1 y2 y3 y4 y5 y6 y7) (dialtonelaw34_RecoveryWithin.l1 (k + 1) y0 y1 y2 y3 y4 y5 y6 y7)) ∧ (∀ y0 y1 y2 y3 y4 y5 y6 y7 y8, LeO (dialtonelaw34_RecoveryWithin.j3 k y0 y1 y2 y3 y4 y5 y6 y7 y8) (dialtonelaw34_RecoveryWithin.j3 (k + 1) y0 y1 y2 y3 y4 y5 y6 y7 y8)) ∧ (∀ y0 y1 y2 y3 y4 y5 y6 y7 y8, LeO (dialtonelaw34_RecoveryWithin.j4 k y0 y1 y2 y3 y4 y5 y6 y7 y8) (dialtonelaw34_RecoveryWithin.j4 (k + 1) y0 y1 y2 y3 y4 y5 y6 y7 y8))
 | 0 => ⟨fun _ _ _ _ _ r h => by simp [dialtonelaw34_RecoveryWithin.j0] at h, fun _ _ _ _ _ _ r h => by simp [dialtonelaw34_RecoveryWithin.l0] at h, fun _ _ _ _ _ _ _ _ r h => by simp [dialtonelaw34_RecoveryWithin.l1] at h, fun _ _ _ _ _ _ _ _ _ r h => by simp [dialtonelaw34_RecoveryWithin.j3] at h, fun _ _ _ _ _ _ _ _ _ r h => by simp [dialtonelaw34_RecoveryWithin.j4] at h⟩
 | k + 1 => by
  obtain ⟨ih0, ih1, ih2, ih3, ih4⟩ := dialtonelaw34_RecoveryWithin.mono_l k
  refine ⟨?_, ?_, ?_, ?_, ?_⟩
  ·
   intro y0 y1 y2 y3 y4
   unfold dialtonelaw34_RecoveryWithin.j0
   repeat' first
   | (with_reducible exact ih0 _ _ _ _ _)
   | (with_reducible exact ih1 _ _ _ _ _ _)
   | (with_reducible exact ih2 _ _ _ _ _ _ _ _)
   | (with_reducible exact ih3 _ _ _ _ _ _ _ _ _)
   | (with_reducible exact ih4 _ _ _ _ _ _ _ _ _)
   | (with_reducible exact dialtonelaw34_sane.mono _)
   | (with_reducible exact dialtoneref34_Attempts.mono _ _)
   | (with_reducible exact dialtoneref34_Made.mono _ _ _)
   | (with_reducible exact recovery_Capacity.mono _ _ _ _)
   | (with_reducible exact LeO.refl _)
   | (with_reducible exact LeO.none _)
   | (with_reducible refine LeO.ite ?_ ?_)
   | (with_reducible refine LeO.bind ?_ (fun _ => ?_))
   | exact ih0 _ _ _ _ _
   | exact ih1 _ _ _ _ _ _
   | exact ih2 _ _ _ _ _ _ _ _
   | exact ih3 _ _ _ _ _ _ _ _ _
   | exact ih4 _ _ _ _ _ _ _ _ _
   | exact dialtonelaw34_sane.mono _
   | exact dialtoneref34_Attempts.mono _ _
   | exact dialtoneref34_Made.mono _ _ _
   | exact recovery_Capacity.mono _ _ _ _
   | exact LeO.none _
   | refine LeO.ite ?_ ?_
   | refine LeO.bind ?_ (fun _ => ?_)
  ·
   intro y0 y1 y2 y3 y4 y5
   unfold dialtonelaw34_RecoveryWithin.l0
   repeat' first
   | (with_reducible exact ih0 _ _ _ _ _)
   | (with_reducible exact ih1 _ _ _ _ _ _)
   | (with_reducible exact ih2 _ _ _ _ _ _ _ _)
   | (with_reducible exact ih3 _ _ _ _ _ _ _ _ _)
   | (with_reducible exact ih4 _ _ _ _ _ _ _ _ _)
   | (with_reducible exact dialtonelaw34_sane.mono _)
   | (with_reducible exact dialtoneref34_Attempts.mono _ _)
   | (with_reducible exact dialtoneref34_Made.mono _ _ _)
   | (with_reducible exact recovery_Capacity.mono _ _ _ _)
   | (with_reducible exact LeO.refl _)
   | (with_reducible exact LeO.none _)
   | (with_reducible refine LeO.ite ?_ ?_)
   | (with_reducible refine LeO.bind ?_ (fun _ => ?_))
   | exact ih0 _ _ _ _ _
   | exact ih1 _ _ _ _ _ _
   | exact ih2 _ _ _ _ _ _ _ _
   | exact ih3 _ _ _ _ _ _ _ _ _
   | exact ih4 _ _ _ _ _ _ _ _ _
   | exact dialtonelaw34_sane.mono _
   | exact dialtoneref34_Attempts.mono _ _
   | exact dialtoneref34_Made.mono _ _ _
   | exact recovery_Capacity.mono _ _ _ _
   | exact LeO.none _
   | refine LeO.ite ?_ ?_
   | refine LeO.bind ?_ (fun _ => ?_)
  ·
   intro y0 y1 y2 y3 y4 y5 y6 y7
   unfold dialtonelaw34_RecoveryWithin.l1
   repeat' first
   | (with_reducible exact ih0 _ _ _ _ _)
   | (with_reducible exact ih1 _ _ _ _ _ _)
   | (with_reducible exact ih2 _ _ _ _ _ _ _ _)
   | (with_reducible exact ih3 _ _ _ _ _ _ _ _ _)
   | (with_reducible exact ih4 _ _ _ _ _ _ _ _ _)
   | (with_reducible exact dialtonelaw34_sane.mono _)
   | (with_reducible exact dialtoneref34_Attempts.mono _ _)
   | (with_reducible exact dialtoneref34_Made.mono _ _ _)
   | (with_reducible exact recovery_Capacity.mono _ _ _ _)
   | (with_reducible exact LeO.refl _)
   | (with_reducible exact LeO.none _)
   | (with_reducible refine LeO.ite ?_ ?_)
   | (with_reducible refine LeO.bind ?_ (fun _ => ?_))
   | exact ih0 _ _ _ _ _
   | exact ih1 _ _ _ _ _ _
   | exact ih2 _ _ _ _ _ _ _ _
   | exact ih3 _ _ _ _ _ _ _ _ _
   | exact ih4 _ _ _ _ _ _ _ _ _
   | exact dialtonelaw34_sane.mono _
   | exact dialtoneref34_Attempts.mono _ _
   | exact dialtoneref34_Made.mono _ _ _
   | exact recovery_Capacity.mono _ _ _ _
   | exact LeO.none _
   | refine LeO.ite ?_ ?_
   | refine LeO.bind ?_ (fun _ => ?_)
  ·
   intro y0 y1 y2 y3 y4 y5 y6 y7 y8
   unfold dialtonelaw34_RecoveryWithin.j3
   repeat' first
   | (with_reducible exact ih0 _ _ _ _ _)
   | (with_reducible exact ih1 _ _ _ _ _ _)
   | (with_reducible exact ih2 _ _ _ _ _ _ _ _)
   | (with_reducible exact ih3 _ _ _ _ _ _ _ _ _)
   | (with_reducible exact ih4 _ _ _ _ _ _ _ _ _)
   | (with_reducible exact dialtonelaw34_sane.mono _)
   | (with_reducible exact dialtoneref34_Attempts.mono _ _)
   | (with_reducible exact dialtoneref34_Made.mono _ _ _)
   | (with_reducible exact recovery_Capacity.mono _ _ _ _)
   | (with_reducible exact LeO.refl _)
   | (with_reducible exact LeO.none _)
   | (with_reducible refine LeO.ite ?_ ?_)
   | (with_reducible refine LeO.bind ?_ (fun _ => ?_))
   | exact ih0 _ _ _ _ _
   | exact ih1 _ _ _ _ _ _
   | exact ih2 _ _ _ _ _ _ _ _
   | exact ih3 _ _ _ _ _ _ _ _ _
   | exact ih4 _ _ _ _ _ _ _ _ _
   | exact dialtonelaw34_sane.mono _
   | exact dialtoneref34_Attempts.mono _ _
   | exact dialtoneref34_Made.mono _ _ _
   | exact recovery_Capacity.mono _ _ _ _
   | exact LeO.none _
   | refine LeO.ite ?_ ?_
   | refine LeO.bind ?_ (fun _ => ?_)
  ·
   intro y0 y1 y2 y3 y4 y5 y6 y7 y8
   unfold dialtonelaw34_RecoveryWithin.j4
   repeat' first
   | (with_reducible exact ih0 _ _ _ _ _)
   | (with_reducible exact ih1 _ _ _ _ _ _)
   | (with_reducible exact ih2 _ _ _ _ _ _ _ _)
   | (with_reducible exact ih3 _ _ _ _ _ _ _ _ _)
   | (with_reducible exact ih4 _ _ _ _ _ _ _ _ _)
   | (with_reducible exact dialtonelaw34_sane.mono _)
   | (with_reducible exact dialtoneref34_Attempts.mono _ _)
   | (with_reducible exact dialtoneref34_Made.mono _ _ _)
   | (with_reducible exact recovery_Capacity.mono _ _ _ _)
   | (with_reducible exact LeO.refl _)
   | (with_reducible exact LeO.none _)
   | (with_reducible refine LeO.ite ?_ ?_)
   | (with_reducible refine LeO.bind ?_ (fun _ => ?_))
   | exact ih0 _ _ _ _ _
   | exact ih1 _ _ _ _ _ _
   | exact ih2 _ _ _ _ _ _ _ _
   | exact ih3 _ _ _ _ _ _ _ _ _
   | exact ih4 _ _ _ _ _ _ _ _ _
   | exact dialtonelaw34_sane.mono _
   | exact dialtoneref34_Attempts.mono _ _
   | exact dialtoneref34_Made.mono _ _ _
   | exact recovery_Capacity.mono _ _ _ _
   | exact LeO.none _
   | refine LeO.ite ?_ ?_
   | refine LeO.bind ?_ (fun _ => ?_)
theorem dialtonelaw34_RecoveryWithin.mono : ∀ a0 a1 a2 a3 k, LeO (dialtonelaw34_RecoveryWithin.f k a0 a1 a2 a3) (dialtonelaw34_RecoveryWithin.f (k + 1) a0 a1 a2 a3) := by
 intro a0 a1 a2 a3 k
 obtain ⟨ih0, ih1, ih2, ih3, ih4⟩ := dialtonelaw34_RecoveryWithin.mono_l k
 unfold dialtonelaw34_RecoveryWithin.f
 repeat' first
   | (with_reducible exact ih0 _ _ _ _ _)
   | (with_reducible exact ih1 _ _ _ _ _ _)
   | (with_reducible exact ih2 _ _ _ _ _ _ _ _)
   | (with_reducible exact ih3 _ _ _ _ _ _ _ _ _)
   | (with_reducible exact ih4 _ _ _ _ _ _ _ _ _)
   | (with_reducible exact dialtonelaw34_sane.mono _)
   | (with_reducible exact dialtoneref34_Attempts.mono _ _)
   | (with_reducible exact dialtoneref34_Made.mono _ _ _)
   | (with_reducible exact recovery_Capacity.mono _ _ _ _)
   | (with_reducible exact LeO.refl _)
   | (with_reducible exact LeO.none _)
   | (with_reducible refine LeO.ite ?_ ?_)
   | (with_reducible refine LeO.bind ?_ (fun _ => ?_))
   | exact ih0 _ _ _ _ _
   | exact ih1 _ _ _ _ _ _
   | exact ih2 _ _ _ _ _ _ _ _
   | exact ih3 _ _ _ _ _ _ _ _ _
   | exact ih4 _ _ _ _ _ _ _ _ _
   | exact dialtonelaw34_sane.mono _
   | exact dialtoneref34_Attempts.mono _ _
   | exact dialtoneref34_Made.mono _ _ _
   | exact recovery_Capacity.mono _ _ _ _
   | exact LeO.none _
   | refine LeO.ite ?_ ?_
   | refine LeO.bind ?_ (fun _ => ?_)
set_option maxHeartbeats 8000000 in
set_option maxRecDepth 100000 in
theorem dialtonelaw34_RecoveryWithin.calls (k : Nat) (A0 : Option Addr) (c0 : Nat) (l0 : List (S71)) (a1 : Int) (A2 : Option Addr) (c2 : Nat) (l2 : List (S71)) (a3 : Int) (r : Bool) (w : World) (hr0 : Kd.C k71 w A0 l0.length l0) (hc0 : l0.length ≤ c0) (hr2 : Kd.C k71 w A2 l2.length l2) (hc2 : l2.length ≤ c2) (h : dialtonelaw34_RecoveryWithin.f k l0 a1 l2 a3 = some r) :
  Calls Try.prog 6 #[.slice A0 l0.length c0, .int .i64 a1, .slice A2 l2.length c2, .int .i64 a3] w fun e w' => e = .returned (.bool r) ∧ Below w.heap.size w w' := by
 have hu26 := Try.underlying26
 have HR0 := Aside0.mk hr0
 have HC0 := Aside0.mk hc0
 clear hr0 hc0
 have HR2 := Aside0.mk hr2
 have HC2 := Aside0.mk hc2
 clear hr2 hc2
 have HB := Aside0.mk (Below.refl w.heap.size w)
 have H : ((dialtonelaw34_sane.f k).bind fun t519 => (if t519 = true then ((dialtoneref34_Made.f k l0 a1).bind fun bt520 => ((dialtoneref34_Attempts.f k l2).bind fun t525 => ((recovery_Plan.f bt520.1 bt520.2 t525).bind fun bt528 => ((dialtonelaw34_pick.f a3 60).bind fun t532 => ((recovery_Capacity.f k bt520.1 bt520.2 t532).bind fun bt533 => (if bt528.2 = 0 then (if bt533.2 = 0 then (dialtonelaw34_RecoveryWithin.j0 k t525 bt528.1 t532 bt533.1 ((bt528.1.length : Int) != (t525.length : Int))) else (dialtonelaw34_RecoveryWithin.j0 k t525 bt528.1 t532 bt533.1 true)) else (dialtonelaw34_RecoveryWithin.j0 k t525 bt528.1 t532 bt533.1 true))))))) else (none))) = some r := h
 clear h
 replace H := Option.bind_eq_some_iff.mp H
 obtain ⟨t519, A50, H⟩ := H
 replace H : (if t519 = true then ((dialtoneref34_Made.f k l0 a1).bind fun bt520 => ((dialtoneref34_Attempts.f k l2).bind fun t525 => ((recovery_Plan.f bt520.1 bt520.2 t525).bind fun bt528 => ((dialtonelaw34_pick.f a3 60).bind fun t532 => ((recovery_Capacity.f k bt520.1 bt520.2 t532).bind fun bt533 => (if bt528.2 = 0 then (if bt533.2 = 0 then (dialtonelaw34_RecoveryWithin.j0 k t525 bt528.1 t532 bt533.1 ((bt528.1.length : Int) != (t525.length : Int))) else (dialtonelaw34_RecoveryWithin.j0 k t525 bt528.1 t532 bt533.1 true)) else (dialtonelaw34_RecoveryWithin.j0 k t525 bt528.1 t532 bt533.1 true))))))) else (none)) = some r := H
 have A5 := Aside0.mk A50
 clear A50
 by_cases c6 : t519 = true
 ·
  subst c6
  have H1 : ((dialtoneref34_Made.f k l0 a1).bind fun bt520 => ((dialtoneref34_Attempts.f k l2).bind fun t525 => ((recovery_Plan.f bt520.1 bt520.2 t525).bind fun bt528 => ((dialtonelaw34_pick.f a3 60).bind fun t532 => ((recovery_Capacity.f k bt520.1 bt520.2 t532).bind fun bt533 => (if bt528.2 = 0 then (if bt533.2 = 0 then (dialtonelaw34_RecoveryWithin.j0 k t525 bt528.1 t532 bt533.1 ((bt528.1.length : Int) != (t525.length : Int))) else (dialtonelaw34_RecoveryWithin.j0 k t525 bt528.1 t532 bt533.1 true)) else (dialtonelaw34_RecoveryWithin.j0 k t525 bt528.1 t532 bt533.1 true))))))) = some r := by rw [if_pos rfl] at H; exact H
  clear H
  have H := H1
  clear H1
  replace H := Option.bind_eq_some_iff.mp H
  obtain ⟨⟨t520, t523⟩, A70, H⟩ := H
  replace H : ((dialtoneref34_Attempts.f k l2).bind fun t525 => ((recovery_Plan.f t520 t523 t525).bind fun bt528 => ((dialtonelaw34_pick.f a3 60).bind fun t532 => ((recovery_Capacity.f k t520 t523 t532).bind fun bt533 => (if bt528.2 = 0 then (if bt533.2 = 0 then (dialtonelaw34_RecoveryWithin.j0 k t525 bt528.1 t532 bt533.1 ((bt528.1.length : Int) != (t525.length : Int))) else (dialtonelaw34_RecoveryWithin.j0 k t525 bt528.1 t532 bt533.1 true)) else (dialtonelaw34_RecoveryWithin.j0 k t525 bt528.1 t532 bt533.1 true)))))) = some r := H
  have A7 := Aside0.mk A70
  clear A70
  replace H := Option.bind_eq_some_iff.mp H
  obtain ⟨t525, A80, H⟩ := H
  replace H : ((recovery_Plan.f t520 t523 t525).bind fun bt528 => ((dialtonelaw34_pick.f a3 60).bind fun t532 => ((recovery_Capacity.f k t520 t523 t532).bind fun bt533 => (if bt528.2 = 0 then (if bt533.2 = 0 then (dialtonelaw34_RecoveryWithin.j0 k t525 bt528.1 t532 bt533.1 ((bt528.1.length : Int) != (t525.length : Int))) else (dialtonelaw34_RecoveryWithin.j0 k t525 bt528.1 t532 bt533.1 true)) else (dialtonelaw34_RecoveryWithin.j0 k t525 bt528.1 t532 bt533.1 true))))) = some r := H
  have A8 := Aside0.mk A80
  clear A80
  replace H := Option.bind_eq_some_iff.mp H
  obtain ⟨⟨t528, t531⟩, A90, H⟩ := H
  replace H : ((dialtonelaw34_pick.f a3 60).bind fun t532 => ((recovery_Capacity.f k t520 t523 t532).bind fun bt533 => (if t531 = 0 then (if bt533.2 = 0 then (dialtonelaw34_RecoveryWithin.j0 k t525 t528 t532 bt533.1 ((t528.length : Int) != (t525.length : Int))) else (dialtonelaw34_RecoveryWithin.j0 k t525 t528 t532 bt533.1 true)) else (dialtonelaw34_RecoveryWithin.j0 k t525 t528 t532 bt533.1 true)))) = some r := H
  have A9 := Aside0.mk A90
  clear A90
  replace H := Option.bind_eq_some_iff.mp H
  obtain ⟨t532, A100, H⟩ := H
  replace H : ((recovery_Capacity.f k t520 t523 t532).bind fun bt533 => (if t531 = 0 then (if bt533.2 = 0 then (dialtonelaw34_RecoveryWithin.j0 k t525 t528 t532 bt533.1 ((t528.length : Int) != (t525.length : Int))) else (dialtonelaw34_RecoveryWithin.j0 k t525 t528 t532 bt533.1 true)) else (dialtonelaw34_RecoveryWithin.j0 k t525 t528 t532 bt533.1 true))) = some r := H
  have A10 := Aside0.mk A100
  clear A100
  replace H := Option.bind_eq_some_iff.mp H
  obtain ⟨⟨t533, t534⟩, A110, H⟩ := H
  replace H : (if t531 = 0 then (if t534 = 0 then (dialtonelaw34_RecoveryWithin.j0 k t525 t528 t532 t533 ((t528.length : Int) != (t525.length : Int))) else (dialtonelaw34_RecoveryWithin.j0 k t525 t528 t532 t533 true)) else (dialtonelaw34_RecoveryWithin.j0 k t525 t528 t532 t533 true)) = some r := H
  have A11 := Aside0.mk A110
  clear A110
  have HC12 := Aside0.mk H
  clear H
  go_enter Try.func6, Try.ntmps6
  go_upto_region 9 with (first | (go_at_call 13; (with_reducible refine (dialtonelaw34_sane.calls k  true _ A5.out).mono ?_); rintro e w13 ⟨rfl, hb⟩; have n0_ := Aside0.mk (below_step (by repeat (first | (with_reducible first | exact HB.out | apply below_alloc | apply pw_below_drewN | apply below_drew1) | exact HB.out)) hb); clear HB; have HB := n0_; clear n0_; (try clear hb); (try clear hb2); (try clear hk); (try clear hi)) | (go_at_call 14; (with_reducible refine (dialtoneref34_Made.calls k _ _ l0 a1 t520 t523 _ ?side1 ?side2 A7.out).mono ?_); (case side1 => repeat (first | exact (Kd.C_below HR0.out HB.out) | (with_reducible refine Kd.C_alloc ?_ _) | (with_reducible refine Kd.C_drewN ?_ _) | (with_reducible refine Kd.C_drew ?_))); (case side2 => exact HC0.out); rintro e w14 ⟨v521, rfl, ho0, hb⟩; have n0_ := Aside0.mk (Kd.R_lower ho0 (below_size (by repeat (first | (with_reducible first | exact HB.out | apply below_alloc | apply pw_below_drewN | apply below_drew1) | exact HB.out)))); have n1_ := Aside0.mk (below_step (by repeat (first | (with_reducible first | exact HB.out | apply below_alloc | apply pw_below_drewN | apply below_drew1) | exact HB.out)) hb); clear HB; have HO522 := n0_; have HB := n1_; clear n0_ n1_; (try clear hb); (try clear hb2); (try clear hk); (try clear hi); (try clear ho0)) | ((with_reducible refine gate_dst (N := 10) rfl ?_); (try (refine gate_guard (by rfl) ?_; dsimp only)); refine box_event ?hg (N := 10) ?hd (cs := #[.slice none 0 0, .int .i64 0]) (t := 26) ?hr ?_; (case hd => rfl); (case hg => rfl); (case hr => first | (go_simp; done) | (go_simp; rfl)); intro gb524 hg w15 hbox hb; have n0_ := Aside0.mk (Kd.R_below (by (with_reducible repeat (first | apply Kd.R_alloc | apply Kd.R_drewN | apply Kd.R_drew)); exact HO522.out) hb); have n1_ := Aside0.mk (below_step (by repeat (first | (with_reducible first | exact HB.out | apply below_alloc | apply pw_below_drewN | apply below_drew1) | exact HB.out)) hb); have n2_ := Aside0.mk (hbox); have n3_ := Aside0.mk ((by rw [hg]; exact (below_size (by repeat (first | (with_reducible first | exact HB.out | apply below_alloc | apply pw_below_drewN | apply below_drew1) | exact HB.out))) : w.heap.size ≤ gb524)); have n4_ := Aside0.mk ((by rw [hg]; exact (below_size (by repeat (first | (with_reducible first | exact HB.out | apply below_alloc | apply pw_below_drewN | apply below_drew1) | exact HB.out))) : w.heap.size ≤ gb524)); clear HO522; clear HB; have HO522 := n0_; have HB := n1_; have BK524 := n2_; have GW524 := n3_; have GE524 := n4_; clear n0_ n1_ n2_ n3_ n4_; clear hb hbox hg; obtain ⟨Ao16, co16, eo16⟩ := Kd.R_slice HO522.out; subst eo16; have hcz17_0 : w15.cell? ⟨gb524, 0, none⟩ = some (.slice none 0 0) := (blk_cell BK524.out 0).trans rfl; have hcz17_1 : w15.cell? ⟨gb524, 1, none⟩ = some (.int .i64 0) := (blk_cell BK524.out 1).trans rfl; have hfz17_0 := blk_frozen BK524.out 0; have hfz17_1 := blk_frozen BK524.out 1) | (go_at_call 15; (with_reducible refine (dialtoneref34_Attempts.calls k _ _ l2 t525 _ ?side1 ?side2 A8.out).mono ?_); (case side1 => exact Kd.C_below HR2.out (by repeat (first | (with_reducible first | exact HB.out | apply below_alloc | apply pw_below_drewN | apply below_drew1 | refine below_set ?_ GE524.out) | exact HB.out))); (case side2 => exact HC2.out); rintro e w18 ⟨v526, rfl, ho0, hb⟩; have n0_ := Aside0.mk (Kd.R_below (by (with_reducible repeat (first | apply Kd.R_alloc | apply Kd.R_drewN | apply Kd.R_drew)); exact (Kd.R_mono (Kd.R_far (p := ⟨gb524, 1, none⟩) (Kd.R_far (p := ⟨gb524, 0, none⟩) (Kd.R_types HO522.out BK524.out (by decide)) (fun _ hk => hk.2) (.slice Ao16 t520.length co16)) (fun _ hk => hk.2) (.int .i64 t523)) (fun _ h_ => h_.1))) hb); have n1_ := Aside0.mk (Kd.R_lower ho0 (below_size (by repeat (first | (with_reducible first | exact HB.out | apply below_alloc | apply pw_below_drewN | apply below_drew1 | refine below_set ?_ GE524.out) | exact HB.out)))); have n2_ := Aside0.mk (blk_below (g := gb524) (o := .cells #[.slice Ao16 t520.length co16, .int .i64 t523] 26 (0, 0)) (by (with_reducible repeat (first | refine blk_drewN ?_ _ | refine blk_drew ?_ | refine blk_alloc ?_ _)); refine blk_put (cs := #[.slice Ao16 t520.length co16, .int .i64 0]) ?_ 1 _ rfl; (with_reducible repeat (first | refine blk_drewN ?_ _ | refine blk_drew ?_ | refine blk_alloc ?_ _)); refine blk_put (cs := #[.slice none 0 0, .int .i64 0]) ?_ 0 _ rfl; (with_reducible repeat (first | refine blk_drewN ?_ _ | refine blk_drew ?_ | refine blk_alloc ?_ _)); exact BK524.out) hb); have n3_ := Aside0.mk (below_step (by repeat (first | (with_reducible first | exact HB.out | apply below_alloc | apply pw_below_drewN | apply below_drew1 | refine below_set ?_ GE524.out) | exact HB.out)) hb); clear HO522; clear BK524; clear HB; have HO522 := n0_; have HO527 := n1_; have BK524 := n2_; have HB := n3_; clear n0_ n1_ n2_ n3_; (try clear hb); (try clear hb2); (try clear hk); (try clear hi); (try clear ho0); have hcz19_0 : w18.cell? ⟨gb524, 0, none⟩ = some (.slice Ao16 t520.length co16) := (blk_cell BK524.out 0).trans rfl; have hcz19_1 : w18.cell? ⟨gb524, 1, none⟩ = some (.int .i64 t523) := (blk_cell BK524.out 1).trans rfl; have hfz19_0 := blk_frozen BK524.out 0; have hfz19_1 := blk_frozen BK524.out 1; obtain ⟨Ao20, co20, eo20⟩ := Kd.R_slice HO527.out; subst eo20) | (go_at_call 16; (with_reducible refine (recovery_Plan.calls _ _ t520 t523 _ _ t525 t528 t531 _ ?side1 ?side2 ?side3 ?side4 A9.out).mono ?_); (case side1 => repeat (first | exact (Kd.R_reads' HO522.out).2.2 | (with_reducible refine Kd.C_alloc ?_ _) | (with_reducible refine Kd.C_drewN ?_ _) | (with_reducible refine Kd.C_drew ?_))); (case side2 => exact (Kd.R_reads' HO522.out).2.1); (case side3 => repeat (first | exact (Kd.R_reads' HO527.out).2.2 | (with_reducible refine Kd.C_alloc ?_ _) | (with_reducible refine Kd.C_drewN ?_ _) | (with_reducible refine Kd.C_drew ?_))); (case side4 => exact (Kd.R_reads' HO527.out).2.1); rintro e w21 ⟨v529, rfl, ho0, hb⟩; have n0_ := Aside0.mk (Kd.R_below (by (with_reducible repeat (first | apply Kd.R_alloc | apply Kd.R_drewN | apply Kd.R_drew)); exact HO522.out) hb); have n1_ := Aside0.mk (Kd.R_below (by (with_reducible repeat (first | apply Kd.R_alloc | apply Kd.R_drewN | apply Kd.R_drew)); exact HO527.out) hb); have n2_ := Aside0.mk (Kd.R_lower ho0 (below_size (by repeat (first | (with_reducible first | exact HB.out | apply below_alloc | apply pw_below_drewN | apply below_drew1 | refine below_set ?_ GE524.out) | exact HB.out)))); have n3_ := Aside0.mk (blk_below (g := gb524) (o := .cells #[.slice Ao16 t520.length co16, .int .i64 t523] 26 (0, 0)) (by (with_reducible repeat (first | refine blk_drewN ?_ _ | refine blk_drew ?_ | refine blk_alloc ?_ _)); exact BK524.out) hb); have n4_ := Aside0.mk (below_step (by repeat (first | (with_reducible first | exact HB.out | apply below_alloc | apply pw_below_drewN | apply below_drew1 | refine below_set ?_ GE524.out) | exact HB.out)) hb); clear HO522; clear HO527; clear BK524; clear HB; have HO522 := n0_; have HO527 := n1_; have HO530 := n2_; have BK524 := n3_; have HB := n4_; clear n0_ n1_ n2_ n3_ n4_; (try clear hb); (try clear hb2); (try clear hk); (try clear hi); (try clear ho0)) | (go_at_call 18; (with_reducible refine (dialtonelaw34_pick.calls a3 60 t532 _ A10.out).mono ?_); rintro e w22 ⟨rfl, hb⟩; have n0_ := Aside0.mk (Kd.R_below (by (with_reducible repeat (first | apply Kd.R_alloc | apply Kd.R_drewN | apply Kd.R_drew)); exact HO522.out) hb); have n1_ := Aside0.mk (Kd.R_below (by (with_reducible repeat (first | apply Kd.R_alloc | apply Kd.R_drewN | apply Kd.R_drew)); exact HO527.out) hb); have n2_ := Aside0.mk (Kd.R_below (by (with_reducible repeat (first | apply Kd.R_alloc | apply Kd.R_drewN | apply Kd.R_drew)); exact HO530.out) hb); have n3_ := Aside0.mk (blk_below (g := gb524) (o := .cells #[.slice Ao16 t520.length co16, .int .i64 t523] 26 (0, 0)) (by (with_reducible repeat (first | refine blk_drewN ?_ _ | refine blk_drew ?_ | refine blk_alloc ?_ _)); exact BK524.out) hb); have n4_ := Aside0.mk (below_step (by repeat (first | (with_reducible first | exact HB.out | apply below_alloc | apply pw_below_drewN | apply below_drew1 | refine below_set ?_ GE524.out) | exact HB.out)) hb); clear HO522; clear HO527; clear HO530; clear BK524; clear HB; have HO522 := n0_; have HO527 := n1_; have HO530 := n2_; have BK524 := n3_; have HB := n4_; clear n0_ n1_ n2_ n3_ n4_; (try clear hb); (try clear hb2); (try clear hk); (try clear hi); have hcz23_0 : w22.cell? ⟨gb524, 0, none⟩ = some (.slice Ao16 t520.length co16) := (blk_cell BK524.out 0).trans rfl; have hcz23_1 : w22.cell? ⟨gb524, 1, none⟩ = some (.int .i64 t523) := (blk_cell BK524.out 1).trans rfl; have hfz23_0 := blk_frozen BK524.out 0; have hfz23_1 := blk_frozen BK524.out 1) | (go_at_call 34; (with_reducible refine (recovery_Capacity.calls k _ _ t520 t523 t532 t533 t534 _ ?side1 ?side2 A11.out).mono ?_); (case side1 => repeat (first | exact (Kd.R_reads' HO522.out).2.2 | (with_reducible refine Kd.C_alloc ?_ _) | (with_reducible refine Kd.C_drewN ?_ _) | (with_reducible refine Kd.C_drew ?_))); (case side2 => exact (Kd.R_reads' HO522.out).2.1); rintro e w24 ⟨rfl, hb⟩; have n0_ := Aside0.mk (Kd.R_below (by (with_reducible repeat (first | apply Kd.R_alloc | apply Kd.R_drewN | apply Kd.R_drew)); exact HO522.out) hb); have n1_ := Aside0.mk (Kd.R_below (by (with_reducible repeat (first | apply Kd.R_alloc | apply Kd.R_drewN | apply Kd.R_drew)); exact HO527.out) hb); have n2_ := Aside0.mk (Kd.R_below (by (with_reducible repeat (first | apply Kd.R_alloc | apply Kd.R_drewN | apply Kd.R_drew)); exact HO530.out) hb); have n3_ := Aside0.mk (blk_below (g := gb524) (o := .cells #[.slice Ao16 t520.length co16, .int .i64 t523] 26 (0, 0)) (by (with_reducible repeat (first | refine blk_drewN ?_ _ | refine blk_drew ?_ | refine blk_alloc ?_ _)); exact BK524.out) hb); have n4_ := Aside0.mk (below_step (by repeat (first | (with_reducible first | exact HB.out | apply below_alloc | apply pw_below_drewN | apply below_drew1 | refine below_set ?_ GE524.out) | exact HB.out)) hb); clear HO522; clear HO527; clear HO530; clear BK524; clear HB; have HO522 := n0_; have HO527 := n1_; have HO530 := n2_; have BK524 := n3_; have HB := n4_; clear n0_ n1_ n2_ n3_ n4_; (try clear hb); (try clear hb2); (try clear hk); (try clear hi)))
  repeat (go_quiet (first | (go_at_call 13; (with_reducible refine (dialtonelaw34_sane.calls k  true _ A5.out).mono ?_); rintro e w13 ⟨rfl, hb⟩; have n0_ := Aside0.mk (below_step (by repeat (first | (with_reducible first | exact HB.out | apply below_alloc | apply pw_below_drewN | apply below_drew1) | exact HB.out)) hb); clear HB; have HB := n0_; clear n0_; (try clear hb); (try clear hb2); (try clear hk); (try clear hi)) | (go_at_call 14; (with_reducible refine (dialtoneref34_Made.calls k _ _ l0 a1 t520 t523 _ ?side1 ?side2 A7.out).mono ?_); (case side1 => repeat (first | exact (Kd.C_below HR0.out HB.out) | (with_reducible refine Kd.C_alloc ?_ _) | (with_reducible refine Kd.C_drewN ?_ _) | (with_reducible refine Kd.C_drew ?_))); (case side2 => exact HC0.out); rintro e w14 ⟨v521, rfl, ho0, hb⟩; have n0_ := Aside0.mk (Kd.R_lower ho0 (below_size (by repeat (first | (with_reducible first | exact HB.out | apply below_alloc | apply pw_below_drewN | apply below_drew1) | exact HB.out)))); have n1_ := Aside0.mk (below_step (by repeat (first | (with_reducible first | exact HB.out | apply below_alloc | apply pw_below_drewN | apply below_drew1) | exact HB.out)) hb); clear HB; have HO522 := n0_; have HB := n1_; clear n0_ n1_; (try clear hb); (try clear hb2); (try clear hk); (try clear hi); (try clear ho0)) | ((with_reducible refine gate_dst (N := 10) rfl ?_); (try (refine gate_guard (by rfl) ?_; dsimp only)); refine box_event ?hg (N := 10) ?hd (cs := #[.slice none 0 0, .int .i64 0]) (t := 26) ?hr ?_; (case hd => rfl); (case hg => rfl); (case hr => first | (go_simp; done) | (go_simp; rfl)); intro gb524 hg w15 hbox hb; have n0_ := Aside0.mk (Kd.R_below (by (with_reducible repeat (first | apply Kd.R_alloc | apply Kd.R_drewN | apply Kd.R_drew)); exact HO522.out) hb); have n1_ := Aside0.mk (below_step (by repeat (first | (with_reducible first | exact HB.out | apply below_alloc | apply pw_below_drewN | apply below_drew1) | exact HB.out)) hb); have n2_ := Aside0.mk (hbox); have n3_ := Aside0.mk ((by rw [hg]; exact (below_size (by repeat (first | (with_reducible first | exact HB.out | apply below_alloc | apply pw_below_drewN | apply below_drew1) | exact HB.out))) : w.heap.size ≤ gb524)); have n4_ := Aside0.mk ((by rw [hg]; exact (below_size (by repeat (first | (with_reducible first | exact HB.out | apply below_alloc | apply pw_below_drewN | apply below_drew1) | exact HB.out))) : w.heap.size ≤ gb524)); clear HO522; clear HB; have HO522 := n0_; have HB := n1_; have BK524 := n2_; have GW524 := n3_; have GE524 := n4_; clear n0_ n1_ n2_ n3_ n4_; clear hb hbox hg; obtain ⟨Ao16, co16, eo16⟩ := Kd.R_slice HO522.out; subst eo16; have hcz17_0 : w15.cell? ⟨gb524, 0, none⟩ = some (.slice none 0 0) := (blk_cell BK524.out 0).trans rfl; have hcz17_1 : w15.cell? ⟨gb524, 1, none⟩ = some (.int .i64 0) := (blk_cell BK524.out 1).trans rfl; have hfz17_0 := blk_frozen BK524.out 0; have hfz17_1 := blk_frozen BK524.out 1) | (go_at_call 15; (with_reducible refine (dialtoneref34_Attempts.calls k _ _ l2 t525 _ ?side1 ?side2 A8.out).mono ?_); (case side1 => exact Kd.C_below HR2.out (by repeat (first | (with_reducible first | exact HB.out | apply below_alloc | apply pw_below_drewN | apply below_drew1 | refine below_set ?_ GE524.out) | exact HB.out))); (case side2 => exact HC2.out); rintro e w18 ⟨v526, rfl, ho0, hb⟩; have n0_ := Aside0.mk (Kd.R_below (by (with_reducible repeat (first | apply Kd.R_alloc | apply Kd.R_drewN | apply Kd.R_drew)); exact (Kd.R_mono (Kd.R_far (p := ⟨gb524, 1, none⟩) (Kd.R_far (p := ⟨gb524, 0, none⟩) (Kd.R_types HO522.out BK524.out (by decide)) (fun _ hk => hk.2) (.slice Ao16 t520.length co16)) (fun _ hk => hk.2) (.int .i64 t523)) (fun _ h_ => h_.1))) hb); have n1_ := Aside0.mk (Kd.R_lower ho0 (below_size (by repeat (first | (with_reducible first | exact HB.out | apply below_alloc | apply pw_below_drewN | apply below_drew1 | refine below_set ?_ GE524.out) | exact HB.out)))); have n2_ := Aside0.mk (blk_below (g := gb524) (o := .cells #[.slice Ao16 t520.length co16, .int .i64 t523] 26 (0, 0)) (by (with_reducible repeat (first | refine blk_drewN ?_ _ | refine blk_drew ?_ | refine blk_alloc ?_ _)); refine blk_put (cs := #[.slice Ao16 t520.length co16, .int .i64 0]) ?_ 1 _ rfl; (with_reducible repeat (first | refine blk_drewN ?_ _ | refine blk_drew ?_ | refine blk_alloc ?_ _)); refine blk_put (cs := #[.slice none 0 0, .int .i64 0]) ?_ 0 _ rfl; (with_reducible repeat (first | refine blk_drewN ?_ _ | refine blk_drew ?_ | refine blk_alloc ?_ _)); exact BK524.out) hb); have n3_ := Aside0.mk (below_step (by repeat (first | (with_reducible first | exact HB.out | apply below_alloc | apply pw_below_drewN | apply below_drew1 | refine below_set ?_ GE524.out) | exact HB.out)) hb); clear HO522; clear BK524; clear HB; have HO522 := n0_; have HO527 := n1_; have BK524 := n2_; have HB := n3_; clear n0_ n1_ n2_ n3_; (try clear hb); (try clear hb2); (try clear hk); (try clear hi); (try clear ho0); have hcz19_0 : w18.cell? ⟨gb524, 0, none⟩ = some (.slice Ao16 t520.length co16) := (blk_cell BK524.out 0).trans rfl; have hcz19_1 : w18.cell? ⟨gb524, 1, none⟩ = some (.int .i64 t523) := (blk_cell BK524.out 1).trans rfl; have hfz19_0 := blk_frozen BK524.out 0; have hfz19_1 := blk_frozen BK524.out 1; obtain ⟨Ao20, co20, eo20⟩ := Kd.R_slice HO527.out; subst eo20) | (go_at_call 16; (with_reducible refine (recovery_Plan.calls _ _ t520 t523 _ _ t525 t528 t531 _ ?side1 ?side2 ?side3 ?side4 A9.out).mono ?_); (case side1 => repeat (first | exact (Kd.R_reads' HO522.out).2.2 | (with_reducible refine Kd.C_alloc ?_ _) | (with_reducible refine Kd.C_drewN ?_ _) | (with_reducible refine Kd.C_drew ?_))); (case side2 => exact (Kd.R_reads' HO522.out).2.1); (case side3 => repeat (first | exact (Kd.R_reads' HO527.out).2.2 | (with_reducible refine Kd.C_alloc ?_ _) | (with_reducible refine Kd.C_drewN ?_ _) | (with_reducible refine Kd.C_drew ?_))); (case side4 => exact (Kd.R_reads' HO527.out).2.1); rintro e w21 ⟨v529, rfl, ho0, hb⟩; have n0_ := Aside0.mk (Kd.R_below (by (with_reducible repeat (first | apply Kd.R_alloc | apply Kd.R_drewN | apply Kd.R_drew)); exact HO522.out) hb); have n1_ := Aside0.mk (Kd.R_below (by (with_reducible repeat (first | apply Kd.R_alloc | apply Kd.R_drewN | apply Kd.R_drew)); exact HO527.out) hb); have n2_ := Aside0.mk (Kd.R_lower ho0 (below_size (by repeat (first | (with_reducible first | exact HB.out | apply below_alloc | apply pw_below_drewN | apply below_drew1 | refine below_set ?_ GE524.out) | exact HB.out)))); have n3_ := Aside0.mk (blk_below (g := gb524) (o := .cells #[.slice Ao16 t520.length co16, .int .i64 t523] 26 (0, 0)) (by (with_reducible repeat (first | refine blk_drewN ?_ _ | refine blk_drew ?_ | refine blk_alloc ?_ _)); exact BK524.out) hb); have n4_ := Aside0.mk (below_step (by repeat (first | (with_reducible first | exact HB.out | apply below_alloc | apply pw_below_drewN | apply below_drew1 | refine below_set ?_ GE524.out) | exact HB.out)) hb); clear HO522; clear HO527; clear BK524; clear HB; have HO522 := n0_; have HO527 := n1_; have HO530 := n2_; have BK524 := n3_; have HB := n4_; clear n0_ n1_ n2_ n3_ n4_; (try clear hb); (try clear hb2); (try clear hk); (try clear hi); (try clear ho0)) | (go_at_call 18; (with_reducible refine (dialtonelaw34_pick.calls a3 60 t532 _ A10.out).mono ?_); rintro e w22 ⟨rfl, hb⟩; have n0_ := Aside0.mk (Kd.R_below (by (with_reducible repeat (first | apply Kd.R_alloc | apply Kd.R_drewN | apply Kd.R_drew)); exact HO522.out) hb); have n1_ := Aside0.mk (Kd.R_below (by (with_reducible repeat (first | apply Kd.R_alloc | apply Kd.R_drewN | apply Kd.R_drew)); exact HO527.out) hb); have n2_ := Aside0.mk (Kd.R_below (by (with_reducible repeat (first | apply Kd.R_alloc | apply Kd.R_drewN | apply Kd.R_drew)); exact HO530.out) hb); have n3_ := Aside0.mk (blk_below (g := gb524) (o := .cells #[.slice Ao16 t520.length co16, .int .i64 t523] 26 (0, 0)) (by (with_reducible repeat (first | refine blk_drewN ?_ _ | refine blk_drew ?_ | refine blk_alloc ?_ _)); exact BK524.out) hb); have n4_ := Aside0.mk (below_step (by repeat (first | (with_reducible first | exact HB.out | apply below_alloc | apply pw_below_drewN | apply below_drew1 | refine below_set ?_ GE524.out) | exact HB.out)) hb); clear HO522; clear HO527; clear HO530; clear BK524; clear HB; have HO522 := n0_; have HO527 := n1_; have HO530 := n2_; have BK524 := n3_; have HB := n4_; clear n0_ n1_ n2_ n3_ n4_; (try clear hb); (try clear hb2); (try clear hk); (try clear hi); have hcz23_0 : w22.cell? ⟨gb524, 0, none⟩ = some (.slice Ao16 t520.length co16) := (blk_cell BK524.out 0).trans rfl; have hcz23_1 : w22.cell? ⟨gb524, 1, none⟩ = some (.int .i64 t523) := (blk_cell BK524.out 1).trans rfl; have hfz23_0 := blk_frozen BK524.out 0; have hfz23_1 := blk_frozen BK524.out 1) | (go_at_call 34; (with_reducible refine (recovery_Capacity.calls k _ _ t520 t523 t532 t533 t534 _ ?side1 ?side2 A11.out).mono ?_); (case side1 => repeat (first | exact (Kd.R_reads' HO522.out).2.2 | (with_reducible refine Kd.C_alloc ?_ _) | (with_reducible refine Kd.C_drewN ?_ _) | (with_reducible refine Kd.C_drew ?_))); (case side2 => exact (Kd.R_reads' HO522.out).2.1); rintro e w24 ⟨rfl, hb⟩; have n0_ := Aside0.mk (Kd.R_below (by (with_reducible repeat (first | apply Kd.R_alloc | apply Kd.R_drewN | apply Kd.R_drew)); exact HO522.out) hb); have n1_ := Aside0.mk (Kd.R_below (by (with_reducible repeat (first | apply Kd.R_alloc | apply Kd.R_drewN | apply Kd.R_drew)); exact HO527.out) hb); have n2_ := Aside0.mk (Kd.R_below (by (with_reducible repeat (first | apply Kd.R_alloc | apply Kd.R_drewN | apply Kd.R_drew)); exact HO530.out) hb); have n3_ := Aside0.mk (blk_below (g := gb524) (o := .cells #[.slice Ao16 t520.length co16, .int .i64 t523] 26 (0, 0)) (by (with_reducible repeat (first | refine blk_drewN ?_ _ | refine blk_drew ?_ | refine blk_alloc ?_ _)); exact BK524.out) hb); have n4_ := Aside0.mk (below_step (by repeat (first | (with_reducible first | exact HB.out | apply below_alloc | apply pw_below_drewN | apply below_drew1 | refine below_set ?_ GE524.out) | exact HB.out)) hb); clear HO522; clear HO527; clear HO530; clear BK524; clear HB; have HO522 := n0_; have HO527 := n1_; have HO530 := n2_; have BK524 := n3_; have HB := n4_; clear n0_ n1_ n2_ n3_ n4_; (try clear hb); (try clear hb2); (try clear hk); (try clear hi))); go_upto_region 9 with (first | (go_at_call 13; (with_reducible refine (dialtonelaw34_sane.calls k  true _ A5.out).mono ?_); rintro e w13 ⟨rfl, hb⟩; have n0_ := Aside0.mk (below_step (by repeat (first | (with_reducible first | exact HB.out | apply below_alloc | apply pw_below_drewN | apply below_drew1) | exact HB.out)) hb); clear HB; have HB := n0_; clear n0_; (try clear hb); (try clear hb2); (try clear hk); (try clear hi)) | (go_at_call 14; (with_reducible refine (dialtoneref34_Made.calls k _ _ l0 a1 t520 t523 _ ?side1 ?side2 A7.out).mono ?_); (case side1 => repeat (first | exact (Kd.C_below HR0.out HB.out) | (with_reducible refine Kd.C_alloc ?_ _) | (with_reducible refine Kd.C_drewN ?_ _) | (with_reducible refine Kd.C_drew ?_))); (case side2 => exact HC0.out); rintro e w14 ⟨v521, rfl, ho0, hb⟩; have n0_ := Aside0.mk (Kd.R_lower ho0 (below_size (by repeat (first | (with_reducible first | exact HB.out | apply below_alloc | apply pw_below_drewN | apply below_drew1) | exact HB.out)))); have n1_ := Aside0.mk (below_step (by repeat (first | (with_reducible first | exact HB.out | apply below_alloc | apply pw_below_drewN | apply below_drew1) | exact HB.out)) hb); clear HB; have HO522 := n0_; have HB := n1_; clear n0_ n1_; (try clear hb); (try clear hb2); (try clear hk); (try clear hi); (try clear ho0)) | ((with_reducible refine gate_dst (N := 10) rfl ?_); (try (refine gate_guard (by rfl) ?_; dsimp only)); refine box_event ?hg (N := 10) ?hd (cs := #[.slice none 0 0, .int .i64 0]) (t := 26) ?hr ?_; (case hd => rfl); (case hg => rfl); (case hr => first | (go_simp; done) | (go_simp; rfl)); intro gb524 hg w15 hbox hb; have n0_ := Aside0.mk (Kd.R_below (by (with_reducible repeat (first | apply Kd.R_alloc | apply Kd.R_drewN | apply Kd.R_drew)); exact HO522.out) hb); have n1_ := Aside0.mk (below_step (by repeat (first | (with_reducible first | exact HB.out | apply below_alloc | apply pw_below_drewN | apply below_drew1) | exact HB.out)) hb); have n2_ := Aside0.mk (hbox); have n3_ := Aside0.mk ((by rw [hg]; exact (below_size (by repeat (first | (with_reducible first | exact HB.out | apply below_alloc | apply pw_below_drewN | apply below_drew1) | exact HB.out))) : w.heap.size ≤ gb524)); have n4_ := Aside0.mk ((by rw [hg]; exact (below_size (by repeat (first | (with_reducible first | exact HB.out | apply below_alloc | apply pw_below_drewN | apply below_drew1) | exact HB.out))) : w.heap.size ≤ gb524)); clear HO522; clear HB; have HO522 := n0_; have HB := n1_; have BK524 := n2_; have GW524 := n3_; have GE524 := n4_; clear n0_ n1_ n2_ n3_ n4_; clear hb hbox hg; obtain ⟨Ao16, co16, eo16⟩ := Kd.R_slice HO522.out; subst eo16; have hcz17_0 : w15.cell? ⟨gb524, 0, none⟩ = some (.slice none 0 0) := (blk_cell BK524.out 0).trans rfl; have hcz17_1 : w15.cell? ⟨gb524, 1, none⟩ = some (.int .i64 0) := (blk_cell BK524.out 1).trans rfl; have hfz17_0 := blk_frozen BK524.out 0; have hfz17_1 := blk_frozen BK524.out 1) | (go_at_call 15; (with_reducible refine (dialtoneref34_Attempts.calls k _ _ l2 t525 _ ?side1 ?side2 A8.out).mono ?_); (case side1 => exact Kd.C_below HR2.out (by repeat (first | (with_reducible first | exact HB.out | apply below_alloc | apply pw_below_drewN | apply below_drew1 | refine below_set ?_ GE524.out) | exact HB.out))); (case side2 => exact HC2.out); rintro e w18 ⟨v526, rfl, ho0, hb⟩; have n0_ := Aside0.mk (Kd.R_below (by (with_reducible repeat (first | apply Kd.R_alloc | apply Kd.R_drewN | apply Kd.R_drew)); exact (Kd.R_mono (Kd.R_far (p := ⟨gb524, 1, none⟩) (Kd.R_far (p := ⟨gb524, 0, none⟩) (Kd.R_types HO522.out BK524.out (by decide)) (fun _ hk => hk.2) (.slice Ao16 t520.length co16)) (fun _ hk => hk.2) (.int .i64 t523)) (fun _ h_ => h_.1))) hb); have n1_ := Aside0.mk (Kd.R_lower ho0 (below_size (by repeat (first | (with_reducible first | exact HB.out | apply below_alloc | apply pw_below_drewN | apply below_drew1 | refine below_set ?_ GE524.out) | exact HB.out)))); have n2_ := Aside0.mk (blk_below (g := gb524) (o := .cells #[.slice Ao16 t520.length co16, .int .i64 t523] 26 (0, 0)) (by (with_reducible repeat (first | refine blk_drewN ?_ _ | refine blk_drew ?_ | refine blk_alloc ?_ _)); refine blk_put (cs := #[.slice Ao16 t520.length co16, .int .i64 0]) ?_ 1 _ rfl; (with_reducible repeat (first | refine blk_drewN ?_ _ | refine blk_drew ?_ | refine blk_alloc ?_ _)); refine blk_put (cs := #[.slice none 0 0, .int .i64 0]) ?_ 0 _ rfl; (with_reducible repeat (first | refine blk_drewN ?_ _ | refine blk_drew ?_ | refine blk_alloc ?_ _)); exact BK524.out) hb); have n3_ := Aside0.mk (below_step (by repeat (first | (with_reducible first | exact HB.out | apply below_alloc | apply pw_below_drewN | apply below_drew1 | refine below_set ?_ GE524.out) | exact HB.out)) hb); clear HO522; clear BK524; clear HB; have HO522 := n0_; have HO527 := n1_; have BK524 := n2_; have HB := n3_; clear n0_ n1_ n2_ n3_; (try clear hb); (try clear hb2); (try clear hk); (try clear hi); (try clear ho0); have hcz19_0 : w18.cell? ⟨gb524, 0, none⟩ = some (.slice Ao16 t520.length co16) := (blk_cell BK524.out 0).trans rfl; have hcz19_1 : w18.cell? ⟨gb524, 1, none⟩ = some (.int .i64 t523) := (blk_cell BK524.out 1).trans rfl; have hfz19_0 := blk_frozen BK524.out 0; have hfz19_1 := blk_frozen BK524.out 1; obtain ⟨Ao20, co20, eo20⟩ := Kd.R_slice HO527.out; subst eo20) | (go_at_call 16; (with_reducible refine (recovery_Plan.calls _ _ t520 t523 _ _ t525 t528 t531 _ ?side1 ?side2 ?side3 ?side4 A9.out).mono ?_); (case side1 => repeat (first | exact (Kd.R_reads' HO522.out).2.2 | (with_reducible refine Kd.C_alloc ?_ _) | (with_reducible refine Kd.C_drewN ?_ _) | (with_reducible refine Kd.C_drew ?_))); (case side2 => exact (Kd.R_reads' HO522.out).2.1); (case side3 => repeat (first | exact (Kd.R_reads' HO527.out).2.2 | (with_reducible refine Kd.C_alloc ?_ _) | (with_reducible refine Kd.C_drewN ?_ _) | (with_reducible refine Kd.C_drew ?_))); (case side4 => exact (Kd.R_reads' HO527.out).2.1); rintro e w21 ⟨v529, rfl, ho0, hb⟩; have n0_ := Aside0.mk (Kd.R_below (by (with_reducible repeat (first | apply Kd.R_alloc | apply Kd.R_drewN | apply Kd.R_drew)); exact HO522.out) hb); have n1_ := Aside0.mk (Kd.R_below (by (with_reducible repeat (first | apply Kd.R_alloc | apply Kd.R_drewN | apply Kd.R_drew)); exact HO527.out) hb); have n2_ := Aside0.mk (Kd.R_lower ho0 (below_size (by repeat (first | (with_reducible first | exact HB.out | apply below_alloc | apply pw_below_drewN | apply below_drew1 | refine below_set ?_ GE524.out) | exact HB.out)))); have n3_ := Aside0.mk (blk_below (g := gb524) (o := .cells #[.slice Ao16 t520.length co16, .int .i64 t523] 26 (0, 0)) (by (with_reducible repeat (first | refine blk_drewN ?_ _ | refine blk_drew ?_ | refine blk_alloc ?_ _)); exact BK524.out) hb); have n4_ := Aside0.mk (below_step (by repeat (first | (with_reducible first | exact HB.out | apply below_alloc | apply pw_below_drewN | apply below_drew1 | refine below_set ?_ GE524.out) | exact HB.out)) hb); clear HO522; clear HO527; clear BK524; clear HB; have HO522 := n0_; have HO527 := n1_; have HO530 := n2_; have BK524 := n3_; have HB := n4_; clear n0_ n1_ n2_ n3_ n4_; (try clear hb); (try clear hb2); (try clear hk); (try clear hi); (try clear ho0)) | (go_at_call 18; (with_reducible refine (dialtonelaw34_pick.calls a3 60 t532 _ A10.out).mono ?_); rintro e w22 ⟨rfl, hb⟩; have n0_ := Aside0.mk (Kd.R_below (by (with_reducible repeat (first | apply Kd.R_alloc | apply Kd.R_drewN | apply Kd.R_drew)); exact HO522.out) hb); have n1_ := Aside0.mk (Kd.R_below (by (with_reducible repeat (first | apply Kd.R_alloc | apply Kd.R_drewN | apply Kd.R_drew)); exact HO527.out) hb); have n2_ := Aside0.mk (Kd.R_below (by (with_reducible repeat (first | apply Kd.R_alloc | apply Kd.R_drewN | apply Kd.R_drew)); exact HO530.out) hb); have n3_ := Aside0.mk (blk_below (g := gb524) (o := .cells #[.slice Ao16 t520.length co16, .int .i64 t523] 26 (0, 0)) (by (with_reducible repeat (first | refine blk_drewN ?_ _ | refine blk_drew ?_ | refine blk_alloc ?_ _)); exact BK524.out) hb); have n4_ := Aside0.mk (below_step (by repeat (first | (with_reducible first | exact HB.out | apply below_alloc | apply pw_below_drewN | apply below_drew1 | refine below_set ?_ GE524.out) | exact HB.out)) hb); clear HO522; clear HO527; clear HO530; clear BK524; clear HB; have HO522 := n0_; have HO527 := n1_; have HO530 := n2_; have BK524 := n3_; have HB := n4_; clear n0_ n1_ n2_ n3_ n4_; (try clear hb); (try clear hb2); (try clear hk); (try clear hi); have hcz23_0 : w22.cell? ⟨gb524, 0, none⟩ = some (.slice Ao16 t520.length co16) := (blk_cell BK524.out 0).trans rfl; have hcz23_1 : w22.cell? ⟨gb524, 1, none⟩ = some (.int .i64 t523) := (blk_cell BK524.out 1).trans rfl; have hfz23_0 := blk_frozen BK524.out 0; have hfz23_1 := blk_frozen BK524.out 1) | (go_at_call 34; (with_reducible refine (recovery_Capacity.calls k _ _ t520 t523 t532 t533 t534 _ ?side1 ?side2 A11.out).mono ?_); (case side1 => repeat (first | exact (Kd.R_reads' HO522.out).2.2 | (with_reducible refine Kd.C_alloc ?_ _) | (with_reducible refine Kd.C_drewN ?_ _) | (with_reducible refine Kd.C_drew ?_))); (case side2 => exact (Kd.R_reads' HO522.out).2.1); rintro e w24 ⟨rfl, hb⟩; have n0_ := Aside0.mk (Kd.R_below (by (with_reducible repeat (first | apply Kd.R_alloc | apply Kd.R_drewN | apply Kd.R_drew)); exact HO522.out) hb); have n1_ := Aside0.mk (Kd.R_below (by (with_reducible repeat (first | apply Kd.R_alloc | apply Kd.R_drewN | apply Kd.R_drew)); exact HO527.out) hb); have n2_ := Aside0.mk (Kd.R_below (by (with_reducible repeat (first | apply Kd.R_alloc | apply Kd.R_drewN | apply Kd.R_drew)); exact HO530.out) hb); have n3_ := Aside0.mk (blk_below (g := gb524) (o := .cells #[.slice Ao16 t520.length co16, .int .i64 t523] 26 (0, 0)) (by (with_reducible repeat (first | refine blk_drewN ?_ _ | refine blk_drew ?_ | refine blk_alloc ?_ _)); exact BK524.out) hb); have n4_ := Aside0.mk (below_step (by repeat (first | (with_reducible first | exact HB.out | apply below_alloc | apply pw_below_drewN | apply below_drew1 | refine below_set ?_ GE524.out) | exact HB.out)) hb); clear HO522; clear HO527; clear HO530; clear BK524; clear HB; have HO522 := n0_; have HO527 := n1_; have HO530 := n2_; have BK524 := n3_; have HB := n4_; clear n0_ n1_ n2_ n3_ n4_; (try clear hb); (try clear hb2); (try clear hk); (try clear hi))))
  (try simp only [Act.put, List.setIfInBounds_toArray, List.set_cons_zero, List.set_cons_succ])
  go_cut [55] (fun v55 wc => ∃ (kq : Nat) (x55_11 : Bool), v55 = .bool x55_11 ∧ Aside0 (dialtonelaw34_RecoveryWithin.j0 kq t525 t528 t532 t533 x55_11 = some r) ∧ Aside0 (kq ≤ k) ∧ Aside0 (Kd.R k60 60 wc w.heap.size (fun _ => True) (.slice Ao20 t525.length co20) t525) ∧ Aside0 (Kd.R k39 39 wc w.heap.size (fun _ => True) v529 t528) ∧ Aside0 (Kd.R k67 67 wc w.heap.size (fun _ => True) (.slice Ao16 t520.length co16) t520) ∧ Aside0 (wc.heap[gb524]? = some (.cells #[(.slice Ao16 t520.length co16), .int .i64 t523] 26 (0, 0))) ∧ Aside0 (Below w.heap.size w wc))
  case first =>
   have H := HC12.out
   clear HC12
   by_cases c25 : t531 = 0
   ·
    rw [if_pos c25] at H
    have c25b0 : (t531 == 0) = true := beq_iff_eq.mpr c25
    have c25b1 : (t531 != 0) = false := bne_eq_false_iff_eq.mpr c25
    clear c25
    (first | rw [c25b0] | (simp only [i64_w, i32_w]; rw [c25b0]) | skip)
    by_cases c26 : t534 = 0
    ·
     rw [if_pos c26] at H
     have c26b0 : (t534 == 0) = true := beq_iff_eq.mpr c26
     have c26b1 : (t534 != 0) = false := bne_eq_false_iff_eq.mpr c26
     clear c26
     have H' := Aside0.mk H
     clear H
     obtain ⟨Ao27, co27, eo27⟩ := Kd.R_slice HO530.out
     subst eo27
     go_wp2
     repeat (go_quiet (fail); try go_wp2)
     go_meet
     case rel => exact ⟨_, (((t528.length : Int) != (t525.length : Int))), (by first | rfl | (simp; done) | (simp [*]; done)), H', ⟨by first | omega | exact Nat.le_refl _⟩, ⟨by (with_reducible repeat (first | apply Kd.R_alloc | apply Kd.R_drewN | apply Kd.R_drew)); exact HO527.out⟩, ⟨by (with_reducible repeat (first | apply Kd.R_alloc | apply Kd.R_drewN | apply Kd.R_drew)); exact HO530.out⟩, ⟨by (with_reducible repeat (first | apply Kd.R_alloc | apply Kd.R_drewN | apply Kd.R_drew)); exact HO522.out⟩, ⟨by (with_reducible repeat (first | refine blk_drewN ?_ _ | refine blk_drew ?_ | refine blk_alloc ?_ _)); exact BK524.out⟩, ⟨by repeat (first | (with_reducible first | exact HB.out | apply below_alloc | apply pw_below_drewN | apply below_drew1 | refine below_set ?_ GE524.out) | exact HB.out)⟩⟩
    ·
     rw [if_neg c26] at H
     have c26b0 : (t534 == 0) = false := beq_eq_false_iff_ne.mpr c26
     have c26b1 : (t534 != 0) = true := bne_iff_ne.mpr c26
     have H' := Aside0.mk H
     clear H
     go_wp2
     repeat (go_quiet (fail); try go_wp2)
     go_meet
     case rel => exact ⟨_, (true), (by first | rfl | (simp; done) | (simp [*]; done)), H', ⟨by first | omega | exact Nat.le_refl _⟩, ⟨by (with_reducible repeat (first | apply Kd.R_alloc | apply Kd.R_drewN | apply Kd.R_drew)); exact HO527.out⟩, ⟨by (with_reducible repeat (first | apply Kd.R_alloc | apply Kd.R_drewN | apply Kd.R_drew)); exact HO530.out⟩, ⟨by (with_reducible repeat (first | apply Kd.R_alloc | apply Kd.R_drewN | apply Kd.R_drew)); exact HO522.out⟩, ⟨by (with_reducible repeat (first | refine blk_drewN ?_ _ | refine blk_drew ?_ | refine blk_alloc ?_ _)); exact BK524.out⟩, ⟨by repeat (first | (with_reducible first | exact HB.out | apply below_alloc | apply pw_below_drewN | apply below_drew1 | refine below_set ?_ GE524.out) | exact HB.out)⟩⟩
   ·
    rw [if_neg c25] at H
    have c25b0 : (t531 == 0) = false := beq_eq_false_iff_ne.mpr c25
    have c25b1 : (t531 != 0) = true := bne_iff_ne.mpr c25
    (first | rw [c25b0] | (simp only [i64_w, i32_w]; rw [c25b0]) | skip)
    have H' := Aside0.mk H
    clear H
    go_wp2
    repeat (go_quiet (fail); try go_wp2)
    go_meet
    case rel => exact ⟨_, (true), (by first | rfl | (simp; done) | (simp [*]; done)), H', ⟨by first | omega | exact Nat.le_refl _⟩, ⟨by (with_reducible repeat (first | apply Kd.R_alloc | apply Kd.R_drewN | apply Kd.R_drew)); exact HO527.out⟩, ⟨by (with_reducible repeat (first | apply Kd.R_alloc | apply Kd.R_drewN | apply Kd.R_drew)); exact HO530.out⟩, ⟨by (with_reducible repeat (first | apply Kd.R_alloc | apply Kd.R_drewN | apply Kd.R_drew)); exact HO522.out⟩, ⟨by (with_reducible repeat (first | refine blk_drewN ?_ _ | refine blk_drew ?_ | refine blk_alloc ?_ _)); exact BK524.out⟩, ⟨by repeat (first | (with_reducible first | exact HB.out | apply below_alloc | apply pw_below_drewN | apply below_drew1 | refine below_set ?_ GE524.out) | exact HB.out)⟩⟩
  case rest =>
   clear HC12
   try clear c2
   try clear p2
   try clear c6
   try clear c25
   try clear c25b0
   try clear c25b1
   try clear c26
   try clear c26b0
   try clear c26b1
   try clear hcz17_0
   try clear hcz17_1
   try clear hcz19_0
   try clear hcz19_1
   try clear hcz23_0
   try clear hcz23_1
   try clear hfz17_0
   try clear hfz17_1
   try clear hfz19_0
   try clear hfz19_1
   try clear hfz23_0
   try clear hfz23_1
   obtain ⟨kq, x55_11, rfl, HA, HJ11, HO_11, HO_12, HO_525000, BK524, HB⟩ := hcut
   cases kq with
   | zero => exact absurd HA.out (by simp [dialtonelaw34_RecoveryWithin.j0])
   | succ kj11 =>
    have H := HA.out
    clear HA
    simp only [dialtonelaw34_RecoveryWithin.j0] at H
    by_cases c28 : x55_11 = true
    ·
     subst c28
     have H1 : (none) = some r := by rw [if_pos rfl] at H; exact H
     clear H
     have H := H1
     clear H1
     exact absurd H (by simp)
    ·
     replace c28 := Bool.eq_false_iff.mpr c28
     subst c28
     have H1 : (dialtonelaw34_RecoveryWithin.l0 kj11 t525 t528 t532 t533 0 0) = some r := by rw [if_neg (show ¬ (false = true) by decide)] at H; exact H
     clear H
     have H := H1
     clear H1
     have H' := Aside0.mk H
     clear H
     go_wp2
     repeat (go_quiet (fail); try go_wp2)
     go_loopg [17, 18] kj11 (fun kq v17 v18 w' => ∃ (x17_2 : Int) (x18_2 : Int), v17 = .int .i64 x17_2 ∧ v18 = .int .i64 x18_2 ∧ Aside0 (dialtonelaw34_RecoveryWithin.l0 kq t525 t528 t532 t533 x17_2 x18_2 = some r) ∧ Aside0 (kq ≤ kj11) ∧ Aside0 (Kd.R k60 60 w' w.heap.size (fun _ => True) (.slice Ao20 t525.length co20) t525) ∧ Aside0 (Kd.R k39 39 w' w.heap.size (fun _ => True) v529 t528) ∧ Aside0 (Kd.R k67 67 w' w.heap.size (fun _ => True) (.slice Ao16 t520.length co16) t520) ∧ Aside0 (w'.heap[gb524]? = some (.cells #[(.slice Ao16 t520.length co16), .int .i64 t523] 26 (0, 0))) ∧ Aside0 (Below w.heap.size w w'))
     case atStart => exact ⟨(0), (0), (by first | rfl | (simp; done) | (simp [*]; done)), (by first | rfl | (simp; done) | (simp [*]; done)), H', ⟨Nat.le_refl _⟩, ⟨by (with_reducible repeat (first | apply Kd.R_alloc | apply Kd.R_drewN | apply Kd.R_drew)); exact HO_11.out⟩, ⟨by (with_reducible repeat (first | apply Kd.R_alloc | apply Kd.R_drewN | apply Kd.R_drew)); exact HO_12.out⟩, ⟨by (with_reducible repeat (first | apply Kd.R_alloc | apply Kd.R_drewN | apply Kd.R_drew)); exact HO_525000.out⟩, ⟨by (with_reducible repeat (first | refine blk_drewN ?_ _ | refine blk_drew ?_ | refine blk_alloc ?_ _)); exact BK524.out⟩, ⟨by repeat (first | (with_reducible first | exact HB.out | apply below_alloc | apply pw_below_drewN | apply below_drew1 | refine below_set ?_ GE524.out) | exact HB.out)⟩⟩
     case round =>
      clear H'
      try clear c2
      try clear p2
      try clear c6
      try clear c25
      try clear c25b0
      try clear c25b1
      try clear c26
      try clear c26b0
      try clear c26b1
      try clear c28
      try clear hcz17_0
      try clear hcz17_1
      try clear hcz19_0
      try clear hcz19_1
      try clear hcz23_0
      try clear hcz23_1
      try clear hfz17_0
      try clear hfz17_1
      try clear hfz19_0
      try clear hfz19_1
      try clear hfz23_0
      try clear hfz23_1
      try clear p2
      obtain ⟨x17_2, x18_2, rfl, rfl, HA, HK2, HO_11, HO_12, HO_525000, BK524, HB⟩ := hrel
      cases gk with
      | zero => exact absurd HA.out (by simp [dialtonelaw34_RecoveryWithin.l0])
      | succ k2 =>
       have H := HA.out
       clear HA
       simp only [dialtonelaw34_RecoveryWithin.l0] at H
       by_cases c29 : x18_2 < (t525.length : Int)
       ·
        rw [if_pos c29] at H
        have c29b0 : decide (x18_2 < (t525.length : Int)) = true := decide_eq_true c29
        clear c29
        have H' := Aside0.mk H
        clear H
        go_wp2
        repeat (go_quiet (fail); try go_wp2)
        go_loopg [17, 19, 20] k2 (fun kq v17 v19 v20 w' => ∃ (x17_3 : Int) (x19_3 : Int) (x20_3 : Int), v17 = .int .i64 x17_3 ∧ v19 = .int .i64 x19_3 ∧ v20 = .int .i64 x20_3 ∧ Aside0 (dialtonelaw34_RecoveryWithin.l1 kq t525 t528 t532 t533 x17_3 x18_2 x19_3 x20_3 = some r) ∧ Aside0 (kq ≤ k2) ∧ Aside0 (Kd.R k60 60 w' w.heap.size (fun _ => True) (.slice Ao20 t525.length co20) t525) ∧ Aside0 (Kd.R k39 39 w' w.heap.size (fun _ => True) v529 t528) ∧ Aside0 (Kd.R k67 67 w' w.heap.size (fun _ => True) (.slice Ao16 t520.length co16) t520) ∧ Aside0 (w'.heap[gb524]? = some (.cells #[(.slice Ao16 t520.length co16), .int .i64 t523] 26 (0, 0))) ∧ Aside0 (Below w.heap.size w w'))
        case atStart => exact ⟨(x17_2), (0), (0), (by first | rfl | (simp; done) | (simp [*]; done)), (by first | rfl | (simp; done) | (simp [*]; done)), (by first | rfl | (simp; done) | (simp [*]; done)), H', ⟨Nat.le_refl _⟩, ⟨by (with_reducible repeat (first | apply Kd.R_alloc | apply Kd.R_drewN | apply Kd.R_drew)); exact HO_11.out⟩, ⟨by (with_reducible repeat (first | apply Kd.R_alloc | apply Kd.R_drewN | apply Kd.R_drew)); exact HO_12.out⟩, ⟨by (with_reducible repeat (first | apply Kd.R_alloc | apply Kd.R_drewN | apply Kd.R_drew)); exact HO_525000.out⟩, ⟨by (with_reducible repeat (first | refine blk_drewN ?_ _ | refine blk_drew ?_ | refine blk_alloc ?_ _)); exact BK524.out⟩, ⟨by repeat (first | (with_reducible first | exact HB.out | apply below_alloc | apply pw_below_drewN | apply below_drew1 | refine below_set ?_ GE524.out) | exact HB.out)⟩⟩
        case round =>
         clear H'
         try clear c2
         try clear p2
         try clear c6
         try clear c25
         try clear c25b0
         try clear c25b1
         try clear c26
         try clear c26b0
         try clear c26b1
         try clear c28
         try clear c29
         try clear c29b0
         try clear hcz17_0
         try clear hcz17_1
         try clear hcz19_0
         try clear hcz19_1
         try clear hcz23_0
         try clear hcz23_1
         try clear hfz17_0
         try clear hfz17_1
         try clear hfz19_0
         try clear hfz19_1
         try clear hfz23_0
         try clear hfz23_1
         try clear p2
         obtain ⟨x17_3, x19_3, x20_3, rfl, rfl, rfl, HA, HK3, HO_11, HO_12, HO_525000, BK524, HB⟩ := hrel
         cases gk with
         | zero => exact absurd HA.out (by simp [dialtonelaw34_RecoveryWithin.l1])
         | succ k3 =>
          have H := HA.out
          clear HA
          simp only [dialtonelaw34_RecoveryWithin.l1] at H
          by_cases c30 : x20_3 < (t528.length : Int)
          ·
           rw [if_pos c30] at H
           have c30b0 : decide (x20_3 < (t528.length : Int)) = true := decide_eq_true c30
           clear c30
           by_cases c31 : 0 ≤ x20_3
           ·
            rw [if_pos c31] at H
            have c31b0 : decide (0 ≤ x20_3) = true := decide_eq_true c31
            clear c31
            by_cases c32 : 0 ≤ x18_2
            ·
             rw [if_pos c32] at H
             have c32b0 : decide (0 ≤ x18_2) = true := decide_eq_true c32
             clear c32
             by_cases c33 : x18_2 < (t525.length : Int)
             ·
              rw [if_pos c33] at H
              have c33b0 : decide (x18_2 < (t525.length : Int)) = true := decide_eq_true c33
              clear c33
              by_cases c34 : ((rd_T39 t528 x20_3).f0) = ((rd_T60 t525 x18_2).f0)
              ·
               rw [if_pos c34] at H
               have c34b0 : (((rd_T39 t528 x20_3).f0) == ((rd_T60 t525 x18_2).f0)) = true := beq_iff_eq.mpr c34
               have c34b1 : (((rd_T39 t528 x20_3).f0) != ((rd_T60 t525 x18_2).f0)) = false := bne_eq_false_iff_eq.mpr c34
               clear c34
               have HC35 := Aside0.mk H
               clear H
               obtain ⟨Ao36, co36, eo36⟩ := Kd.R_slice HO_12.out
               subst eo36
               have p535 : 0 ≤ (x20_3 : Int) := of_decide_eq_true (by first | (with_reducible assumption) | assumption)
               have q535 : x20_3 < (t528.length : Int) := of_decide_eq_true (by first | (with_reducible assumption) | assumption)
               obtain ⟨ad535, e535, hx535_0, hx535_1, hx535_2⟩ := at_T39 (Kd.R_reads' HO_12.out).2.2 x20_3 p535 q535
               cases e535
               replace p535 := eq_true p535
               replace q535 := eq_true q535
               have p536 : 0 ≤ (x18_2 : Int) := of_decide_eq_true (by first | (with_reducible assumption) | assumption)
               have q536 : x18_2 < (t525.length : Int) := of_decide_eq_true (by first | (with_reducible assumption) | assumption)
               obtain ⟨ad536, e536, hx536_0, hx536_1, hx536_2⟩ := at_T60 (Kd.R_reads' HO_11.out).2.2 x18_2 p536 q536
               cases e536
               replace p536 := eq_true p536
               replace q536 := eq_true q536
               go_upto_region 21 with (fail)
               repeat (go_quiet (fail); go_upto_region 21 with (fail))
               go_cut [104] (fun v104 wc => ∃ (kq : Nat) (x104_34 : Bool), v104 = .bool x104_34 ∧ Aside0 (dialtonelaw34_RecoveryWithin.j3 kq t525 t528 t532 t533 x17_3 x18_2 (wrap64 (x19_3 + 1)) x20_3 x104_34 = some r) ∧ Aside0 (kq ≤ k3) ∧ Aside0 (Kd.R k60 60 wc w.heap.size (fun _ => True) (.slice (some ad536) t525.length co20) t525) ∧ Aside0 (Kd.R k39 39 wc w.heap.size (fun _ => True) (.slice (some ad535) t528.length co36) t528) ∧ Aside0 (Kd.R k67 67 wc w.heap.size (fun _ => True) (.slice Ao16 t520.length co16) t520) ∧ Aside0 (wc.heap[gb524]? = some (.cells #[(.slice Ao16 t520.length co16), .int .i64 t523] 26 (0, 0))) ∧ Aside0 (Below w.heap.size w wc))
               case first =>
                have H := HC35.out
                clear HC35
                by_cases c37 : ((rd_T39 t528 x20_3).f1) = ((rd_T60 t525 x18_2).f1)
                ·
                 rw [if_pos c37] at H
                 have c37b0 : (((rd_T39 t528 x20_3).f1) == ((rd_T60 t525 x18_2).f1)) = true := beq_iff_eq.mpr c37
                 have c37b1 : (((rd_T39 t528 x20_3).f1) != ((rd_T60 t525 x18_2).f1)) = false := bne_eq_false_iff_eq.mpr c37
                 clear c37
                 (first | rw [c37b0] | (simp only [i64_w, i32_w]; rw [c37b0]) | skip)
                 have H' := Aside0.mk H
                 clear H
                 have p537 : 0 ≤ (x20_3 : Int) := of_decide_eq_true (by first | (with_reducible assumption) | assumption)
                 have q537 : x20_3 < (t528.length : Int) := of_decide_eq_true (by first | (with_reducible assumption) | assumption)
                 obtain ⟨ad537, e537, hx537_0, hx537_1, hx537_2⟩ := at_T39 (Kd.R_reads' HO_12.out).2.2 x20_3 p537 q537
                 obtain rfl : ad535 = ad537 := (by injection e537)
                 replace p537 := eq_true p537
                 replace q537 := eq_true q537
                 have p538 : 0 ≤ (x18_2 : Int) := of_decide_eq_true (by first | (with_reducible assumption) | assumption)
                 have q538 : x18_2 < (t525.length : Int) := of_decide_eq_true (by first | (with_reducible assumption) | assumption)
                 obtain ⟨ad538, e538, hx538_0, hx538_1, hx538_2⟩ := at_T60 (Kd.R_reads' HO_11.out).2.2 x18_2 p538 q538
                 obtain rfl : ad536 = ad538 := (by injection e538)
                 replace p538 := eq_true p538
                 replace q538 := eq_true q538
                 have p539 : 0 ≤ (x20_3 : Int) := of_decide_eq_true (by first | (with_reducible assumption) | assumption)
                 have q539 : x20_3 < (t528.length : Int) := of_decide_eq_true (by first | (with_reducible assumption) | assumption)
                 obtain ⟨ad539, e539, hx539_0, hx539_1, hx539_2⟩ := at_T39 (Kd.R_reads' HO_12.out).2.2 x20_3 p539 q539
                 obtain rfl : ad535 = ad539 := (by injection e539)
                 replace p539 := eq_true p539
                 replace q539 := eq_true q539
                 have p540 : 0 ≤ (x18_2 : Int) := of_decide_eq_true (by first | (with_reducible assumption) | assumption)
                 have q540 : x18_2 < (t525.length : Int) := of_decide_eq_true (by first | (with_reducible assumption) | assumption)
                 obtain ⟨ad540, e540, hx540_0, hx540_1, hx540_2⟩ := at_T60 (Kd.R_reads' HO_11.out).2.2 x18_2 p540 q540
                 obtain rfl : ad536 = ad540 := (by injection e540)
                 replace p540 := eq_true p540
                 replace q540 := eq_true q540
                 go_wp2
                 repeat (go_quiet (fail); try go_wp2)
                 go_meet
                 case rel => exact ⟨_, (decide (((rd_T39 t528 x20_3).f2) < ((rd_T60 t525 x18_2).f1))), (by first | rfl | (simp; done) | (simp [*]; done)), H', ⟨by have := HJ11.out; have := HK2.out; have := HK3.out; first | omega | exact Nat.le_refl _⟩, ⟨by (with_reducible repeat (first | apply Kd.R_alloc | apply Kd.R_drewN | apply Kd.R_drew)); exact HO_11.out⟩, ⟨by (with_reducible repeat (first | apply Kd.R_alloc | apply Kd.R_drewN | apply Kd.R_drew)); exact HO_12.out⟩, ⟨by (with_reducible repeat (first | apply Kd.R_alloc | apply Kd.R_drewN | apply Kd.R_drew)); exact HO_525000.out⟩, ⟨by (with_reducible repeat (first | refine blk_drewN ?_ _ | refine blk_drew ?_ | refine blk_alloc ?_ _)); exact BK524.out⟩, ⟨by repeat (first | (with_reducible first | exact HB.out | apply below_alloc | apply pw_below_drewN | apply below_drew1 | refine below_set ?_ GE524.out) | exact HB.out)⟩⟩
                ·
                 rw [if_neg c37] at H
                 have c37b0 : (((rd_T39 t528 x20_3).f1) == ((rd_T60 t525 x18_2).f1)) = false := beq_eq_false_iff_ne.mpr c37
                 have c37b1 : (((rd_T39 t528 x20_3).f1) != ((rd_T60 t525 x18_2).f1)) = true := bne_iff_ne.mpr c37
                 (first | rw [c37b0] | (simp only [i64_w, i32_w]; rw [c37b0]) | skip)
                 have H' := Aside0.mk H
                 clear H
                 have p537 : 0 ≤ (x20_3 : Int) := of_decide_eq_true (by first | (with_reducible assumption) | assumption)
                 have q537 : x20_3 < (t528.length : Int) := of_decide_eq_true (by first | (with_reducible assumption) | assumption)
                 obtain ⟨ad537, e537, hx537_0, hx537_1, hx537_2⟩ := at_T39 (Kd.R_reads' HO_12.out).2.2 x20_3 p537 q537
                 obtain rfl : ad535 = ad537 := (by injection e537)
                 replace p537 := eq_true p537
                 replace q537 := eq_true q537
                 have p538 : 0 ≤ (x18_2 : Int) := of_decide_eq_true (by first | (with_reducible assumption) | assumption)
                 have q538 : x18_2 < (t525.length : Int) := of_decide_eq_true (by first | (with_reducible assumption) | assumption)
                 obtain ⟨ad538, e538, hx538_0, hx538_1, hx538_2⟩ := at_T60 (Kd.R_reads' HO_11.out).2.2 x18_2 p538 q538
                 obtain rfl : ad536 = ad538 := (by injection e538)
                 replace p538 := eq_true p538
                 replace q538 := eq_true q538
                 go_wp2
                 repeat (go_quiet (fail); try go_wp2)
                 go_meet
                 case rel => exact ⟨_, (true), (by first | rfl | (simp; done) | (simp [*]; done)), H', ⟨by have := HJ11.out; have := HK2.out; have := HK3.out; first | omega | exact Nat.le_refl _⟩, ⟨by (with_reducible repeat (first | apply Kd.R_alloc | apply Kd.R_drewN | apply Kd.R_drew)); exact HO_11.out⟩, ⟨by (with_reducible repeat (first | apply Kd.R_alloc | apply Kd.R_drewN | apply Kd.R_drew)); exact HO_12.out⟩, ⟨by (with_reducible repeat (first | apply Kd.R_alloc | apply Kd.R_drewN | apply Kd.R_drew)); exact HO_525000.out⟩, ⟨by (with_reducible repeat (first | refine blk_drewN ?_ _ | refine blk_drew ?_ | refine blk_alloc ?_ _)); exact BK524.out⟩, ⟨by repeat (first | (with_reducible first | exact HB.out | apply below_alloc | apply pw_below_drewN | apply below_drew1 | refine below_set ?_ GE524.out) | exact HB.out)⟩⟩
               case rest =>
                clear HC35
                try clear c2
                try clear p2
                try clear c3
                try clear p5
                try clear q5
                try clear hx5
                try clear c6
                try clear p6
                try clear c25
                try clear c25b0
                try clear c25b1
                try clear c26
                try clear c26b0
                try clear c26b1
                try clear c28
                try clear c29
                try clear c29b0
                try clear c30
                try clear c30b0
                try clear c31
                try clear c31b0
                try clear c32
                try clear c32b0
                try clear c33
                try clear c33b0
                try clear c34
                try clear c34b0
                try clear c34b1
                try clear c37
                try clear c37b0
                try clear c37b1
                try clear hcz17_0
                try clear hcz17_1
                try clear hcz19_0
                try clear hcz19_1
                try clear hcz23_0
                try clear hcz23_1
                try clear hfz17_0
                try clear hfz17_1
                try clear hfz19_0
                try clear hfz19_1
                try clear hfz23_0
                try clear hfz23_1
                try clear hx535_0
                try clear hx535_1
                try clear hx535_2
                try clear hx536_0
                try clear hx536_1
                try clear hx536_2
                try clear hx537_0
                try clear hx537_1
                try clear hx537_2
                try clear hx538_0
                try clear hx538_1
                try clear hx538_2
                try clear hx539_0
                try clear hx539_1
                try clear hx539_2
                try clear hx540_0
                try clear hx540_1
                try clear hx540_2
                try clear p2
                try clear p535
                try clear p536
                try clear p537
                try clear p538
                try clear p539
                try clear p540
                try clear q535
                try clear q536
                try clear q537
                try clear q538
                try clear q539
                try clear q540
                obtain ⟨kq, x104_34, rfl, HA, HJ34, HO_11, HO_12, HO_525000, BK524, HB⟩ := hcut
                cases kq with
                | zero => exact absurd HA.out (by simp [dialtonelaw34_RecoveryWithin.j3])
                | succ kj34 =>
                 have H := HA.out
                 clear HA
                 simp only [dialtonelaw34_RecoveryWithin.j3] at H
                 by_cases c38 : x104_34 = true
                 ·
                  subst c38
                  have H1 : (none) = some r := by rw [if_pos rfl] at H; exact H
                  clear H
                  have H := H1
                  clear H1
                  exact absurd H (by simp)
                 ·
                  replace c38 := Bool.eq_false_iff.mpr c38
                  subst c38
                  have H1 : (if 0 ≤ x20_3 then (if x20_3 < (t528.length : Int) then (if ((rd_T39 t528 x20_3).f2) = t532 then (if 0 ≤ x18_2 then (if x18_2 < (t525.length : Int) then (dialtonelaw34_RecoveryWithin.j4 kj34 t525 t528 t532 t533 x17_3 x18_2 (wrap64 (x19_3 + 1)) x20_3 (!((rd_T60 t525 x18_2).f2))) else (none)) else (none)) else (dialtonelaw34_RecoveryWithin.j4 kj34 t525 t528 t532 t533 x17_3 x18_2 (wrap64 (x19_3 + 1)) x20_3 false)) else (none)) else (none)) = some r := by rw [if_neg (show ¬ (false = true) by decide)] at H; exact H
                  clear H
                  have H := H1
                  clear H1
                  have HC39 := Aside0.mk H
                  clear H
                  go_upto_region 23 with (fail)
                  repeat (go_quiet (fail); go_upto_region 23 with (fail))
                  go_cut [119] (fun v119 wc => ∃ (kq : Nat) (x119_38 : Bool), v119 = .bool x119_38 ∧ Aside0 (dialtonelaw34_RecoveryWithin.j4 kq t525 t528 t532 t533 x17_3 x18_2 (wrap64 (x19_3 + 1)) x20_3 x119_38 = some r) ∧ Aside0 (kq ≤ kj34) ∧ Aside0 (Kd.R k60 60 wc w.heap.size (fun _ => True) (.slice (some ad536) t525.length co20) t525) ∧ Aside0 (Kd.R k39 39 wc w.heap.size (fun _ => True) (.slice (some ad535) t528.length co36) t528) ∧ Aside0 (Kd.R k67 67 wc w.heap.size (fun _ => True) (.slice Ao16 t520.length co16) t520) ∧ Aside0 (wc.heap[gb524]? = some (.cells #[(.slice Ao16 t520.length co16), .int .i64 t523] 26 (0, 0))) ∧ Aside0 (Below w.heap.size w wc))
                  case first =>
                   have H := HC39.out
                   clear HC39
                   by_cases c40 : 0 ≤ x20_3
                   ·
                    rw [if_pos c40] at H
                    have c40b0 : decide (0 ≤ x20_3) = true := decide_eq_true c40
                    clear c40
                    (first | rw [c40b0] | (simp only [i64_w, i32_w]; rw [c40b0]) | skip)
                    by_cases c41 : x20_3 < (t528.length : Int)
                    ·
                     rw [if_pos c41] at H
                     have c41b0 : decide (x20_3 < (t528.length : Int)) = true := decide_eq_true c41
                     clear c41
                     by_cases c42 : ((rd_T39 t528 x20_3).f2) = t532
                     ·
                      rw [if_pos c42] at H
                      have c42b0 : (((rd_T39 t528 x20_3).f2) == t532) = true := beq_iff_eq.mpr c42
                      have c42b1 : (((rd_T39 t528 x20_3).f2) != t532) = false := bne_eq_false_iff_eq.mpr c42
                      clear c42
                      by_cases c43 : 0 ≤ x18_2
                      ·
                       rw [if_pos c43] at H
                       have c43b0 : decide (0 ≤ x18_2) = true := decide_eq_true c43
                       clear c43
                       by_cases c44 : x18_2 < (t525.length : Int)
                       ·
                        rw [if_pos c44] at H
                        have c44b0 : decide (x18_2 < (t525.length : Int)) = true := decide_eq_true c44
                        clear c44
                        have H' := Aside0.mk H
                        clear H
                        have p541 : 0 ≤ (x20_3 : Int) := of_decide_eq_true (by first | (with_reducible assumption) | assumption)
                        have q541 : x20_3 < (t528.length : Int) := of_decide_eq_true (by first | (with_reducible assumption) | assumption)
                        obtain ⟨ad541, e541, hx541_0, hx541_1, hx541_2⟩ := at_T39 (Kd.R_reads' HO_12.out).2.2 x20_3 p541 q541
                        obtain rfl : ad535 = ad541 := (by injection e541)
                        replace p541 := eq_true p541
                        replace q541 := eq_true q541
                        have p542 : 0 ≤ (x18_2 : Int) := of_decide_eq_true (by first | (with_reducible assumption) | assumption)
                        have q542 : x18_2 < (t525.length : Int) := of_decide_eq_true (by first | (with_reducible assumption) | assumption)
                        obtain ⟨ad542, e542, hx542_0, hx542_1, hx542_2⟩ := at_T60 (Kd.R_reads' HO_11.out).2.2 x18_2 p542 q542
                        obtain rfl : ad536 = ad542 := (by injection e542)
                        replace p542 := eq_true p542
                        replace q542 := eq_true q542
                        go_wp2
                        repeat (go_quiet (fail); try go_wp2)
                        go_meet
                        case rel => exact ⟨_, (!((rd_T60 t525 x18_2).f2)), (by first | rfl | (simp; done) | (simp [*]; done)), H', ⟨by have := HJ11.out; have := HK2.out; have := HK3.out; have := HJ34.out; first | omega | exact Nat.le_refl _⟩, ⟨by (with_reducible repeat (first | apply Kd.R_alloc | apply Kd.R_drewN | apply Kd.R_drew)); exact HO_11.out⟩, ⟨by (with_reducible repeat (first | apply Kd.R_alloc | apply Kd.R_drewN | apply Kd.R_drew)); exact HO_12.out⟩, ⟨by (with_reducible repeat (first | apply Kd.R_alloc | apply Kd.R_drewN | apply Kd.R_drew)); exact HO_525000.out⟩, ⟨by (with_reducible repeat (first | refine blk_drewN ?_ _ | refine blk_drew ?_ | refine blk_alloc ?_ _)); exact BK524.out⟩, ⟨by repeat (first | (with_reducible first | exact HB.out | apply below_alloc | apply pw_below_drewN | apply below_drew1 | refine below_set ?_ GE524.out) | exact HB.out)⟩⟩
                       ·
                        rw [if_neg c44] at H
                        exact absurd H (by simp)
                      ·
                       rw [if_neg c43] at H
                       exact absurd H (by simp)
                     ·
                      rw [if_neg c42] at H
                      have c42b0 : (((rd_T39 t528 x20_3).f2) == t532) = false := beq_eq_false_iff_ne.mpr c42
                      have c42b1 : (((rd_T39 t528 x20_3).f2) != t532) = true := bne_iff_ne.mpr c42
                      have H' := Aside0.mk H
                      clear H
                      have p541 : 0 ≤ (x20_3 : Int) := of_decide_eq_true (by first | (with_reducible assumption) | assumption)
                      have q541 : x20_3 < (t528.length : Int) := of_decide_eq_true (by first | (with_reducible assumption) | assumption)
                      obtain ⟨ad541, e541, hx541_0, hx541_1, hx541_2⟩ := at_T39 (Kd.R_reads' HO_12.out).2.2 x20_3 p541 q541
                      obtain rfl : ad535 = ad541 := (by injection e541)
                      replace p541 := eq_true p541
                      replace q541 := eq_true q541
                      go_wp2
                      repeat (go_quiet (fail); try go_wp2)
                      go_meet
                      case rel => exact ⟨_, (false), (by first | rfl | (simp; done) | (simp [*]; done)), H', ⟨by have := HJ11.out; have := HK2.out; have := HK3.out; have := HJ34.out; first | omega | exact Nat.le_refl _⟩, ⟨by (with_reducible repeat (first | apply Kd.R_alloc | apply Kd.R_drewN | apply Kd.R_drew)); exact HO_11.out⟩, ⟨by (with_reducible repeat (first | apply Kd.R_alloc | apply Kd.R_drewN | apply Kd.R_drew)); exact HO_12.out⟩, ⟨by (with_reducible repeat (first | apply Kd.R_alloc | apply Kd.R_drewN | apply Kd.R_drew)); exact HO_525000.out⟩, ⟨by (with_reducible repeat (first | refine blk_drewN ?_ _ | refine blk_drew ?_ | refine blk_alloc ?_ _)); exact BK524.out⟩, ⟨by repeat (first | (with_reducible first | exact HB.out | apply below_alloc | apply pw_below_drewN | apply below_drew1 | refine below_set ?_ GE524.out) | exact HB.out)⟩⟩
                    ·
                     rw [if_neg c41] at H
                     exact absurd H (by simp)
                   ·
                    rw [if_neg c40] at H
                    exact absurd H (by simp)
                  case rest =>
                   clear HC39
                   try clear c2
                   try clear p2
                   try clear c3
                   try clear c4
                   try clear p5
                   try clear q5
                   try clear hx5
                   try clear c6
                   try clear p6
                   try clear c25
                   try clear c25b0
                   try clear c25b1
                   try clear c26
                   try clear c26b0
                   try clear c26b1
                   try clear c28
                   try clear c29
                   try clear c29b0
                   try clear c30
                   try clear c30b0
                   try clear c31
                   try clear c31b0
                   try clear c32
                   try clear c32b0
                   try clear c33
                   try clear c33b0
                   try clear c34
                   try clear c34b0
                   try clear c34b1
                   try clear c37
                   try clear c37b0
                   try clear c37b1
                   try clear c38
                   try clear c40
                   try clear c40b0
                   try clear c41
                   try clear c41b0
                   try clear c42
                   try clear c42b0
                   try clear c42b1
                   try clear c43
                   try clear c43b0
                   try clear c44
                   try clear c44b0
                   try clear hcz17_0
                   try clear hcz17_1
                   try clear hcz19_0
                   try clear hcz19_1
                   try clear hcz23_0
                   try clear hcz23_1
                   try clear hfz17_0
                   try clear hfz17_1
                   try clear hfz19_0
                   try clear hfz19_1
                   try clear hfz23_0
                   try clear hfz23_1
                   try clear hx535_0
                   try clear hx535_1
                   try clear hx535_2
                   try clear hx536_0
                   try clear hx536_1
                   try clear hx536_2
                   try clear hx537_0
                   try clear hx537_1
                   try clear hx537_2
                   try clear hx538_0
                   try clear hx538_1
                   try clear hx538_2
                   try clear hx539_0
                   try clear hx539_1
                   try clear hx539_2
                   try clear hx540_0
                   try clear hx540_1
                   try clear hx540_2
                   try clear hx541_0
                   try clear hx541_1
                   try clear hx541_2
                   try clear hx542_0
                   try clear hx542_1
                   try clear hx542_2
                   try clear p2
                   try clear p5
                   try clear p535
                   try clear p536
                   try clear p537
                   try clear p538
                   try clear p539
                   try clear p540
                   try clear p541
                   try clear p542
                   try clear p6
                   try clear q5
                   try clear q535
                   try clear q536
                   try clear q537
                   try clear q538
                   try clear q539
                   try clear q540
                   try clear q541
                   try clear q542
                   obtain ⟨kq, x119_38, rfl, HA, HJ38, HO_11, HO_12, HO_525000, BK524, HB⟩ := hcut
                   cases kq with
                   | zero => exact absurd HA.out (by simp [dialtonelaw34_RecoveryWithin.j4])
                   | succ kj38 =>
                    have H := HA.out
                    clear HA
                    simp only [dialtonelaw34_RecoveryWithin.j4] at H
                    by_cases c45 : x119_38 = true
                    ·
                     subst c45
                     have H1 : (dialtonelaw34_RecoveryWithin.l1 kj38 t525 t528 t532 t533 (wrap64 (x17_3 + 1)) x18_2 (wrap64 (x19_3 + 1)) (wrap64 (x20_3 + 1))) = some r := by rw [if_pos rfl] at H; exact H
                     clear H
                     have H := H1
                     clear H1
                     have H' := Aside0.mk H
                     clear H
                     go_wp2
                     repeat (go_quiet (fail); try go_wp2)
                     go_roundg kj38
                     case measure => have := HJ11.out; have := HK2.out; have := HK3.out; have := HJ34.out; have := HJ38.out; omega
                     case rel => exact ⟨(wrap64 (x17_3 + 1)), ((wrap64 (x19_3 + 1))), (wrap64 (x20_3 + 1)), (by first | rfl | (simp; done) | (simp [*]; done)), (by first | rfl | (simp; done) | (simp [*]; done)), (by first | rfl | (simp; done) | (simp [*]; done)), H', ⟨by have := HJ11.out; have := HK2.out; have := HK3.out; have := HJ34.out; have := HJ38.out; omega⟩, ⟨by (with_reducible repeat (first | apply Kd.R_alloc | apply Kd.R_drewN | apply Kd.R_drew)); exact HO_11.out⟩, ⟨by (with_reducible repeat (first | apply Kd.R_alloc | apply Kd.R_drewN | apply Kd.R_drew)); exact HO_12.out⟩, ⟨by (with_reducible repeat (first | apply Kd.R_alloc | apply Kd.R_drewN | apply Kd.R_drew)); exact HO_525000.out⟩, ⟨by (with_reducible repeat (first | refine blk_drewN ?_ _ | refine blk_drew ?_ | refine blk_alloc ?_ _)); exact BK524.out⟩, ⟨by repeat (first | (with_reducible first | exact HB.out | apply below_alloc | apply pw_below_drewN | apply below_drew1 | refine below_set ?_ GE524.out) | exact HB.out)⟩⟩
                    ·
                     replace c45 := Bool.eq_false_iff.mpr c45
                     subst c45
                     have H1 : (dialtonelaw34_RecoveryWithin.l1 kj38 t525 t528 t532 t533 x17_3 x18_2 (wrap64 (x19_3 + 1)) (wrap64 (x20_3 + 1))) = some r := by rw [if_neg (show ¬ (false = true) by decide)] at H; exact H
                     clear H
                     have H := H1
                     clear H1
                     have H' := Aside0.mk H
                     clear H
                     go_wp2
                     repeat (go_quiet (fail); try go_wp2)
                     go_roundg kj38
                     case measure => have := HJ11.out; have := HK2.out; have := HK3.out; have := HJ34.out; have := HJ38.out; omega
                     case rel => exact ⟨(x17_3), ((wrap64 (x19_3 + 1))), (wrap64 (x20_3 + 1)), (by first | rfl | (simp; done) | (simp [*]; done)), (by first | rfl | (simp; done) | (simp [*]; done)), (by first | rfl | (simp; done) | (simp [*]; done)), H', ⟨by have := HJ11.out; have := HK2.out; have := HK3.out; have := HJ34.out; have := HJ38.out; omega⟩, ⟨by (with_reducible repeat (first | apply Kd.R_alloc | apply Kd.R_drewN | apply Kd.R_drew)); exact HO_11.out⟩, ⟨by (with_reducible repeat (first | apply Kd.R_alloc | apply Kd.R_drewN | apply Kd.R_drew)); exact HO_12.out⟩, ⟨by (with_reducible repeat (first | apply Kd.R_alloc | apply Kd.R_drewN | apply Kd.R_drew)); exact HO_525000.out⟩, ⟨by (with_reducible repeat (first | refine blk_drewN ?_ _ | refine blk_drew ?_ | refine blk_alloc ?_ _)); exact BK524.out⟩, ⟨by repeat (first | (with_reducible first | exact HB.out | apply below_alloc | apply pw_below_drewN | apply below_drew1 | refine below_set ?_ GE524.out) | exact HB.out)⟩⟩
              ·
               rw [if_neg c34] at H
               have c34b0 : (((rd_T39 t528 x20_3).f0) == ((rd_T60 t525 x18_2).f0)) = false := beq_eq_false_iff_ne.mpr c34
               have c34b1 : (((rd_T39 t528 x20_3).f0) != ((rd_T60 t525 x18_2).f0)) = true := bne_iff_ne.mpr c34
               have H' := Aside0.mk H
               clear H
               obtain ⟨Ao46, co46, eo46⟩ := Kd.R_slice HO_12.out
               subst eo46
               have p535 : 0 ≤ (x20_3 : Int) := of_decide_eq_true (by first | (with_reducible assumption) | assumption)
               have q535 : x20_3 < (t528.length : Int) := of_decide_eq_true (by first | (with_reducible assumption) | assumption)
               obtain ⟨ad535, e535, hx535_0, hx535_1, hx535_2⟩ := at_T39 (Kd.R_reads' HO_12.out).2.2 x20_3 p535 q535
               cases e535
               replace p535 := eq_true p535
               replace q535 := eq_true q535
               have p536 : 0 ≤ (x18_2 : Int) := of_decide_eq_true (by first | (with_reducible assumption) | assumption)
               have q536 : x18_2 < (t525.length : Int) := of_decide_eq_true (by first | (with_reducible assumption) | assumption)
               obtain ⟨ad536, e536, hx536_0, hx536_1, hx536_2⟩ := at_T60 (Kd.R_reads' HO_11.out).2.2 x18_2 p536 q536
               cases e536
               replace p536 := eq_true p536
               replace q536 := eq_true q536
               go_wp2
               repeat (go_quiet (fail); try go_wp2)
               go_roundg k3
               case measure => have := HJ11.out; have := HK2.out; have := HK3.out; omega
               case rel => exact ⟨(x17_3), (x19_3), (wrap64 (x20_3 + 1)), (by first | rfl | (simp; done) | (simp [*]; done)), (by first | rfl | (simp; done) | (simp [*]; done)), (by first | rfl | (simp; done) | (simp [*]; done)), H', ⟨by have := HJ11.out; have := HK2.out; have := HK3.out; omega⟩, ⟨by (with_reducible repeat (first | apply Kd.R_alloc | apply Kd.R_drewN | apply Kd.R_drew)); exact HO_11.out⟩, ⟨by (with_reducible repeat (first | apply Kd.R_alloc | apply Kd.R_drewN | apply Kd.R_drew)); exact HO_12.out⟩, ⟨by (with_reducible repeat (first | apply Kd.R_alloc | apply Kd.R_drewN | apply Kd.R_drew)); exact HO_525000.out⟩, ⟨by (with_reducible repeat (first | refine blk_drewN ?_ _ | refine blk_drew ?_ | refine blk_alloc ?_ _)); exact BK524.out⟩, ⟨by repeat (first | (with_reducible first | exact HB.out | apply below_alloc | apply pw_below_drewN | apply below_drew1 | refine below_set ?_ GE524.out) | exact HB.out)⟩⟩
             ·
              rw [if_neg c33] at H
              exact absurd H (by simp)
            ·
             rw [if_neg c32] at H
             exact absurd H (by simp)
           ·
            rw [if_neg c31] at H
            exact absurd H (by simp)
          ·
           rw [if_neg c30] at H
           have c30b0 : decide (x20_3 < (t528.length : Int)) = false := decide_eq_false c30
           clear c30
           by_cases c47 : x19_3 = 1
           ·
            rw [if_pos c47] at H
            have c47b0 : (x19_3 == 1) = true := beq_iff_eq.mpr c47
            have c47b1 : (x19_3 != 1) = false := bne_eq_false_iff_eq.mpr c47
            clear c47
            have H' := Aside0.mk H
            clear H
            obtain ⟨Ao48, co48, eo48⟩ := Kd.R_slice HO_12.out
            subst eo48
            go_wp2
            repeat (go_quiet (fail); try go_wp2)
            go_roundg k3
            case measure => have := HJ11.out; have := HK2.out; have := HK3.out; omega
            case rel => exact ⟨(x17_3), (wrap64 (x18_2 + 1)), (by first | rfl | (simp; done) | (simp [*]; done)), (by first | rfl | (simp; done) | (simp [*]; done)), H', ⟨by have := HJ11.out; have := HK2.out; have := HK3.out; omega⟩, ⟨by (with_reducible repeat (first | apply Kd.R_alloc | apply Kd.R_drewN | apply Kd.R_drew)); exact HO_11.out⟩, ⟨by (with_reducible repeat (first | apply Kd.R_alloc | apply Kd.R_drewN | apply Kd.R_drew)); exact HO_12.out⟩, ⟨by (with_reducible repeat (first | apply Kd.R_alloc | apply Kd.R_drewN | apply Kd.R_drew)); exact HO_525000.out⟩, ⟨by (with_reducible repeat (first | refine blk_drewN ?_ _ | refine blk_drew ?_ | refine blk_alloc ?_ _)); exact BK524.out⟩, ⟨by repeat (first | (with_reducible first | exact HB.out | apply below_alloc | apply pw_below_drewN | apply below_drew1 | refine below_set ?_ GE524.out) | exact HB.out)⟩⟩
           ·
            rw [if_neg c47] at H
            exact absurd H (by simp)
       ·
        rw [if_neg c29] at H
        have c29b0 : decide (x18_2 < (t525.length : Int)) = false := decide_eq_false c29
        clear c29
        obtain rfl := Option.some.inj H
        go_wp2
        repeat (go_quiet (fail); try go_wp2)
        go_ret
        exact ⟨by first | rfl | (simp [errW_none, errW_some] <;> rfl) | (simp [*, errW_none, errW_some] <;> rfl), by repeat (first | (with_reducible first | exact HB.out | apply below_alloc | apply pw_below_drewN | apply below_drew1 | refine below_set ?_ GE524.out) | exact HB.out)⟩
 ·
  replace c6 := Bool.eq_false_iff.mpr c6
  subst c6
  have H1 : (none) = some r := by rw [if_neg (show ¬ (false = true) by decide)] at H; exact H
  clear H
  have H := H1
  clear H1
  exact absurd H (by simp)

end Go.Proofs.Ytcldldmedphcfaa.C
