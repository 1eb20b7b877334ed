-- Written for this claim by a program of this session (wip/tools/hprint.py) out of the translation. Lean checks it.
import Derived.Test.YtcldldmedphcfaaCKinds
import Derived.Test.YtcldldmedphcfaaEq1
import Derived.Test.YtcldldmedphcfaaCSane
import Derived.Test.YtcldldmedphcfaaCMade
import Derived.Test.YtcldldmedphcfaaCAttempts
import Derived.Test.YtcldldmedphcfaaHLoad
import Derived.Test.YtcldldmedphcfaaHPick
import Derived.Test.YtcldldmedphcfaaHPlan
namespace Go.Proofs.Ytcldldmedphcfaa.C
open Go.RowKit Go.Proofs.YtcldldmedphcfaaW.PrintWords Go.Proofs.YtcldldmedphcfaaW.PrintLast Go.Proofs.YtcldldmedphcfaaW.PrintMore
attribute [local go_sem] max2_int min2_int max_two min_two max_three min_three max_four min_four   -- for this text's walks alone
set_option linter.unusedVariables false
set_option linter.unusedSimpArgs false

attribute [local go_sem high] eqA39
/-! ### dialtonelaw34_RecoveryUrgent: function 12 -/
mutual
def dialtonelaw34_RecoveryUrgent.l0 : Nat → Int → List (S60) → List (S60) → Int → List (S67) → Int → Option (Bool)
 | 0, _, _, _, _, _, _ => none
 | k + 1, x3, x11, x12, x13, x694000, x694001 => if x13 < (x11.length : Int) then (if 0 ≤ x13 then (if ((rd_T60 x11 x13).f2 = true) then (dialtonelaw34_RecoveryUrgent.l0 k x3 x11 x12 (wrap64 (x13 + 1)) x694000 x694001) else (if x12.length < 5864062014805 then (dialtonelaw34_RecoveryUrgent.l0 k x3 x11 (x12 ++ [(⟨(rd_T60 x11 x13).f0, (rd_T60 x11 x13).f1, (rd_T60 x11 x13).f2⟩ : S60)]) (wrap64 (x13 + 1)) x694000 x694001) else (none))) else (none)) else ((recovery_Plan.f x694000 x694001 x11).bind fun bt702 => ((recovery_Plan.f x694000 x694001 x12).bind fun bt706 => ((dialtonelaw34_pick.f x3 60).bind fun t710 => ((recovery_Load.f x694000 x694001 x11 t710).bind fun bt711 => ((dialtonelaw34_pick.f x3 60).bind fun t713 => ((recovery_Load.f x694000 x694001 x12 t713).bind fun bt714 => (if bt702.2 = 0 then (if bt706.2 = 0 then (if bt711.2 = 0 then (if bt714.2 = 0 then (if bt711.1 = bt714.1 then (dialtonelaw34_RecoveryUrgent.j1 k x11 bt702.1 bt706.1 ((bt702.1.length : Int) != (x11.length : Int))) else (dialtonelaw34_RecoveryUrgent.j1 k x11 bt702.1 bt706.1 true)) else (dialtonelaw34_RecoveryUrgent.j1 k x11 bt702.1 bt706.1 true)) else (dialtonelaw34_RecoveryUrgent.j1 k x11 bt702.1 bt706.1 true)) else (dialtonelaw34_RecoveryUrgent.j1 k x11 bt702.1 bt706.1 true)) else (dialtonelaw34_RecoveryUrgent.j1 k x11 bt702.1 bt706.1 true))))))))
def dialtonelaw34_RecoveryUrgent.j1 : Nat → List (S60) → List (S39) → List (S39) → Bool → Option (Bool)
 | 0, _, _, _, _ => none
 | k + 1, x11, x14, x16, x106 => if x106 = true then (none) else (dialtonelaw34_RecoveryUrgent.l1 k x11 x14 x16 0 0)
def dialtonelaw34_RecoveryUrgent.l1 : Nat → List (S60) → List (S39) → List (S39) → Int → Int → Option (Bool)
 | 0, _, _, _, _, _ => none
 | k + 1, x11, x14, x16, x22, x23 => if x23 < (x14.length : Int) then (dialtonelaw34_RecoveryUrgent.l2 k x11 x14 x16 x22 x23 false 0) else (some (x22 == (x16.length : Int)))
def dialtonelaw34_RecoveryUrgent.l2 : Nat → List (S60) → List (S39) → List (S39) → Int → Int → Bool → Int → Option (Bool)
 | 0, _, _, _, _, _, _, _ => none
 | k + 1, x11, x14, x16, x22, x23, x24, x25 => if x25 < (x11.length : Int) then (if x24 = true then (dialtonelaw34_RecoveryUrgent.l2 k x11 x14 x16 x22 x23 true (wrap64 (x25 + 1))) else (if 0 ≤ x25 then (if 0 ≤ x23 then (if x23 < (x14.length : Int) then (if ((rd_T60 x11 x25).f0) = ((rd_T39 x14 x23).f0) then (dialtonelaw34_RecoveryUrgent.l2 k x11 x14 x16 x22 x23 ((rd_T60 x11 x25).f2) (wrap64 (x25 + 1))) else (dialtonelaw34_RecoveryUrgent.l2 k x11 x14 x16 x22 x23 false (wrap64 (x25 + 1)))) else (none)) else (none)) else (none))) else (if x24 = true then (if 0 ≤ x23 then (if x23 < (x14.length : Int) then (if ((rd_T39 x14 x23).f2) = ((rd_T39 x14 x23).f1) then (dialtonelaw34_RecoveryUrgent.l1 k x11 x14 x16 x22 (wrap64 (x23 + 1))) else (none)) else (none)) else (none)) else (if x22 ≥ (x16.length : Int) then (dialtonelaw34_RecoveryUrgent.j4 k x11 x14 x16 x22 x23 true) else (if 0 ≤ x23 then (if x23 < (x14.length : Int) then (if 0 ≤ x22 then (if x22 < (x16.length : Int) then (dialtonelaw34_RecoveryUrgent.j4 k x11 x14 x16 x22 x23 (!(((rd_T39 x14 x23).f0) == ((rd_T39 x16 x22).f0)) || (!(((rd_T39 x14 x23).f1) == ((rd_T39 x16 x22).f1)) || (!(((rd_T39 x14 x23).f2) == ((rd_T39 x16 x22).f2)))))) else (none)) else (none)) else (none)) else (none))))
def dialtonelaw34_RecoveryUrgent.j4 : Nat → List (S60) → List (S39) → List (S39) → Int → Int → Bool → Option (Bool)
 | 0, _, _, _, _, _, _ => none
 | k + 1, x11, x14, x16, x22, x23, x166 => if x166 = true then (none) else (dialtonelaw34_RecoveryUrgent.l1 k x11 x14 x16 (wrap64 (x22 + 1)) (wrap64 (x23 + 1)))
end
def dialtonelaw34_RecoveryUrgent.f (k : Nat) (l0 : List (S71)) (a1 : Int) (l2 : List (S71)) (a3 : Int) : Option (Bool) := (dialtonelaw34_sane.f k).bind fun t688 => (if t688 = true then ((dialtoneref34_Made.f k l0 a1).bind fun bt689 => ((dialtoneref34_Attempts.f k l2).bind fun t694 => (dialtonelaw34_RecoveryUrgent.l0 k a3 t694 ([] : List (S60)) 0 bt689.1 bt689.2))) else (none))
theorem dialtonelaw34_RecoveryUrgent.mono_l : ∀ k, (∀ y0 y1 y2 y3 y4 y5, LeO (dialtonelaw34_RecoveryUrgent.l0 k y0 y1 y2 y3 y4 y5) (dialtonelaw34_RecoveryUrgent.l0 (k + 1) y0 y1 y2 y3 y4 y5)) ∧ (∀ y0 y1 y2 y3, LeO (dialtonelaw34_RecoveryUrgent.j1 k y0 y1 y2 y3) (dialtonelaw34_RecoveryUrgent.j1 (k + 1) y0 y1 y2 y3)) ∧ (∀ y0 y1 y2 y3 y4, LeO (dialtonelaw34_RecoveryUrgent.l1 k y0 y1 y2 y3 y4) (dialtonelaw34_RecoveryUrgent.l1 (k + 1) y0 y1 y2 y3 y4)) ∧ (∀ y0 y1 y2 y3 y4 y5 y6, LeO (dialtonelaw34_RecoveryUrgent.l2 k y0 y1 y2 y3 y4 y5 y6) (dialtonelaw34_RecoveryUrgent.l2 (k + 1) y0 y1 y2 y3 y4 y5 y6)) ∧ (∀ y0 y1 y2 y3 y4 y5, LeO (dialtonelaw34_RecoveryUrgent.j4 k y0 y1 y2 y3 y4 y5) (dialtonelaw34_RecoveryUrgent.j4 (k + 1) y0 y1 y2 y3 y4 y5))
 | 0 => ⟨fun _ _ _ _ _ _ r h => by simp [dialtonelaw34_RecoveryUrgent.l0] at h, fun _ _ _ _ r h => by simp [dialtonelaw34_RecoveryUrgent.j1] at h, fun _ _ _ _ _ r h => by simp [dialtonelaw34_RecoveryUrgent.l1] at h, fun _ _ _ _ _ _ _ r h => by simp [dialtonelaw34_RecoveryUrgent.l2] at h, fun _ _ _ _ _ _ r h => by simp [dialtonelaw34_RecoveryUrgent.j4] at h⟩
 | k + 1 => by
  obtain ⟨ih0, ih1, ih2, ih3, ih4⟩ := dialtonelaw34_RecoveryUrgent.mono_l k
  refine ⟨?_, ?_, ?_, ?_, ?_⟩
  ·
   intro y0 y1 y2 y3 y4 y5
   unfold dialtonelaw34_RecoveryUrgent.l0
   repeat' first
   | (with_reducible exact ih0 _ _ _ _ _ _)
   | (with_reducible exact ih1 _ _ _ _)
   | (with_reducible exact ih2 _ _ _ _ _)
   | (with_reducible exact ih3 _ _ _ _ _ _ _)
   | (with_reducible exact ih4 _ _ _ _ _ _)
   | (with_reducible exact dialtonelaw34_sane.mono _)
   | (with_reducible exact dialtoneref34_Attempts.mono _ _)
   | (with_reducible exact dialtoneref34_Made.mono _ _ _)
   | (with_reducible exact LeO.refl _)
   | (with_reducible exact LeO.none _)
   | (with_reducible refine LeO.ite ?_ ?_)
   | (with_reducible refine LeO.bind ?_ (fun _ => ?_))
   | exact ih0 _ _ _ _ _ _
   | exact ih1 _ _ _ _
   | exact ih2 _ _ _ _ _
   | exact ih3 _ _ _ _ _ _ _
   | exact ih4 _ _ _ _ _ _
   | exact dialtonelaw34_sane.mono _
   | exact dialtoneref34_Attempts.mono _ _
   | exact dialtoneref34_Made.mono _ _ _
   | exact LeO.none _
   | refine LeO.ite ?_ ?_
   | refine LeO.bind ?_ (fun _ => ?_)
  ·
   intro y0 y1 y2 y3
   unfold dialtonelaw34_RecoveryUrgent.j1
   repeat' first
   | (with_reducible exact ih0 _ _ _ _ _ _)
   | (with_reducible exact ih1 _ _ _ _)
   | (with_reducible exact ih2 _ _ _ _ _)
   | (with_reducible exact ih3 _ _ _ _ _ _ _)
   | (with_reducible exact ih4 _ _ _ _ _ _)
   | (with_reducible exact dialtonelaw34_sane.mono _)
   | (with_reducible exact dialtoneref34_Attempts.mono _ _)
   | (with_reducible exact dialtoneref34_Made.mono _ _ _)
   | (with_reducible exact LeO.refl _)
   | (with_reducible exact LeO.none _)
   | (with_reducible refine LeO.ite ?_ ?_)
   | (with_reducible refine LeO.bind ?_ (fun _ => ?_))
   | exact ih0 _ _ _ _ _ _
   | exact ih1 _ _ _ _
   | exact ih2 _ _ _ _ _
   | exact ih3 _ _ _ _ _ _ _
   | exact ih4 _ _ _ _ _ _
   | exact dialtonelaw34_sane.mono _
   | exact dialtoneref34_Attempts.mono _ _
   | exact dialtoneref34_Made.mono _ _ _
   | exact LeO.none _
   | refine LeO.ite ?_ ?_
   | refine LeO.bind ?_ (fun _ => ?_)
  ·
   intro y0 y1 y2 y3 y4
   unfold dialtonelaw34_RecoveryUrgent.l1
   repeat' first
   | (with_reducible exact ih0 _ _ _ _ _ _)
   | (with_reducible exact ih1 _ _ _ _)
   | (with_reducible exact ih2 _ _ _ _ _)
   | (with_reducible exact ih3 _ _ _ _ _ _ _)
   | (with_reducible exact ih4 _ _ _ _ _ _)
   | (with_reducible exact dialtonelaw34_sane.mono _)
   | (with_reducible exact dialtoneref34_Attempts.mono _ _)
   | (with_reducible exact dialtoneref34_Made.mono _ _ _)
   | (with_reducible exact LeO.refl _)
   | (with_reducible exact LeO.none _)
   | (with_reducible refine LeO.ite ?_ ?_)
   | (with_reducible refine LeO.bind ?_ (fun _ => ?_))
   | exact ih0 _ _ _ _ _ _
   | exact ih1 _ _ _ _
   | exact ih2 _ _ _ _ _
   | exact ih3 _ _ _ _ _ _ _
   | exact ih4 _ _ _ _ _ _
   | exact dialtonelaw34_sane.mono _
   | exact dialtoneref34_Attempts.mono _ _
   | exact dialtoneref34_Made.mono _ _ _
   | exact LeO.none _
   | refine LeO.ite ?_ ?_
   | refine LeO.bind ?_ (fun _ => ?_)
  ·
   intro y0 y1 y2 y3 y4 y5 y6
   unfold dialtonelaw34_RecoveryUrgent.l2
   repeat' first
   | (with_reducible exact ih0 _ _ _ _ _ _)
   | (with_reducible exact ih1 _ _ _ _)
   | (with_reducible exact ih2 _ _ _ _ _)
   | (with_reducible exact ih3 _ _ _ _ _ _ _)
   | (with_reducible exact ih4 _ _ _ _ _ _)
   | (with_reducible exact dialtonelaw34_sane.mono _)
   | (with_reducible exact dialtoneref34_Attempts.mono _ _)
   | (with_reducible exact dialtoneref34_Made.mono _ _ _)
   | (with_reducible exact LeO.refl _)
   | (with_reducible exact LeO.none _)
   | (with_reducible refine LeO.ite ?_ ?_)
   | (with_reducible refine LeO.bind ?_ (fun _ => ?_))
   | exact ih0 _ _ _ _ _ _
   | exact ih1 _ _ _ _
   | exact ih2 _ _ _ _ _
   | exact ih3 _ _ _ _ _ _ _
   | exact ih4 _ _ _ _ _ _
   | exact dialtonelaw34_sane.mono _
   | exact dialtoneref34_Attempts.mono _ _
   | exact dialtoneref34_Made.mono _ _ _
   | exact LeO.none _
   | refine LeO.ite ?_ ?_
   | refine LeO.bind ?_ (fun _ => ?_)
  ·
   intro y0 y1 y2 y3 y4 y5
   unfold dialtonelaw34_RecoveryUrgent.j4
   repeat' first
   | (with_reducible exact ih0 _ _ _ _ _ _)
   | (with_reducible exact ih1 _ _ _ _)
   | (with_reducible exact ih2 _ _ _ _ _)
   | (with_reducible exact ih3 _ _ _ _ _ _ _)
   | (with_reducible exact ih4 _ _ _ _ _ _)
   | (with_reducible exact dialtonelaw34_sane.mono _)
   | (with_reducible exact dialtoneref34_Attempts.mono _ _)
   | (with_reducible exact dialtoneref34_Made.mono _ _ _)
   | (with_reducible exact LeO.refl _)
   | (with_reducible exact LeO.none _)
   | (with_reducible refine LeO.ite ?_ ?_)
   | (with_reducible refine LeO.bind ?_ (fun _ => ?_))
   | exact ih0 _ _ _ _ _ _
   | exact ih1 _ _ _ _
   | exact ih2 _ _ _ _ _
   | exact ih3 _ _ _ _ _ _ _
   | exact ih4 _ _ _ _ _ _
   | exact dialtonelaw34_sane.mono _
   | exact dialtoneref34_Attempts.mono _ _
   | exact dialtoneref34_Made.mono _ _ _
   | exact LeO.none _
   | refine LeO.ite ?_ ?_
   | refine LeO.bind ?_ (fun _ => ?_)
theorem dialtonelaw34_RecoveryUrgent.mono : ∀ a0 a1 a2 a3 k, LeO (dialtonelaw34_RecoveryUrgent.f k a0 a1 a2 a3) (dialtonelaw34_RecoveryUrgent.f (k + 1) a0 a1 a2 a3) := by
 intro a0 a1 a2 a3 k
 obtain ⟨ih0, ih1, ih2, ih3, ih4⟩ := dialtonelaw34_RecoveryUrgent.mono_l k
 unfold dialtonelaw34_RecoveryUrgent.f
 repeat' first
   | (with_reducible exact ih0 _ _ _ _ _ _)
   | (with_reducible exact ih1 _ _ _ _)
   | (with_reducible exact ih2 _ _ _ _ _)
   | (with_reducible exact ih3 _ _ _ _ _ _ _)
   | (with_reducible exact ih4 _ _ _ _ _ _)
   | (with_reducible exact dialtonelaw34_sane.mono _)
   | (with_reducible exact dialtoneref34_Attempts.mono _ _)
   | (with_reducible exact dialtoneref34_Made.mono _ _ _)
   | (with_reducible exact LeO.refl _)
   | (with_reducible exact LeO.none _)
   | (with_reducible refine LeO.ite ?_ ?_)
   | (with_reducible refine LeO.bind ?_ (fun _ => ?_))
   | exact ih0 _ _ _ _ _ _
   | exact ih1 _ _ _ _
   | exact ih2 _ _ _ _ _
   | exact ih3 _ _ _ _ _ _ _
   | exact ih4 _ _ _ _ _ _
   | exact dialtonelaw34_sane.mono _
   | exact dialtoneref34_Attempts.mono _ _
   | exact dialtoneref34_Made.mono _ _ _
   | exact LeO.none _
   | refine LeO.ite ?_ ?_
   | refine LeO.bind ?_ (fun _ => ?_)
def dialtonelaw34_RecoveryUrgent.T14 : Bool × List (List Nat × List Nat) := (true, [([], []), ([], []), ([], []), ([2], [2]), ([0, 1, 3, 3], [0, 1, 3]), ([4], [4]), ([5], [5]), ([5], [5]), ([6, 4, 0, 1, 2, 3, 4, 5, 6], [6]), ([7, 8, 0, 1, 2, 3, 4, 5, 6, 7, 8], [7])])
def dialtonelaw34_RecoveryUrgent.B14 : List Nat := [0, 0, 0, 4, 15, 31, 63, 63, 127, 511]
theorem dialtonelaw34_RecoveryUrgent.tab14 : rtab .any (opsOf Try.f12 14) = dialtonelaw34_RecoveryUrgent.T14 := by kernel_rfl
theorem dialtonelaw34_RecoveryUrgent.bits14 : waitsOk dialtonelaw34_RecoveryUrgent.T14.2 dialtonelaw34_RecoveryUrgent.B14 = true := by kernel_rfl
def dialtonelaw34_RecoveryUrgent.T15 : Bool × List (List Nat × List Nat) := (true, [([], []), ([], []), ([], []), ([2], [2]), ([0, 1, 3, 3], [0, 1, 3]), ([4], [4]), ([5], [5]), ([5], [5]), ([6, 4, 0, 1, 2, 3, 4, 5, 6], [6]), ([7, 8, 0, 1, 2, 3, 4, 5, 6, 7, 8], [7])])
def dialtonelaw34_RecoveryUrgent.B15 : List Nat := [0, 0, 0, 4, 15, 31, 63, 63, 127, 511]
theorem dialtonelaw34_RecoveryUrgent.tab15 : rtab .any (opsOf Try.f12 15) = dialtonelaw34_RecoveryUrgent.T15 := by kernel_rfl
theorem dialtonelaw34_RecoveryUrgent.bits15 : waitsOk dialtonelaw34_RecoveryUrgent.T15.2 dialtonelaw34_RecoveryUrgent.B15 = true := by kernel_rfl
def dialtonelaw34_RecoveryUrgent.T26 : Bool × List (List Nat × List Nat) := (true, [([], []), ([0], [0]), ([1], [1]), ([1], [1]), ([2, 3, 1], [1, 2, 3]), ([4, 1], [1, 4]), ([5, 1], [1, 5]), ([1], [1]), ([1], [1]), ([7, 8, 1], [1, 7, 8]), ([9, 1], [1, 9]), ([10, 1], [1, 10]), ([6, 11, 1], [1, 6, 11]), ([12, 1, 1], [1, 12]), ([13], [13]), ([13], [13]), ([14, 15, 13], [13, 14, 15]), ([16, 13], [13, 16]), ([17, 13], [13, 17]), ([13, 18, 1], [1, 13, 18]), ([1, 19], [1, 19]), ([20, 13, 0, 1, 2, 3, 4, 5, 6, 7, 8, 9, 10, 11, 12, 13, 14, 15, 16, 17, 18, 19, 20], [0, 20])])
def dialtonelaw34_RecoveryUrgent.B26 : List Nat := [0, 1, 3, 3, 15, 31, 63, 3, 3, 387, 899, 1923, 4095, 8191, 16383, 16383, 65535, 131071, 262143, 524287, 1048575, 2097151]
theorem dialtonelaw34_RecoveryUrgent.tab26 : rtab .any (opsOf Try.f12 26) = dialtonelaw34_RecoveryUrgent.T26 := by kernel_rfl
theorem dialtonelaw34_RecoveryUrgent.bits26 : waitsOk dialtonelaw34_RecoveryUrgent.T26.2 dialtonelaw34_RecoveryUrgent.B26 = true := by kernel_rfl
def dialtonelaw34_RecoveryUrgent.T28 : Bool × List (List Nat × List Nat) := (true, [([], []), ([], []), ([0, 1], [0, 1]), ([2], [2]), ([3], [3]), ([], []), ([], []), ([5, 6], [5, 6]), ([7], [7]), ([8], [8]), ([4, 9], [4, 9])])
def dialtonelaw34_RecoveryUrgent.B28 : List Nat := [0, 0, 3, 7, 15, 0, 0, 96, 224, 480, 1023]
theorem dialtonelaw34_RecoveryUrgent.tab28 : rtab .any (opsOf Try.f12 28) = dialtonelaw34_RecoveryUrgent.T28 := by kernel_rfl
theorem dialtonelaw34_RecoveryUrgent.bits28 : waitsOk dialtonelaw34_RecoveryUrgent.T28.2 dialtonelaw34_RecoveryUrgent.B28 = true := by kernel_rfl
def dialtonelaw34_RecoveryUrgent.T30 : Bool × List (List Nat × List Nat) := (true, [([], []), ([], []), ([1], [1]), ([0, 2], [0, 2]), ([3], [3]), ([4], [4]), ([4], [4]), ([5, 6, 4], [4, 5, 6]), ([7, 4], [4, 7]), ([4], [4]), ([4], [4]), ([9, 10, 4], [4, 9, 10]), ([11, 4], [4, 11]), ([8, 12, 4], [4, 8, 12]), ([4, 13], [4, 13])])
def dialtonelaw34_RecoveryUrgent.B30 : List Nat := [0, 0, 2, 7, 15, 31, 31, 127, 255, 31, 31, 1567, 3615, 8191, 16383]
theorem dialtonelaw34_RecoveryUrgent.tab30 : rtab .any (opsOf Try.f12 30) = dialtonelaw34_RecoveryUrgent.T30 := by kernel_rfl
theorem dialtonelaw34_RecoveryUrgent.bits30 : waitsOk dialtonelaw34_RecoveryUrgent.T30.2 dialtonelaw34_RecoveryUrgent.B30 = true := by kernel_rfl
set_option maxHeartbeats 8000000 in
set_option maxRecDepth 100000 in
theorem dialtonelaw34_RecoveryUrgent.calls (k : Nat) (A0 : Option Addr) (c0 : Nat) (l0 : List (S71)) (a1 : Int) (A2 : Option Addr) (c2 : Nat) (l2 : List (S71)) (a3 : Int) (r : Bool) (w : World) (hr0 : Kd.C k71 w A0 l0.length l0) (hc0 : l0.length ≤ c0) (hr2 : Kd.C k71 w A2 l2.length l2) (hc2 : l2.length ≤ c2) (h : dialtonelaw34_RecoveryUrgent.f k l0 a1 l2 a3 = some r) :
  Calls Try.prog 12 #[.slice A0 l0.length c0, .int .i64 a1, .slice A2 l2.length c2, .int .i64 a3] w fun e w' => e = .returned (.bool r) ∧ Below w.heap.size w w' := by
 have hu26 := Try.underlying26
 have hu60 := Try.underlying60
 have hu39 := Try.underlying39
 have HR0 := Aside0.mk hr0
 have HC0 := Aside0.mk hc0
 clear hr0 hc0
 have HR2 := Aside0.mk hr2
 have HC2 := Aside0.mk hc2
 clear hr2 hc2
 have HB := Aside0.mk (Below.refl w.heap.size w)
 have H : ((dialtonelaw34_sane.f k).bind fun t688 => (if t688 = true then ((dialtoneref34_Made.f k l0 a1).bind fun bt689 => ((dialtoneref34_Attempts.f k l2).bind fun t694 => (dialtonelaw34_RecoveryUrgent.l0 k a3 t694 ([] : List (S60)) 0 bt689.1 bt689.2))) else (none))) = some r := h
 clear h
 replace H := Option.bind_eq_some_iff.mp H
 obtain ⟨t688, A50, H⟩ := H
 replace H : (if t688 = true then ((dialtoneref34_Made.f k l0 a1).bind fun bt689 => ((dialtoneref34_Attempts.f k l2).bind fun t694 => (dialtonelaw34_RecoveryUrgent.l0 k a3 t694 ([] : List (S60)) 0 bt689.1 bt689.2))) else (none)) = some r := H
 have A5 := Aside0.mk A50
 clear A50
 by_cases c6 : t688 = true
 ·
  subst c6
  have H1 : ((dialtoneref34_Made.f k l0 a1).bind fun bt689 => ((dialtoneref34_Attempts.f k l2).bind fun t694 => (dialtonelaw34_RecoveryUrgent.l0 k a3 t694 ([] : List (S60)) 0 bt689.1 bt689.2))) = some r := by rw [if_pos rfl] at H; exact H
  clear H
  have H := H1
  clear H1
  replace H := Option.bind_eq_some_iff.mp H
  obtain ⟨⟨t689, t692⟩, A70, H⟩ := H
  replace H : ((dialtoneref34_Attempts.f k l2).bind fun t694 => (dialtonelaw34_RecoveryUrgent.l0 k a3 t694 ([] : List (S60)) 0 t689 t692)) = some r := H
  have A7 := Aside0.mk A70
  clear A70
  replace H := Option.bind_eq_some_iff.mp H
  obtain ⟨t694, A80, H⟩ := H
  replace H : (dialtonelaw34_RecoveryUrgent.l0 k a3 t694 ([] : List (S60)) 0 t689 t692) = some r := H
  have A8 := Aside0.mk A80
  clear A80
  have H' := Aside0.mk H
  clear H
  go_enter Try.func12, Try.ntmps12
  go_wp2_with (first | ((with_reducible refine gate_callee (f := 13) rfl ?_); refine goesL_ (some 26) rfl rfl Try.func13 (by kernel_rfl) rfl #[] rfl (by (try simp only [List.map_toArray, List.map_cons, List.map_nil]); first | done | rfl | (simp only [List.length_drop, List.length_take]; rfl)) ?_; (with_reducible refine (dialtonelaw34_sane.calls k  true _ A5.out).mono ?_); rintro e w9 ⟨rfl, hb⟩; refine ⟨_, rfl, ?_⟩; have n0_ := Aside0.mk (below_step (by repeat (first | (with_reducible first | exact HB.out | apply below_alloc | apply pw_below_drewN | apply below_drew1) | exact HB.out)) hb); clear HB; have HB := n0_; clear n0_; (try clear hb); (try clear hb2); (try clear hk); (try clear hi)) | ((with_reducible refine gate_callee (f := 14) rfl ?_); refine goesL_ (some 31) rfl rfl Try.func14 (by kernel_rfl) rfl #[.slice A0 l0.length c0, .int .i64 a1] rfl (by (try simp only [List.map_toArray, List.map_cons, List.map_nil]); first | done | rfl | (simp only [List.length_drop, List.length_take]; rfl)) ?_; (with_reducible refine (dialtoneref34_Made.calls k _ _ l0 a1 t689 t692 _ ?side1 ?side2 A7.out).mono ?_); (case side1 => repeat (first | exact (Kd.C_below HR0.out HB.out) | (with_reducible refine Kd.C_alloc ?_ _) | (with_reducible refine Kd.C_drewN ?_ _) | (with_reducible refine Kd.C_drew ?_))); (case side2 => exact HC0.out); rintro e w10 ⟨v690, rfl, ho0, hb⟩; refine ⟨_, rfl, ?_⟩; have n0_ := Aside0.mk (Kd.R_lower ho0 (below_size (by repeat (first | (with_reducible first | exact HB.out | apply below_alloc | apply pw_below_drewN | apply below_drew1) | exact HB.out)))); have n1_ := Aside0.mk (below_step (by repeat (first | (with_reducible first | exact HB.out | apply below_alloc | apply pw_below_drewN | apply below_drew1) | exact HB.out)) hb); clear HB; have HO691 := n0_; have HB := n1_; clear n0_ n1_; (try clear hb); (try clear hb2); (try clear hk); (try clear hi); (try clear ho0)) | ((with_reducible refine gate_dst (N := 10) rfl ?_); (try (refine gate_guard (by rfl) ?_; dsimp only)); refine box_event ?hg (N := 10) ?hd (cs := #[.slice none 0 0, .int .i64 0]) (t := 26) ?hr ?_; (case hd => rfl); (case hg => rfl); (case hr => first | (go_simp; done) | (go_simp; rfl)); intro gb693 hg w11 hbox hb; have n0_ := Aside0.mk (Kd.R_below (by (with_reducible repeat (first | apply Kd.R_alloc | apply Kd.R_drewN | apply Kd.R_drew)); exact HO691.out) hb); have n1_ := Aside0.mk (below_step (by repeat (first | (with_reducible first | exact HB.out | apply below_alloc | apply pw_below_drewN | apply below_drew1) | exact HB.out)) hb); have n2_ := Aside0.mk (hbox); have n3_ := Aside0.mk ((by rw [hg]; exact (below_size (by repeat (first | (with_reducible first | exact HB.out | apply below_alloc | apply pw_below_drewN | apply below_drew1) | exact HB.out))) : w.heap.size ≤ gb693)); have n4_ := Aside0.mk ((by rw [hg]; exact (below_size (by repeat (first | (with_reducible first | exact HB.out | apply below_alloc | apply pw_below_drewN | apply below_drew1) | exact HB.out))) : w.heap.size ≤ gb693)); clear HO691; clear HB; have HO691 := n0_; have HB := n1_; have BK693 := n2_; have GW693 := n3_; have GE693 := n4_; clear n0_ n1_ n2_ n3_ n4_; clear hb hbox hg; obtain ⟨Ao12, co12, eo12⟩ := Kd.R_slice HO691.out; subst eo12; have hcz13_0 : w11.cell? ⟨gb693, 0, none⟩ = some (.slice none 0 0) := (blk_cell BK693.out 0).trans rfl; have hcz13_1 : w11.cell? ⟨gb693, 1, none⟩ = some (.int .i64 0) := (blk_cell BK693.out 1).trans rfl; have hfz13_0 := blk_frozen BK693.out 0; have hfz13_1 := blk_frozen BK693.out 1) | ((with_reducible refine gate_callee (f := 15) rfl ?_); refine goesL_ (some 33) rfl rfl Try.func15 (by kernel_rfl) rfl #[.slice A2 l2.length c2] rfl (by (try simp only [List.map_toArray, List.map_cons, List.map_nil]); first | done | rfl | (simp only [List.length_drop, List.length_take]; rfl)) ?_; (with_reducible refine (dialtoneref34_Attempts.calls k _ _ l2 t694 _ ?side1 ?side2 A8.out).mono ?_); (case side1 => exact Kd.C_below HR2.out (by repeat (first | (with_reducible first | exact HB.out | apply below_alloc | apply pw_below_drewN | apply below_drew1 | refine below_set ?_ GE693.out) | exact HB.out))); (case side2 => exact HC2.out); rintro e w14 ⟨v695, rfl, ho0, hb⟩; refine ⟨_, rfl, ?_⟩; have n0_ := Aside0.mk (Kd.R_below (by (with_reducible repeat (first | apply Kd.R_alloc | apply Kd.R_drewN | apply Kd.R_drew)); exact (Kd.R_mono (Kd.R_far (p := ⟨gb693, 1, none⟩) (Kd.R_far (p := ⟨gb693, 0, none⟩) (Kd.R_types HO691.out BK693.out (by decide)) (fun _ hk => hk.2) (.slice Ao12 t689.length co12)) (fun _ hk => hk.2) (.int .i64 t692)) (fun _ h_ => h_.1))) hb); have n1_ := Aside0.mk (Kd.R_lower ho0 (below_size (by repeat (first | (with_reducible first | exact HB.out | apply below_alloc | apply pw_below_drewN | apply below_drew1 | refine below_set ?_ GE693.out) | exact HB.out)))); have n2_ := Aside0.mk (blk_below (g := gb693) (o := .cells #[.slice Ao12 t689.length co12, .int .i64 t692] 26 (0, 0)) (by (with_reducible repeat (first | refine blk_drewN ?_ _ | refine blk_drew ?_ | refine blk_alloc ?_ _)); refine blk_put (cs := #[.slice Ao12 t689.length co12, .int .i64 0]) ?_ 1 _ rfl; (with_reducible repeat (first | refine blk_drewN ?_ _ | refine blk_drew ?_ | refine blk_alloc ?_ _)); refine blk_put (cs := #[.slice none 0 0, .int .i64 0]) ?_ 0 _ rfl; (with_reducible repeat (first | refine blk_drewN ?_ _ | refine blk_drew ?_ | refine blk_alloc ?_ _)); exact BK693.out) hb); have n3_ := Aside0.mk (below_step (by repeat (first | (with_reducible first | exact HB.out | apply below_alloc | apply pw_below_drewN | apply below_drew1 | refine below_set ?_ GE693.out) | exact HB.out)) hb); clear HO691; clear BK693; clear HB; have HO691 := n0_; have HO696 := n1_; have BK693 := n2_; have HB := n3_; clear n0_ n1_ n2_ n3_; (try clear hb); (try clear hb2); (try clear hk); (try clear hi); (try clear ho0)))
  go_loopg [12, 13] k (fun kq v12 v13 w' => ∃ (x12_1 : List (S60)) (x13_1 : Int), v13 = .int .i64 x13_1 ∧ Aside0 (dialtonelaw34_RecoveryUrgent.l0 kq a3 t694 x12_1 x13_1 t689 t692 = some r) ∧ Aside0 (kq ≤ k) ∧ Aside0 (Kd.R k60 60 w' w.heap.size (fun k_ => some k_ ≠ (v12 : Value).ownBlock) v695 t694) ∧ Aside0 (Kd.R k60 60 w' w.heap.size (fun k_ => some k_ ≠ (v695 : Value).ownBlock) v12 x12_1) ∧ Aside0 (Kd.R k67 67 w' w.heap.size (fun _ => True) (.slice Ao12 t689.length co12) t689) ∧ Aside0 (w'.heap[gb693]? = some (.cells #[(.slice Ao12 t689.length co12), .int .i64 t692] 26 (0, 0))) ∧ Aside0 (Below w.heap.size w w'))
  case atStart => exact ⟨(([] : List (S60))), (0), (by first | rfl | (simp; done) | (simp [*]; done)), H', ⟨Nat.le_refl _⟩, ⟨by (with_reducible repeat (first | apply Kd.R_alloc | apply Kd.R_drewN | apply Kd.R_drew)); exact Kd.R_mono HO696.out (fun _ hk => (by simp [Value.ownBlock]))⟩, ⟨by first | exact Kd.R_nil _ _ _ _ _ | exact Kd.N_nil _ _ _ _ _ | exact Kd.V_nil _ _ _ _ _ | exact Kd.Q_nil _ _ _ _ _ | exact Kd.S_nil _ _ _ _ _⟩, ⟨by (with_reducible repeat (first | apply Kd.R_alloc | apply Kd.R_drewN | apply Kd.R_drew)); exact HO691.out⟩, ⟨by (with_reducible repeat (first | refine blk_drewN ?_ _ | refine blk_drew ?_ | refine blk_alloc ?_ _)); exact BK693.out⟩, ⟨by repeat (first | (with_reducible first | exact HB.out | apply below_alloc | apply pw_below_drewN | apply below_drew1 | refine below_set ?_ GE693.out) | exact HB.out)⟩⟩
  case round =>
   clear H'
   try clear c1
   try clear c2
   try clear p2
   try clear c6
   try clear c12
   try clear c13
   try clear c14
   try clear hcz13_0
   try clear hcz13_1
   try clear hfz13_0
   try clear hfz13_1
   obtain ⟨x12_1, x13_1, rfl, HA, HK1, HO_11, HO_12, HO_694000, BK693, HB⟩ := hrel
   cases gk with
   | zero => exact absurd HA.out (by simp [dialtonelaw34_RecoveryUrgent.l0])
   | succ k1 =>
    have H := HA.out
    clear HA
    simp only [dialtonelaw34_RecoveryUrgent.l0] at H
    by_cases c15 : x13_1 < (t694.length : Int)
    ·
     rw [if_pos c15] at H
     have c15b0 : decide (x13_1 < (t694.length : Int)) = true := decide_eq_true c15
     clear c15
     by_cases c16 : 0 ≤ x13_1
     ·
      rw [if_pos c16] at H
      have c16b0 : decide (0 ≤ x13_1) = true := decide_eq_true c16
      clear c16
      obtain ⟨bq17, hbq17⟩ : ∃ b_ : Bool, b_ = ((rd_T60 t694 x13_1).f2) := ⟨_, rfl⟩
      replace H : (if (bq17 = true) then (dialtonelaw34_RecoveryUrgent.l0 k1 a3 t694 x12_1 (wrap64 (x13_1 + 1)) t689 t692) else (if x12_1.length < 5864062014805 then (dialtonelaw34_RecoveryUrgent.l0 k1 a3 t694 (x12_1 ++ [(⟨(rd_T60 t694 x13_1).f0, (rd_T60 t694 x13_1).f1, bq17⟩ : S60)]) (wrap64 (x13_1 + 1)) t689 t692) else (none))) = some r := by rw [← hbq17] at H; exact H
      have Nbq17 := Aside0.mk hbq17
      clear hbq17
      by_cases c18 : (bq17 = true)
      ·
       subst c18
       have H1 : (dialtonelaw34_RecoveryUrgent.l0 k1 a3 t694 x12_1 (wrap64 (x13_1 + 1)) t689 t692) = some r := by rw [if_pos rfl] at H; exact H
       clear H
       have H := H1
       clear H1
       have H' := Aside0.mk H
       clear H
       obtain ⟨Ao19, co19, eo19⟩ := Kd.R_slice HO_11.out
       subst eo19
       have p697 : 0 ≤ (x13_1 : Int) := of_decide_eq_true (by first | (with_reducible assumption) | assumption)
       have q697 : x13_1 < (t694.length : Int) := of_decide_eq_true (by first | (with_reducible assumption) | assumption)
       obtain ⟨ad697, e697, hx697_0, hx697_1, hx697_2⟩ := at_T60 (Kd.R_reads' HO_11.out).2.2 x13_1 p697 q697
       (try rw [← Nbq17.out] at hx697_2)
       cases e697
       replace p697 := eq_true p697
       replace q697 := eq_true q697
       go_wp2
       go_roundg k1
       case measure => have := HK1.out; omega
       case rel => exact ⟨(x12_1), (wrap64 (x13_1 + 1)), (by first | rfl | (simp; done) | (simp [*]; done)), H', ⟨by have := HK1.out; omega⟩, ⟨by (with_reducible repeat (first | apply Kd.R_alloc | apply Kd.R_drewN | apply Kd.R_drew)); exact HO_11.out⟩, ⟨by (with_reducible repeat (first | apply Kd.R_alloc | apply Kd.R_drewN | apply Kd.R_drew)); exact HO_12.out⟩, ⟨by (with_reducible repeat (first | apply Kd.R_alloc | apply Kd.R_drewN | apply Kd.R_drew)); exact HO_694000.out⟩, ⟨by (with_reducible repeat (first | refine blk_drewN ?_ _ | refine blk_drew ?_ | refine blk_alloc ?_ _)); exact BK693.out⟩, ⟨by repeat (first | (with_reducible first | exact HB.out | apply below_alloc | apply pw_below_drewN | apply below_drew1 | refine below_set ?_ GE693.out) | exact HB.out)⟩⟩
      ·
       replace c18 := Bool.eq_false_iff.mpr c18
       subst c18
       have H1 : (if x12_1.length < 5864062014805 then (dialtonelaw34_RecoveryUrgent.l0 k1 a3 t694 (x12_1 ++ [(⟨(rd_T60 t694 x13_1).f0, (rd_T60 t694 x13_1).f1, false⟩ : S60)]) (wrap64 (x13_1 + 1)) t689 t692) else (none)) = some r := by rw [if_neg (show ¬ (false = true) by decide)] at H; exact H
       clear H
       have H := H1
       clear H1
       by_cases c20 : x12_1.length < 5864062014805
       ·
        rw [if_pos c20] at H
        have LMc20 := Aside0.mk c20
        clear c20
        obtain ⟨y699, hy699⟩ : ∃ y_ : List (S60), y_ = (x12_1 ++ [(⟨(rd_T60 t694 x13_1).f0, (rd_T60 t694 x13_1).f1, false⟩ : S60)]) := ⟨_, rfl⟩
        replace H : (dialtonelaw34_RecoveryUrgent.l0 k1 a3 t694 y699 (wrap64 (x13_1 + 1)) t689 t692) = some r := by first | (rw [hy699]; with_reducible exact H) | (have H2_ := (Option.bind_some _ _).symm.trans H; rw [hy699]; with_reducible exact H2_) | (have H2_ := (Option.bind_some _ _).symm.trans H; with_reducible exact H2_) | with_reducible exact H | (rw [hy699]; exact H) | exact H
        have Ny699 := Aside0.mk hy699
        clear hy699
        have H' := Aside0.mk H
        clear H
        obtain ⟨Ao21, co21, eo21⟩ := Kd.R_slice HO_11.out
        subst eo21
        have p697 : 0 ≤ (x13_1 : Int) := of_decide_eq_true (by first | (with_reducible assumption) | assumption)
        have q697 : x13_1 < (t694.length : Int) := of_decide_eq_true (by first | (with_reducible assumption) | assumption)
        obtain ⟨ad697, e697, hx697_0, hx697_1, hx697_2⟩ := at_T60 (Kd.R_reads' HO_11.out).2.2 x13_1 p697 q697
        (try rw [← Nbq17.out] at hx697_2)
        cases e697
        replace p697 := eq_true p697
        replace q697 := eq_true q697
        have p698 : 0 ≤ (x13_1 : Int) := of_decide_eq_true (by first | (with_reducible assumption) | assumption)
        have q698 : x13_1 < (t694.length : Int) := of_decide_eq_true (by first | (with_reducible assumption) | assumption)
        obtain ⟨ad698, e698, hx698_0, hx698_1, hx698_2⟩ := at_T60 (Kd.R_reads' HO_11.out).2.2 x13_1 p698 q698
        (try rw [← Nbq17.out] at hx698_2)
        obtain rfl : ad697 = ad698 := (by injection e698)
        replace p698 := eq_true p698
        replace q698 := eq_true q698
        go_wp2_with (first | ((with_reducible refine gate_builtin (b := .append) (xs := #[.tmp 46, .tmp 51]) rfl ?_); (try (refine gate_guard (by rfl) ?_; dsimp only)); at_builtin; refine Kd.R_append k60 (w0 := w) w.heap.size rfl (.tmp 46) (.tmp 51) 28 60 (.agg #[(.int .i64 0), (.int .i64 0), (.bool false)]) 24 rfl Try.underlying28 info60 rfl (by decide) (by omega) u12 x12_1 (⟨(rd_T60 t694 x13_1).f0, (rd_T60 t694 x13_1).f1, false⟩ : S60) [.int .i64 ((rd_T60 t694 x13_1).f0), .int .i64 ((rd_T60 t694 x13_1).f1), .bool false] (fun k_ => some k_ ≠ (.slice (some ad697) t694.length co21 : Value).ownBlock) (fun _ => False) rfl rfl ?aP (fun _ hk => hk.elim) ?aF ?aO ?aB ?aS ?aL ?_; (case aP => exact k60_mkM _ _ _ (⟨(rd_T60 t694 x13_1).f0, (rd_T60 t694 x13_1).f1, false⟩ : S60)); (case aB => exact (by repeat (first | (with_reducible first | exact HB.out | apply below_alloc | apply pw_below_drewN | apply below_drew1 | refine below_set ?_ GE693.out) | exact HB.out))); (case aF => exact (fun k_ hk => Kd.fresh' (Kd.R_lt (by (with_reducible repeat (first | apply Kd.R_alloc | apply Kd.R_drewN | apply Kd.R_drew)); exact HO_11.out)) k_ hk)); (case aO => exact (by (with_reducible repeat (first | apply Kd.R_alloc | apply Kd.R_drewN | apply Kd.R_drew)); exact HO_12.out)); (case aS => exact (below_size (by repeat (first | (with_reducible first | exact HB.out | apply below_alloc | apply pw_below_drewN | apply below_drew1 | refine below_set ?_ GE693.out) | exact HB.out)))); (case aL => have := LMc20.out; omega); intro v700 w22 ho hb hg hat; rw [← Ny699.out] at ho; have n0_ := Aside0.mk (Kd.R_after (ok := (fun _ => True)) (by (with_reducible repeat (first | apply Kd.R_alloc | apply Kd.R_drewN | apply Kd.R_drew)); exact Kd.R_mono HO_11.out (fun _ hk => ⟨trivial, hk⟩)) hg hat); have n1_ := Aside0.mk (Kd.R_over' (by (with_reducible repeat (first | apply Kd.R_alloc | apply Kd.R_drewN | apply Kd.R_drew)); exact HO_694000.out) (Kd.R_typed (by (with_reducible repeat (first | apply Kd.R_alloc | apply Kd.R_drewN | apply Kd.R_drew)); exact HO_12.out)) (by decide) hg); have n2_ := Aside0.mk (blk_grown (g := gb693) (o := .cells #[.slice Ao12 t689.length co12, .int .i64 t692] 26 (0, 0)) (by (with_reducible repeat (first | refine blk_drewN ?_ _ | refine blk_drew ?_ | refine blk_alloc ?_ _)); exact BK693.out) hg (Kd.R_ne HO_12.out BK693.out (by decide))); have n3_ := Aside0.mk (hb); have n4_ := Aside0.mk (ho); clear HO_11; clear HO_694000; clear BK693; clear HB; clear HO_12; have HO_11 := n0_; have HO_694000 := n1_; have BK693 := n2_; have HB := n3_; have HO701 := n4_; clear n0_ n1_ n2_ n3_ n4_; clear ho hb hg hat))
        go_roundg k1
        case measure => have := HK1.out; omega
        case rel => exact ⟨(y699), (wrap64 (x13_1 + 1)), (by first | rfl | (simp; done) | (simp [*]; done)), H', ⟨by have := HK1.out; omega⟩, ⟨by (with_reducible repeat (first | apply Kd.R_alloc | apply Kd.R_drewN | apply Kd.R_drew)); exact Kd.R_mono HO_11.out (fun _ hk => hk.2)⟩, ⟨by (with_reducible repeat (first | apply Kd.R_alloc | apply Kd.R_drewN | apply Kd.R_drew)); exact HO701.out⟩, ⟨by (with_reducible repeat (first | apply Kd.R_alloc | apply Kd.R_drewN | apply Kd.R_drew)); exact HO_694000.out⟩, ⟨by (with_reducible repeat (first | refine blk_drewN ?_ _ | refine blk_drew ?_ | refine blk_alloc ?_ _)); exact BK693.out⟩, ⟨by repeat (first | (with_reducible first | exact HB.out | apply below_alloc | apply pw_below_drewN | apply below_drew1 | refine below_set ?_ GE693.out) | exact HB.out)⟩⟩
       ·
        rw [if_neg c20] at H
        exact absurd H (by simp)
     ·
      rw [if_neg c16] at H
      exact absurd H (by simp)
    ·
     rw [if_neg c15] at H
     have c15b0 : decide (x13_1 < (t694.length : Int)) = false := decide_eq_false c15
     clear c15
     replace H := Option.bind_eq_some_iff.mp H
     obtain ⟨⟨t702, t705⟩, A230, H⟩ := H
     replace H : ((recovery_Plan.f t689 t692 x12_1).bind fun bt706 => ((dialtonelaw34_pick.f a3 60).bind fun t710 => ((recovery_Load.f t689 t692 t694 t710).bind fun bt711 => ((dialtonelaw34_pick.f a3 60).bind fun t713 => ((recovery_Load.f t689 t692 x12_1 t713).bind fun bt714 => (if t705 = 0 then (if bt706.2 = 0 then (if bt711.2 = 0 then (if bt714.2 = 0 then (if bt711.1 = bt714.1 then (dialtonelaw34_RecoveryUrgent.j1 k1 t694 t702 bt706.1 ((t702.length : Int) != (t694.length : Int))) else (dialtonelaw34_RecoveryUrgent.j1 k1 t694 t702 bt706.1 true)) else (dialtonelaw34_RecoveryUrgent.j1 k1 t694 t702 bt706.1 true)) else (dialtonelaw34_RecoveryUrgent.j1 k1 t694 t702 bt706.1 true)) else (dialtonelaw34_RecoveryUrgent.j1 k1 t694 t702 bt706.1 true)) else (dialtonelaw34_RecoveryUrgent.j1 k1 t694 t702 bt706.1 true))))))) = some r := H
     have A23 := Aside0.mk A230
     clear A230
     replace H := Option.bind_eq_some_iff.mp H
     obtain ⟨⟨t706, t709⟩, A240, H⟩ := H
     replace H : ((dialtonelaw34_pick.f a3 60).bind fun t710 => ((recovery_Load.f t689 t692 t694 t710).bind fun bt711 => ((dialtonelaw34_pick.f a3 60).bind fun t713 => ((recovery_Load.f t689 t692 x12_1 t713).bind fun bt714 => (if t705 = 0 then (if t709 = 0 then (if bt711.2 = 0 then (if bt714.2 = 0 then (if bt711.1 = bt714.1 then (dialtonelaw34_RecoveryUrgent.j1 k1 t694 t702 t706 ((t702.length : Int) != (t694.length : Int))) else (dialtonelaw34_RecoveryUrgent.j1 k1 t694 t702 t706 true)) else (dialtonelaw34_RecoveryUrgent.j1 k1 t694 t702 t706 true)) else (dialtonelaw34_RecoveryUrgent.j1 k1 t694 t702 t706 true)) else (dialtonelaw34_RecoveryUrgent.j1 k1 t694 t702 t706 true)) else (dialtonelaw34_RecoveryUrgent.j1 k1 t694 t702 t706 true)))))) = some r := H
     have A24 := Aside0.mk A240
     clear A240
     replace H := Option.bind_eq_some_iff.mp H
     obtain ⟨t710, A250, H⟩ := H
     replace H : ((recovery_Load.f t689 t692 t694 t710).bind fun bt711 => ((dialtonelaw34_pick.f a3 60).bind fun t713 => ((recovery_Load.f t689 t692 x12_1 t713).bind fun bt714 => (if t705 = 0 then (if t709 = 0 then (if bt711.2 = 0 then (if bt714.2 = 0 then (if bt711.1 = bt714.1 then (dialtonelaw34_RecoveryUrgent.j1 k1 t694 t702 t706 ((t702.length : Int) != (t694.length : Int))) else (dialtonelaw34_RecoveryUrgent.j1 k1 t694 t702 t706 true)) else (dialtonelaw34_RecoveryUrgent.j1 k1 t694 t702 t706 true)) else (dialtonelaw34_RecoveryUrgent.j1 k1 t694 t702 t706 true)) else (dialtonelaw34_RecoveryUrgent.j1 k1 t694 t702 t706 true)) else (dialtonelaw34_RecoveryUrgent.j1 k1 t694 t702 t706 true))))) = some r := H
     have A25 := Aside0.mk A250
     clear A250
     replace H := Option.bind_eq_some_iff.mp H
     obtain ⟨⟨t711, t712⟩, A260, H⟩ := H
     replace H : ((dialtonelaw34_pick.f a3 60).bind fun t713 => ((recovery_Load.f t689 t692 x12_1 t713).bind fun bt714 => (if t705 = 0 then (if t709 = 0 then (if t712 = 0 then (if bt714.2 = 0 then (if t711 = bt714.1 then (dialtonelaw34_RecoveryUrgent.j1 k1 t694 t702 t706 ((t702.length : Int) != (t694.length : Int))) else (dialtonelaw34_RecoveryUrgent.j1 k1 t694 t702 t706 true)) else (dialtonelaw34_RecoveryUrgent.j1 k1 t694 t702 t706 true)) else (dialtonelaw34_RecoveryUrgent.j1 k1 t694 t702 t706 true)) else (dialtonelaw34_RecoveryUrgent.j1 k1 t694 t702 t706 true)) else (dialtonelaw34_RecoveryUrgent.j1 k1 t694 t702 t706 true)))) = some r := H
     have A26 := Aside0.mk A260
     clear A260
     replace H := Option.bind_eq_some_iff.mp H
     obtain ⟨t713, A270, H⟩ := H
     replace H : ((recovery_Load.f t689 t692 x12_1 t713).bind fun bt714 => (if t705 = 0 then (if t709 = 0 then (if t712 = 0 then (if bt714.2 = 0 then (if t711 = bt714.1 then (dialtonelaw34_RecoveryUrgent.j1 k1 t694 t702 t706 ((t702.length : Int) != (t694.length : Int))) else (dialtonelaw34_RecoveryUrgent.j1 k1 t694 t702 t706 true)) else (dialtonelaw34_RecoveryUrgent.j1 k1 t694 t702 t706 true)) else (dialtonelaw34_RecoveryUrgent.j1 k1 t694 t702 t706 true)) else (dialtonelaw34_RecoveryUrgent.j1 k1 t694 t702 t706 true)) else (dialtonelaw34_RecoveryUrgent.j1 k1 t694 t702 t706 true))) = some r := H
     have A27 := Aside0.mk A270
     clear A270
     replace H := Option.bind_eq_some_iff.mp H
     obtain ⟨⟨t714, t715⟩, A280, H⟩ := H
     replace H : (if t705 = 0 then (if t709 = 0 then (if t712 = 0 then (if t715 = 0 then (if t711 = t714 then (dialtonelaw34_RecoveryUrgent.j1 k1 t694 t702 t706 ((t702.length : Int) != (t694.length : Int))) else (dialtonelaw34_RecoveryUrgent.j1 k1 t694 t702 t706 true)) else (dialtonelaw34_RecoveryUrgent.j1 k1 t694 t702 t706 true)) else (dialtonelaw34_RecoveryUrgent.j1 k1 t694 t702 t706 true)) else (dialtonelaw34_RecoveryUrgent.j1 k1 t694 t702 t706 true)) else (dialtonelaw34_RecoveryUrgent.j1 k1 t694 t702 t706 true)) = some r := H
     have A28 := Aside0.mk A280
     clear A280
     have HC29 := Aside0.mk H
     clear H
     obtain ⟨Ao30, co30, eo30⟩ := Kd.R_slice HO_11.out
     subst eo30
     have hcz31_0 : wr.cell? ⟨gb693, 0, none⟩ = some (.slice Ao12 t689.length co12) := (blk_cell BK693.out 0).trans rfl
     have hcz31_1 : wr.cell? ⟨gb693, 1, none⟩ = some (.int .i64 t692) := (blk_cell BK693.out 1).trans rfl
     have hfz31_0 := blk_frozen BK693.out 0
     have hfz31_1 := blk_frozen BK693.out 1
     try go_wp2_with (first | ((with_reducible refine gate_callee (f := 16) rfl ?_); refine goesL_ (some 56) rfl rfl Try.func16 (by kernel_rfl) rfl #[.agg #[.slice Ao12 t689.length co12, .int .i64 t692], .slice Ao30 t694.length co30] rfl (by (try simp only [List.map_toArray, List.map_cons, List.map_nil]); first | done | rfl | (simp only [List.length_drop, List.length_take]; rfl)) ?_; (with_reducible refine (recovery_Plan.calls _ _ t689 t692 _ _ t694 t702 t705 _ ?side1 ?side2 ?side3 ?side4 A23.out).mono ?_); (case side1 => repeat (first | exact (Kd.R_reads' HO_694000.out).2.2 | (with_reducible refine Kd.C_alloc ?_ _) | (with_reducible refine Kd.C_drewN ?_ _) | (with_reducible refine Kd.C_drew ?_))); (case side2 => exact (Kd.R_reads' HO_694000.out).2.1); (case side3 => repeat (first | exact (Kd.R_reads' HO_11.out).2.2 | (with_reducible refine Kd.C_alloc ?_ _) | (with_reducible refine Kd.C_drewN ?_ _) | (with_reducible refine Kd.C_drew ?_))); (case side4 => exact (Kd.R_reads' HO_11.out).2.1); rintro e w32 ⟨v703, rfl, ho0, hb⟩; refine ⟨_, rfl, ?_⟩; have n0_ := Aside0.mk (Kd.R_below (by (with_reducible repeat (first | apply Kd.R_alloc | apply Kd.R_drewN | apply Kd.R_drew)); exact HO_11.out) hb); have n1_ := Aside0.mk (Kd.R_below (by (with_reducible repeat (first | apply Kd.R_alloc | apply Kd.R_drewN | apply Kd.R_drew)); exact HO_12.out) hb); have n2_ := Aside0.mk (Kd.R_below (by (with_reducible repeat (first | apply Kd.R_alloc | apply Kd.R_drewN | apply Kd.R_drew)); exact HO_694000.out) hb); have n3_ := Aside0.mk (Kd.R_lower ho0 (below_size (by repeat (first | (with_reducible first | exact HB.out | apply below_alloc | apply pw_below_drewN | apply below_drew1 | refine below_set ?_ GE693.out) | exact HB.out)))); have n4_ := Aside0.mk (blk_below (g := gb693) (o := .cells #[.slice Ao12 t689.length co12, .int .i64 t692] 26 (0, 0)) (by (with_reducible repeat (first | refine blk_drewN ?_ _ | refine blk_drew ?_ | refine blk_alloc ?_ _)); exact BK693.out) hb); have n5_ := Aside0.mk (below_step (by repeat (first | (with_reducible first | exact HB.out | apply below_alloc | apply pw_below_drewN | apply below_drew1 | refine below_set ?_ GE693.out) | exact HB.out)) hb); clear HO_11; clear HO_12; clear HO_694000; clear BK693; clear HB; have HO_11 := n0_; have HO_12 := n1_; have HO_694000 := n2_; have HO704 := n3_; have BK693 := n4_; have HB := n5_; clear n0_ n1_ n2_ n3_ n4_ n5_; (try clear hb); (try clear hb2); (try clear hk); (try clear hi); (try clear ho0); have hcz33_0 : w32.cell? ⟨gb693, 0, none⟩ = some (.slice Ao12 t689.length co12) := (blk_cell BK693.out 0).trans rfl; have hcz33_1 : w32.cell? ⟨gb693, 1, none⟩ = some (.int .i64 t692) := (blk_cell BK693.out 1).trans rfl; have hfz33_0 := blk_frozen BK693.out 0; have hfz33_1 := blk_frozen BK693.out 1; obtain ⟨Ao34, co34, eo34⟩ := Kd.R_slice HO_12.out; subst eo34) | ((with_reducible refine gate_callee (f := 16) rfl ?_); refine goesL_ (some 62) rfl rfl Try.func16 (by kernel_rfl) rfl #[.agg #[.slice Ao12 t689.length co12, .int .i64 t692], .slice Ao34 x12_1.length co34] rfl (by (try simp only [List.map_toArray, List.map_cons, List.map_nil]); first | done | rfl | (simp only [List.length_drop, List.length_take]; rfl)) ?_; (with_reducible refine (recovery_Plan.calls _ _ t689 t692 _ _ x12_1 t706 t709 _ ?side1 ?side2 ?side3 ?side4 A24.out).mono ?_); (case side1 => repeat (first | exact (Kd.R_reads' HO_694000.out).2.2 | (with_reducible refine Kd.C_alloc ?_ _) | (with_reducible refine Kd.C_drewN ?_ _) | (with_reducible refine Kd.C_drew ?_))); (case side2 => exact (Kd.R_reads' HO_694000.out).2.1); (case side3 => repeat (first | exact (Kd.R_reads' HO_12.out).2.2 | (with_reducible refine Kd.C_alloc ?_ _) | (with_reducible refine Kd.C_drewN ?_ _) | (with_reducible refine Kd.C_drew ?_))); (case side4 => exact (Kd.R_reads' HO_12.out).2.1); rintro e w35 ⟨v707, rfl, ho0, hb⟩; refine ⟨_, rfl, ?_⟩; have n0_ := Aside0.mk (Kd.R_below (by (with_reducible repeat (first | apply Kd.R_alloc | apply Kd.R_drewN | apply Kd.R_drew)); exact HO_11.out) hb); have n1_ := Aside0.mk (Kd.R_below (by (with_reducible repeat (first | apply Kd.R_alloc | apply Kd.R_drewN | apply Kd.R_drew)); exact HO_12.out) hb); have n2_ := Aside0.mk (Kd.R_below (by (with_reducible repeat (first | apply Kd.R_alloc | apply Kd.R_drewN | apply Kd.R_drew)); exact HO_694000.out) hb); have n3_ := Aside0.mk (Kd.R_elder' (by (with_reducible repeat (first | apply Kd.R_alloc | apply Kd.R_drewN | apply Kd.R_drew)); exact HO704.out) (Kd.R_base ho0) hb); have n4_ := Aside0.mk (Kd.R_lower (Kd.R_new' ho0 (Kd.R_lt (by (with_reducible repeat (first | apply Kd.R_alloc | apply Kd.R_drewN | apply Kd.R_drew)); exact HO704.out))) (below_size (by repeat (first | (with_reducible first | exact HB.out | apply below_alloc | apply pw_below_drewN | apply below_drew1 | refine below_set ?_ GE693.out) | exact HB.out)))); have n5_ := Aside0.mk (blk_below (g := gb693) (o := .cells #[.slice Ao12 t689.length co12, .int .i64 t692] 26 (0, 0)) (by (with_reducible repeat (first | refine blk_drewN ?_ _ | refine blk_drew ?_ | refine blk_alloc ?_ _)); exact BK693.out) hb); have n6_ := Aside0.mk (below_step (by repeat (first | (with_reducible first | exact HB.out | apply below_alloc | apply pw_below_drewN | apply below_drew1 | refine below_set ?_ GE693.out) | exact HB.out)) hb); clear HO_11; clear HO_12; clear HO_694000; clear HO704; clear BK693; clear HB; have HO_11 := n0_; have HO_12 := n1_; have HO_694000 := n2_; have HO704 := n3_; have HO708 := n4_; have BK693 := n5_; have HB := n6_; clear n0_ n1_ n2_ n3_ n4_ n5_ n6_; (try clear hb); (try clear hb2); (try clear hk); (try clear hi); (try clear ho0)))
     have n0_ := Aside0.mk (Kd.R_drew HO_11.out)
     have n1_ := Aside0.mk (Kd.R_drew HO_12.out)
     have n2_ := Aside0.mk (Kd.R_drew HO_694000.out)
     have n3_ := Aside0.mk (Kd.R_drew HO704.out)
     have n4_ := Aside0.mk (Kd.R_drew HO708.out)
     have n5_ := Aside0.mk (blk_drew BK693.out)
     have n6_ := Aside0.mk (below_drew1 HB.out)
     clear HO_11
     clear HO_12
     clear HO_694000
     clear HO704
     clear HO708
     clear BK693
     clear HB
     have HO_11 := n0_
     have HO_12 := n1_
     have HO_694000 := n2_
     have HO704 := n3_
     have HO708 := n4_
     have BK693 := n5_
     have HB := n6_
     clear n0_ n1_ n2_ n3_ n4_ n5_ n6_
     refine start_ (n := 10) (S := fun w' => w'.cell? ⟨gb693, 0, none⟩ = some (.slice Ao12 t689.length co12) ∧ w'.cell? ⟨gb693, 1, none⟩ = some (.int .i64 t692)) (ds := []) #[false, false, false, false, false, false, false, false, false, false] (by kernel_rfl) rfl rfl ⟨(blk_cell BK693.out 0).trans rfl, (blk_cell BK693.out 1).trans rfl⟩ (fun hHeld => ?_); refine with_tabW dialtonelaw34_RecoveryUrgent.tab14 dialtonelaw34_RecoveryUrgent.bits14 (fun HT_ HW_ => ?_)
     generalize w35.drew = w36 at HO_11 HO_12 HO_694000 HO704 HO708 BK693 HB hHeld ⊢
     refine pure_ (i := 1) (N := some 67) (v := ?_) (a' := ?_) #[false, true, false, false, false, false, false, false, false, false] rfl rfl (any_of HT_.out (by kernel_rfl)) (fun _ _ _ h => h) (Or.inl ⟨by rfl, ?_⟩) ?_ ?_
     rotate_left
     ·
      intro w'
      go_simp
      with_reducible rfl
     rotate_left
     ·
      simp only [Act.put, List.setIfInBounds_toArray, List.set_cons_zero, List.set_cons_succ, i64_w, i32_w]
      rfl
     refine pure_ (i := 2) (N := some 68) (v := ?_) (a' := ?_) #[false, true, true, false, false, false, false, false, false, false] rfl rfl (any_of HT_.out (by kernel_rfl)) (fun _ _ _ h => h) (Or.inl ⟨by rfl, ?_⟩) ?_ ?_
     rotate_left
     ·
      intro w'
      go_simp
      with_reducible rfl
     rotate_left
     ·
      simp only [Act.put, List.setIfInBounds_toArray, List.set_cons_zero, List.set_cons_succ, i64_w, i32_w]
      rfl
     refine take_ (i := 0) (N := some 66) (v := ?_) (a' := ?_) #[true, true, true, false, false, false, false, false, false, false] rfl rfl (take_ofW HT_.out HW_.out (by kernel_rfl)) (fun _ _ _ h => h) (Or.inl ⟨by rfl, ?_⟩) hHeld ?_ ?_
     rotate_left
     ·
      rintro w' ⟨s0, s1⟩
      go_simp
      with_reducible rfl
     rotate_left
     ·
      simp only [Act.put, List.setIfInBounds_toArray, List.set_cons_zero, List.set_cons_succ, i64_w, i32_w]
      rfl
     refine one_ (i := 3) (N := some 69) #[true, true, true, true, false, false, false, false, false, false] rfl rfl (one_of HT_.out (by kernel_rfl)) (by decide) (fun K hK => ?_)
     refine goes_ Try.func18 (by kernel_rfl) rfl #[.int .i64 a3, .int .i64 60] (by rfl) rfl rfl (by (try simp only [List.map_toArray, List.map_cons, List.map_nil]); first | done | rfl | (simp only [List.length_drop, List.length_take]; rfl)) ?_
     with_reducible refine (dialtonelaw34_pick.calls a3 60 t710 _ A25.out).mono ?_
     rintro e w37 ⟨rfl, hb⟩
     refine ⟨_, rfl, ?_⟩
     have n0_ := Aside0.mk (Kd.R_below (by (with_reducible repeat (first | apply Kd.R_alloc | apply Kd.R_drewN | apply Kd.R_drew)); exact HO_11.out) hb)
     have n1_ := Aside0.mk (Kd.R_below (by (with_reducible repeat (first | apply Kd.R_alloc | apply Kd.R_drewN | apply Kd.R_drew)); exact HO_12.out) hb)
     have n2_ := Aside0.mk (Kd.R_below (by (with_reducible repeat (first | apply Kd.R_alloc | apply Kd.R_drewN | apply Kd.R_drew)); exact HO_694000.out) hb)
     have n3_ := Aside0.mk (Kd.R_below (by (with_reducible repeat (first | apply Kd.R_alloc | apply Kd.R_drewN | apply Kd.R_drew)); exact HO704.out) hb)
     have n4_ := Aside0.mk (Kd.R_below (by (with_reducible repeat (first | apply Kd.R_alloc | apply Kd.R_drewN | apply Kd.R_drew)); exact HO708.out) hb)
     have n5_ := Aside0.mk (blk_below (g := gb693) (o := .cells #[.slice Ao12 t689.length co12, .int .i64 t692] 26 (0, 0)) (by (with_reducible repeat (first | refine blk_drewN ?_ _ | refine blk_drew ?_ | refine blk_alloc ?_ _)); exact BK693.out) hb)
     have n6_ := Aside0.mk (below_step (by repeat (first | (with_reducible first | exact HB.out | apply below_alloc | apply pw_below_drewN | apply below_drew1 | refine below_set ?_ GE693.out) | exact HB.out)) hb)
     clear HO_11
     clear HO_12
     clear HO_694000
     clear HO704
     clear HO708
     clear BK693
     clear HB
     have HO_11 := n0_
     have HO_12 := n1_
     have HO_694000 := n2_
     have HO704 := n3_
     have HO708 := n4_
     have BK693 := n5_
     have HB := n6_
     clear n0_ n1_ n2_ n3_ n4_ n5_ n6_
     (try clear hb)
     (try clear hb2)
     (try clear hk)
     (try clear hi)
     refine hK.out _ _ ⟨(blk_cell BK693.out 0).trans rfl, (blk_cell BK693.out 1).trans rfl⟩ (fun hHeld => ?_)
     clear hK K
     refine norm_ (a' := ?_) ?_ ?_
     rotate_left
     ·
      show Act.put _ (some 69) _ = _
      simp only [Act.put, List.setIfInBounds_toArray, List.set_cons_zero, List.set_cons_succ, i64_w, i32_w]
      rfl
     refine one_ (i := 4) (N := some 70) #[true, true, true, true, true, false, false, false, false, false] rfl rfl (one_of HT_.out (by kernel_rfl)) (by decide) (fun K hK => ?_)
     refine goes_ Try.func32 (by kernel_rfl) rfl #[.agg #[.slice Ao12 t689.length co12, .int .i64 t692], .slice Ao30 t694.length co30, .int .i64 t710] (by rfl) rfl rfl (by (try simp only [List.map_toArray, List.map_cons, List.map_nil]); first | done | rfl | (simp only [List.length_drop, List.length_take]; rfl)) ?_
     with_reducible refine (recovery_Load.calls _ _ t689 t692 _ _ t694 t710 t711 t712 _ ?side1 ?side2 ?side3 ?side4 A26.out).mono ?_
     (case side1 => repeat (first | exact (Kd.R_reads' HO_694000.out).2.2 | (with_reducible refine Kd.C_alloc ?_ _) | (with_reducible refine Kd.C_drewN ?_ _) | (with_reducible refine Kd.C_drew ?_)))
     (case side2 => exact (Kd.R_reads' HO_694000.out).2.1)
     (case side3 => repeat (first | exact (Kd.R_reads' HO_11.out).2.2 | (with_reducible refine Kd.C_alloc ?_ _) | (with_reducible refine Kd.C_drewN ?_ _) | (with_reducible refine Kd.C_drew ?_)))
     (case side4 => exact (Kd.R_reads' HO_11.out).2.1)
     rintro e w38 ⟨rfl, hb⟩
     refine ⟨_, rfl, ?_⟩
     have n0_ := Aside0.mk (Kd.R_below (by (with_reducible repeat (first | apply Kd.R_alloc | apply Kd.R_drewN | apply Kd.R_drew)); exact HO_11.out) hb)
     have n1_ := Aside0.mk (Kd.R_below (by (with_reducible repeat (first | apply Kd.R_alloc | apply Kd.R_drewN | apply Kd.R_drew)); exact HO_12.out) hb)
     have n2_ := Aside0.mk (Kd.R_below (by (with_reducible repeat (first | apply Kd.R_alloc | apply Kd.R_drewN | apply Kd.R_drew)); exact HO_694000.out) hb)
     have n3_ := Aside0.mk (Kd.R_below (by (with_reducible repeat (first | apply Kd.R_alloc | apply Kd.R_drewN | apply Kd.R_drew)); exact HO704.out) hb)
     have n4_ := Aside0.mk (Kd.R_below (by (with_reducible repeat (first | apply Kd.R_alloc | apply Kd.R_drewN | apply Kd.R_drew)); exact HO708.out) hb)
     have n5_ := Aside0.mk (blk_below (g := gb693) (o := .cells #[.slice Ao12 t689.length co12, .int .i64 t692] 26 (0, 0)) (by (with_reducible repeat (first | refine blk_drewN ?_ _ | refine blk_drew ?_ | refine blk_alloc ?_ _)); exact BK693.out) hb)
     have n6_ := Aside0.mk (below_step (by repeat (first | (with_reducible first | exact HB.out | apply below_alloc | apply pw_below_drewN | apply below_drew1 | refine below_set ?_ GE693.out) | exact HB.out)) hb)
     clear HO_11
     clear HO_12
     clear HO_694000
     clear HO704
     clear HO708
     clear BK693
     clear HB
     have HO_11 := n0_
     have HO_12 := n1_
     have HO_694000 := n2_
     have HO704 := n3_
     have HO708 := n4_
     have BK693 := n5_
     have HB := n6_
     clear n0_ n1_ n2_ n3_ n4_ n5_ n6_
     (try clear hb)
     (try clear hb2)
     (try clear hk)
     (try clear hi)
     refine hK.out _ _ ⟨(blk_cell BK693.out 0).trans rfl, (blk_cell BK693.out 1).trans rfl⟩ (fun hHeld => ?_)
     clear hK K
     refine norm_ (a' := ?_) ?_ ?_
     rotate_left
     ·
      show Act.put _ (some 70) _ = _
      simp only [Act.put, List.setIfInBounds_toArray, List.set_cons_zero, List.set_cons_succ, i64_w, i32_w]
      rfl
     refine pure_ (i := 5) (N := some 65) (v := ?_) (a' := ?_) #[true, true, true, true, true, true, false, false, false, false] rfl rfl (any_of HT_.out (by kernel_rfl)) (fun _ _ _ h => h) (Or.inl ⟨by rfl, ?_⟩) ?_ ?_
     rotate_left
     ·
      intro w'
      go_simp
      with_reducible rfl
     rotate_left
     ·
      simp only [Act.put, List.setIfInBounds_toArray, List.set_cons_zero, List.set_cons_succ, i64_w, i32_w]
      rfl
     refine pure_ (i := 6) (N := some 71) (v := ?_) (a' := ?_) #[true, true, true, true, true, true, true, false, false, false] rfl rfl (any_of HT_.out (by kernel_rfl)) (fun _ _ _ h => h) (Or.inl ⟨by rfl, ?_⟩) ?_ ?_
     rotate_left
     ·
      intro w'
      go_simp
      with_reducible rfl
     rotate_left
     ·
      simp only [Act.put, List.setIfInBounds_toArray, List.set_cons_zero, List.set_cons_succ, i64_w, i32_w]
      rfl
     refine pure_ (i := 7) (N := some 72) (v := ?_) (a' := ?_) #[true, true, true, true, true, true, true, true, false, false] rfl rfl (any_of HT_.out (by kernel_rfl)) (fun _ _ _ h => h) (Or.inl ⟨by rfl, ?_⟩) ?_ ?_
     rotate_left
     ·
      intro w'
      go_simp
      with_reducible rfl
     rotate_left
     ·
      simp only [Act.put, List.setIfInBounds_toArray, List.set_cons_zero, List.set_cons_succ, i64_w, i32_w]
      rfl
     refine pure_ (i := 8) (N := some 18) (v := ?_) (a' := ?_) #[true, true, true, true, true, true, true, true, true, false] rfl rfl (any_of HT_.out (by kernel_rfl)) (fun _ _ _ h => h) (Or.inl ⟨by rfl, ?_⟩) ?_ ?_
     rotate_left
     ·
      intro w'
      go_simp
      with_reducible rfl
     rotate_left
     ·
      simp only [Act.put, List.setIfInBounds_toArray, List.set_cons_zero, List.set_cons_succ, i64_w, i32_w]
      rfl
     refine pure_ (i := 9) (N := some 19) (v := ?_) (a' := ?_) #[true, true, true, true, true, true, true, true, true, true] rfl rfl (any_of HT_.out (by kernel_rfl)) (fun _ _ _ h => h) (Or.inl ⟨by rfl, ?_⟩) ?_ ?_
     rotate_left
     ·
      intro w'
      go_simp
      with_reducible rfl
     rotate_left
     ·
      simp only [Act.put, List.setIfInBounds_toArray, List.set_cons_zero, List.set_cons_succ, i64_w, i32_w]
      rfl
     refine done_ (done_of HT_.out (by kernel_rfl)) ?_
     try go_wp2
     have n0_ := Aside0.mk (Kd.R_drew HO_11.out)
     have n1_ := Aside0.mk (Kd.R_drew HO_12.out)
     have n2_ := Aside0.mk (Kd.R_drew HO_694000.out)
     have n3_ := Aside0.mk (Kd.R_drew HO704.out)
     have n4_ := Aside0.mk (Kd.R_drew HO708.out)
     have n5_ := Aside0.mk (blk_drew BK693.out)
     have n6_ := Aside0.mk (below_drew1 HB.out)
     clear HO_11
     clear HO_12
     clear HO_694000
     clear HO704
     clear HO708
     clear BK693
     clear HB
     have HO_11 := n0_
     have HO_12 := n1_
     have HO_694000 := n2_
     have HO704 := n3_
     have HO708 := n4_
     have BK693 := n5_
     have HB := n6_
     clear n0_ n1_ n2_ n3_ n4_ n5_ n6_
     refine start_ (n := 10) (S := fun w' => w'.cell? ⟨gb693, 0, none⟩ = some (.slice Ao12 t689.length co12) ∧ w'.cell? ⟨gb693, 1, none⟩ = some (.int .i64 t692)) (ds := []) #[false, false, false, false, false, false, false, false, false, false] (by kernel_rfl) rfl rfl ⟨(blk_cell BK693.out 0).trans rfl, (blk_cell BK693.out 1).trans rfl⟩ (fun hHeld => ?_); refine with_tabW dialtonelaw34_RecoveryUrgent.tab15 dialtonelaw34_RecoveryUrgent.bits15 (fun HT_ HW_ => ?_)
     generalize w38.drew = w39 at HO_11 HO_12 HO_694000 HO704 HO708 BK693 HB hHeld ⊢
     refine pure_ (i := 1) (N := some 75) (v := ?_) (a' := ?_) #[false, true, false, false, false, false, false, false, false, false] rfl rfl (any_of HT_.out (by kernel_rfl)) (fun _ _ _ h => h) (Or.inl ⟨by rfl, ?_⟩) ?_ ?_
     rotate_left
     ·
      intro w'
      go_simp
      with_reducible rfl
     rotate_left
     ·
      simp only [Act.put, List.setIfInBounds_toArray, List.set_cons_zero, List.set_cons_succ, i64_w, i32_w]
      rfl
     refine pure_ (i := 2) (N := some 76) (v := ?_) (a' := ?_) #[false, true, true, false, false, false, false, false, false, false] rfl rfl (any_of HT_.out (by kernel_rfl)) (fun _ _ _ h => h) (Or.inl ⟨by rfl, ?_⟩) ?_ ?_
     rotate_left
     ·
      intro w'
      go_simp
      with_reducible rfl
     rotate_left
     ·
      simp only [Act.put, List.setIfInBounds_toArray, List.set_cons_zero, List.set_cons_succ, i64_w, i32_w]
      rfl
     refine take_ (i := 0) (N := some 74) (v := ?_) (a' := ?_) #[true, true, true, false, false, false, false, false, false, false] rfl rfl (take_ofW HT_.out HW_.out (by kernel_rfl)) (fun _ _ _ h => h) (Or.inl ⟨by rfl, ?_⟩) hHeld ?_ ?_
     rotate_left
     ·
      rintro w' ⟨s0, s1⟩
      go_simp
      with_reducible rfl
     rotate_left
     ·
      simp only [Act.put, List.setIfInBounds_toArray, List.set_cons_zero, List.set_cons_succ, i64_w, i32_w]
      rfl
     refine one_ (i := 3) (N := some 77) #[true, true, true, true, false, false, false, false, false, false] rfl rfl (one_of HT_.out (by kernel_rfl)) (by decide) (fun K hK => ?_)
     refine goes_ Try.func18 (by kernel_rfl) rfl #[.int .i64 a3, .int .i64 60] (by rfl) rfl rfl (by (try simp only [List.map_toArray, List.map_cons, List.map_nil]); first | done | rfl | (simp only [List.length_drop, List.length_take]; rfl)) ?_
     with_reducible refine (dialtonelaw34_pick.calls a3 60 t713 _ A27.out).mono ?_
     rintro e w40 ⟨rfl, hb⟩
     refine ⟨_, rfl, ?_⟩
     have n0_ := Aside0.mk (Kd.R_below (by (with_reducible repeat (first | apply Kd.R_alloc | apply Kd.R_drewN | apply Kd.R_drew)); exact HO_11.out) hb)
     have n1_ := Aside0.mk (Kd.R_below (by (with_reducible repeat (first | apply Kd.R_alloc | apply Kd.R_drewN | apply Kd.R_drew)); exact HO_12.out) hb)
     have n2_ := Aside0.mk (Kd.R_below (by (with_reducible repeat (first | apply Kd.R_alloc | apply Kd.R_drewN | apply Kd.R_drew)); exact HO_694000.out) hb)
     have n3_ := Aside0.mk (Kd.R_below (by (with_reducible repeat (first | apply Kd.R_alloc | apply Kd.R_drewN | apply Kd.R_drew)); exact HO704.out) hb)
     have n4_ := Aside0.mk (Kd.R_below (by (with_reducible repeat (first | apply Kd.R_alloc | apply Kd.R_drewN | apply Kd.R_drew)); exact HO708.out) hb)
     have n5_ := Aside0.mk (blk_below (g := gb693) (o := .cells #[.slice Ao12 t689.length co12, .int .i64 t692] 26 (0, 0)) (by (with_reducible repeat (first | refine blk_drewN ?_ _ | refine blk_drew ?_ | refine blk_alloc ?_ _)); exact BK693.out) hb)
     have n6_ := Aside0.mk (below_step (by repeat (first | (with_reducible first | exact HB.out | apply below_alloc | apply pw_below_drewN | apply below_drew1 | refine below_set ?_ GE693.out) | exact HB.out)) hb)
     clear HO_11
     clear HO_12
     clear HO_694000
     clear HO704
     clear HO708
     clear BK693
     clear HB
     have HO_11 := n0_
     have HO_12 := n1_
     have HO_694000 := n2_
     have HO704 := n3_
     have HO708 := n4_
     have BK693 := n5_
     have HB := n6_
     clear n0_ n1_ n2_ n3_ n4_ n5_ n6_
     (try clear hb)
     (try clear hb2)
     (try clear hk)
     (try clear hi)
     refine hK.out _ _ ⟨(blk_cell BK693.out 0).trans rfl, (blk_cell BK693.out 1).trans rfl⟩ (fun hHeld => ?_)
     clear hK K
     refine norm_ (a' := ?_) ?_ ?_
     rotate_left
     ·
      show Act.put _ (some 77) _ = _
      simp only [Act.put, List.setIfInBounds_toArray, List.set_cons_zero, List.set_cons_succ, i64_w, i32_w]
      rfl
     refine one_ (i := 4) (N := some 78) #[true, true, true, true, true, false, false, false, false, false] rfl rfl (one_of HT_.out (by kernel_rfl)) (by decide) (fun K hK => ?_)
     refine goes_ Try.func32 (by kernel_rfl) rfl #[.agg #[.slice Ao12 t689.length co12, .int .i64 t692], .slice Ao34 x12_1.length co34, .int .i64 t713] (by rfl) rfl rfl (by (try simp only [List.map_toArray, List.map_cons, List.map_nil]); first | done | rfl | (simp only [List.length_drop, List.length_take]; rfl)) ?_
     with_reducible refine (recovery_Load.calls _ _ t689 t692 _ _ x12_1 t713 t714 t715 _ ?side1 ?side2 ?side3 ?side4 A28.out).mono ?_
     (case side1 => repeat (first | exact (Kd.R_reads' HO_694000.out).2.2 | (with_reducible refine Kd.C_alloc ?_ _) | (with_reducible refine Kd.C_drewN ?_ _) | (with_reducible refine Kd.C_drew ?_)))
     (case side2 => exact (Kd.R_reads' HO_694000.out).2.1)
     (case side3 => repeat (first | exact (Kd.R_reads' HO_12.out).2.2 | (with_reducible refine Kd.C_alloc ?_ _) | (with_reducible refine Kd.C_drewN ?_ _) | (with_reducible refine Kd.C_drew ?_)))
     (case side4 => exact (Kd.R_reads' HO_12.out).2.1)
     rintro e w41 ⟨rfl, hb⟩
     refine ⟨_, rfl, ?_⟩
     have n0_ := Aside0.mk (Kd.R_below (by (with_reducible repeat (first | apply Kd.R_alloc | apply Kd.R_drewN | apply Kd.R_drew)); exact HO_11.out) hb)
     have n1_ := Aside0.mk (Kd.R_below (by (with_reducible repeat (first | apply Kd.R_alloc | apply Kd.R_drewN | apply Kd.R_drew)); exact HO_12.out) hb)
     have n2_ := Aside0.mk (Kd.R_below (by (with_reducible repeat (first | apply Kd.R_alloc | apply Kd.R_drewN | apply Kd.R_drew)); exact HO_694000.out) hb)
     have n3_ := Aside0.mk (Kd.R_below (by (with_reducible repeat (first | apply Kd.R_alloc | apply Kd.R_drewN | apply Kd.R_drew)); exact HO704.out) hb)
     have n4_ := Aside0.mk (Kd.R_below (by (with_reducible repeat (first | apply Kd.R_alloc | apply Kd.R_drewN | apply Kd.R_drew)); exact HO708.out) hb)
     have n5_ := Aside0.mk (blk_below (g := gb693) (o := .cells #[.slice Ao12 t689.length co12, .int .i64 t692] 26 (0, 0)) (by (with_reducible repeat (first | refine blk_drewN ?_ _ | refine blk_drew ?_ | refine blk_alloc ?_ _)); exact BK693.out) hb)
     have n6_ := Aside0.mk (below_step (by repeat (first | (with_reducible first | exact HB.out | apply below_alloc | apply pw_below_drewN | apply below_drew1 | refine below_set ?_ GE693.out) | exact HB.out)) hb)
     clear HO_11
     clear HO_12
     clear HO_694000
     clear HO704
     clear HO708
     clear BK693
     clear HB
     have HO_11 := n0_
     have HO_12 := n1_
     have HO_694000 := n2_
     have HO704 := n3_
     have HO708 := n4_
     have BK693 := n5_
     have HB := n6_
     clear n0_ n1_ n2_ n3_ n4_ n5_ n6_
     (try clear hb)
     (try clear hb2)
     (try clear hk)
     (try clear hi)
     refine hK.out _ _ ⟨(blk_cell BK693.out 0).trans rfl, (blk_cell BK693.out 1).trans rfl⟩ (fun hHeld => ?_)
     clear hK K
     refine norm_ (a' := ?_) ?_ ?_
     rotate_left
     ·
      show Act.put _ (some 78) _ = _
      simp only [Act.put, List.setIfInBounds_toArray, List.set_cons_zero, List.set_cons_succ, i64_w, i32_w]
      rfl
     refine pure_ (i := 5) (N := some 73) (v := ?_) (a' := ?_) #[true, true, true, true, true, true, false, false, false, false] rfl rfl (any_of HT_.out (by kernel_rfl)) (fun _ _ _ h => h) (Or.inl ⟨by rfl, ?_⟩) ?_ ?_
     rotate_left
     ·
      intro w'
      go_simp
      with_reducible rfl
     rotate_left
     ·
      simp only [Act.put, List.setIfInBounds_toArray, List.set_cons_zero, List.set_cons_succ, i64_w, i32_w]
      rfl
     refine pure_ (i := 6) (N := some 79) (v := ?_) (a' := ?_) #[true, true, true, true, true, true, true, false, false, false] rfl rfl (any_of HT_.out (by kernel_rfl)) (fun _ _ _ h => h) (Or.inl ⟨by rfl, ?_⟩) ?_ ?_
     rotate_left
     ·
      intro w'
      go_simp
      with_reducible rfl
     rotate_left
     ·
      simp only [Act.put, List.setIfInBounds_toArray, List.set_cons_zero, List.set_cons_succ, i64_w, i32_w]
      rfl
     refine pure_ (i := 7) (N := some 80) (v := ?_) (a' := ?_) #[true, true, true, true, true, true, true, true, false, false] rfl rfl (any_of HT_.out (by kernel_rfl)) (fun _ _ _ h => h) (Or.inl ⟨by rfl, ?_⟩) ?_ ?_
     rotate_left
     ·
      intro w'
      go_simp
      with_reducible rfl
     rotate_left
     ·
      simp only [Act.put, List.setIfInBounds_toArray, List.set_cons_zero, List.set_cons_succ, i64_w, i32_w]
      rfl
     refine pure_ (i := 8) (N := some 20) (v := ?_) (a' := ?_) #[true, true, true, true, true, true, true, true, true, false] rfl rfl (any_of HT_.out (by kernel_rfl)) (fun _ _ _ h => h) (Or.inl ⟨by rfl, ?_⟩) ?_ ?_
     rotate_left
     ·
      intro w'
      go_simp
      with_reducible rfl
     rotate_left
     ·
      simp only [Act.put, List.setIfInBounds_toArray, List.set_cons_zero, List.set_cons_succ, i64_w, i32_w]
      rfl
     refine pure_ (i := 9) (N := some 21) (v := ?_) (a' := ?_) #[true, true, true, true, true, true, true, true, true, true] rfl rfl (any_of HT_.out (by kernel_rfl)) (fun _ _ _ h => h) (Or.inl ⟨by rfl, ?_⟩) ?_ ?_
     rotate_left
     ·
      intro w'
      go_simp
      with_reducible rfl
     rotate_left
     ·
      simp only [Act.put, List.setIfInBounds_toArray, List.set_cons_zero, List.set_cons_succ, i64_w, i32_w]
      rfl
     refine done_ (done_of HT_.out (by kernel_rfl)) ?_
     go_upto_region 16 with (fail)
     go_cut [106] (fun v106 wc => ∃ (kq : Nat) (x106_28 : Bool), v106 = .bool x106_28 ∧ Aside0 (dialtonelaw34_RecoveryUrgent.j1 kq t694 t702 t706 x106_28 = some r) ∧ Aside0 (kq ≤ k1) ∧ Aside0 (Kd.R k60 60 wc w.heap.size (fun _ => True) (.slice Ao30 t694.length co30) t694) ∧ Aside0 (Kd.R k39 39 wc w.heap.size (fun k_ => some k_ ≠ (v707 : Value).ownBlock) v703 t702) ∧ Aside0 (Kd.R k39 39 wc w.heap.size (fun k_ => some k_ ≠ (v703 : Value).ownBlock) v707 t706) ∧ Aside0 (Kd.R k67 67 wc w.heap.size (fun _ => True) (.slice Ao12 t689.length co12) t689) ∧ Aside0 (wc.heap[gb693]? = some (.cells #[(.slice Ao12 t689.length co12), .int .i64 t692] 26 (0, 0))) ∧ Aside0 (Below w.heap.size w wc))
     case first =>
      have H := HC29.out
      clear HC29
      by_cases c42 : t705 = 0
      ·
       rw [if_pos c42] at H
       have c42b0 : (t705 == 0) = true := beq_iff_eq.mpr c42
       have c42b1 : (t705 != 0) = false := bne_eq_false_iff_eq.mpr c42
       clear c42
       (first | rw [c42b0] | (simp only [i64_w, i32_w]; rw [c42b0]) | skip)
       by_cases c43 : t709 = 0
       ·
        rw [if_pos c43] at H
        have c43b0 : (t709 == 0) = true := beq_iff_eq.mpr c43
        have c43b1 : (t709 != 0) = false := bne_eq_false_iff_eq.mpr c43
        clear c43
        by_cases c44 : t712 = 0
        ·
         rw [if_pos c44] at H
         have c44b0 : (t712 == 0) = true := beq_iff_eq.mpr c44
         have c44b1 : (t712 != 0) = false := bne_eq_false_iff_eq.mpr c44
         clear c44
         by_cases c45 : t715 = 0
         ·
          rw [if_pos c45] at H
          have c45b0 : (t715 == 0) = true := beq_iff_eq.mpr c45
          have c45b1 : (t715 != 0) = false := bne_eq_false_iff_eq.mpr c45
          clear c45
          by_cases c46 : t711 = t714
          ·
           rw [if_pos c46] at H
           have c46b0 : (t711 == t714) = true := beq_iff_eq.mpr c46
           have c46b1 : (t711 != t714) = false := bne_eq_false_iff_eq.mpr c46
           clear c46
           have H' := Aside0.mk H
           clear H
           obtain ⟨Ao47, co47, eo47⟩ := Kd.R_slice HO704.out
           subst eo47
           go_wp2
           go_meet
           case rel => exact ⟨_, (((t702.length : Int) != (t694.length : Int))), (by first | rfl | (simp; done) | (simp [*]; done)), H', ⟨by have := HK1.out; first | omega | exact Nat.le_refl _⟩, ⟨by (with_reducible repeat (first | apply Kd.R_alloc | apply Kd.R_drewN | apply Kd.R_drew)); exact Kd.R_mono HO_11.out (fun _ hk => trivial)⟩, ⟨by (with_reducible repeat (first | apply Kd.R_alloc | apply Kd.R_drewN | apply Kd.R_drew)); exact Kd.R_mono HO704.out (fun _ hk => hk.2)⟩, ⟨by (with_reducible repeat (first | apply Kd.R_alloc | apply Kd.R_drewN | apply Kd.R_drew)); exact Kd.R_mono HO708.out (fun _ hk => hk.2)⟩, ⟨by (with_reducible repeat (first | apply Kd.R_alloc | apply Kd.R_drewN | apply Kd.R_drew)); exact HO_694000.out⟩, ⟨by (with_reducible repeat (first | refine blk_drewN ?_ _ | refine blk_drew ?_ | refine blk_alloc ?_ _)); exact BK693.out⟩, ⟨by repeat (first | (with_reducible first | exact HB.out | apply below_alloc | apply pw_below_drewN | apply below_drew1 | refine below_set ?_ GE693.out) | exact HB.out)⟩⟩
          ·
           rw [if_neg c46] at H
           have c46b0 : (t711 == t714) = false := beq_eq_false_iff_ne.mpr c46
           have c46b1 : (t711 != t714) = true := bne_iff_ne.mpr c46
           have H' := Aside0.mk H
           clear H
           go_wp2
           go_meet
           case rel => exact ⟨_, (true), (by first | rfl | (simp; done) | (simp [*]; done)), H', ⟨by have := HK1.out; first | omega | exact Nat.le_refl _⟩, ⟨by (with_reducible repeat (first | apply Kd.R_alloc | apply Kd.R_drewN | apply Kd.R_drew)); exact Kd.R_mono HO_11.out (fun _ hk => trivial)⟩, ⟨by (with_reducible repeat (first | apply Kd.R_alloc | apply Kd.R_drewN | apply Kd.R_drew)); exact Kd.R_mono HO704.out (fun _ hk => hk.2)⟩, ⟨by (with_reducible repeat (first | apply Kd.R_alloc | apply Kd.R_drewN | apply Kd.R_drew)); exact Kd.R_mono HO708.out (fun _ hk => hk.2)⟩, ⟨by (with_reducible repeat (first | apply Kd.R_alloc | apply Kd.R_drewN | apply Kd.R_drew)); exact HO_694000.out⟩, ⟨by (with_reducible repeat (first | refine blk_drewN ?_ _ | refine blk_drew ?_ | refine blk_alloc ?_ _)); exact BK693.out⟩, ⟨by repeat (first | (with_reducible first | exact HB.out | apply below_alloc | apply pw_below_drewN | apply below_drew1 | refine below_set ?_ GE693.out) | exact HB.out)⟩⟩
         ·
          rw [if_neg c45] at H
          have c45b0 : (t715 == 0) = false := beq_eq_false_iff_ne.mpr c45
          have c45b1 : (t715 != 0) = true := bne_iff_ne.mpr c45
          have H' := Aside0.mk H
          clear H
          go_wp2
          go_meet
          case rel => exact ⟨_, (true), (by first | rfl | (simp; done) | (simp [*]; done)), H', ⟨by have := HK1.out; first | omega | exact Nat.le_refl _⟩, ⟨by (with_reducible repeat (first | apply Kd.R_alloc | apply Kd.R_drewN | apply Kd.R_drew)); exact Kd.R_mono HO_11.out (fun _ hk => trivial)⟩, ⟨by (with_reducible repeat (first | apply Kd.R_alloc | apply Kd.R_drewN | apply Kd.R_drew)); exact Kd.R_mono HO704.out (fun _ hk => hk.2)⟩, ⟨by (with_reducible repeat (first | apply Kd.R_alloc | apply Kd.R_drewN | apply Kd.R_drew)); exact Kd.R_mono HO708.out (fun _ hk => hk.2)⟩, ⟨by (with_reducible repeat (first | apply Kd.R_alloc | apply Kd.R_drewN | apply Kd.R_drew)); exact HO_694000.out⟩, ⟨by (with_reducible repeat (first | refine blk_drewN ?_ _ | refine blk_drew ?_ | refine blk_alloc ?_ _)); exact BK693.out⟩, ⟨by repeat (first | (with_reducible first | exact HB.out | apply below_alloc | apply pw_below_drewN | apply below_drew1 | refine below_set ?_ GE693.out) | exact HB.out)⟩⟩
        ·
         rw [if_neg c44] at H
         have c44b0 : (t712 == 0) = false := beq_eq_false_iff_ne.mpr c44
         have c44b1 : (t712 != 0) = true := bne_iff_ne.mpr c44
         have H' := Aside0.mk H
         clear H
         go_wp2
         go_meet
         case rel => exact ⟨_, (true), (by first | rfl | (simp; done) | (simp [*]; done)), H', ⟨by have := HK1.out; first | omega | exact Nat.le_refl _⟩, ⟨by (with_reducible repeat (first | apply Kd.R_alloc | apply Kd.R_drewN | apply Kd.R_drew)); exact Kd.R_mono HO_11.out (fun _ hk => trivial)⟩, ⟨by (with_reducible repeat (first | apply Kd.R_alloc | apply Kd.R_drewN | apply Kd.R_drew)); exact Kd.R_mono HO704.out (fun _ hk => hk.2)⟩, ⟨by (with_reducible repeat (first | apply Kd.R_alloc | apply Kd.R_drewN | apply Kd.R_drew)); exact Kd.R_mono HO708.out (fun _ hk => hk.2)⟩, ⟨by (with_reducible repeat (first | apply Kd.R_alloc | apply Kd.R_drewN | apply Kd.R_drew)); exact HO_694000.out⟩, ⟨by (with_reducible repeat (first | refine blk_drewN ?_ _ | refine blk_drew ?_ | refine blk_alloc ?_ _)); exact BK693.out⟩, ⟨by repeat (first | (with_reducible first | exact HB.out | apply below_alloc | apply pw_below_drewN | apply below_drew1 | refine below_set ?_ GE693.out) | exact HB.out)⟩⟩
       ·
        rw [if_neg c43] at H
        have c43b0 : (t709 == 0) = false := beq_eq_false_iff_ne.mpr c43
        have c43b1 : (t709 != 0) = true := bne_iff_ne.mpr c43
        have H' := Aside0.mk H
        clear H
        go_wp2
        go_meet
        case rel => exact ⟨_, (true), (by first | rfl | (simp; done) | (simp [*]; done)), H', ⟨by have := HK1.out; first | omega | exact Nat.le_refl _⟩, ⟨by (with_reducible repeat (first | apply Kd.R_alloc | apply Kd.R_drewN | apply Kd.R_drew)); exact Kd.R_mono HO_11.out (fun _ hk => trivial)⟩, ⟨by (with_reducible repeat (first | apply Kd.R_alloc | apply Kd.R_drewN | apply Kd.R_drew)); exact Kd.R_mono HO704.out (fun _ hk => hk.2)⟩, ⟨by (with_reducible repeat (first | apply Kd.R_alloc | apply Kd.R_drewN | apply Kd.R_drew)); exact Kd.R_mono HO708.out (fun _ hk => hk.2)⟩, ⟨by (with_reducible repeat (first | apply Kd.R_alloc | apply Kd.R_drewN | apply Kd.R_drew)); exact HO_694000.out⟩, ⟨by (with_reducible repeat (first | refine blk_drewN ?_ _ | refine blk_drew ?_ | refine blk_alloc ?_ _)); exact BK693.out⟩, ⟨by repeat (first | (with_reducible first | exact HB.out | apply below_alloc | apply pw_below_drewN | apply below_drew1 | refine below_set ?_ GE693.out) | exact HB.out)⟩⟩
      ·
       rw [if_neg c42] at H
       have c42b0 : (t705 == 0) = false := beq_eq_false_iff_ne.mpr c42
       have c42b1 : (t705 != 0) = true := bne_iff_ne.mpr c42
       (first | rw [c42b0] | (simp only [i64_w, i32_w]; rw [c42b0]) | skip)
       have H' := Aside0.mk H
       clear H
       go_wp2
       go_meet
       case rel => exact ⟨_, (true), (by first | rfl | (simp; done) | (simp [*]; done)), H', ⟨by have := HK1.out; first | omega | exact Nat.le_refl _⟩, ⟨by (with_reducible repeat (first | apply Kd.R_alloc | apply Kd.R_drewN | apply Kd.R_drew)); exact Kd.R_mono HO_11.out (fun _ hk => trivial)⟩, ⟨by (with_reducible repeat (first | apply Kd.R_alloc | apply Kd.R_drewN | apply Kd.R_drew)); exact Kd.R_mono HO704.out (fun _ hk => hk.2)⟩, ⟨by (with_reducible repeat (first | apply Kd.R_alloc | apply Kd.R_drewN | apply Kd.R_drew)); exact Kd.R_mono HO708.out (fun _ hk => hk.2)⟩, ⟨by (with_reducible repeat (first | apply Kd.R_alloc | apply Kd.R_drewN | apply Kd.R_drew)); exact HO_694000.out⟩, ⟨by (with_reducible repeat (first | refine blk_drewN ?_ _ | refine blk_drew ?_ | refine blk_alloc ?_ _)); exact BK693.out⟩, ⟨by repeat (first | (with_reducible first | exact HB.out | apply below_alloc | apply pw_below_drewN | apply below_drew1 | refine below_set ?_ GE693.out) | exact HB.out)⟩⟩
     case rest =>
      clear HC29
      try clear c1
      try clear q1
      try clear c2
      try clear p2
      try clear c3
      try clear c4
      try clear c6
      try clear p6
      try clear q6
      try clear hx6
      try clear c12
      try clear c13
      try clear c14
      try clear c15
      try clear c15b0
      try clear c16
      try clear c16b0
      try clear q17
      try clear c18
      try clear c20
      try clear c32
      try clear c42
      try clear c42b0
      try clear c42b1
      try clear c43
      try clear c43b0
      try clear c43b1
      try clear c44
      try clear c44b0
      try clear c44b1
      try clear c45
      try clear c45b0
      try clear c45b1
      try clear c46
      try clear c46b0
      try clear c46b1
      try clear hcz13_0
      try clear hcz13_1
      try clear hcz31_0
      try clear hcz31_1
      try clear hcz33_0
      try clear hcz33_1
      try clear hfz13_0
      try clear hfz13_1
      try clear hfz31_0
      try clear hfz31_1
      try clear hfz33_0
      try clear hfz33_1
      try clear hx697_0
      try clear hx697_1
      try clear hx697_2
      try clear hx698_0
      try clear hx698_1
      try clear hx698_2
      try clear p2
      try clear p697
      try clear p698
      try clear q697
      try clear q698
      obtain ⟨kq, x106_28, rfl, HA, HJ28, HO_11, HO_14, HO_16, HO_694000, BK693, HB⟩ := hcut
      cases kq with
      | zero => exact absurd HA.out (by simp [dialtonelaw34_RecoveryUrgent.j1])
      | succ kj28 =>
       have H := HA.out
       clear HA
       simp only [dialtonelaw34_RecoveryUrgent.j1] at H
       by_cases c48 : x106_28 = true
       ·
        subst c48
        have H1 : (none) = some r := by rw [if_pos rfl] at H; exact H
        clear H
        have H := H1
        clear H1
        exact absurd H (by simp)
       ·
        replace c48 := Bool.eq_false_iff.mpr c48
        subst c48
        have H1 : (dialtonelaw34_RecoveryUrgent.l1 kj28 t694 t702 t706 0 0) = some r := by rw [if_neg (show ¬ (false = true) by decide)] at H; exact H
        clear H
        have H := H1
        clear H1
        have H' := Aside0.mk H
        clear H
        go_wp2
        go_loopg [22, 23] kj28 (fun kq v22 v23 w' => ∃ (x22_3 : Int) (x23_3 : Int), v22 = .int .i64 x22_3 ∧ v23 = .int .i64 x23_3 ∧ Aside0 (dialtonelaw34_RecoveryUrgent.l1 kq t694 t702 t706 x22_3 x23_3 = some r) ∧ Aside0 (kq ≤ kj28) ∧ Aside0 (Kd.R k60 60 w' w.heap.size (fun _ => True) (.slice Ao30 t694.length co30) t694) ∧ Aside0 (Kd.R k39 39 w' w.heap.size (fun k_ => some k_ ≠ (v707 : Value).ownBlock) v703 t702) ∧ Aside0 (Kd.R k39 39 w' w.heap.size (fun k_ => some k_ ≠ (v703 : Value).ownBlock) v707 t706) ∧ Aside0 (Kd.R k67 67 w' w.heap.size (fun _ => True) (.slice Ao12 t689.length co12) t689) ∧ Aside0 (w'.heap[gb693]? = some (.cells #[(.slice Ao12 t689.length co12), .int .i64 t692] 26 (0, 0))) ∧ Aside0 (Below w.heap.size w w'))
        case atStart => exact ⟨(0), (0), (by first | rfl | (simp; done) | (simp [*]; done)), (by first | rfl | (simp; done) | (simp [*]; done)), H', ⟨Nat.le_refl _⟩, ⟨by (with_reducible repeat (first | apply Kd.R_alloc | apply Kd.R_drewN | apply Kd.R_drew)); exact HO_11.out⟩, ⟨by (with_reducible repeat (first | apply Kd.R_alloc | apply Kd.R_drewN | apply Kd.R_drew)); exact HO_14.out⟩, ⟨by (with_reducible repeat (first | apply Kd.R_alloc | apply Kd.R_drewN | apply Kd.R_drew)); exact HO_16.out⟩, ⟨by (with_reducible repeat (first | apply Kd.R_alloc | apply Kd.R_drewN | apply Kd.R_drew)); exact HO_694000.out⟩, ⟨by (with_reducible repeat (first | refine blk_drewN ?_ _ | refine blk_drew ?_ | refine blk_alloc ?_ _)); exact BK693.out⟩, ⟨by repeat (first | (with_reducible first | exact HB.out | apply below_alloc | apply pw_below_drewN | apply below_drew1 | refine below_set ?_ GE693.out) | exact HB.out)⟩⟩
        case round =>
         clear H'
         try clear c1
         try clear q1
         try clear c2
         try clear p2
         try clear c3
         try clear c4
         try clear c6
         try clear p6
         try clear q6
         try clear hx6
         try clear c12
         try clear c13
         try clear c14
         try clear c15
         try clear c15b0
         try clear c16
         try clear c16b0
         try clear q17
         try clear c18
         try clear c20
         try clear c32
         try clear c42
         try clear c42b0
         try clear c42b1
         try clear c43
         try clear c43b0
         try clear c43b1
         try clear c44
         try clear c44b0
         try clear c44b1
         try clear c45
         try clear c45b0
         try clear c45b1
         try clear c46
         try clear c46b0
         try clear c46b1
         try clear c48
         try clear hcz13_0
         try clear hcz13_1
         try clear hcz31_0
         try clear hcz31_1
         try clear hcz33_0
         try clear hcz33_1
         try clear hfz13_0
         try clear hfz13_1
         try clear hfz31_0
         try clear hfz31_1
         try clear hfz33_0
         try clear hfz33_1
         try clear hx697_0
         try clear hx697_1
         try clear hx697_2
         try clear hx698_0
         try clear hx698_1
         try clear hx698_2
         try clear p2
         try clear p6
         try clear p697
         try clear p698
         try clear q1
         try clear q17
         try clear q6
         try clear q697
         try clear q698
         obtain ⟨x22_3, x23_3, rfl, rfl, HA, HK3, HO_11, HO_14, HO_16, HO_694000, BK693, HB⟩ := hrel
         cases gk with
         | zero => exact absurd HA.out (by simp [dialtonelaw34_RecoveryUrgent.l1])
         | succ k3 =>
          have H := HA.out
          clear HA
          simp only [dialtonelaw34_RecoveryUrgent.l1] at H
          by_cases c49 : x23_3 < (t702.length : Int)
          ·
           rw [if_pos c49] at H
           have c49b0 : decide (x23_3 < (t702.length : Int)) = true := decide_eq_true c49
           clear c49
           have H' := Aside0.mk H
           clear H
           obtain ⟨Ao50, co50, eo50⟩ := Kd.R_slice HO_14.out
           subst eo50
           go_wp2
           go_loopg [24, 25] k3 (fun kq v24 v25 w' => ∃ (x24_4 : Bool) (x25_4 : Int), v24 = .bool x24_4 ∧ v25 = .int .i64 x25_4 ∧ Aside0 (dialtonelaw34_RecoveryUrgent.l2 kq t694 t702 t706 x22_3 x23_3 x24_4 x25_4 = some r) ∧ Aside0 (kq ≤ k3) ∧ Aside0 (Kd.R k60 60 w' w.heap.size (fun _ => True) (.slice Ao30 t694.length co30) t694) ∧ Aside0 (Kd.R k39 39 w' w.heap.size (fun k_ => some k_ ≠ (v707 : Value).ownBlock) (.slice Ao50 t702.length co50) t702) ∧ Aside0 (Kd.R k39 39 w' w.heap.size (fun k_ => some k_ ≠ ((.slice Ao50 t702.length co50) : Value).ownBlock) v707 t706) ∧ Aside0 (Kd.R k67 67 w' w.heap.size (fun _ => True) (.slice Ao12 t689.length co12) t689) ∧ Aside0 (w'.heap[gb693]? = some (.cells #[(.slice Ao12 t689.length co12), .int .i64 t692] 26 (0, 0))) ∧ Aside0 (Below w.heap.size w w'))
           case atStart => exact ⟨(false), (0), (by first | rfl | (simp; done) | (simp [*]; done)), (by first | rfl | (simp; done) | (simp [*]; done)), H', ⟨Nat.le_refl _⟩, ⟨by (with_reducible repeat (first | apply Kd.R_alloc | apply Kd.R_drewN | apply Kd.R_drew)); exact HO_11.out⟩, ⟨by (with_reducible repeat (first | apply Kd.R_alloc | apply Kd.R_drewN | apply Kd.R_drew)); exact HO_14.out⟩, ⟨by (with_reducible repeat (first | apply Kd.R_alloc | apply Kd.R_drewN | apply Kd.R_drew)); exact HO_16.out⟩, ⟨by (with_reducible repeat (first | apply Kd.R_alloc | apply Kd.R_drewN | apply Kd.R_drew)); exact HO_694000.out⟩, ⟨by (with_reducible repeat (first | refine blk_drewN ?_ _ | refine blk_drew ?_ | refine blk_alloc ?_ _)); exact BK693.out⟩, ⟨by repeat (first | (with_reducible first | exact HB.out | apply below_alloc | apply pw_below_drewN | apply below_drew1 | refine below_set ?_ GE693.out) | exact HB.out)⟩⟩
           case round =>
            clear H'
            try clear c1
            try clear q1
            try clear c2
            try clear p2
            try clear c3
            try clear c4
            try clear c6
            try clear p6
            try clear q6
            try clear hx6
            try clear c12
            try clear c13
            try clear c14
            try clear c15
            try clear c15b0
            try clear c16
            try clear c16b0
            try clear q17
            try clear c18
            try clear c20
            try clear c32
            try clear c42
            try clear c42b0
            try clear c42b1
            try clear c43
            try clear c43b0
            try clear c43b1
            try clear c44
            try clear c44b0
            try clear c44b1
            try clear c45
            try clear c45b0
            try clear c45b1
            try clear c46
            try clear c46b0
            try clear c46b1
            try clear c48
            try clear c49
            try clear c49b0
            try clear hcz13_0
            try clear hcz13_1
            try clear hcz31_0
            try clear hcz31_1
            try clear hcz33_0
            try clear hcz33_1
            try clear hfz13_0
            try clear hfz13_1
            try clear hfz31_0
            try clear hfz31_1
            try clear hfz33_0
            try clear hfz33_1
            try clear hx697_0
            try clear hx697_1
            try clear hx697_2
            try clear hx698_0
            try clear hx698_1
            try clear hx698_2
            try clear p2
            try clear p6
            try clear p697
            try clear p698
            try clear q1
            try clear q17
            try clear q6
            try clear q697
            try clear q698
            obtain ⟨x24_4, x25_4, rfl, rfl, HA, HK4, HO_11, HO_14, HO_16, HO_694000, BK693, HB⟩ := hrel
            cases gk with
            | zero => exact absurd HA.out (by simp [dialtonelaw34_RecoveryUrgent.l2])
            | succ k4 =>
             have H := HA.out
             clear HA
             simp only [dialtonelaw34_RecoveryUrgent.l2] at H
             by_cases c51 : x25_4 < (t694.length : Int)
             ·
              rw [if_pos c51] at H
              have c51b0 : decide (x25_4 < (t694.length : Int)) = true := decide_eq_true c51
              clear c51
              by_cases c52 : x24_4 = true
              ·
               subst c52
               have H1 : (dialtonelaw34_RecoveryUrgent.l2 k4 t694 t702 t706 x22_3 x23_3 true (wrap64 (x25_4 + 1))) = some r := by rw [if_pos rfl] at H; exact H
               clear H
               have H := H1
               clear H1
               have H' := Aside0.mk H
               clear H
               try go_wp2
               have n0_ := Aside0.mk (Kd.R_drew HO_11.out)
               have n1_ := Aside0.mk (Kd.R_drew HO_14.out)
               have n2_ := Aside0.mk (Kd.R_drew HO_16.out)
               have n3_ := Aside0.mk (Kd.R_drew HO_694000.out)
               have n4_ := Aside0.mk (blk_drew BK693.out)
               have n5_ := Aside0.mk (below_drew1 HB.out)
               clear HO_11
               clear HO_14
               clear HO_16
               clear HO_694000
               clear BK693
               clear HB
               have HO_11 := n0_
               have HO_14 := n1_
               have HO_16 := n2_
               have HO_694000 := n3_
               have BK693 := n4_
               have HB := n5_
               clear n0_ n1_ n2_ n3_ n4_ n5_
               refine start_ (n := 22) (S := fun w' => True) (ds := []) #[false, false, false, false, false, false, false, false, false, false, false, false, false, false, false, false, false, false, false, false, false, false] (by kernel_rfl) rfl rfl trivial (fun hHeld => ?_); refine with_tabW dialtonelaw34_RecoveryUrgent.tab26 dialtonelaw34_RecoveryUrgent.bits26 (fun HT_ HW_ => ?_)
               generalize wr.drew = w53 at HO_11 HO_14 HO_16 HO_694000 BK693 HB hHeld ⊢
               refine pure_ (i := 0) (N := some 119) (v := ?_) (a' := ?_) #[true, false, false, false, false, false, false, false, false, false, false, false, false, false, false, false, false, false, false, false, false, false] rfl rfl (any_of HT_.out (by kernel_rfl)) (fun _ _ _ h => h) (Or.inl ⟨by rfl, ?_⟩) ?_ ?_
               rotate_left
               ·
                intro w'
                go_simp
                with_reducible rfl
               rotate_left
               ·
                simp only [Act.put, List.setIfInBounds_toArray, List.set_cons_zero, List.set_cons_succ, i64_w, i32_w]
                rfl
               refine pure_ (i := 1) (N := some 120) (v := ?_) (a' := ?_) #[true, true, false, false, false, false, false, false, false, false, false, false, false, false, false, false, false, false, false, false, false, false] rfl rfl (any_of HT_.out (by kernel_rfl)) (fun _ _ _ h => h) (Or.inl ⟨by rfl, ?_⟩) ?_ ?_
               rotate_left
               ·
                intro w'
                go_simp
                with_reducible rfl
               rotate_left
               ·
                simp only [Act.put, List.setIfInBounds_toArray, List.set_cons_zero, List.set_cons_succ, i64_w, i32_w]
                rfl
               refine pure_ (i := 2) (N := some 121) (v := undef) (a' := ?_) #[true, true, true, false, false, false, false, false, false, false, false, false, false, false, false, false, false, false, false, false, false, false] rfl rfl (any_of HT_.out (by kernel_rfl)) (fun _ _ _ h => h) (Or.inr ⟨by rfl, rfl⟩) ?_ ?_
               rotate_left
               ·
                simp only [Act.put, List.setIfInBounds_toArray, List.set_cons_zero, List.set_cons_succ, i64_w, i32_w]
                rfl
               refine pure_ (i := 3) (N := some 122) (v := undef) (a' := ?_) #[true, true, true, true, false, false, false, false, false, false, false, false, false, false, false, false, false, false, false, false, false, false] rfl rfl (any_of HT_.out (by kernel_rfl)) (fun _ _ _ h => h) (Or.inr ⟨by rfl, rfl⟩) ?_ ?_
               rotate_left
               ·
                simp only [Act.put, List.setIfInBounds_toArray, List.set_cons_zero, List.set_cons_succ, i64_w, i32_w]
                rfl
               refine pure_ (i := 4) (N := some 123) (v := undef) (a' := ?_) #[true, true, true, true, true, false, false, false, false, false, false, false, false, false, false, false, false, false, false, false, false, false] rfl rfl (any_of HT_.out (by kernel_rfl)) (fun _ _ _ h => h) (Or.inr ⟨by rfl, rfl⟩) ?_ ?_
               rotate_left
               ·
                simp only [Act.put, List.setIfInBounds_toArray, List.set_cons_zero, List.set_cons_succ, i64_w, i32_w]
                rfl
               refine pure_ (i := 5) (N := some 124) (v := undef) (a' := ?_) #[true, true, true, true, true, true, false, false, false, false, false, false, false, false, false, false, false, false, false, false, false, false] rfl rfl (any_of HT_.out (by kernel_rfl)) (fun _ _ _ h => h) (Or.inr ⟨by rfl, rfl⟩) ?_ ?_
               rotate_left
               ·
                simp only [Act.put, List.setIfInBounds_toArray, List.set_cons_zero, List.set_cons_succ, i64_w, i32_w]
                rfl
               refine pure_ (i := 6) (N := some 125) (v := undef) (a' := ?_) #[true, true, true, true, true, true, true, false, false, false, false, false, false, false, false, false, false, false, false, false, false, false] rfl rfl (any_of HT_.out (by kernel_rfl)) (fun _ _ _ h => h) (Or.inr ⟨by rfl, rfl⟩) ?_ ?_
               rotate_left
               ·
                simp only [Act.put, List.setIfInBounds_toArray, List.set_cons_zero, List.set_cons_succ, i64_w, i32_w]
                rfl
               refine pure_ (i := 7) (N := some 126) (v := undef) (a' := ?_) #[true, true, true, true, true, true, true, true, false, false, false, false, false, false, false, false, false, false, false, false, false, false] rfl rfl (any_of HT_.out (by kernel_rfl)) (fun _ _ _ h => h) (Or.inr ⟨by rfl, rfl⟩) ?_ ?_
               rotate_left
               ·
                simp only [Act.put, List.setIfInBounds_toArray, List.set_cons_zero, List.set_cons_succ, i64_w, i32_w]
                rfl
               refine pure_ (i := 8) (N := some 127) (v := undef) (a' := ?_) #[true, true, true, true, true, true, true, true, true, false, false, false, false, false, false, false, false, false, false, false, false, false] rfl rfl (any_of HT_.out (by kernel_rfl)) (fun _ _ _ h => h) (Or.inr ⟨by rfl, rfl⟩) ?_ ?_
               rotate_left
               ·
                simp only [Act.put, List.setIfInBounds_toArray, List.set_cons_zero, List.set_cons_succ, i64_w, i32_w]
                rfl
               refine pure_ (i := 9) (N := some 128) (v := undef) (a' := ?_) #[true, true, true, true, true, true, true, true, true, true, false, false, false, false, false, false, false, false, false, false, false, false] rfl rfl (any_of HT_.out (by kernel_rfl)) (fun _ _ _ h => h) (Or.inr ⟨by rfl, rfl⟩) ?_ ?_
               rotate_left
               ·
                simp only [Act.put, List.setIfInBounds_toArray, List.set_cons_zero, List.set_cons_succ, i64_w, i32_w]
                rfl
               refine pure_ (i := 10) (N := some 129) (v := undef) (a' := ?_) #[true, true, true, true, true, true, true, true, true, true, true, false, false, false, false, false, false, false, false, false, false, false] rfl rfl (any_of HT_.out (by kernel_rfl)) (fun _ _ _ h => h) (Or.inr ⟨by rfl, rfl⟩) ?_ ?_
               rotate_left
               ·
                simp only [Act.put, List.setIfInBounds_toArray, List.set_cons_zero, List.set_cons_succ, i64_w, i32_w]
                rfl
               refine pure_ (i := 11) (N := some 130) (v := undef) (a' := ?_) #[true, true, true, true, true, true, true, true, true, true, true, true, false, false, false, false, false, false, false, false, false, false] rfl rfl (any_of HT_.out (by kernel_rfl)) (fun _ _ _ h => h) (Or.inr ⟨by rfl, rfl⟩) ?_ ?_
               rotate_left
               ·
                simp only [Act.put, List.setIfInBounds_toArray, List.set_cons_zero, List.set_cons_succ, i64_w, i32_w]
                rfl
               refine pure_ (i := 12) (N := some 131) (v := undef) (a' := ?_) #[true, true, true, true, true, true, true, true, true, true, true, true, true, false, false, false, false, false, false, false, false, false] rfl rfl (any_of HT_.out (by kernel_rfl)) (fun _ _ _ h => h) (Or.inr ⟨by rfl, rfl⟩) ?_ ?_
               rotate_left
               ·
                simp only [Act.put, List.setIfInBounds_toArray, List.set_cons_zero, List.set_cons_succ, i64_w, i32_w]
                rfl
               refine pure_ (i := 13) (N := some 132) (v := undef) (a' := ?_) #[true, true, true, true, true, true, true, true, true, true, true, true, true, true, false, false, false, false, false, false, false, false] rfl rfl (any_of HT_.out (by kernel_rfl)) (fun _ _ _ h => h) (Or.inr ⟨by rfl, rfl⟩) ?_ ?_
               rotate_left
               ·
                simp only [Act.put, List.setIfInBounds_toArray, List.set_cons_zero, List.set_cons_succ, i64_w, i32_w]
                rfl
               refine pure_ (i := 14) (N := some 133) (v := undef) (a' := ?_) #[true, true, true, true, true, true, true, true, true, true, true, true, true, true, true, false, false, false, false, false, false, false] rfl rfl (any_of HT_.out (by kernel_rfl)) (fun _ _ _ h => h) (Or.inr ⟨by rfl, rfl⟩) ?_ ?_
               rotate_left
               ·
                simp only [Act.put, List.setIfInBounds_toArray, List.set_cons_zero, List.set_cons_succ, i64_w, i32_w]
                rfl
               refine pure_ (i := 15) (N := some 134) (v := undef) (a' := ?_) #[true, true, true, true, true, true, true, true, true, true, true, true, true, true, true, true, false, false, false, false, false, false] rfl rfl (any_of HT_.out (by kernel_rfl)) (fun _ _ _ h => h) (Or.inr ⟨by rfl, rfl⟩) ?_ ?_
               rotate_left
               ·
                simp only [Act.put, List.setIfInBounds_toArray, List.set_cons_zero, List.set_cons_succ, i64_w, i32_w]
                rfl
               refine pure_ (i := 16) (N := some 135) (v := undef) (a' := ?_) #[true, true, true, true, true, true, true, true, true, true, true, true, true, true, true, true, true, false, false, false, false, false] rfl rfl (any_of HT_.out (by kernel_rfl)) (fun _ _ _ h => h) (Or.inr ⟨by rfl, rfl⟩) ?_ ?_
               rotate_left
               ·
                simp only [Act.put, List.setIfInBounds_toArray, List.set_cons_zero, List.set_cons_succ, i64_w, i32_w]
                rfl
               refine pure_ (i := 17) (N := some 136) (v := undef) (a' := ?_) #[true, true, true, true, true, true, true, true, true, true, true, true, true, true, true, true, true, true, false, false, false, false] rfl rfl (any_of HT_.out (by kernel_rfl)) (fun _ _ _ h => h) (Or.inr ⟨by rfl, rfl⟩) ?_ ?_
               rotate_left
               ·
                simp only [Act.put, List.setIfInBounds_toArray, List.set_cons_zero, List.set_cons_succ, i64_w, i32_w]
                rfl
               refine pure_ (i := 18) (N := some 137) (v := undef) (a' := ?_) #[true, true, true, true, true, true, true, true, true, true, true, true, true, true, true, true, true, true, true, false, false, false] rfl rfl (any_of HT_.out (by kernel_rfl)) (fun _ _ _ h => h) (Or.inr ⟨by rfl, rfl⟩) ?_ ?_
               rotate_left
               ·
                simp only [Act.put, List.setIfInBounds_toArray, List.set_cons_zero, List.set_cons_succ, i64_w, i32_w]
                rfl
               refine pure_ (i := 19) (N := some 138) (v := undef) (a' := ?_) #[true, true, true, true, true, true, true, true, true, true, true, true, true, true, true, true, true, true, true, true, false, false] rfl rfl (any_of HT_.out (by kernel_rfl)) (fun _ _ _ h => h) (Or.inr ⟨by rfl, rfl⟩) ?_ ?_
               rotate_left
               ·
                simp only [Act.put, List.setIfInBounds_toArray, List.set_cons_zero, List.set_cons_succ, i64_w, i32_w]
                rfl
               refine pure_ (i := 20) (N := some 139) (v := ?_) (a' := ?_) #[true, true, true, true, true, true, true, true, true, true, true, true, true, true, true, true, true, true, true, true, true, false] rfl rfl (any_of HT_.out (by kernel_rfl)) (fun _ _ _ h => h) (Or.inl ⟨by rfl, ?_⟩) ?_ ?_
               rotate_left
               ·
                intro w'
                go_simp
                with_reducible rfl
               rotate_left
               ·
                simp only [Act.put, List.setIfInBounds_toArray, List.set_cons_zero, List.set_cons_succ, i64_w, i32_w]
                rfl
               refine pure_ (i := 21) (N := some 24) (v := ?_) (a' := ?_) #[true, true, true, true, true, true, true, true, true, true, true, true, true, true, true, true, true, true, true, true, true, true] rfl rfl (any_of HT_.out (by kernel_rfl)) (fun _ _ _ h => h) (Or.inl ⟨by rfl, ?_⟩) ?_ ?_
               rotate_left
               ·
                intro w'
                go_simp
                with_reducible rfl
               rotate_left
               ·
                simp only [Act.put, List.setIfInBounds_toArray, List.set_cons_zero, List.set_cons_succ, i64_w, i32_w]
                rfl
               refine done_ (done_of HT_.out (by kernel_rfl)) ?_
               try go_wp2
               go_roundg k4
               case measure => have := HK1.out; have := HJ28.out; have := HK3.out; have := HK4.out; omega
               case rel => exact ⟨(true), (wrap64 (x25_4 + 1)), (by first | rfl | (simp; done) | (simp [*]; done)), (by first | rfl | (simp; done) | (simp [*]; done)), H', ⟨by have := HK1.out; have := HJ28.out; have := HK3.out; have := HK4.out; omega⟩, ⟨by (with_reducible repeat (first | apply Kd.R_alloc | apply Kd.R_drewN | apply Kd.R_drew)); exact HO_11.out⟩, ⟨by (with_reducible repeat (first | apply Kd.R_alloc | apply Kd.R_drewN | apply Kd.R_drew)); exact HO_14.out⟩, ⟨by (with_reducible repeat (first | apply Kd.R_alloc | apply Kd.R_drewN | apply Kd.R_drew)); exact HO_16.out⟩, ⟨by (with_reducible repeat (first | apply Kd.R_alloc | apply Kd.R_drewN | apply Kd.R_drew)); exact HO_694000.out⟩, ⟨by (with_reducible repeat (first | refine blk_drewN ?_ _ | refine blk_drew ?_ | refine blk_alloc ?_ _)); exact BK693.out⟩, ⟨by repeat (first | (with_reducible first | exact HB.out | apply below_alloc | apply pw_below_drewN | apply below_drew1 | refine below_set ?_ GE693.out) | exact HB.out)⟩⟩
              ·
               replace c52 := Bool.eq_false_iff.mpr c52
               subst c52
               have H1 : (if 0 ≤ x25_4 then (if 0 ≤ x23_3 then (if x23_3 < (t702.length : Int) then (if ((rd_T60 t694 x25_4).f0) = ((rd_T39 t702 x23_3).f0) then (dialtonelaw34_RecoveryUrgent.l2 k4 t694 t702 t706 x22_3 x23_3 ((rd_T60 t694 x25_4).f2) (wrap64 (x25_4 + 1))) else (dialtonelaw34_RecoveryUrgent.l2 k4 t694 t702 t706 x22_3 x23_3 false (wrap64 (x25_4 + 1)))) else (none)) else (none)) else (none)) = some r := by rw [if_neg (show ¬ (false = true) by decide)] at H; exact H
               clear H
               have H := H1
               clear H1
               by_cases c54 : 0 ≤ x25_4
               ·
                rw [if_pos c54] at H
                have c54b0 : decide (0 ≤ x25_4) = true := decide_eq_true c54
                clear c54
                by_cases c55 : 0 ≤ x23_3
                ·
                 rw [if_pos c55] at H
                 have c55b0 : decide (0 ≤ x23_3) = true := decide_eq_true c55
                 clear c55
                 by_cases c56 : x23_3 < (t702.length : Int)
                 ·
                  rw [if_pos c56] at H
                  have c56b0 : decide (x23_3 < (t702.length : Int)) = true := decide_eq_true c56
                  clear c56
                  by_cases c57 : ((rd_T60 t694 x25_4).f0) = ((rd_T39 t702 x23_3).f0)
                  ·
                   rw [if_pos c57] at H
                   have c57b0 : (((rd_T60 t694 x25_4).f0) == ((rd_T39 t702 x23_3).f0)) = true := beq_iff_eq.mpr c57
                   have c57b1 : (((rd_T60 t694 x25_4).f0) != ((rd_T39 t702 x23_3).f0)) = false := bne_eq_false_iff_eq.mpr c57
                   clear c57
                   have H' := Aside0.mk H
                   clear H
                   try go_wp2
                   have n0_ := Aside0.mk (Kd.R_drew HO_11.out)
                   have n1_ := Aside0.mk (Kd.R_drew HO_14.out)
                   have n2_ := Aside0.mk (Kd.R_drew HO_16.out)
                   have n3_ := Aside0.mk (Kd.R_drew HO_694000.out)
                   have n4_ := Aside0.mk (blk_drew BK693.out)
                   have n5_ := Aside0.mk (below_drew1 HB.out)
                   clear HO_11
                   clear HO_14
                   clear HO_16
                   clear HO_694000
                   clear BK693
                   clear HB
                   have HO_11 := n0_
                   have HO_14 := n1_
                   have HO_16 := n2_
                   have HO_694000 := n3_
                   have BK693 := n4_
                   have HB := n5_
                   clear n0_ n1_ n2_ n3_ n4_ n5_
                   have p716 : 0 ≤ (x25_4 : Int) := of_decide_eq_true (by first | (with_reducible assumption) | assumption)
                   have q716 : x25_4 < (t694.length : Int) := of_decide_eq_true (by first | (with_reducible assumption) | assumption)
                   obtain ⟨ad716, e716, hx716_0, hx716_1, hx716_2⟩ := at_T60 (Kd.R_reads' HO_11.out).2.2 x25_4 p716 q716
                   cases e716
                   replace p716 := eq_true p716
                   replace q716 := eq_true q716
                   have p717 : 0 ≤ (x23_3 : Int) := of_decide_eq_true (by first | (with_reducible assumption) | assumption)
                   have q717 : x23_3 < (t702.length : Int) := of_decide_eq_true (by first | (with_reducible assumption) | assumption)
                   obtain ⟨ad717, e717, hx717_0, hx717_1, hx717_2⟩ := at_T39 (Kd.R_reads' HO_14.out).2.2 x23_3 p717 q717
                   cases e717
                   replace p717 := eq_true p717
                   replace q717 := eq_true q717
                   have p718 : 0 ≤ (x25_4 : Int) := of_decide_eq_true (by first | (with_reducible assumption) | assumption)
                   have q718 : x25_4 < (t694.length : Int) := of_decide_eq_true (by first | (with_reducible assumption) | assumption)
                   obtain ⟨ad718, e718, hx718_0, hx718_1, hx718_2⟩ := at_T60 (Kd.R_reads' HO_11.out).2.2 x25_4 p718 q718
                   obtain rfl : ad716 = ad718 := (by injection e718)
                   replace p718 := eq_true p718
                   replace q718 := eq_true q718
                   refine start_ (n := 22) (S := fun w' => w'.cell? (ad716.add ((x25_4).toNat * 3)) = some (.int .i64 ((rd_T60 t694 x25_4).f0)) ∧ w'.cell? ⟨(ad716.add ((x25_4).toNat * 3)).block, (ad716.add ((x25_4).toNat * 3)).off + 1, none⟩ = some (.int .i64 ((rd_T60 t694 x25_4).f1)) ∧ w'.cell? ⟨(ad716.add ((x25_4).toNat * 3)).block, (ad716.add ((x25_4).toNat * 3)).off + 2, none⟩ = some (.bool ((rd_T60 t694 x25_4).f2)) ∧ w'.cell? (ad717.add ((x23_3).toNat * 3)) = some (.int .i64 ((rd_T39 t702 x23_3).f0)) ∧ w'.cell? ⟨(ad717.add ((x23_3).toNat * 3)).block, (ad717.add ((x23_3).toNat * 3)).off + 1, none⟩ = some (.int .i64 ((rd_T39 t702 x23_3).f1)) ∧ w'.cell? ⟨(ad717.add ((x23_3).toNat * 3)).block, (ad717.add ((x23_3).toNat * 3)).off + 2, none⟩ = some (.int .i64 ((rd_T39 t702 x23_3).f2)) ∧ w'.cell? (ad716.add ((x25_4).toNat * 3)) = some (.int .i64 ((rd_T60 t694 x25_4).f0)) ∧ w'.cell? ⟨(ad716.add ((x25_4).toNat * 3)).block, (ad716.add ((x25_4).toNat * 3)).off + 1, none⟩ = some (.int .i64 ((rd_T60 t694 x25_4).f1)) ∧ w'.cell? ⟨(ad716.add ((x25_4).toNat * 3)).block, (ad716.add ((x25_4).toNat * 3)).off + 2, none⟩ = some (.bool ((rd_T60 t694 x25_4).f2))) (ds := []) #[false, false, false, false, false, false, false, false, false, false, false, false, false, false, false, false, false, false, false, false, false, false] (by kernel_rfl) rfl rfl ⟨hx716_0, hx716_1, hx716_2, hx717_0, hx717_1, hx717_2, hx718_0, hx718_1, hx718_2⟩ (fun hHeld => ?_); refine with_tabW dialtonelaw34_RecoveryUrgent.tab26 dialtonelaw34_RecoveryUrgent.bits26 (fun HT_ HW_ => ?_)
                   generalize wr.drew = w58 at HO_11 HO_14 HO_16 HO_694000 BK693 HB hx716_0 hx716_1 hx716_2 hx717_0 hx717_1 hx717_2 hx718_0 hx718_1 hx718_2 hHeld ⊢
                   refine pure_ (i := 0) (N := some 119) (v := ?_) (a' := ?_) #[true, false, false, false, false, false, false, false, false, false, false, false, false, false, false, false, false, false, false, false, false, false] rfl rfl (any_of HT_.out (by kernel_rfl)) (fun _ _ _ h => h) (Or.inl ⟨by rfl, ?_⟩) ?_ ?_
                   rotate_left
                   ·
                    intro w'
                    go_simp
                    with_reducible rfl
                   rotate_left
                   ·
                    simp only [Act.put, List.setIfInBounds_toArray, List.set_cons_zero, List.set_cons_succ, i64_w, i32_w]
                    rfl
                   refine pure_ (i := 1) (N := some 120) (v := ?_) (a' := ?_) #[true, true, false, false, false, false, false, false, false, false, false, false, false, false, false, false, false, false, false, false, false, false] rfl rfl (any_of HT_.out (by kernel_rfl)) (fun _ _ _ h => h) (Or.inl ⟨by rfl, ?_⟩) ?_ ?_
                   rotate_left
                   ·
                    intro w'
                    go_simp
                    with_reducible rfl
                   rotate_left
                   ·
                    simp only [Act.put, List.setIfInBounds_toArray, List.set_cons_zero, List.set_cons_succ, i64_w, i32_w]
                    rfl
                   refine pure_ (i := 2) (N := some 121) (v := ?_) (a' := ?_) #[true, true, true, false, false, false, false, false, false, false, false, false, false, false, false, false, false, false, false, false, false, false] rfl rfl (any_of HT_.out (by kernel_rfl)) (fun _ _ _ h => h) (Or.inl ⟨by rfl, ?_⟩) ?_ ?_
                   rotate_left
                   ·
                    intro w'
                    go_simp
                    with_reducible rfl
                   rotate_left
                   ·
                    simp only [Act.put, List.setIfInBounds_toArray, List.set_cons_zero, List.set_cons_succ, i64_w, i32_w]
                    rfl
                   refine pure_ (i := 3) (N := some 122) (v := ?_) (a' := ?_) #[true, true, true, true, false, false, false, false, false, false, false, false, false, false, false, false, false, false, false, false, false, false] rfl rfl (any_of HT_.out (by kernel_rfl)) (fun _ _ _ h => h) (Or.inl ⟨by rfl, ?_⟩) ?_ ?_
                   rotate_left
                   ·
                    intro w'
                    go_simp
                    with_reducible rfl
                   rotate_left
                   ·
                    simp only [Act.put, List.setIfInBounds_toArray, List.set_cons_zero, List.set_cons_succ, i64_w, i32_w]
                    rfl
                   refine pure_ (i := 4) (N := some 123) (v := ?_) (a' := ?_) #[true, true, true, true, true, false, false, false, false, false, false, false, false, false, false, false, false, false, false, false, false, false] rfl rfl (any_of HT_.out (by kernel_rfl)) (fun _ _ _ h => h) (Or.inl ⟨by rfl, ?_⟩) ?_ ?_
                   rotate_left
                   ·
                    intro w'
                    go_simp
                    with_reducible rfl
                   rotate_left
                   ·
                    simp only [Act.put, List.setIfInBounds_toArray, List.set_cons_zero, List.set_cons_succ, i64_w, i32_w]
                    rfl
                   refine pure_ (i := 5) (N := some 124) (v := ?_) (a' := ?_) #[true, true, true, true, true, true, false, false, false, false, false, false, false, false, false, false, false, false, false, false, false, false] rfl rfl (any_of HT_.out (by kernel_rfl)) (fun _ _ _ h => h) (Or.inl ⟨by rfl, ?_⟩) ?_ ?_
                   rotate_left
                   ·
                    intro w'
                    go_simp
                    with_reducible rfl
                   rotate_left
                   ·
                    simp only [Act.put, List.setIfInBounds_toArray, List.set_cons_zero, List.set_cons_succ, i64_w, i32_w]
                    rfl
                   refine pure_ (i := 7) (N := some 126) (v := ?_) (a' := ?_) #[true, true, true, true, true, true, false, true, false, false, false, false, false, false, false, false, false, false, false, false, false, false] rfl rfl (any_of HT_.out (by kernel_rfl)) (fun _ _ _ h => h) (Or.inl ⟨by rfl, ?_⟩) ?_ ?_
                   rotate_left
                   ·
                    intro w'
                    go_simp
                    with_reducible rfl
                   rotate_left
                   ·
                    simp only [Act.put, List.setIfInBounds_toArray, List.set_cons_zero, List.set_cons_succ, i64_w, i32_w]
                    rfl
                   refine pure_ (i := 8) (N := some 127) (v := ?_) (a' := ?_) #[true, true, true, true, true, true, false, true, true, false, false, false, false, false, false, false, false, false, false, false, false, false] rfl rfl (any_of HT_.out (by kernel_rfl)) (fun _ _ _ h => h) (Or.inl ⟨by rfl, ?_⟩) ?_ ?_
                   rotate_left
                   ·
                    intro w'
                    go_simp
                    with_reducible rfl
                   rotate_left
                   ·
                    simp only [Act.put, List.setIfInBounds_toArray, List.set_cons_zero, List.set_cons_succ, i64_w, i32_w]
                    rfl
                   refine pure_ (i := 9) (N := some 128) (v := ?_) (a' := ?_) #[true, true, true, true, true, true, false, true, true, true, false, false, false, false, false, false, false, false, false, false, false, false] rfl rfl (any_of HT_.out (by kernel_rfl)) (fun _ _ _ h => h) (Or.inl ⟨by rfl, ?_⟩) ?_ ?_
                   rotate_left
                   ·
                    intro w'
                    go_simp
                    with_reducible rfl
                   rotate_left
                   ·
                    simp only [Act.put, List.setIfInBounds_toArray, List.set_cons_zero, List.set_cons_succ, i64_w, i32_w]
                    rfl
                   refine pure_ (i := 10) (N := some 129) (v := ?_) (a' := ?_) #[true, true, true, true, true, true, false, true, true, true, true, false, false, false, false, false, false, false, false, false, false, false] rfl rfl (any_of HT_.out (by kernel_rfl)) (fun _ _ _ h => h) (Or.inl ⟨by rfl, ?_⟩) ?_ ?_
                   rotate_left
                   ·
                    intro w'
                    go_simp
                    with_reducible rfl
                   rotate_left
                   ·
                    simp only [Act.put, List.setIfInBounds_toArray, List.set_cons_zero, List.set_cons_succ, i64_w, i32_w]
                    rfl
                   refine take_ (i := 6) (N := some 125) (v := ?_) (a' := ?_) #[true, true, true, true, true, true, true, true, true, true, true, false, false, false, false, false, false, false, false, false, false, false] rfl rfl (take_ofW HT_.out HW_.out (by kernel_rfl)) (fun _ _ _ h => h) (Or.inl ⟨by rfl, ?_⟩) hHeld ?_ ?_
                   rotate_left
                   ·
                    rintro w' ⟨s0, s1, s2, s3, s4, s5, s6, s7, s8⟩
                    go_simp
                    with_reducible rfl
                   rotate_left
                   ·
                    simp only [Act.put, List.setIfInBounds_toArray, List.set_cons_zero, List.set_cons_succ, i64_w, i32_w]
                    rfl
                   refine take_ (i := 11) (N := some 130) (v := ?_) (a' := ?_) #[true, true, true, true, true, true, true, true, true, true, true, true, false, false, false, false, false, false, false, false, false, false] rfl rfl (take_ofW HT_.out HW_.out (by kernel_rfl)) (fun _ _ _ h => h) (Or.inl ⟨by rfl, ?_⟩) hHeld ?_ ?_
                   rotate_left
                   ·
                    rintro w' ⟨s0, s1, s2, s3, s4, s5, s6, s7, s8⟩
                    go_simp
                    with_reducible rfl
                   rotate_left
                   ·
                    simp only [Act.put, List.setIfInBounds_toArray, List.set_cons_zero, List.set_cons_succ, i64_w, i32_w]
                    rfl
                   refine pure_ (i := 12) (N := some 131) (v := ?_) (a' := ?_) #[true, true, true, true, true, true, true, true, true, true, true, true, true, false, false, false, false, false, false, false, false, false] rfl rfl (any_of HT_.out (by kernel_rfl)) (fun _ _ _ h => h) (Or.inl ⟨by rfl, ?_⟩) ?_ ?_
                   rotate_left
                   ·
                    intro w'
                    go_simp
                    with_reducible rfl
                   rotate_left
                   ·
                    simp only [Act.put, List.setIfInBounds_toArray, List.set_cons_zero, List.set_cons_succ, i64_w, i32_w]
                    rfl
                   refine pure_ (i := 13) (N := some 132) (v := ?_) (a' := ?_) #[true, true, true, true, true, true, true, true, true, true, true, true, true, true, false, false, false, false, false, false, false, false] rfl rfl (any_of HT_.out (by kernel_rfl)) (fun _ _ _ h => h) (Or.inl ⟨by rfl, ?_⟩) ?_ ?_
                   rotate_left
                   ·
                    intro w'
                    go_simp
                    with_reducible rfl
                   rotate_left
                   ·
                    simp only [Act.put, List.setIfInBounds_toArray, List.set_cons_zero, List.set_cons_succ, i64_w, i32_w]
                    rfl
                   refine pure_ (i := 14) (N := some 133) (v := ?_) (a' := ?_) #[true, true, true, true, true, true, true, true, true, true, true, true, true, true, true, false, false, false, false, false, false, false] rfl rfl (any_of HT_.out (by kernel_rfl)) (fun _ _ _ h => h) (Or.inl ⟨by rfl, ?_⟩) ?_ ?_
                   rotate_left
                   ·
                    intro w'
                    go_simp
                    with_reducible rfl
                   rotate_left
                   ·
                    simp only [Act.put, List.setIfInBounds_toArray, List.set_cons_zero, List.set_cons_succ, i64_w, i32_w]
                    rfl
                   refine pure_ (i := 15) (N := some 134) (v := ?_) (a' := ?_) #[true, true, true, true, true, true, true, true, true, true, true, true, true, true, true, true, false, false, false, false, false, false] rfl rfl (any_of HT_.out (by kernel_rfl)) (fun _ _ _ h => h) (Or.inl ⟨by rfl, ?_⟩) ?_ ?_
                   rotate_left
                   ·
                    intro w'
                    go_simp
                    with_reducible rfl
                   rotate_left
                   ·
                    simp only [Act.put, List.setIfInBounds_toArray, List.set_cons_zero, List.set_cons_succ, i64_w, i32_w]
                    rfl
                   refine pure_ (i := 16) (N := some 135) (v := ?_) (a' := ?_) #[true, true, true, true, true, true, true, true, true, true, true, true, true, true, true, true, true, false, false, false, false, false] rfl rfl (any_of HT_.out (by kernel_rfl)) (fun _ _ _ h => h) (Or.inl ⟨by rfl, ?_⟩) ?_ ?_
                   rotate_left
                   ·
                    intro w'
                    go_simp
                    with_reducible rfl
                   rotate_left
                   ·
                    simp only [Act.put, List.setIfInBounds_toArray, List.set_cons_zero, List.set_cons_succ, i64_w, i32_w]
                    rfl
                   refine pure_ (i := 17) (N := some 136) (v := ?_) (a' := ?_) #[true, true, true, true, true, true, true, true, true, true, true, true, true, true, true, true, true, true, false, false, false, false] rfl rfl (any_of HT_.out (by kernel_rfl)) (fun _ _ _ h => h) (Or.inl ⟨by rfl, ?_⟩) ?_ ?_
                   rotate_left
                   ·
                    intro w'
                    go_simp
                    with_reducible rfl
                   rotate_left
                   ·
                    simp only [Act.put, List.setIfInBounds_toArray, List.set_cons_zero, List.set_cons_succ, i64_w, i32_w]
                    rfl
                   refine take_ (i := 18) (N := some 137) (v := ?_) (a' := ?_) #[true, true, true, true, true, true, true, true, true, true, true, true, true, true, true, true, true, true, true, false, false, false] rfl rfl (take_ofW HT_.out HW_.out (by kernel_rfl)) (fun _ _ _ h => h) (Or.inl ⟨by rfl, ?_⟩) hHeld ?_ ?_
                   rotate_left
                   ·
                    rintro w' ⟨s0, s1, s2, s3, s4, s5, s6, s7, s8⟩
                    go_simp
                    with_reducible rfl
                   rotate_left
                   ·
                    simp only [Act.put, List.setIfInBounds_toArray, List.set_cons_zero, List.set_cons_succ, i64_w, i32_w]
                    rfl
                   refine pure_ (i := 19) (N := some 138) (v := ?_) (a' := ?_) #[true, true, true, true, true, true, true, true, true, true, true, true, true, true, true, true, true, true, true, true, false, false] rfl rfl (any_of HT_.out (by kernel_rfl)) (fun _ _ _ h => h) (Or.inl ⟨by rfl, ?_⟩) ?_ ?_
                   rotate_left
                   ·
                    intro w'
                    go_simp
                    with_reducible rfl
                   rotate_left
                   ·
                    simp only [Act.put, List.setIfInBounds_toArray, List.set_cons_zero, List.set_cons_succ, i64_w, i32_w]
                    rfl
                   refine pure_ (i := 20) (N := some 139) (v := ?_) (a' := ?_) #[true, true, true, true, true, true, true, true, true, true, true, true, true, true, true, true, true, true, true, true, true, false] rfl rfl (any_of HT_.out (by kernel_rfl)) (fun _ _ _ h => h) (Or.inl ⟨by rfl, ?_⟩) ?_ ?_
                   rotate_left
                   ·
                    intro w'
                    go_simp
                    with_reducible rfl
                   rotate_left
                   ·
                    simp only [Act.put, List.setIfInBounds_toArray, List.set_cons_zero, List.set_cons_succ, i64_w, i32_w]
                    rfl
                   refine pure_ (i := 21) (N := some 24) (v := ?_) (a' := ?_) #[true, true, true, true, true, true, true, true, true, true, true, true, true, true, true, true, true, true, true, true, true, true] rfl rfl (any_of HT_.out (by kernel_rfl)) (fun _ _ _ h => h) (Or.inl ⟨by rfl, ?_⟩) ?_ ?_
                   rotate_left
                   ·
                    intro w'
                    go_simp
                    with_reducible rfl
                   rotate_left
                   ·
                    simp only [Act.put, List.setIfInBounds_toArray, List.set_cons_zero, List.set_cons_succ, i64_w, i32_w]
                    rfl
                   refine done_ (done_of HT_.out (by kernel_rfl)) ?_
                   try go_wp2
                   go_roundg k4
                   case measure => have := HK1.out; have := HJ28.out; have := HK3.out; have := HK4.out; omega
                   case rel => exact ⟨((rd_T60 t694 x25_4).f2), (wrap64 (x25_4 + 1)), (by first | rfl | (simp; done) | (simp [*]; done)), (by first | rfl | (simp; done) | (simp [*]; done)), H', ⟨by have := HK1.out; have := HJ28.out; have := HK3.out; have := HK4.out; omega⟩, ⟨by (with_reducible repeat (first | apply Kd.R_alloc | apply Kd.R_drewN | apply Kd.R_drew)); exact HO_11.out⟩, ⟨by (with_reducible repeat (first | apply Kd.R_alloc | apply Kd.R_drewN | apply Kd.R_drew)); exact HO_14.out⟩, ⟨by (with_reducible repeat (first | apply Kd.R_alloc | apply Kd.R_drewN | apply Kd.R_drew)); exact HO_16.out⟩, ⟨by (with_reducible repeat (first | apply Kd.R_alloc | apply Kd.R_drewN | apply Kd.R_drew)); exact HO_694000.out⟩, ⟨by (with_reducible repeat (first | refine blk_drewN ?_ _ | refine blk_drew ?_ | refine blk_alloc ?_ _)); exact BK693.out⟩, ⟨by repeat (first | (with_reducible first | exact HB.out | apply below_alloc | apply pw_below_drewN | apply below_drew1 | refine below_set ?_ GE693.out) | exact HB.out)⟩⟩
                  ·
                   rw [if_neg c57] at H
                   have c57b0 : (((rd_T60 t694 x25_4).f0) == ((rd_T39 t702 x23_3).f0)) = false := beq_eq_false_iff_ne.mpr c57
                   have c57b1 : (((rd_T60 t694 x25_4).f0) != ((rd_T39 t702 x23_3).f0)) = true := bne_iff_ne.mpr c57
                   have H' := Aside0.mk H
                   clear H
                   try go_wp2
                   have n0_ := Aside0.mk (Kd.R_drew HO_11.out)
                   have n1_ := Aside0.mk (Kd.R_drew HO_14.out)
                   have n2_ := Aside0.mk (Kd.R_drew HO_16.out)
                   have n3_ := Aside0.mk (Kd.R_drew HO_694000.out)
                   have n4_ := Aside0.mk (blk_drew BK693.out)
                   have n5_ := Aside0.mk (below_drew1 HB.out)
                   clear HO_11
                   clear HO_14
                   clear HO_16
                   clear HO_694000
                   clear BK693
                   clear HB
                   have HO_11 := n0_
                   have HO_14 := n1_
                   have HO_16 := n2_
                   have HO_694000 := n3_
                   have BK693 := n4_
                   have HB := n5_
                   clear n0_ n1_ n2_ n3_ n4_ n5_
                   have p716 : 0 ≤ (x25_4 : Int) := of_decide_eq_true (by first | (with_reducible assumption) | assumption)
                   have q716 : x25_4 < (t694.length : Int) := of_decide_eq_true (by first | (with_reducible assumption) | assumption)
                   obtain ⟨ad716, e716, hx716_0, hx716_1, hx716_2⟩ := at_T60 (Kd.R_reads' HO_11.out).2.2 x25_4 p716 q716
                   cases e716
                   replace p716 := eq_true p716
                   replace q716 := eq_true q716
                   have p717 : 0 ≤ (x23_3 : Int) := of_decide_eq_true (by first | (with_reducible assumption) | assumption)
                   have q717 : x23_3 < (t702.length : Int) := of_decide_eq_true (by first | (with_reducible assumption) | assumption)
                   obtain ⟨ad717, e717, hx717_0, hx717_1, hx717_2⟩ := at_T39 (Kd.R_reads' HO_14.out).2.2 x23_3 p717 q717
                   cases e717
                   replace p717 := eq_true p717
                   replace q717 := eq_true q717
                   refine start_ (n := 22) (S := fun w' => w'.cell? (ad716.add ((x25_4).toNat * 3)) = some (.int .i64 ((rd_T60 t694 x25_4).f0)) ∧ w'.cell? ⟨(ad716.add ((x25_4).toNat * 3)).block, (ad716.add ((x25_4).toNat * 3)).off + 1, none⟩ = some (.int .i64 ((rd_T60 t694 x25_4).f1)) ∧ w'.cell? ⟨(ad716.add ((x25_4).toNat * 3)).block, (ad716.add ((x25_4).toNat * 3)).off + 2, none⟩ = some (.bool ((rd_T60 t694 x25_4).f2)) ∧ w'.cell? (ad717.add ((x23_3).toNat * 3)) = some (.int .i64 ((rd_T39 t702 x23_3).f0)) ∧ w'.cell? ⟨(ad717.add ((x23_3).toNat * 3)).block, (ad717.add ((x23_3).toNat * 3)).off + 1, none⟩ = some (.int .i64 ((rd_T39 t702 x23_3).f1)) ∧ w'.cell? ⟨(ad717.add ((x23_3).toNat * 3)).block, (ad717.add ((x23_3).toNat * 3)).off + 2, none⟩ = some (.int .i64 ((rd_T39 t702 x23_3).f2))) (ds := []) #[false, false, false, false, false, false, false, false, false, false, false, false, false, false, false, false, false, false, false, false, false, false] (by kernel_rfl) rfl rfl ⟨hx716_0, hx716_1, hx716_2, hx717_0, hx717_1, hx717_2⟩ (fun hHeld => ?_); refine with_tabW dialtonelaw34_RecoveryUrgent.tab26 dialtonelaw34_RecoveryUrgent.bits26 (fun HT_ HW_ => ?_)
                   generalize wr.drew = w59 at HO_11 HO_14 HO_16 HO_694000 BK693 HB hx716_0 hx716_1 hx716_2 hx717_0 hx717_1 hx717_2 hHeld ⊢
                   refine pure_ (i := 0) (N := some 119) (v := ?_) (a' := ?_) #[true, false, false, false, false, false, false, false, false, false, false, false, false, false, false, false, false, false, false, false, false, false] rfl rfl (any_of HT_.out (by kernel_rfl)) (fun _ _ _ h => h) (Or.inl ⟨by rfl, ?_⟩) ?_ ?_
                   rotate_left
                   ·
                    intro w'
                    go_simp
                    with_reducible rfl
                   rotate_left
                   ·
                    simp only [Act.put, List.setIfInBounds_toArray, List.set_cons_zero, List.set_cons_succ, i64_w, i32_w]
                    rfl
                   refine pure_ (i := 1) (N := some 120) (v := ?_) (a' := ?_) #[true, true, false, false, false, false, false, false, false, false, false, false, false, false, false, false, false, false, false, false, false, false] rfl rfl (any_of HT_.out (by kernel_rfl)) (fun _ _ _ h => h) (Or.inl ⟨by rfl, ?_⟩) ?_ ?_
                   rotate_left
                   ·
                    intro w'
                    go_simp
                    with_reducible rfl
                   rotate_left
                   ·
                    simp only [Act.put, List.setIfInBounds_toArray, List.set_cons_zero, List.set_cons_succ, i64_w, i32_w]
                    rfl
                   refine pure_ (i := 2) (N := some 121) (v := ?_) (a' := ?_) #[true, true, true, false, false, false, false, false, false, false, false, false, false, false, false, false, false, false, false, false, false, false] rfl rfl (any_of HT_.out (by kernel_rfl)) (fun _ _ _ h => h) (Or.inl ⟨by rfl, ?_⟩) ?_ ?_
                   rotate_left
                   ·
                    intro w'
                    go_simp
                    with_reducible rfl
                   rotate_left
                   ·
                    simp only [Act.put, List.setIfInBounds_toArray, List.set_cons_zero, List.set_cons_succ, i64_w, i32_w]
                    rfl
                   refine pure_ (i := 3) (N := some 122) (v := ?_) (a' := ?_) #[true, true, true, true, false, false, false, false, false, false, false, false, false, false, false, false, false, false, false, false, false, false] rfl rfl (any_of HT_.out (by kernel_rfl)) (fun _ _ _ h => h) (Or.inl ⟨by rfl, ?_⟩) ?_ ?_
                   rotate_left
                   ·
                    intro w'
                    go_simp
                    with_reducible rfl
                   rotate_left
                   ·
                    simp only [Act.put, List.setIfInBounds_toArray, List.set_cons_zero, List.set_cons_succ, i64_w, i32_w]
                    rfl
                   refine pure_ (i := 4) (N := some 123) (v := ?_) (a' := ?_) #[true, true, true, true, true, false, false, false, false, false, false, false, false, false, false, false, false, false, false, false, false, false] rfl rfl (any_of HT_.out (by kernel_rfl)) (fun _ _ _ h => h) (Or.inl ⟨by rfl, ?_⟩) ?_ ?_
                   rotate_left
                   ·
                    intro w'
                    go_simp
                    with_reducible rfl
                   rotate_left
                   ·
                    simp only [Act.put, List.setIfInBounds_toArray, List.set_cons_zero, List.set_cons_succ, i64_w, i32_w]
                    rfl
                   refine pure_ (i := 5) (N := some 124) (v := ?_) (a' := ?_) #[true, true, true, true, true, true, false, false, false, false, false, false, false, false, false, false, false, false, false, false, false, false] rfl rfl (any_of HT_.out (by kernel_rfl)) (fun _ _ _ h => h) (Or.inl ⟨by rfl, ?_⟩) ?_ ?_
                   rotate_left
                   ·
                    intro w'
                    go_simp
                    with_reducible rfl
                   rotate_left
                   ·
                    simp only [Act.put, List.setIfInBounds_toArray, List.set_cons_zero, List.set_cons_succ, i64_w, i32_w]
                    rfl
                   refine pure_ (i := 7) (N := some 126) (v := ?_) (a' := ?_) #[true, true, true, true, true, true, false, true, false, false, false, false, false, false, false, false, false, false, false, false, false, false] rfl rfl (any_of HT_.out (by kernel_rfl)) (fun _ _ _ h => h) (Or.inl ⟨by rfl, ?_⟩) ?_ ?_
                   rotate_left
                   ·
                    intro w'
                    go_simp
                    with_reducible rfl
                   rotate_left
                   ·
                    simp only [Act.put, List.setIfInBounds_toArray, List.set_cons_zero, List.set_cons_succ, i64_w, i32_w]
                    rfl
                   refine pure_ (i := 8) (N := some 127) (v := ?_) (a' := ?_) #[true, true, true, true, true, true, false, true, true, false, false, false, false, false, false, false, false, false, false, false, false, false] rfl rfl (any_of HT_.out (by kernel_rfl)) (fun _ _ _ h => h) (Or.inl ⟨by rfl, ?_⟩) ?_ ?_
                   rotate_left
                   ·
                    intro w'
                    go_simp
                    with_reducible rfl
                   rotate_left
                   ·
                    simp only [Act.put, List.setIfInBounds_toArray, List.set_cons_zero, List.set_cons_succ, i64_w, i32_w]
                    rfl
                   refine pure_ (i := 9) (N := some 128) (v := ?_) (a' := ?_) #[true, true, true, true, true, true, false, true, true, true, false, false, false, false, false, false, false, false, false, false, false, false] rfl rfl (any_of HT_.out (by kernel_rfl)) (fun _ _ _ h => h) (Or.inl ⟨by rfl, ?_⟩) ?_ ?_
                   rotate_left
                   ·
                    intro w'
                    go_simp
                    with_reducible rfl
                   rotate_left
                   ·
                    simp only [Act.put, List.setIfInBounds_toArray, List.set_cons_zero, List.set_cons_succ, i64_w, i32_w]
                    rfl
                   refine pure_ (i := 10) (N := some 129) (v := ?_) (a' := ?_) #[true, true, true, true, true, true, false, true, true, true, true, false, false, false, false, false, false, false, false, false, false, false] rfl rfl (any_of HT_.out (by kernel_rfl)) (fun _ _ _ h => h) (Or.inl ⟨by rfl, ?_⟩) ?_ ?_
                   rotate_left
                   ·
                    intro w'
                    go_simp
                    with_reducible rfl
                   rotate_left
                   ·
                    simp only [Act.put, List.setIfInBounds_toArray, List.set_cons_zero, List.set_cons_succ, i64_w, i32_w]
                    rfl
                   refine take_ (i := 6) (N := some 125) (v := ?_) (a' := ?_) #[true, true, true, true, true, true, true, true, true, true, true, false, false, false, false, false, false, false, false, false, false, false] rfl rfl (take_ofW HT_.out HW_.out (by kernel_rfl)) (fun _ _ _ h => h) (Or.inl ⟨by rfl, ?_⟩) hHeld ?_ ?_
                   rotate_left
                   ·
                    rintro w' ⟨s0, s1, s2, s3, s4, s5⟩
                    go_simp
                    with_reducible rfl
                   rotate_left
                   ·
                    simp only [Act.put, List.setIfInBounds_toArray, List.set_cons_zero, List.set_cons_succ, i64_w, i32_w]
                    rfl
                   refine take_ (i := 11) (N := some 130) (v := ?_) (a' := ?_) #[true, true, true, true, true, true, true, true, true, true, true, true, false, false, false, false, false, false, false, false, false, false] rfl rfl (take_ofW HT_.out HW_.out (by kernel_rfl)) (fun _ _ _ h => h) (Or.inl ⟨by rfl, ?_⟩) hHeld ?_ ?_
                   rotate_left
                   ·
                    rintro w' ⟨s0, s1, s2, s3, s4, s5⟩
                    go_simp
                    with_reducible rfl
                   rotate_left
                   ·
                    simp only [Act.put, List.setIfInBounds_toArray, List.set_cons_zero, List.set_cons_succ, i64_w, i32_w]
                    rfl
                   refine pure_ (i := 12) (N := some 131) (v := ?_) (a' := ?_) #[true, true, true, true, true, true, true, true, true, true, true, true, true, false, false, false, false, false, false, false, false, false] rfl rfl (any_of HT_.out (by kernel_rfl)) (fun _ _ _ h => h) (Or.inl ⟨by rfl, ?_⟩) ?_ ?_
                   rotate_left
                   ·
                    intro w'
                    go_simp
                    with_reducible rfl
                   rotate_left
                   ·
                    simp only [Act.put, List.setIfInBounds_toArray, List.set_cons_zero, List.set_cons_succ, i64_w, i32_w]
                    rfl
                   refine pure_ (i := 13) (N := some 132) (v := ?_) (a' := ?_) #[true, true, true, true, true, true, true, true, true, true, true, true, true, true, false, false, false, false, false, false, false, false] rfl rfl (any_of HT_.out (by kernel_rfl)) (fun _ _ _ h => h) (Or.inl ⟨by rfl, ?_⟩) ?_ ?_
                   rotate_left
                   ·
                    intro w'
                    go_simp
                    with_reducible rfl
                   rotate_left
                   ·
                    simp only [Act.put, List.setIfInBounds_toArray, List.set_cons_zero, List.set_cons_succ, i64_w, i32_w]
                    rfl
                   refine pure_ (i := 14) (N := some 133) (v := undef) (a' := ?_) #[true, true, true, true, true, true, true, true, true, true, true, true, true, true, true, false, false, false, false, false, false, false] rfl rfl (any_of HT_.out (by kernel_rfl)) (fun _ _ _ h => h) (Or.inr ⟨by rfl, rfl⟩) ?_ ?_
                   rotate_left
                   ·
                    simp only [Act.put, List.setIfInBounds_toArray, List.set_cons_zero, List.set_cons_succ, i64_w, i32_w]
                    rfl
                   refine pure_ (i := 15) (N := some 134) (v := undef) (a' := ?_) #[true, true, true, true, true, true, true, true, true, true, true, true, true, true, true, true, false, false, false, false, false, false] rfl rfl (any_of HT_.out (by kernel_rfl)) (fun _ _ _ h => h) (Or.inr ⟨by rfl, rfl⟩) ?_ ?_
                   rotate_left
                   ·
                    simp only [Act.put, List.setIfInBounds_toArray, List.set_cons_zero, List.set_cons_succ, i64_w, i32_w]
                    rfl
                   refine pure_ (i := 16) (N := some 135) (v := undef) (a' := ?_) #[true, true, true, true, true, true, true, true, true, true, true, true, true, true, true, true, true, false, false, false, false, false] rfl rfl (any_of HT_.out (by kernel_rfl)) (fun _ _ _ h => h) (Or.inr ⟨by rfl, rfl⟩) ?_ ?_
                   rotate_left
                   ·
                    simp only [Act.put, List.setIfInBounds_toArray, List.set_cons_zero, List.set_cons_succ, i64_w, i32_w]
                    rfl
                   refine pure_ (i := 17) (N := some 136) (v := undef) (a' := ?_) #[true, true, true, true, true, true, true, true, true, true, true, true, true, true, true, true, true, true, false, false, false, false] rfl rfl (any_of HT_.out (by kernel_rfl)) (fun _ _ _ h => h) (Or.inr ⟨by rfl, rfl⟩) ?_ ?_
                   rotate_left
                   ·
                    simp only [Act.put, List.setIfInBounds_toArray, List.set_cons_zero, List.set_cons_succ, i64_w, i32_w]
                    rfl
                   refine pure_ (i := 18) (N := some 137) (v := undef) (a' := ?_) #[true, true, true, true, true, true, true, true, true, true, true, true, true, true, true, true, true, true, true, false, false, false] rfl rfl (any_of HT_.out (by kernel_rfl)) (fun _ _ _ h => h) (Or.inr ⟨by rfl, rfl⟩) ?_ ?_
                   rotate_left
                   ·
                    simp only [Act.put, List.setIfInBounds_toArray, List.set_cons_zero, List.set_cons_succ, i64_w, i32_w]
                    rfl
                   refine pure_ (i := 19) (N := some 138) (v := ?_) (a' := ?_) #[true, true, true, true, true, true, true, true, true, true, true, true, true, true, true, true, true, true, true, true, false, false] rfl rfl (any_of HT_.out (by kernel_rfl)) (fun _ _ _ h => h) (Or.inl ⟨by rfl, ?_⟩) ?_ ?_
                   rotate_left
                   ·
                    intro w'
                    go_simp
                    with_reducible rfl
                   rotate_left
                   ·
                    simp only [Act.put, List.setIfInBounds_toArray, List.set_cons_zero, List.set_cons_succ, i64_w, i32_w]
                    rfl
                   refine pure_ (i := 20) (N := some 139) (v := ?_) (a' := ?_) #[true, true, true, true, true, true, true, true, true, true, true, true, true, true, true, true, true, true, true, true, true, false] rfl rfl (any_of HT_.out (by kernel_rfl)) (fun _ _ _ h => h) (Or.inl ⟨by rfl, ?_⟩) ?_ ?_
                   rotate_left
                   ·
                    intro w'
                    go_simp
                    with_reducible rfl
                   rotate_left
                   ·
                    simp only [Act.put, List.setIfInBounds_toArray, List.set_cons_zero, List.set_cons_succ, i64_w, i32_w]
                    rfl
                   refine pure_ (i := 21) (N := some 24) (v := ?_) (a' := ?_) #[true, true, true, true, true, true, true, true, true, true, true, true, true, true, true, true, true, true, true, true, true, true] rfl rfl (any_of HT_.out (by kernel_rfl)) (fun _ _ _ h => h) (Or.inl ⟨by rfl, ?_⟩) ?_ ?_
                   rotate_left
                   ·
                    intro w'
                    go_simp
                    with_reducible rfl
                   rotate_left
                   ·
                    simp only [Act.put, List.setIfInBounds_toArray, List.set_cons_zero, List.set_cons_succ, i64_w, i32_w]
                    rfl
                   refine done_ (done_of HT_.out (by kernel_rfl)) ?_
                   try go_wp2
                   go_roundg k4
                   case measure => have := HK1.out; have := HJ28.out; have := HK3.out; have := HK4.out; omega
                   case rel => exact ⟨(false), (wrap64 (x25_4 + 1)), (by first | rfl | (simp; done) | (simp [*]; done)), (by first | rfl | (simp; done) | (simp [*]; done)), H', ⟨by have := HK1.out; have := HJ28.out; have := HK3.out; have := HK4.out; omega⟩, ⟨by (with_reducible repeat (first | apply Kd.R_alloc | apply Kd.R_drewN | apply Kd.R_drew)); exact HO_11.out⟩, ⟨by (with_reducible repeat (first | apply Kd.R_alloc | apply Kd.R_drewN | apply Kd.R_drew)); exact HO_14.out⟩, ⟨by (with_reducible repeat (first | apply Kd.R_alloc | apply Kd.R_drewN | apply Kd.R_drew)); exact HO_16.out⟩, ⟨by (with_reducible repeat (first | apply Kd.R_alloc | apply Kd.R_drewN | apply Kd.R_drew)); exact HO_694000.out⟩, ⟨by (with_reducible repeat (first | refine blk_drewN ?_ _ | refine blk_drew ?_ | refine blk_alloc ?_ _)); exact BK693.out⟩, ⟨by repeat (first | (with_reducible first | exact HB.out | apply below_alloc | apply pw_below_drewN | apply below_drew1 | refine below_set ?_ GE693.out) | exact HB.out)⟩⟩
                 ·
                  rw [if_neg c56] at H
                  exact absurd H (by simp)
                ·
                 rw [if_neg c55] at H
                 exact absurd H (by simp)
               ·
                rw [if_neg c54] at H
                exact absurd H (by simp)
             ·
              rw [if_neg c51] at H
              have c51b0 : decide (x25_4 < (t694.length : Int)) = false := decide_eq_false c51
              clear c51
              by_cases c60 : x24_4 = true
              ·
               subst c60
               have H1 : (if 0 ≤ x23_3 then (if x23_3 < (t702.length : Int) then (if ((rd_T39 t702 x23_3).f2) = ((rd_T39 t702 x23_3).f1) then (dialtonelaw34_RecoveryUrgent.l1 k4 t694 t702 t706 x22_3 (wrap64 (x23_3 + 1))) else (none)) else (none)) else (none)) = some r := by rw [if_pos rfl] at H; exact H
               clear H
               have H := H1
               clear H1
               by_cases c61 : 0 ≤ x23_3
               ·
                rw [if_pos c61] at H
                have c61b0 : decide (0 ≤ x23_3) = true := decide_eq_true c61
                clear c61
                by_cases c62 : x23_3 < (t702.length : Int)
                ·
                 rw [if_pos c62] at H
                 have c62b0 : decide (x23_3 < (t702.length : Int)) = true := decide_eq_true c62
                 clear c62
                 by_cases c63 : ((rd_T39 t702 x23_3).f2) = ((rd_T39 t702 x23_3).f1)
                 ·
                  rw [if_pos c63] at H
                  have c63b0 : (((rd_T39 t702 x23_3).f2) == ((rd_T39 t702 x23_3).f1)) = true := beq_iff_eq.mpr c63
                  have c63b1 : (((rd_T39 t702 x23_3).f2) != ((rd_T39 t702 x23_3).f1)) = false := bne_eq_false_iff_eq.mpr c63
                  clear c63
                  have H' := Aside0.mk H
                  clear H
                  try go_wp2
                  have n0_ := Aside0.mk (Kd.R_drew HO_11.out)
                  have n1_ := Aside0.mk (Kd.R_drew HO_14.out)
                  have n2_ := Aside0.mk (Kd.R_drew HO_16.out)
                  have n3_ := Aside0.mk (Kd.R_drew HO_694000.out)
                  have n4_ := Aside0.mk (blk_drew BK693.out)
                  have n5_ := Aside0.mk (below_drew1 HB.out)
                  clear HO_11
                  clear HO_14
                  clear HO_16
                  clear HO_694000
                  clear BK693
                  clear HB
                  have HO_11 := n0_
                  have HO_14 := n1_
                  have HO_16 := n2_
                  have HO_694000 := n3_
                  have BK693 := n4_
                  have HB := n5_
                  clear n0_ n1_ n2_ n3_ n4_ n5_
                  have p719 : 0 ≤ (x23_3 : Int) := of_decide_eq_true (by first | (with_reducible assumption) | assumption)
                  have q719 : x23_3 < (t702.length : Int) := of_decide_eq_true (by first | (with_reducible assumption) | assumption)
                  obtain ⟨ad719, e719, hx719_0, hx719_1, hx719_2⟩ := at_T39 (Kd.R_reads' HO_14.out).2.2 x23_3 p719 q719
                  cases e719
                  replace p719 := eq_true p719
                  replace q719 := eq_true q719
                  have p720 : 0 ≤ (x23_3 : Int) := of_decide_eq_true (by first | (with_reducible assumption) | assumption)
                  have q720 : x23_3 < (t702.length : Int) := of_decide_eq_true (by first | (with_reducible assumption) | assumption)
                  obtain ⟨ad720, e720, hx720_0, hx720_1, hx720_2⟩ := at_T39 (Kd.R_reads' HO_14.out).2.2 x23_3 p720 q720
                  obtain rfl : ad719 = ad720 := (by injection e720)
                  replace p720 := eq_true p720
                  replace q720 := eq_true q720
                  refine start_ (n := 11) (S := fun w' => w'.cell? (ad719.add ((x23_3).toNat * 3)) = some (.int .i64 ((rd_T39 t702 x23_3).f0)) ∧ w'.cell? ⟨(ad719.add ((x23_3).toNat * 3)).block, (ad719.add ((x23_3).toNat * 3)).off + 1, none⟩ = some (.int .i64 ((rd_T39 t702 x23_3).f1)) ∧ w'.cell? ⟨(ad719.add ((x23_3).toNat * 3)).block, (ad719.add ((x23_3).toNat * 3)).off + 2, none⟩ = some (.int .i64 ((rd_T39 t702 x23_3).f2)) ∧ w'.cell? (ad719.add ((x23_3).toNat * 3)) = some (.int .i64 ((rd_T39 t702 x23_3).f0)) ∧ w'.cell? ⟨(ad719.add ((x23_3).toNat * 3)).block, (ad719.add ((x23_3).toNat * 3)).off + 1, none⟩ = some (.int .i64 ((rd_T39 t702 x23_3).f1)) ∧ w'.cell? ⟨(ad719.add ((x23_3).toNat * 3)).block, (ad719.add ((x23_3).toNat * 3)).off + 2, none⟩ = some (.int .i64 ((rd_T39 t702 x23_3).f2))) (ds := []) #[false, false, false, false, false, false, false, false, false, false, false] (by kernel_rfl) rfl rfl ⟨hx719_0, hx719_1, hx719_2, hx720_0, hx720_1, hx720_2⟩ (fun hHeld => ?_); refine with_tabW dialtonelaw34_RecoveryUrgent.tab28 dialtonelaw34_RecoveryUrgent.bits28 (fun HT_ HW_ => ?_)
                  generalize wr.drew = w64 at HO_11 HO_14 HO_16 HO_694000 BK693 HB hx719_0 hx719_1 hx719_2 hx720_0 hx720_1 hx720_2 hHeld ⊢
                  refine pure_ (i := 0) (N := some 141) (v := ?_) (a' := ?_) #[true, false, false, false, false, false, false, false, false, false, false] rfl rfl (any_of HT_.out (by kernel_rfl)) (fun _ _ _ h => h) (Or.inl ⟨by rfl, ?_⟩) ?_ ?_
                  rotate_left
                  ·
                   intro w'
                   go_simp
                   with_reducible rfl
                  rotate_left
                  ·
                   simp only [Act.put, List.setIfInBounds_toArray, List.set_cons_zero, List.set_cons_succ, i64_w, i32_w]
                   rfl
                  refine pure_ (i := 1) (N := some 142) (v := ?_) (a' := ?_) #[true, true, false, false, false, false, false, false, false, false, false] rfl rfl (any_of HT_.out (by kernel_rfl)) (fun _ _ _ h => h) (Or.inl ⟨by rfl, ?_⟩) ?_ ?_
                  rotate_left
                  ·
                   intro w'
                   go_simp
                   with_reducible rfl
                  rotate_left
                  ·
                   simp only [Act.put, List.setIfInBounds_toArray, List.set_cons_zero, List.set_cons_succ, i64_w, i32_w]
                   rfl
                  refine pure_ (i := 2) (N := some 143) (v := ?_) (a' := ?_) #[true, true, true, false, false, false, false, false, false, false, false] rfl rfl (any_of HT_.out (by kernel_rfl)) (fun _ _ _ h => h) (Or.inl ⟨by rfl, ?_⟩) ?_ ?_
                  rotate_left
                  ·
                   intro w'
                   go_simp
                   with_reducible rfl
                  rotate_left
                  ·
                   simp only [Act.put, List.setIfInBounds_toArray, List.set_cons_zero, List.set_cons_succ, i64_w, i32_w]
                   rfl
                  refine pure_ (i := 3) (N := some 144) (v := ?_) (a' := ?_) #[true, true, true, true, false, false, false, false, false, false, false] rfl rfl (any_of HT_.out (by kernel_rfl)) (fun _ _ _ h => h) (Or.inl ⟨by rfl, ?_⟩) ?_ ?_
                  rotate_left
                  ·
                   intro w'
                   go_simp
                   with_reducible rfl
                  rotate_left
                  ·
                   simp only [Act.put, List.setIfInBounds_toArray, List.set_cons_zero, List.set_cons_succ, i64_w, i32_w]
                   rfl
                  refine pure_ (i := 5) (N := some 146) (v := ?_) (a' := ?_) #[true, true, true, true, false, true, false, false, false, false, false] rfl rfl (any_of HT_.out (by kernel_rfl)) (fun _ _ _ h => h) (Or.inl ⟨by rfl, ?_⟩) ?_ ?_
                  rotate_left
                  ·
                   intro w'
                   go_simp
                   with_reducible rfl
                  rotate_left
                  ·
                   simp only [Act.put, List.setIfInBounds_toArray, List.set_cons_zero, List.set_cons_succ, i64_w, i32_w]
                   rfl
                  refine pure_ (i := 6) (N := some 147) (v := ?_) (a' := ?_) #[true, true, true, true, false, true, true, false, false, false, false] rfl rfl (any_of HT_.out (by kernel_rfl)) (fun _ _ _ h => h) (Or.inl ⟨by rfl, ?_⟩) ?_ ?_
                  rotate_left
                  ·
                   intro w'
                   go_simp
                   with_reducible rfl
                  rotate_left
                  ·
                   simp only [Act.put, List.setIfInBounds_toArray, List.set_cons_zero, List.set_cons_succ, i64_w, i32_w]
                   rfl
                  refine pure_ (i := 7) (N := some 148) (v := ?_) (a' := ?_) #[true, true, true, true, false, true, true, true, false, false, false] rfl rfl (any_of HT_.out (by kernel_rfl)) (fun _ _ _ h => h) (Or.inl ⟨by rfl, ?_⟩) ?_ ?_
                  rotate_left
                  ·
                   intro w'
                   go_simp
                   with_reducible rfl
                  rotate_left
                  ·
                   simp only [Act.put, List.setIfInBounds_toArray, List.set_cons_zero, List.set_cons_succ, i64_w, i32_w]
                   rfl
                  refine pure_ (i := 8) (N := some 149) (v := ?_) (a' := ?_) #[true, true, true, true, false, true, true, true, true, false, false] rfl rfl (any_of HT_.out (by kernel_rfl)) (fun _ _ _ h => h) (Or.inl ⟨by rfl, ?_⟩) ?_ ?_
                  rotate_left
                  ·
                   intro w'
                   go_simp
                   with_reducible rfl
                  rotate_left
                  ·
                   simp only [Act.put, List.setIfInBounds_toArray, List.set_cons_zero, List.set_cons_succ, i64_w, i32_w]
                   rfl
                  refine take_ (i := 4) (N := some 145) (v := ?_) (a' := ?_) #[true, true, true, true, true, true, true, true, true, false, false] rfl rfl (take_ofW HT_.out HW_.out (by kernel_rfl)) (fun _ _ _ h => h) (Or.inl ⟨by rfl, ?_⟩) hHeld ?_ ?_
                  rotate_left
                  ·
                   rintro w' ⟨s0, s1, s2, s3, s4, s5⟩
                   go_simp
                   with_reducible rfl
                  rotate_left
                  ·
                   simp only [Act.put, List.setIfInBounds_toArray, List.set_cons_zero, List.set_cons_succ, i64_w, i32_w]
                   rfl
                  refine take_ (i := 9) (N := some 150) (v := ?_) (a' := ?_) #[true, true, true, true, true, true, true, true, true, true, false] rfl rfl (take_ofW HT_.out HW_.out (by kernel_rfl)) (fun _ _ _ h => h) (Or.inl ⟨by rfl, ?_⟩) hHeld ?_ ?_
                  rotate_left
                  ·
                   rintro w' ⟨s0, s1, s2, s3, s4, s5⟩
                   go_simp
                   with_reducible rfl
                  rotate_left
                  ·
                   simp only [Act.put, List.setIfInBounds_toArray, List.set_cons_zero, List.set_cons_succ, i64_w, i32_w]
                   rfl
                  refine pure_ (i := 10) (N := some 151) (v := ?_) (a' := ?_) #[true, true, true, true, true, true, true, true, true, true, true] rfl rfl (any_of HT_.out (by kernel_rfl)) (fun _ _ _ h => h) (Or.inl ⟨by rfl, ?_⟩) ?_ ?_
                  rotate_left
                  ·
                   intro w'
                   go_simp
                   with_reducible rfl
                  rotate_left
                  ·
                   simp only [Act.put, List.setIfInBounds_toArray, List.set_cons_zero, List.set_cons_succ, i64_w, i32_w]
                   rfl
                  refine done_ (done_of HT_.out (by kernel_rfl)) ?_
                  try go_wp2
                  go_roundg k4
                  case measure => have := HK1.out; have := HJ28.out; have := HK3.out; have := HK4.out; omega
                  case rel => exact ⟨(x22_3), (wrap64 (x23_3 + 1)), (by first | rfl | (simp; done) | (simp [*]; done)), (by first | rfl | (simp; done) | (simp [*]; done)), H', ⟨by have := HK1.out; have := HJ28.out; have := HK3.out; have := HK4.out; omega⟩, ⟨by (with_reducible repeat (first | apply Kd.R_alloc | apply Kd.R_drewN | apply Kd.R_drew)); exact HO_11.out⟩, ⟨by (with_reducible repeat (first | apply Kd.R_alloc | apply Kd.R_drewN | apply Kd.R_drew)); exact HO_14.out⟩, ⟨by (with_reducible repeat (first | apply Kd.R_alloc | apply Kd.R_drewN | apply Kd.R_drew)); exact HO_16.out⟩, ⟨by (with_reducible repeat (first | apply Kd.R_alloc | apply Kd.R_drewN | apply Kd.R_drew)); exact HO_694000.out⟩, ⟨by (with_reducible repeat (first | refine blk_drewN ?_ _ | refine blk_drew ?_ | refine blk_alloc ?_ _)); exact BK693.out⟩, ⟨by repeat (first | (with_reducible first | exact HB.out | apply below_alloc | apply pw_below_drewN | apply below_drew1 | refine below_set ?_ GE693.out) | exact HB.out)⟩⟩
                 ·
                  rw [if_neg c63] at H
                  exact absurd H (by simp)
                ·
                 rw [if_neg c62] at H
                 exact absurd H (by simp)
               ·
                rw [if_neg c61] at H
                exact absurd H (by simp)
              ·
               replace c60 := Bool.eq_false_iff.mpr c60
               subst c60
               have H1 : (if x22_3 ≥ (t706.length : Int) then (dialtonelaw34_RecoveryUrgent.j4 k4 t694 t702 t706 x22_3 x23_3 true) else (if 0 ≤ x23_3 then (if x23_3 < (t702.length : Int) then (if 0 ≤ x22_3 then (if x22_3 < (t706.length : Int) then (dialtonelaw34_RecoveryUrgent.j4 k4 t694 t702 t706 x22_3 x23_3 (!(((rd_T39 t702 x23_3).f0) == ((rd_T39 t706 x22_3).f0)) || (!(((rd_T39 t702 x23_3).f1) == ((rd_T39 t706 x22_3).f1)) || (!(((rd_T39 t702 x23_3).f2) == ((rd_T39 t706 x22_3).f2)))))) else (none)) else (none)) else (none)) else (none))) = some r := by rw [if_neg (show ¬ (false = true) by decide)] at H; exact H
               clear H
               have H := H1
               clear H1
               have HC65 := Aside0.mk H
               clear H
               go_upto_region 30 with (fail)
               go_cut [166] (fun v166 wc => ∃ (kq : Nat) (x166_64 : Bool), v166 = .bool x166_64 ∧ Aside0 (dialtonelaw34_RecoveryUrgent.j4 kq t694 t702 t706 x22_3 x23_3 x166_64 = some r) ∧ Aside0 (kq ≤ k4) ∧ Aside0 (Kd.R k60 60 wc w.heap.size (fun _ => True) (.slice Ao30 t694.length co30) t694) ∧ Aside0 (Kd.R k39 39 wc w.heap.size (fun k_ => some k_ ≠ (v707 : Value).ownBlock) (.slice Ao50 t702.length co50) t702) ∧ Aside0 (Kd.R k39 39 wc w.heap.size (fun k_ => some k_ ≠ ((.slice Ao50 t702.length co50) : Value).ownBlock) v707 t706) ∧ Aside0 (Kd.R k67 67 wc w.heap.size (fun _ => True) (.slice Ao12 t689.length co12) t689) ∧ Aside0 (wc.heap[gb693]? = some (.cells #[(.slice Ao12 t689.length co12), .int .i64 t692] 26 (0, 0))) ∧ Aside0 (Below w.heap.size w wc))
               case first =>
                have H := HC65.out
                clear HC65
                by_cases c66 : x22_3 ≥ (t706.length : Int)
                ·
                 rw [if_pos c66] at H
                 have c66b0 : decide ((t706.length : Int) ≤ x22_3) = true := decide_eq_true c66
                 clear c66
                 (first | rw [c66b0] | (simp only [i64_w, i32_w]; rw [c66b0]) | skip)
                 have H' := Aside0.mk H
                 clear H
                 try go_wp2
                 have n0_ := Aside0.mk (Kd.R_drew HO_11.out)
                 have n1_ := Aside0.mk (Kd.R_drew HO_14.out)
                 have n2_ := Aside0.mk (Kd.R_drew HO_16.out)
                 have n3_ := Aside0.mk (Kd.R_drew HO_694000.out)
                 have n4_ := Aside0.mk (blk_drew BK693.out)
                 have n5_ := Aside0.mk (below_drew1 HB.out)
                 clear HO_11
                 clear HO_14
                 clear HO_16
                 clear HO_694000
                 clear BK693
                 clear HB
                 have HO_11 := n0_
                 have HO_14 := n1_
                 have HO_16 := n2_
                 have HO_694000 := n3_
                 have BK693 := n4_
                 have HB := n5_
                 clear n0_ n1_ n2_ n3_ n4_ n5_
                 obtain ⟨Ao68, co68, eo68⟩ := Kd.R_slice HO_16.out
                 (first | subst eo68 | (injection eo68 with f1_ f2_ f3_; have f4_ := f1_.symm; have f5_ := f3_.symm; clear f1_ f2_ f3_; subst f4_; subst f5_))
                 refine start_ (n := 15) (S := fun w' => True) (ds := []) #[false, false, false, false, false, false, false, false, false, false, false, false, false, false, false] (by kernel_rfl) rfl rfl trivial (fun hHeld => ?_); refine with_tabW dialtonelaw34_RecoveryUrgent.tab30 dialtonelaw34_RecoveryUrgent.bits30 (fun HT_ HW_ => ?_)
                 generalize wr.drew = w67 at HO_11 HO_14 HO_16 HO_694000 BK693 HB hHeld ⊢
                 refine pure_ (i := 0) (N := some 152) (v := ?_) (a' := ?_) #[true, false, false, false, false, false, false, false, false, false, false, false, false, false, false] rfl rfl (any_of HT_.out (by kernel_rfl)) (fun _ _ _ h => h) (Or.inl ⟨by rfl, ?_⟩) ?_ ?_
                 rotate_left
                 ·
                  intro w'
                  go_simp
                  with_reducible rfl
                 rotate_left
                 ·
                  simp only [Act.put, List.setIfInBounds_toArray, List.set_cons_zero, List.set_cons_succ, i64_w, i32_w]
                  rfl
                 refine pure_ (i := 1) (N := some 153) (v := ?_) (a' := ?_) #[true, true, false, false, false, false, false, false, false, false, false, false, false, false, false] rfl rfl (any_of HT_.out (by kernel_rfl)) (fun _ _ _ h => h) (Or.inl ⟨by rfl, ?_⟩) ?_ ?_
                 rotate_left
                 ·
                  intro w'
                  go_simp
                  with_reducible rfl
                 rotate_left
                 ·
                  simp only [Act.put, List.setIfInBounds_toArray, List.set_cons_zero, List.set_cons_succ, i64_w, i32_w]
                  rfl
                 refine pure_ (i := 2) (N := some 154) (v := ?_) (a' := ?_) #[true, true, true, false, false, false, false, false, false, false, false, false, false, false, false] rfl rfl (any_of HT_.out (by kernel_rfl)) (fun _ _ _ h => h) (Or.inl ⟨by rfl, ?_⟩) ?_ ?_
                 rotate_left
                 ·
                  intro w'
                  go_simp
                  with_reducible rfl
                 rotate_left
                 ·
                  simp only [Act.put, List.setIfInBounds_toArray, List.set_cons_zero, List.set_cons_succ, i64_w, i32_w]
                  rfl
                 refine pure_ (i := 3) (N := some 155) (v := ?_) (a' := ?_) #[true, true, true, true, false, false, false, false, false, false, false, false, false, false, false] rfl rfl (any_of HT_.out (by kernel_rfl)) (fun _ _ _ h => h) (Or.inl ⟨by rfl, ?_⟩) ?_ ?_
                 rotate_left
                 ·
                  intro w'
                  go_simp
                  with_reducible rfl
                 rotate_left
                 ·
                  simp only [Act.put, List.setIfInBounds_toArray, List.set_cons_zero, List.set_cons_succ, i64_w, i32_w]
                  rfl
                 refine pure_ (i := 4) (N := some 156) (v := ?_) (a' := ?_) #[true, true, true, true, true, false, false, false, false, false, false, false, false, false, false] rfl rfl (any_of HT_.out (by kernel_rfl)) (fun _ _ _ h => h) (Or.inl ⟨by rfl, ?_⟩) ?_ ?_
                 rotate_left
                 ·
                  intro w'
                  go_simp
                  with_reducible rfl
                 rotate_left
                 ·
                  simp only [Act.put, List.setIfInBounds_toArray, List.set_cons_zero, List.set_cons_succ, i64_w, i32_w]
                  rfl
                 refine pure_ (i := 5) (N := some 157) (v := undef) (a' := ?_) #[true, true, true, true, true, true, false, false, false, false, false, false, false, false, false] rfl rfl (any_of HT_.out (by kernel_rfl)) (fun _ _ _ h => h) (Or.inr ⟨by rfl, rfl⟩) ?_ ?_
                 rotate_left
                 ·
                  simp only [Act.put, List.setIfInBounds_toArray, List.set_cons_zero, List.set_cons_succ, i64_w, i32_w]
                  rfl
                 refine pure_ (i := 6) (N := some 158) (v := undef) (a' := ?_) #[true, true, true, true, true, true, true, false, false, false, false, false, false, false, false] rfl rfl (any_of HT_.out (by kernel_rfl)) (fun _ _ _ h => h) (Or.inr ⟨by rfl, rfl⟩) ?_ ?_
                 rotate_left
                 ·
                  simp only [Act.put, List.setIfInBounds_toArray, List.set_cons_zero, List.set_cons_succ, i64_w, i32_w]
                  rfl
                 refine pure_ (i := 7) (N := some 159) (v := undef) (a' := ?_) #[true, true, true, true, true, true, true, true, false, false, false, false, false, false, false] rfl rfl (any_of HT_.out (by kernel_rfl)) (fun _ _ _ h => h) (Or.inr ⟨by rfl, rfl⟩) ?_ ?_
                 rotate_left
                 ·
                  simp only [Act.put, List.setIfInBounds_toArray, List.set_cons_zero, List.set_cons_succ, i64_w, i32_w]
                  rfl
                 refine pure_ (i := 8) (N := some 160) (v := undef) (a' := ?_) #[true, true, true, true, true, true, true, true, true, false, false, false, false, false, false] rfl rfl (any_of HT_.out (by kernel_rfl)) (fun _ _ _ h => h) (Or.inr ⟨by rfl, rfl⟩) ?_ ?_
                 rotate_left
                 ·
                  simp only [Act.put, List.setIfInBounds_toArray, List.set_cons_zero, List.set_cons_succ, i64_w, i32_w]
                  rfl
                 refine pure_ (i := 9) (N := some 161) (v := undef) (a' := ?_) #[true, true, true, true, true, true, true, true, true, true, false, false, false, false, false] rfl rfl (any_of HT_.out (by kernel_rfl)) (fun _ _ _ h => h) (Or.inr ⟨by rfl, rfl⟩) ?_ ?_
                 rotate_left
                 ·
                  simp only [Act.put, List.setIfInBounds_toArray, List.set_cons_zero, List.set_cons_succ, i64_w, i32_w]
                  rfl
                 refine pure_ (i := 10) (N := some 162) (v := undef) (a' := ?_) #[true, true, true, true, true, true, true, true, true, true, true, false, false, false, false] rfl rfl (any_of HT_.out (by kernel_rfl)) (fun _ _ _ h => h) (Or.inr ⟨by rfl, rfl⟩) ?_ ?_
                 rotate_left
                 ·
                  simp only [Act.put, List.setIfInBounds_toArray, List.set_cons_zero, List.set_cons_succ, i64_w, i32_w]
                  rfl
                 refine pure_ (i := 11) (N := some 163) (v := undef) (a' := ?_) #[true, true, true, true, true, true, true, true, true, true, true, true, false, false, false] rfl rfl (any_of HT_.out (by kernel_rfl)) (fun _ _ _ h => h) (Or.inr ⟨by rfl, rfl⟩) ?_ ?_
                 rotate_left
                 ·
                  simp only [Act.put, List.setIfInBounds_toArray, List.set_cons_zero, List.set_cons_succ, i64_w, i32_w]
                  rfl
                 refine pure_ (i := 12) (N := some 164) (v := undef) (a' := ?_) #[true, true, true, true, true, true, true, true, true, true, true, true, true, false, false] rfl rfl (any_of HT_.out (by kernel_rfl)) (fun _ _ _ h => h) (Or.inr ⟨by rfl, rfl⟩) ?_ ?_
                 rotate_left
                 ·
                  simp only [Act.put, List.setIfInBounds_toArray, List.set_cons_zero, List.set_cons_succ, i64_w, i32_w]
                  rfl
                 refine pure_ (i := 13) (N := some 165) (v := undef) (a' := ?_) #[true, true, true, true, true, true, true, true, true, true, true, true, true, true, false] rfl rfl (any_of HT_.out (by kernel_rfl)) (fun _ _ _ h => h) (Or.inr ⟨by rfl, rfl⟩) ?_ ?_
                 rotate_left
                 ·
                  simp only [Act.put, List.setIfInBounds_toArray, List.set_cons_zero, List.set_cons_succ, i64_w, i32_w]
                  rfl
                 refine pure_ (i := 14) (N := some 166) (v := ?_) (a' := ?_) #[true, true, true, true, true, true, true, true, true, true, true, true, true, true, true] rfl rfl (any_of HT_.out (by kernel_rfl)) (fun _ _ _ h => h) (Or.inl ⟨by rfl, ?_⟩) ?_ ?_
                 rotate_left
                 ·
                  intro w'
                  go_simp
                  with_reducible rfl
                 rotate_left
                 ·
                  simp only [Act.put, List.setIfInBounds_toArray, List.set_cons_zero, List.set_cons_succ, i64_w, i32_w]
                  rfl
                 refine done_ (done_of HT_.out (by kernel_rfl)) ?_
                 try go_wp2
                 go_meet
                 case rel => exact ⟨_, (true), (by first | rfl | (simp; done) | (simp [*]; done)), H', ⟨by have := HK1.out; have := HJ28.out; have := HK3.out; have := HK4.out; first | omega | exact Nat.le_refl _⟩, ⟨by (with_reducible repeat (first | apply Kd.R_alloc | apply Kd.R_drewN | apply Kd.R_drew)); exact HO_11.out⟩, ⟨by (with_reducible repeat (first | apply Kd.R_alloc | apply Kd.R_drewN | apply Kd.R_drew)); exact HO_14.out⟩, ⟨by (with_reducible repeat (first | apply Kd.R_alloc | apply Kd.R_drewN | apply Kd.R_drew)); exact HO_16.out⟩, ⟨by (with_reducible repeat (first | apply Kd.R_alloc | apply Kd.R_drewN | apply Kd.R_drew)); exact HO_694000.out⟩, ⟨by (with_reducible repeat (first | refine blk_drewN ?_ _ | refine blk_drew ?_ | refine blk_alloc ?_ _)); exact BK693.out⟩, ⟨by repeat (first | (with_reducible first | exact HB.out | apply below_alloc | apply pw_below_drewN | apply below_drew1 | refine below_set ?_ GE693.out) | exact HB.out)⟩⟩
                ·
                 rw [if_neg c66] at H
                 have c66b0 : decide ((t706.length : Int) ≤ x22_3) = false := decide_eq_false c66
                 clear c66
                 (first | rw [c66b0] | (simp only [i64_w, i32_w]; rw [c66b0]) | skip)
                 by_cases c69 : 0 ≤ x23_3
                 ·
                  rw [if_pos c69] at H
                  have c69b0 : decide (0 ≤ x23_3) = true := decide_eq_true c69
                  clear c69
                  by_cases c70 : x23_3 < (t702.length : Int)
                  ·
                   rw [if_pos c70] at H
                   have c70b0 : decide (x23_3 < (t702.length : Int)) = true := decide_eq_true c70
                   clear c70
                   by_cases c71 : 0 ≤ x22_3
                   ·
                    rw [if_pos c71] at H
                    have c71b0 : decide (0 ≤ x22_3) = true := decide_eq_true c71
                    clear c71
                    by_cases c72 : x22_3 < (t706.length : Int)
                    ·
                     rw [if_pos c72] at H
                     have c72b0 : decide (x22_3 < (t706.length : Int)) = true := decide_eq_true c72
                     clear c72
                     have H' := Aside0.mk H
                     clear H
                     try go_wp2
                     have n0_ := Aside0.mk (Kd.R_drew HO_11.out)
                     have n1_ := Aside0.mk (Kd.R_drew HO_14.out)
                     have n2_ := Aside0.mk (Kd.R_drew HO_16.out)
                     have n3_ := Aside0.mk (Kd.R_drew HO_694000.out)
                     have n4_ := Aside0.mk (blk_drew BK693.out)
                     have n5_ := Aside0.mk (below_drew1 HB.out)
                     clear HO_11
                     clear HO_14
                     clear HO_16
                     clear HO_694000
                     clear BK693
                     clear HB
                     have HO_11 := n0_
                     have HO_14 := n1_
                     have HO_16 := n2_
                     have HO_694000 := n3_
                     have BK693 := n4_
                     have HB := n5_
                     clear n0_ n1_ n2_ n3_ n4_ n5_
                     obtain ⟨Ao74, co74, eo74⟩ := Kd.R_slice HO_16.out
                     (first | subst eo74 | (injection eo74 with f1_ f2_ f3_; have f4_ := f1_.symm; have f5_ := f3_.symm; clear f1_ f2_ f3_; subst f4_; subst f5_))
                     have p721 : 0 ≤ (x23_3 : Int) := of_decide_eq_true (by first | (with_reducible assumption) | assumption)
                     have q721 : x23_3 < (t702.length : Int) := of_decide_eq_true (by first | (with_reducible assumption) | assumption)
                     obtain ⟨ad721, e721, hx721_0, hx721_1, hx721_2⟩ := at_T39 (Kd.R_reads' HO_14.out).2.2 x23_3 p721 q721
                     cases e721
                     replace p721 := eq_true p721
                     replace q721 := eq_true q721
                     have p722 : 0 ≤ (x22_3 : Int) := of_decide_eq_true (by first | (with_reducible assumption) | assumption)
                     have q722 : x22_3 < (t706.length : Int) := of_decide_eq_true (by first | (with_reducible assumption) | assumption)
                     obtain ⟨ad722, e722, hx722_0, hx722_1, hx722_2⟩ := at_T39 (Kd.R_reads' HO_16.out).2.2 x22_3 p722 q722
                     cases e722
                     replace p722 := eq_true p722
                     replace q722 := eq_true q722
                     refine start_ (n := 15) (S := fun w' => w'.cell? (ad721.add ((x23_3).toNat * 3)) = some (.int .i64 ((rd_T39 t702 x23_3).f0)) ∧ w'.cell? ⟨(ad721.add ((x23_3).toNat * 3)).block, (ad721.add ((x23_3).toNat * 3)).off + 1, none⟩ = some (.int .i64 ((rd_T39 t702 x23_3).f1)) ∧ w'.cell? ⟨(ad721.add ((x23_3).toNat * 3)).block, (ad721.add ((x23_3).toNat * 3)).off + 2, none⟩ = some (.int .i64 ((rd_T39 t702 x23_3).f2)) ∧ w'.cell? (ad722.add ((x22_3).toNat * 3)) = some (.int .i64 ((rd_T39 t706 x22_3).f0)) ∧ w'.cell? ⟨(ad722.add ((x22_3).toNat * 3)).block, (ad722.add ((x22_3).toNat * 3)).off + 1, none⟩ = some (.int .i64 ((rd_T39 t706 x22_3).f1)) ∧ w'.cell? ⟨(ad722.add ((x22_3).toNat * 3)).block, (ad722.add ((x22_3).toNat * 3)).off + 2, none⟩ = some (.int .i64 ((rd_T39 t706 x22_3).f2))) (ds := []) #[false, false, false, false, false, false, false, false, false, false, false, false, false, false, false] (by kernel_rfl) rfl rfl ⟨hx721_0, hx721_1, hx721_2, hx722_0, hx722_1, hx722_2⟩ (fun hHeld => ?_); refine with_tabW dialtonelaw34_RecoveryUrgent.tab30 dialtonelaw34_RecoveryUrgent.bits30 (fun HT_ HW_ => ?_)
                     generalize wr.drew = w73 at HO_11 HO_14 HO_16 HO_694000 BK693 HB hx721_0 hx721_1 hx721_2 hx722_0 hx722_1 hx722_2 hHeld ⊢
                     refine pure_ (i := 0) (N := some 152) (v := ?_) (a' := ?_) #[true, false, false, false, false, false, false, false, false, false, false, false, false, false, false] rfl rfl (any_of HT_.out (by kernel_rfl)) (fun _ _ _ h => h) (Or.inl ⟨by rfl, ?_⟩) ?_ ?_
                     rotate_left
                     ·
                      intro w'
                      go_simp
                      with_reducible rfl
                     rotate_left
                     ·
                      simp only [Act.put, List.setIfInBounds_toArray, List.set_cons_zero, List.set_cons_succ, i64_w, i32_w]
                      rfl
                     refine pure_ (i := 1) (N := some 153) (v := ?_) (a' := ?_) #[true, true, false, false, false, false, false, false, false, false, false, false, false, false, false] rfl rfl (any_of HT_.out (by kernel_rfl)) (fun _ _ _ h => h) (Or.inl ⟨by rfl, ?_⟩) ?_ ?_
                     rotate_left
                     ·
                      intro w'
                      go_simp
                      with_reducible rfl
                     rotate_left
                     ·
                      simp only [Act.put, List.setIfInBounds_toArray, List.set_cons_zero, List.set_cons_succ, i64_w, i32_w]
                      rfl
                     refine pure_ (i := 2) (N := some 154) (v := ?_) (a' := ?_) #[true, true, true, false, false, false, false, false, false, false, false, false, false, false, false] rfl rfl (any_of HT_.out (by kernel_rfl)) (fun _ _ _ h => h) (Or.inl ⟨by rfl, ?_⟩) ?_ ?_
                     rotate_left
                     ·
                      intro w'
                      go_simp
                      with_reducible rfl
                     rotate_left
                     ·
                      simp only [Act.put, List.setIfInBounds_toArray, List.set_cons_zero, List.set_cons_succ, i64_w, i32_w]
                      rfl
                     refine pure_ (i := 3) (N := some 155) (v := ?_) (a' := ?_) #[true, true, true, true, false, false, false, false, false, false, false, false, false, false, false] rfl rfl (any_of HT_.out (by kernel_rfl)) (fun _ _ _ h => h) (Or.inl ⟨by rfl, ?_⟩) ?_ ?_
                     rotate_left
                     ·
                      intro w'
                      go_simp
                      with_reducible rfl
                     rotate_left
                     ·
                      simp only [Act.put, List.setIfInBounds_toArray, List.set_cons_zero, List.set_cons_succ, i64_w, i32_w]
                      rfl
                     refine pure_ (i := 4) (N := some 156) (v := ?_) (a' := ?_) #[true, true, true, true, true, false, false, false, false, false, false, false, false, false, false] rfl rfl (any_of HT_.out (by kernel_rfl)) (fun _ _ _ h => h) (Or.inl ⟨by rfl, ?_⟩) ?_ ?_
                     rotate_left
                     ·
                      intro w'
                      go_simp
                      with_reducible rfl
                     rotate_left
                     ·
                      simp only [Act.put, List.setIfInBounds_toArray, List.set_cons_zero, List.set_cons_succ, i64_w, i32_w]
                      rfl
                     refine pure_ (i := 5) (N := some 157) (v := ?_) (a' := ?_) #[true, true, true, true, true, true, false, false, false, false, false, false, false, false, false] rfl rfl (any_of HT_.out (by kernel_rfl)) (fun _ _ _ h => h) (Or.inl ⟨by rfl, ?_⟩) ?_ ?_
                     rotate_left
                     ·
                      intro w'
                      go_simp
                      with_reducible rfl
                     rotate_left
                     ·
                      simp only [Act.put, List.setIfInBounds_toArray, List.set_cons_zero, List.set_cons_succ, i64_w, i32_w]
                      rfl
                     refine pure_ (i := 6) (N := some 158) (v := ?_) (a' := ?_) #[true, true, true, true, true, true, true, false, false, false, false, false, false, false, false] rfl rfl (any_of HT_.out (by kernel_rfl)) (fun _ _ _ h => h) (Or.inl ⟨by rfl, ?_⟩) ?_ ?_
                     rotate_left
                     ·
                      intro w'
                      go_simp
                      with_reducible rfl
                     rotate_left
                     ·
                      simp only [Act.put, List.setIfInBounds_toArray, List.set_cons_zero, List.set_cons_succ, i64_w, i32_w]
                      rfl
                     refine pure_ (i := 7) (N := some 159) (v := ?_) (a' := ?_) #[true, true, true, true, true, true, true, true, false, false, false, false, false, false, false] rfl rfl (any_of HT_.out (by kernel_rfl)) (fun _ _ _ h => h) (Or.inl ⟨by rfl, ?_⟩) ?_ ?_
                     rotate_left
                     ·
                      intro w'
                      go_simp
                      with_reducible rfl
                     rotate_left
                     ·
                      simp only [Act.put, List.setIfInBounds_toArray, List.set_cons_zero, List.set_cons_succ, i64_w, i32_w]
                      rfl
                     refine pure_ (i := 9) (N := some 161) (v := ?_) (a' := ?_) #[true, true, true, true, true, true, true, true, false, true, false, false, false, false, false] rfl rfl (any_of HT_.out (by kernel_rfl)) (fun _ _ _ h => h) (Or.inl ⟨by rfl, ?_⟩) ?_ ?_
                     rotate_left
                     ·
                      intro w'
                      go_simp
                      with_reducible rfl
                     rotate_left
                     ·
                      simp only [Act.put, List.setIfInBounds_toArray, List.set_cons_zero, List.set_cons_succ, i64_w, i32_w]
                      rfl
                     refine pure_ (i := 10) (N := some 162) (v := ?_) (a' := ?_) #[true, true, true, true, true, true, true, true, false, true, true, false, false, false, false] rfl rfl (any_of HT_.out (by kernel_rfl)) (fun _ _ _ h => h) (Or.inl ⟨by rfl, ?_⟩) ?_ ?_
                     rotate_left
                     ·
                      intro w'
                      go_simp
                      with_reducible rfl
                     rotate_left
                     ·
                      simp only [Act.put, List.setIfInBounds_toArray, List.set_cons_zero, List.set_cons_succ, i64_w, i32_w]
                      rfl
                     refine pure_ (i := 11) (N := some 163) (v := ?_) (a' := ?_) #[true, true, true, true, true, true, true, true, false, true, true, true, false, false, false] rfl rfl (any_of HT_.out (by kernel_rfl)) (fun _ _ _ h => h) (Or.inl ⟨by rfl, ?_⟩) ?_ ?_
                     rotate_left
                     ·
                      intro w'
                      go_simp
                      with_reducible rfl
                     rotate_left
                     ·
                      simp only [Act.put, List.setIfInBounds_toArray, List.set_cons_zero, List.set_cons_succ, i64_w, i32_w]
                      rfl
                     refine take_ (i := 8) (N := some 160) (v := ?_) (a' := ?_) #[true, true, true, true, true, true, true, true, true, true, true, true, false, false, false] rfl rfl (take_ofW HT_.out HW_.out (by kernel_rfl)) (fun _ _ _ h => h) (Or.inl ⟨by rfl, ?_⟩) hHeld ?_ ?_
                     rotate_left
                     ·
                      rintro w' ⟨s0, s1, s2, s3, s4, s5⟩
                      go_simp
                      with_reducible rfl
                     rotate_left
                     ·
                      simp only [Act.put, List.setIfInBounds_toArray, List.set_cons_zero, List.set_cons_succ, i64_w, i32_w]
                      rfl
                     refine take_ (i := 12) (N := some 164) (v := ?_) (a' := ?_) #[true, true, true, true, true, true, true, true, true, true, true, true, true, false, false] rfl rfl (take_ofW HT_.out HW_.out (by kernel_rfl)) (fun _ _ _ h => h) (Or.inl ⟨by rfl, ?_⟩) hHeld ?_ ?_
                     rotate_left
                     ·
                      rintro w' ⟨s0, s1, s2, s3, s4, s5⟩
                      go_simp
                      with_reducible rfl
                     rotate_left
                     ·
                      simp only [Act.put, List.setIfInBounds_toArray, List.set_cons_zero, List.set_cons_succ, i64_w, i32_w]
                      rfl
                     refine pure_ (i := 13) (N := some 165) (v := ?_) (a' := ?_) #[true, true, true, true, true, true, true, true, true, true, true, true, true, true, false] rfl rfl (any_of HT_.out (by kernel_rfl)) (fun _ _ _ h => h) (Or.inl ⟨by rfl, ?_⟩) ?_ ?_
                     rotate_left
                     ·
                      intro w'
                      go_simp
                      with_reducible rfl
                     rotate_left
                     ·
                      simp only [Act.put, List.setIfInBounds_toArray, List.set_cons_zero, List.set_cons_succ, i64_w, i32_w]
                      rfl
                     refine pure_ (i := 14) (N := some 166) (v := ?_) (a' := ?_) #[true, true, true, true, true, true, true, true, true, true, true, true, true, true, true] rfl rfl (any_of HT_.out (by kernel_rfl)) (fun _ _ _ h => h) (Or.inl ⟨by rfl, ?_⟩) ?_ ?_
                     rotate_left
                     ·
                      intro w'
                      go_simp
                      with_reducible rfl
                     rotate_left
                     ·
                      simp only [Act.put, List.setIfInBounds_toArray, List.set_cons_zero, List.set_cons_succ, i64_w, i32_w]
                      rfl
                     refine done_ (done_of HT_.out (by kernel_rfl)) ?_
                     try go_wp2
                     go_meet
                     case rel => exact ⟨_, ((!(((rd_T39 t702 x23_3).f0) == ((rd_T39 t706 x22_3).f0)) || (!(((rd_T39 t702 x23_3).f1) == ((rd_T39 t706 x22_3).f1)) || (!(((rd_T39 t702 x23_3).f2) == ((rd_T39 t706 x22_3).f2)))))), (by first | rfl | (simp; done) | (simp [*]; done)), H', ⟨by have := HK1.out; have := HJ28.out; have := HK3.out; have := HK4.out; first | omega | exact Nat.le_refl _⟩, ⟨by (with_reducible repeat (first | apply Kd.R_alloc | apply Kd.R_drewN | apply Kd.R_drew)); exact HO_11.out⟩, ⟨by (with_reducible repeat (first | apply Kd.R_alloc | apply Kd.R_drewN | apply Kd.R_drew)); exact HO_14.out⟩, ⟨by (with_reducible repeat (first | apply Kd.R_alloc | apply Kd.R_drewN | apply Kd.R_drew)); exact HO_16.out⟩, ⟨by (with_reducible repeat (first | apply Kd.R_alloc | apply Kd.R_drewN | apply Kd.R_drew)); exact HO_694000.out⟩, ⟨by (with_reducible repeat (first | refine blk_drewN ?_ _ | refine blk_drew ?_ | refine blk_alloc ?_ _)); exact BK693.out⟩, ⟨by repeat (first | (with_reducible first | exact HB.out | apply below_alloc | apply pw_below_drewN | apply below_drew1 | refine below_set ?_ GE693.out) | exact HB.out)⟩⟩
                    ·
                     rw [if_neg c72] at H
                     exact absurd H (by simp)
                   ·
                    rw [if_neg c71] at H
                    exact absurd H (by simp)
                  ·
                   rw [if_neg c70] at H
                   exact absurd H (by simp)
                 ·
                  rw [if_neg c69] at H
                  exact absurd H (by simp)
               case rest =>
                clear HC65
                try clear p2
                try clear c5
                try clear c6
                try clear p6
                try clear c7
                try clear p7
                try clear q7
                try clear hx7
                try clear c51
                try clear c51b0
                try clear c54
                try clear c55
                try clear c56
                try clear c60
                try clear c61
                try clear c61b0
                try clear c62
                try clear c62b0
                try clear c63
                try clear c63b0
                try clear c63b1
                try clear p64
                try clear c66
                try clear c66b0
                try clear c69
                try clear c69b0
                try clear c70
                try clear c70b0
                try clear c71
                try clear c71b0
                try clear p71
                try clear q71
                try clear hx71
                try clear c72
                try clear c72b0
                try clear p72
                try clear q72
                try clear hx72
                try clear hx719_0
                try clear hx719_1
                try clear hx719_2
                try clear hx720_0
                try clear hx720_1
                try clear hx720_2
                try clear hx721_0
                try clear hx721_1
                try clear hx721_2
                try clear hx722_0
                try clear hx722_1
                try clear hx722_2
                try clear p719
                try clear p720
                try clear p721
                try clear p722
                try clear q719
                try clear q720
                try clear q721
                try clear q722
                obtain ⟨kq, x166_64, rfl, HA, HJ64, HO_11, HO_14, HO_16, HO_694000, BK693, HB⟩ := hcut
                cases kq with
                | zero => exact absurd HA.out (by simp [dialtonelaw34_RecoveryUrgent.j4])
                | succ kj64 =>
                 have H := HA.out
                 clear HA
                 simp only [dialtonelaw34_RecoveryUrgent.j4] at H
                 by_cases c75 : x166_64 = true
                 ·
                  subst c75
                  have H1 : (none) = some r := by rw [if_pos rfl] at H; exact H
                  clear H
                  have H := H1
                  clear H1
                  exact absurd H (by simp)
                 ·
                  replace c75 := Bool.eq_false_iff.mpr c75
                  subst c75
                  have H1 : (dialtonelaw34_RecoveryUrgent.l1 kj64 t694 t702 t706 (wrap64 (x22_3 + 1)) (wrap64 (x23_3 + 1))) = some r := by rw [if_neg (show ¬ (false = true) by decide)] at H; exact H
                  clear H
                  have H := H1
                  clear H1
                  have H' := Aside0.mk H
                  clear H
                  go_wp2
                  go_roundg kj64
                  case measure => have := HK1.out; have := HJ28.out; have := HK3.out; have := HK4.out; have := HJ64.out; omega
                  case rel => exact ⟨(wrap64 (x22_3 + 1)), (wrap64 (x23_3 + 1)), (by first | rfl | (simp; done) | (simp [*]; done)), (by first | rfl | (simp; done) | (simp [*]; done)), H', ⟨by have := HK1.out; have := HJ28.out; have := HK3.out; have := HK4.out; have := HJ64.out; omega⟩, ⟨by (with_reducible repeat (first | apply Kd.R_alloc | apply Kd.R_drewN | apply Kd.R_drew)); exact HO_11.out⟩, ⟨by (with_reducible repeat (first | apply Kd.R_alloc | apply Kd.R_drewN | apply Kd.R_drew)); exact HO_14.out⟩, ⟨by (with_reducible repeat (first | apply Kd.R_alloc | apply Kd.R_drewN | apply Kd.R_drew)); exact HO_16.out⟩, ⟨by (with_reducible repeat (first | apply Kd.R_alloc | apply Kd.R_drewN | apply Kd.R_drew)); exact HO_694000.out⟩, ⟨by (with_reducible repeat (first | refine blk_drewN ?_ _ | refine blk_drew ?_ | refine blk_alloc ?_ _)); exact BK693.out⟩, ⟨by repeat (first | (with_reducible first | exact HB.out | apply below_alloc | apply pw_below_drewN | apply below_drew1 | refine below_set ?_ GE693.out) | exact HB.out)⟩⟩
          ·
           rw [if_neg c49] at H
           have c49b0 : decide (x23_3 < (t702.length : Int)) = false := decide_eq_false c49
           clear c49
           obtain rfl := Option.some.inj H
           obtain ⟨Ao76, co76, eo76⟩ := Kd.R_slice HO_14.out
           subst eo76
           obtain ⟨Ao77, co77, eo77⟩ := Kd.R_slice HO_16.out
           subst eo77
           go_wp2
           go_ret
           exact ⟨by first | rfl | (simp [errW_none, errW_some] <;> rfl) | (simp [*, errW_none, errW_some] <;> rfl), by repeat (first | (with_reducible first | exact HB.out | apply below_alloc | apply pw_below_drewN | apply below_drew1 | refine below_set ?_ GE693.out) | exact HB.out)⟩
 ·
  replace c6 := Bool.eq_false_iff.mpr c6
  subst c6
  have H1 : (none) = some r := by rw [if_neg (show ¬ (false = true) by decide)] at H; exact H
  clear H
  have H := H1
  clear H1
  exact absurd H (by simp)

end Go.Proofs.Ytcldldmedphcfaa.C
